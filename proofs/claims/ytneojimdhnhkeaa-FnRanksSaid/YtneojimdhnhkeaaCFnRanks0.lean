/- No order of goods costs less than that with the most used at the nearest. -/
import Derived.Test.YtneojimdhnhkeaaProg
import Derived.Test.YtneojimdhnhkeaaCFnRanksw0
import Derived.Below
import Derived.Deep.Draws
import Derived.Deep.AppendLies
import Derived.Maps.AppendAt
import Derived.OwnWalk
import Derived.Laws.BytesArg
import Derived.Laws.MakeOwn
import Derived.Laws.OwnMore
import Derived.Deep.OwnRows
import Derived.Tactics
import Derived.Lib.ConvBytes
import Derived.Laws.Slices
import Derived.WalkKit
import Derived.KernelRfl
import Derived.RowKit3
import Derived.Deep.LoopGhost
import Derived.Deep.QuietTactic
import Derived.BigQuiet
import Derived.WideLaws
import Derived.Deep.DeepCutAuto
import Derived.Deep.CutBlock
import Derived.Deep.RegionHeld3
import Derived.Laws.Rows
import Derived.Lib.AppendStr
import Derived.ArgAppend
import Derived.Laws.IdiomCopy
import Derived.OrdersHeld
import Derived.Laws.BitsLemmas
import Derived.RowKit
import Derived.Laws.CopyOwn
import Derived.Deep.RegionLaw
import Derived.RangeFuncNested
import Derived.RangeFuncBound
import Derived.RangeFuncCalls
import Derived.RangeFuncLeaves
import Derived.Shelf.Abstract
import Derived.Shelf.RegionOpen
import Derived.OwnWalkIn
import Derived.TacticsInMore
import Derived.LoopNIn
import Derived.LoopIn
import Derived.Lib.SlKeysI
import Derived.Shelf.SortM.Plain
import Derived.Shelf.SortM.SortNone
set_option linter.unusedVariables false
set_option linter.unusedSimpArgs false
namespace Go.Proofs.Ytneojimdhnhkeaa.Print
open Go.RowKit Go.Proofs.YtneojimdhnhkeaaW.PrintWords Go.Proofs.YtneojimdhnhkeaaW.PrintLast Go.Proofs.YtneojimdhnhkeaaW.PrintMore
theorem aM {p : Prop} (h : p) : Aside0 p := ⟨h⟩
theorem aA : type_of% @List.setIfInBounds_toArray.{0} := @List.setIfInBounds_toArray
theorem aB : type_of% @List.set_cons_zero.{0} := @List.set_cons_zero
theorem aC : type_of% @List.set_cons_succ.{0} := @List.set_cons_succ
theorem aD : type_of% @List.map_toArray.{0,0} := @List.map_toArray
theorem aE : type_of% @List.map_cons.{0,0} := @List.map_cons
theorem aF : type_of% @List.map_nil.{0,0} := @List.map_nil
theorem aG : type_of% @List.length_drop.{0} := @List.length_drop
theorem aH : type_of% @List.length_take.{0} := @List.length_take
theorem aI : type_of% @World.block_lt_of_cell? := @World.block_lt_of_cell?
theorem aJ : type_of% @Option.bind_eq_some_iff.{0,0} := @Option.bind_eq_some_iff
theorem aK : type_of% @of_decide_eq_true := @of_decide_eq_true
theorem aL : type_of% @decide_eq_true := @decide_eq_true
theorem aN : type_of% @decide_eq_false := @decide_eq_false
def bz (n m : Nat) : Array Bool := ((List.range n).map fun i => m.testBit i).toArray
end Go.Proofs.Ytneojimdhnhkeaa.Print

namespace Go.Proofs.Ytneojimdhnhkeaa.Print
open Go.RowKit Go.Proofs.YtneojimdhnhkeaaW.PrintWords Go.Proofs.YtneojimdhnhkeaaW.PrintLast Go.Proofs.YtneojimdhnhkeaaW.PrintMore
attribute [local go_sem] max2_int min2_int max_two min_two max_three min_three max_four min_four



def errW:Option Int→Value
  |none=> .nilIface
  |some c=> .iface 0 (.int .i64 c)
theorem errW_none:errW none= .nilIface:=rfl
theorem errW_some (c:Int):errW (some c)= .iface 0 (.int .i64 c):=rfl

theorem info3:(Try.prog.info? 3).map (fun i=>(i.zero,i.size,i.bytes))=some (some (.int .i64 0),1,8):=by kernel_rfl
theorem info4:(Try.prog.info? 4).map (fun i=>(i.zero,i.size,i.bytes))=some (some (.bool false),1,1):=by kernel_rfl
theorem info9:(Try.prog.info? 9).map (fun i=>(i.zero,i.size,i.bytes))=some (some (.string ⟨#[]⟩),1,16):=by kernel_rfl
theorem info34:(Try.prog.info? 34).map (fun i=>(i.zero,i.size,i.bytes))=some (some (.slice none 0 0),1,24):=by kernel_rfl
theorem info50:(Try.prog.info? 50).map (fun i=>(i.zero,i.size,i.bytes))=some (some (.agg #[(.int .i64 0),(.int .i64 0)]),2,16):=by kernel_rfl
theorem info99:(Try.prog.info? 99).map (fun i=>(i.zero,i.size,i.bytes))=some (some (.slice none 0 0),1,24):=by kernel_rfl
theorem info123:(Try.prog.info? 123).map (fun i=>(i.zero,i.size,i.bytes))=some (some (.agg #[(.int .i64 0),(.int .i64 0)]),2,16):=by kernel_rfl
theorem info168:(Try.prog.info? 168).map (fun i=>(i.zero,i.size,i.bytes))=some (some (.agg #[(.int .i64 0),(.int .i64 0)]),2,16):=by kernel_rfl
theorem info189:(Try.prog.info? 189).map (fun i=>(i.zero,i.size,i.bytes))=some (some (.agg #[(.int .i64 0),(.int .i64 0)]),2,16):=by kernel_rfl
theorem info246:(Try.prog.info? 246).map (fun i=>(i.zero,i.size,i.bytes))=some (some (.agg #[(.string ⟨#[]⟩),(.int .i64 0)]),2,24):=by kernel_rfl
theorem info250:(Try.prog.info? 250).map (fun i=>(i.zero,i.size,i.bytes))=some (some (.agg #[(.int .i64 0),(.int .i64 0)]),2,16):=by kernel_rfl
-- the values' own types
def rd_L1 (xs:List (List Int)) (i:Int):(List Int):=xs.getD i.toNat ([]:List Int)
theorem at_L1 {w:World} {A:Option Addr} {n:Nat} {xs:List (List Int)} (h:Kd.C (Kd.slice 3 (Kd.int .i64)) w A n xs) (i:Int) (h0:0≤i) (h1:i<n):∃ ad A0 c0,A=some ad∧w.cell? (ad.add i.toNat)=some (.slice A0 (rd_L1 xs i).length c0)∧(rd_L1 xs i).length≤c0∧(Kd.int .i64).C w A0 (rd_L1 xs i).length (rd_L1 xs i):=by
  obtain ⟨ad,c,e,_,hK,hc0⟩:=Kd.C_get h ([]:List Int) i h0 h1;have hc:∀ j u,c[j]? = some u→w.cell? (ad.add (i.toNat * 1+j))=some u:=hc0;obtain ⟨A0,c0,rfl,l0,g0⟩:=hK;exact ⟨ad,A0,c0,e,by have hq:=hc 0 _ rfl;rwa [Nat.mul_one,Nat.add_zero] at hq,l0,g0⟩

structure S246 where
  f0:ByteArray
  f1:Int
def z246:S246:=⟨(⟨#[]⟩:ByteArray),(0:Int)⟩
def k246:Kd S246:=Kd.iso (Kd.pair Kd.string (Kd.int .i64)) (fun x:S246=>(x.f0,x.f1))
theorem k246_heap:Kd.Heap k246:=Kd.heap_iso _ (Kd.heap_pair Kd.heap_string (Kd.heap_int .i64))
theorem k246_open {w:World} {x:S246} {cs:List Value} (h:k246.K w x cs):cs=[.string x.f0,.int .i64 x.f1]:=by
  obtain ⟨_,_,rfl,rfl,rfl⟩:=h;exact rfl
theorem k246_openM {w:World} {base:Nat} {ok:Nat→Prop} {x:S246} {cs:List Value} (h:k246.M w base ok x cs):cs=[.string x.f0,.int .i64 x.f1]:=by
  obtain ⟨_,_,rfl,rfl,rfl⟩:=h;exact rfl
theorem k246_mk (w:World) (x:S246)  :k246.K w x [.string x.f0,.int .i64 x.f1]:=⟨[.string x.f0],[.int .i64 x.f1],rfl,rfl,rfl⟩
theorem k246_mkM (w:World) (base:Nat) (ok:Nat→Prop) (x:S246)  :k246.M w base ok x [.string x.f0,.int .i64 x.f1]:=⟨[.string x.f0],[.int .i64 x.f1],rfl,rfl,rfl⟩
def rd_T246 (xs:List S246) (i:Int):S246:=xs.getD i.toNat z246
theorem at_T246 {w:World} {A:Option Addr} {n:Nat} {xs:List S246} (h:Kd.C k246 w A n xs) (i:Int) (h0:0≤i) (h1:i<n):∃ ad,A=some ad∧w.cell? (ad.add (i.toNat * 2))=some (.string (rd_T246 xs i).f0)∧w.cell? ⟨(ad.add (i.toNat * 2)).block,(ad.add (i.toNat * 2)).off+1,none⟩=some (.int .i64 (rd_T246 xs i).f1):=by
  obtain ⟨ad,c,e,_,hK,hc0⟩:=Kd.C_get h z246 i h0 h1;have hc:∀ j u,c[j]? = some u→w.cell? (ad.add (i.toNat * 2+j))=some u:=hc0;obtain rfl:=k246_open hK;exact ⟨ad,e,hc 0 _ rfl,by rw [←add_field _ _ 1 (by omega)];exact hc 1 _ rfl⟩

structure S250 where
  f0:Int
  f1:Int
def z250:S250:=⟨(0:Int),(0:Int)⟩
def k250:Kd S250:=Kd.iso (Kd.pair (Kd.int .i64) (Kd.int .i64)) (fun x:S250=>(x.f0,x.f1))
theorem k250_heap:Kd.Heap k250:=Kd.heap_iso _ (Kd.heap_pair (Kd.heap_int .i64) (Kd.heap_int .i64))
theorem k250_open {w:World} {x:S250} {cs:List Value} (h:k250.K w x cs):cs=[.int .i64 x.f0,.int .i64 x.f1]:=by
  obtain ⟨_,_,rfl,rfl,rfl⟩:=h;exact rfl
theorem k250_openM {w:World} {base:Nat} {ok:Nat→Prop} {x:S250} {cs:List Value} (h:k250.M w base ok x cs):cs=[.int .i64 x.f0,.int .i64 x.f1]:=by
  obtain ⟨_,_,rfl,rfl,rfl⟩:=h;exact rfl
theorem k250_mk (w:World) (x:S250)  :k250.K w x [.int .i64 x.f0,.int .i64 x.f1]:=⟨[.int .i64 x.f0],[.int .i64 x.f1],rfl,rfl,rfl⟩
theorem k250_mkM (w:World) (base:Nat) (ok:Nat→Prop) (x:S250)  :k250.M w base ok x [.int .i64 x.f0,.int .i64 x.f1]:=⟨[.int .i64 x.f0],[.int .i64 x.f1],rfl,rfl,rfl⟩
def rd_T250 (xs:List S250) (i:Int):S250:=xs.getD i.toNat z250
theorem at_T250 {w:World} {A:Option Addr} {n:Nat} {xs:List S250} (h:Kd.C k250 w A n xs) (i:Int) (h0:0≤i) (h1:i<n):∃ ad,A=some ad∧w.cell? (ad.add (i.toNat * 2))=some (.int .i64 (rd_T250 xs i).f0)∧w.cell? ⟨(ad.add (i.toNat * 2)).block,(ad.add (i.toNat * 2)).off+1,none⟩=some (.int .i64 (rd_T250 xs i).f1):=by
  obtain ⟨ad,c,e,_,hK,hc0⟩:=Kd.C_get h z250 i h0 h1;have hc:∀ j u,c[j]? = some u→w.cell? (ad.add (i.toNat * 2+j))=some u:=hc0;obtain rfl:=k250_open hK;exact ⟨ad,e,hc 0 _ rfl,by rw [←add_field _ _ 1 (by omega)];exact hc 1 _ rfl⟩

structure S50 where
  f0:Int
  f1:Int
def z50:S50:=⟨(0:Int),(0:Int)⟩
def k50:Kd S50:=Kd.iso (Kd.pair (Kd.int .i64) (Kd.int .i64)) (fun x:S50=>(x.f0,x.f1))
theorem k50_heap:Kd.Heap k50:=Kd.heap_iso _ (Kd.heap_pair (Kd.heap_int .i64) (Kd.heap_int .i64))
theorem k50_open {w:World} {x:S50} {cs:List Value} (h:k50.K w x cs):cs=[.int .i64 x.f0,.int .i64 x.f1]:=by
  obtain ⟨_,_,rfl,rfl,rfl⟩:=h;exact rfl
theorem k50_openM {w:World} {base:Nat} {ok:Nat→Prop} {x:S50} {cs:List Value} (h:k50.M w base ok x cs):cs=[.int .i64 x.f0,.int .i64 x.f1]:=by
  obtain ⟨_,_,rfl,rfl,rfl⟩:=h;exact rfl
theorem k50_mk (w:World) (x:S50)  :k50.K w x [.int .i64 x.f0,.int .i64 x.f1]:=⟨[.int .i64 x.f0],[.int .i64 x.f1],rfl,rfl,rfl⟩
theorem k50_mkM (w:World) (base:Nat) (ok:Nat→Prop) (x:S50)  :k50.M w base ok x [.int .i64 x.f0,.int .i64 x.f1]:=⟨[.int .i64 x.f0],[.int .i64 x.f1],rfl,rfl,rfl⟩
def rd_T50 (xs:List S50) (i:Int):S50:=xs.getD i.toNat z50
theorem at_T50 {w:World} {A:Option Addr} {n:Nat} {xs:List S50} (h:Kd.C k50 w A n xs) (i:Int) (h0:0≤i) (h1:i<n):∃ ad,A=some ad∧w.cell? (ad.add (i.toNat * 2))=some (.int .i64 (rd_T50 xs i).f0)∧w.cell? ⟨(ad.add (i.toNat * 2)).block,(ad.add (i.toNat * 2)).off+1,none⟩=some (.int .i64 (rd_T50 xs i).f1):=by
  obtain ⟨ad,c,e,_,hK,hc0⟩:=Kd.C_get h z50 i h0 h1;have hc:∀ j u,c[j]? = some u→w.cell? (ad.add (i.toNat * 2+j))=some u:=hc0;obtain rfl:=k50_open hK;exact ⟨ad,e,hc 0 _ rfl,by rw [←add_field _ _ 1 (by omega)];exact hc 1 _ rfl⟩

structure S168 where
  f0:Int
  f1:Int
def z168:S168:=⟨(0:Int),(0:Int)⟩
def k168:Kd S168:=Kd.iso (Kd.pair (Kd.int .i64) (Kd.int .i64)) (fun x:S168=>(x.f0,x.f1))
theorem k168_heap:Kd.Heap k168:=Kd.heap_iso _ (Kd.heap_pair (Kd.heap_int .i64) (Kd.heap_int .i64))
theorem k168_open {w:World} {x:S168} {cs:List Value} (h:k168.K w x cs):cs=[.int .i64 x.f0,.int .i64 x.f1]:=by
  obtain ⟨_,_,rfl,rfl,rfl⟩:=h;exact rfl
theorem k168_openM {w:World} {base:Nat} {ok:Nat→Prop} {x:S168} {cs:List Value} (h:k168.M w base ok x cs):cs=[.int .i64 x.f0,.int .i64 x.f1]:=by
  obtain ⟨_,_,rfl,rfl,rfl⟩:=h;exact rfl
theorem k168_mk (w:World) (x:S168)  :k168.K w x [.int .i64 x.f0,.int .i64 x.f1]:=⟨[.int .i64 x.f0],[.int .i64 x.f1],rfl,rfl,rfl⟩
theorem k168_mkM (w:World) (base:Nat) (ok:Nat→Prop) (x:S168)  :k168.M w base ok x [.int .i64 x.f0,.int .i64 x.f1]:=⟨[.int .i64 x.f0],[.int .i64 x.f1],rfl,rfl,rfl⟩
def rd_T168 (xs:List S168) (i:Int):S168:=xs.getD i.toNat z168
theorem at_T168 {w:World} {A:Option Addr} {n:Nat} {xs:List S168} (h:Kd.C k168 w A n xs) (i:Int) (h0:0≤i) (h1:i<n):∃ ad,A=some ad∧w.cell? (ad.add (i.toNat * 2))=some (.int .i64 (rd_T168 xs i).f0)∧w.cell? ⟨(ad.add (i.toNat * 2)).block,(ad.add (i.toNat * 2)).off+1,none⟩=some (.int .i64 (rd_T168 xs i).f1):=by
  obtain ⟨ad,c,e,_,hK,hc0⟩:=Kd.C_get h z168 i h0 h1;have hc:∀ j u,c[j]? = some u→w.cell? (ad.add (i.toNat * 2+j))=some u:=hc0;obtain rfl:=k168_open hK;exact ⟨ad,e,hc 0 _ rfl,by rw [←add_field _ _ 1 (by omega)];exact hc 1 _ rfl⟩

def rd_L9 (xs:List (List Bool)) (i:Int):(List Bool):=xs.getD i.toNat ([]:List Bool)
theorem at_L9 {w:World} {A:Option Addr} {n:Nat} {xs:List (List Bool)} (h:Kd.C (Kd.slice 4 Kd.bool) w A n xs) (i:Int) (h0:0≤i) (h1:i<n):∃ ad A0 c0,A=some ad∧w.cell? (ad.add i.toNat)=some (.slice A0 (rd_L9 xs i).length c0)∧(rd_L9 xs i).length≤c0∧Kd.bool.C w A0 (rd_L9 xs i).length (rd_L9 xs i):=by
  obtain ⟨ad,c,e,_,hK,hc0⟩:=Kd.C_get h ([]:List Bool) i h0 h1;have hc:∀ j u,c[j]? = some u→w.cell? (ad.add (i.toNat * 1+j))=some u:=hc0;obtain ⟨A0,c0,rfl,l0,g0⟩:=hK;exact ⟨ad,A0,c0,e,by have hq:=hc 0 _ rfl;rwa [Nat.mul_one,Nat.add_zero] at hq,l0,g0⟩

structure S189 where
  f0:Int
  f1:Int
def z189:S189:=⟨(0:Int),(0:Int)⟩
def k189:Kd S189:=Kd.iso (Kd.pair (Kd.int .i64) (Kd.int .i64)) (fun x:S189=>(x.f0,x.f1))
theorem k189_heap:Kd.Heap k189:=Kd.heap_iso _ (Kd.heap_pair (Kd.heap_int .i64) (Kd.heap_int .i64))
theorem k189_open {w:World} {x:S189} {cs:List Value} (h:k189.K w x cs):cs=[.int .i64 x.f0,.int .i64 x.f1]:=by
  obtain ⟨_,_,rfl,rfl,rfl⟩:=h;exact rfl
theorem k189_openM {w:World} {base:Nat} {ok:Nat→Prop} {x:S189} {cs:List Value} (h:k189.M w base ok x cs):cs=[.int .i64 x.f0,.int .i64 x.f1]:=by
  obtain ⟨_,_,rfl,rfl,rfl⟩:=h;exact rfl
theorem k189_mk (w:World) (x:S189)  :k189.K w x [.int .i64 x.f0,.int .i64 x.f1]:=⟨[.int .i64 x.f0],[.int .i64 x.f1],rfl,rfl,rfl⟩
theorem k189_mkM (w:World) (base:Nat) (ok:Nat→Prop) (x:S189)  :k189.M w base ok x [.int .i64 x.f0,.int .i64 x.f1]:=⟨[.int .i64 x.f0],[.int .i64 x.f1],rfl,rfl,rfl⟩
def rd_T189 (xs:List S189) (i:Int):S189:=xs.getD i.toNat z189
theorem at_T189 {w:World} {A:Option Addr} {n:Nat} {xs:List S189} (h:Kd.C k189 w A n xs) (i:Int) (h0:0≤i) (h1:i<n):∃ ad,A=some ad∧w.cell? (ad.add (i.toNat * 2))=some (.int .i64 (rd_T189 xs i).f0)∧w.cell? ⟨(ad.add (i.toNat * 2)).block,(ad.add (i.toNat * 2)).off+1,none⟩=some (.int .i64 (rd_T189 xs i).f1):=by
  obtain ⟨ad,c,e,_,hK,hc0⟩:=Kd.C_get h z189 i h0 h1;have hc:∀ j u,c[j]? = some u→w.cell? (ad.add (i.toNat * 2+j))=some u:=hc0;obtain rfl:=k189_open hK;exact ⟨ad,e,hc 0 _ rfl,by rw [←add_field _ _ 1 (by omega)];exact hc 1 _ rfl⟩

structure S123 where
  f0:Int
  f1:Int
def z123:S123:=⟨(0:Int),(0:Int)⟩
def k123:Kd S123:=Kd.iso (Kd.pair (Kd.int .i64) (Kd.int .i64)) (fun x:S123=>(x.f0,x.f1))
theorem k123_heap:Kd.Heap k123:=Kd.heap_iso _ (Kd.heap_pair (Kd.heap_int .i64) (Kd.heap_int .i64))
theorem k123_open {w:World} {x:S123} {cs:List Value} (h:k123.K w x cs):cs=[.int .i64 x.f0,.int .i64 x.f1]:=by
  obtain ⟨_,_,rfl,rfl,rfl⟩:=h;exact rfl
theorem k123_openM {w:World} {base:Nat} {ok:Nat→Prop} {x:S123} {cs:List Value} (h:k123.M w base ok x cs):cs=[.int .i64 x.f0,.int .i64 x.f1]:=by
  obtain ⟨_,_,rfl,rfl,rfl⟩:=h;exact rfl
theorem k123_mk (w:World) (x:S123)  :k123.K w x [.int .i64 x.f0,.int .i64 x.f1]:=⟨[.int .i64 x.f0],[.int .i64 x.f1],rfl,rfl,rfl⟩
theorem k123_mkM (w:World) (base:Nat) (ok:Nat→Prop) (x:S123)  :k123.M w base ok x [.int .i64 x.f0,.int .i64 x.f1]:=⟨[.int .i64 x.f0],[.int .i64 x.f1],rfl,rfl,rfl⟩
def rd_T123 (xs:List S123) (i:Int):S123:=xs.getD i.toNat z123
theorem at_T123 {w:World} {A:Option Addr} {n:Nat} {xs:List S123} (h:Kd.C k123 w A n xs) (i:Int) (h0:0≤i) (h1:i<n):∃ ad,A=some ad∧w.cell? (ad.add (i.toNat * 2))=some (.int .i64 (rd_T123 xs i).f0)∧w.cell? ⟨(ad.add (i.toNat * 2)).block,(ad.add (i.toNat * 2)).off+1,none⟩=some (.int .i64 (rd_T123 xs i).f1):=by
  obtain ⟨ad,c,e,_,hK,hc0⟩:=Kd.C_get h z123 i h0 h1;have hc:∀ j u,c[j]? = some u→w.cell? (ad.add (i.toNat * 2+j))=some u:=hc0;obtain rfl:=k123_open hK;exact ⟨ad,e,hc 0 _ rfl,by rw [←add_field _ _ 1 (by omega)];exact hc 1 _ rfl⟩

def laws_sameInts.l0:Nat→List Int→List Int→Int→Int→Option (Bool)
  |0,_,_,_,_=>none
  |k+1,x0,x1,x12,x13=>if x13<x12 then (if 0≤x13 then (if x13<(x0.length:Int) then (if x13<(x1.length:Int) then (if (rd x0 x13)=(rd x1 x13) then (laws_sameInts.l0 k x0 x1 x12 (wrap64 (x13+1))) else (some false)) else (none)) else (none)) else (none)) else (some true)
def laws_sameInts.f (k:Nat) (l0:List Int) (l1:List Int):Option (Bool):=if (l0.length:Int)=(l1.length:Int) then (laws_sameInts.l0 k l0 l1 (l0.length:Int) 0) else (some false)
set_option maxHeartbeats 8000000 in
set_option maxRecDepth 100000 in
theorem laws_sameInts.calls (k:Nat) (A0:Option Addr) (c0:Nat) (l0:List Int) (A1:Option Addr) (c1:Nat) (l1:List Int) (r:Bool) (w:World) (hr0:Kd.C (Kd.int .i64) w A0 l0.length l0) (hc0:l0.length≤c0) (hr1:Kd.C (Kd.int .i64) w A1 l1.length l1) (hc1:l1.length≤c1) (h:laws_sameInts.f k l0 l1=some r) :
    Calls Try.prog 28 #[.slice A0 l0.length c0,.slice A1 l1.length c1] w fun e w'=>e= .returned (.bool r)∧Drawn0 w w':=by
  have HR0:=aM hr0;have HC0:=aM hc0;clear hr0 hc0;have HR1:=aM hr1;have HC1:=aM hc1;clear hr1 hc1;have H:(if (l0.length:Int)=(l1.length:Int) then (laws_sameInts.l0 k l0 l1 (l0.length:Int) 0) else (some false))=some r:=h;clear h;by_cases c3:(l0.length:Int)=(l1.length:Int)
  ·rw [if_pos c3] at H;have c3b0:((l0.length:Int) == (l1.length:Int))=true:=beq_iff_eq.mpr c3;have c3b1:((l0.length:Int) != (l1.length:Int))=false:=bne_eq_false_iff_eq.mpr c3;have c3b2:(l0.length == l1.length)=true:=by first|simpa using c3|(simp at c3 ⊢;omega)
   clear c3;have H':=aM H;clear H;go_enter Try.func28,Try.ntmps28;go_wp2
   repeat (go_quiet (fail);try go_wp2)
   go_loopg [13] k (fun kq v13 w'=>∃ (x13_1:Int),v13= .int .i64 x13_1∧Aside0 (laws_sameInts.l0 kq l0 l1 (l0.length:Int) x13_1=some r)∧Aside0 (kq≤k)∧Drawn0 w w')
   case atStart=>exact ⟨(0),(by first|rfl|(simp;done)|(simp [*];done)),H',⟨Nat.le_refl _⟩,by repeat (first|exact Drawn0.refl _|apply Drawn0.step)⟩
   case round=>
    clear H';(try clear c1);(try clear c2);(try clear p2);(try clear c3);(try clear c3b0);(try clear c3b1);(try clear c3b2);obtain ⟨x13_1,rfl,HA,HK1,⟨m1,rfl⟩⟩:=hrel
    cases gk with
    |zero=>exact absurd HA.out (by simp [laws_sameInts.l0])
    |succ k1=>
     have H:=HA.out;clear HA;simp only [laws_sameInts.l0] at H;by_cases c4:x13_1<(l0.length:Int)
     ·rw [if_pos c4] at H;have c4b0:decide (x13_1<(l0.length:Int))=true:=aL c4;clear c4;by_cases c5:0≤x13_1
      ·rw [if_pos c5] at H;have c5b0:decide (0≤x13_1)=true:=aL c5;clear c5;by_cases c6:x13_1<(l0.length:Int)
       ·rw [if_pos c6] at H;have c6b0:decide (x13_1<(l0.length:Int))=true:=aL c6;clear c6;by_cases c7:x13_1<(l1.length:Int)
        ·rw [if_pos c7] at H;have c7b0:decide (x13_1<(l1.length:Int))=true:=aL c7;clear c7;by_cases c8:(rd l0 x13_1)=(rd l1 x13_1)
         ·rw [if_pos c8] at H;have c8b0:((rd l0 x13_1) == (rd l1 x13_1))=true:=beq_iff_eq.mpr c8;have c8b1:((rd l0 x13_1) != (rd l1 x13_1))=false:=bne_eq_false_iff_eq.mpr c8;clear c8;have H':=aM H;clear H;have p101:0≤(x13_1:Int):=aK (by first|(with_reducible assumption)|assumption);have q101:x13_1<(l0.length:Int):=aK (by first|(with_reducible assumption)|assumption);obtain ⟨ad101,e101,hx101_0⟩:=Kd.at_int HR0.out x13_1 p101 q101
          cases e101
          replace p101:=eq_true p101;replace q101:=eq_true q101;have p102:0≤(x13_1:Int):=aK (by first|(with_reducible assumption)|assumption);have q102:x13_1<(l1.length:Int):=aK (by first|(with_reducible assumption)|assumption);obtain ⟨ad102,e102,hx102_0⟩:=Kd.at_int HR1.out x13_1 p102 q102
          cases e102
          replace p102:=eq_true p102;replace q102:=eq_true q102;go_wp2
          repeat (go_quiet (fail);try go_wp2)
          go_roundg k1
          case measure=>have:=HK1.out;omega
          case rel=>exact ⟨(wrap64 (x13_1+1)),(by first|rfl|(simp;done)|(simp [*];done)),H',⟨by have:=HK1.out;omega⟩,by repeat (first|exact Drawn0.refl _|apply Drawn0.step)⟩
         ·rw [if_neg c8] at H;have c8b0:((rd l0 x13_1) == (rd l1 x13_1))=false:=beq_eq_false_iff_ne.mpr c8;have c8b1:((rd l0 x13_1) != (rd l1 x13_1))=true:=bne_iff_ne.mpr c8;obtain rfl:=Option.some.inj H;have p101:0≤(x13_1:Int):=aK (by first|(with_reducible assumption)|assumption);have q101:x13_1<(l0.length:Int):=aK (by first|(with_reducible assumption)|assumption);obtain ⟨ad101,e101,hx101_0⟩:=Kd.at_int HR0.out x13_1 p101 q101
          cases e101
          replace p101:=eq_true p101;replace q101:=eq_true q101;have p102:0≤(x13_1:Int):=aK (by first|(with_reducible assumption)|assumption);have q102:x13_1<(l1.length:Int):=aK (by first|(with_reducible assumption)|assumption);obtain ⟨ad102,e102,hx102_0⟩:=Kd.at_int HR1.out x13_1 p102 q102
          cases e102
          replace p102:=eq_true p102;replace q102:=eq_true q102;go_wp2
          repeat (go_quiet (fail);try go_wp2)
          go_ret
          exact ⟨by first|rfl|(simp;done)|(simp [*];done),by repeat (first|exact Drawn0.refl _|apply Drawn0.step)⟩
        ·rw [if_neg c7] at H;exact absurd H (by simp)
       ·rw [if_neg c6] at H;exact absurd H (by simp)
      ·rw [if_neg c5] at H;exact absurd H (by simp)
     ·rw [if_neg c4] at H;have c4b0:decide (x13_1<(l0.length:Int))=false:=aN c4;clear c4;obtain rfl:=Option.some.inj H;go_wp2
      repeat (go_quiet (fail);try go_wp2)
      go_ret
      exact ⟨by first|rfl|(simp;done)|(simp [*];done),by repeat (first|exact Drawn0.refl _|apply Drawn0.step)⟩
  ·rw [if_neg c3] at H;have c3b0:((l0.length:Int) == (l1.length:Int))=false:=beq_eq_false_iff_ne.mpr c3;have c3b1:((l0.length:Int) != (l1.length:Int))=true:=bne_iff_ne.mpr c3;have c3b2:(l0.length == l1.length)=false:=by first|simpa using c3|(simp at c3 ⊢;omega)
   obtain rfl:=Option.some.inj H;go_enter Try.func28,Try.ntmps28;go_wp2
   repeat (go_quiet (fail);try go_wp2)
   go_ret
   exact ⟨by first|rfl|(simp;done)|(simp [*];done),by repeat (first|exact Drawn0.refl _|apply Drawn0.step)⟩

def laws_numberOf.l0:Nat→Int→List Int→Int→Int→Option (Int)
  |0,_,_,_,_=>none
  |k+1,x3,x6,x7,x8=>if x8<x7 then (if 0≤x8 then (if x8<(x6.length:Int) then (laws_numberOf.l0 k (Int.tmod (wrap64 ((wrap64 (31 * x3))+(wrap64 (rd x6 x8)))) 1000003) x6 x7 (wrap64 (x8+1))) else (none)) else (none)) else (some x3)
def laws_numberOf.f (k:Nat) (l0:List Int):Option (Int):=laws_numberOf.l0 k 0 l0 (l0.length:Int) 0
set_option maxHeartbeats 8000000 in
set_option maxRecDepth 100000 in
theorem laws_numberOf.calls (k:Nat) (A0:Option Addr) (c0:Nat) (l0:List Int) (r:Int) (w:World) (hr0:Kd.C (Kd.int .u8) w A0 l0.length l0) (hc0:l0.length≤c0) (h:laws_numberOf.f k l0=some r) :
    Calls Try.prog 32 #[.slice A0 l0.length c0] w fun e w'=>e= .returned (.int .i64 r)∧Drawn0 w w':=by
  have HR0:=aM hr0;have HC0:=aM hc0;clear hr0 hc0;have H:(laws_numberOf.l0 k 0 l0 (l0.length:Int) 0)=some r:=h;clear h;have H':=aM H;clear H;go_enter Try.func32,Try.ntmps32;go_wp2;go_loopg [3,8] k (fun kq v3 v8 w'=>∃ (x3_1:Int) (x8_1:Int),v3= .int .i64 x3_1∧v8= .int .i64 x8_1∧Aside0 (laws_numberOf.l0 kq x3_1 l0 (l0.length:Int) x8_1=some r)∧Aside0 (kq≤k)∧Drawn0 w w')
  case atStart=>exact ⟨(0),(0),(by first|rfl|(simp;done)|(simp [*];done)),(by first|rfl|(simp;done)|(simp [*];done)),H',⟨Nat.le_refl _⟩,by repeat (first|exact Drawn0.refl _|apply Drawn0.step)⟩
  case round=>
   clear H';obtain ⟨x3_1,x8_1,rfl,rfl,HA,HK1,⟨m1,rfl⟩⟩:=hrel
   cases gk with
   |zero=>exact absurd HA.out (by simp [laws_numberOf.l0])
   |succ k1=>
    have H:=HA.out;clear HA;simp only [laws_numberOf.l0] at H;by_cases c2:x8_1<(l0.length:Int)
    ·rw [if_pos c2] at H;have c2b0:decide (x8_1<(l0.length:Int))=true:=aL c2;clear c2;by_cases c3:0≤x8_1
     ·rw [if_pos c3] at H;have c3b0:decide (0≤x8_1)=true:=aL c3;clear c3;by_cases c4:x8_1<(l0.length:Int)
      ·rw [if_pos c4] at H;have c4b0:decide (x8_1<(l0.length:Int))=true:=aL c4;clear c4;have H':=aM H;clear H;have p101:0≤(x8_1:Int):=aK (by first|(with_reducible assumption)|assumption);have q101:x8_1<(l0.length:Int):=aK (by first|(with_reducible assumption)|assumption);obtain ⟨ad101,e101,hx101_0⟩:=Kd.at_int HR0.out x8_1 p101 q101
       cases e101
       replace p101:=eq_true p101;replace q101:=eq_true q101;go_wp2;go_roundg k1
       case measure=>have:=HK1.out;omega
       case rel=>exact ⟨(Int.tmod (wrap64 ((wrap64 (31 * x3_1))+(wrap64 (rd l0 x8_1)))) 1000003),(wrap64 (x8_1+1)),(by first|rfl|(simp;done)|(simp [*];done)),(by first|rfl|(simp;done)|(simp [*];done)),H',⟨by have:=HK1.out;omega⟩,by repeat (first|exact Drawn0.refl _|apply Drawn0.step)⟩
      ·rw [if_neg c4] at H;exact absurd H (by simp)
     ·rw [if_neg c3] at H;exact absurd H (by simp)
    ·rw [if_neg c2] at H;have c2b0:decide (x8_1<(l0.length:Int))=false:=aN c2;clear c2;obtain rfl:=Option.some.inj H;go_wp2
     go_ret
     exact ⟨by first|rfl|(simp;done)|(simp [*];done),by repeat (first|exact Drawn0.refl _|apply Drawn0.step)⟩

def impl_within.f (a0:Int) (a1:Int) (a2:Int):Option (Bool):=if a0 ≥ a1 then (some (decide (a0≤a2))) else (some false)
set_option maxHeartbeats 8000000 in
set_option maxRecDepth 100000 in
theorem impl_within.calls (a0:Int) (a1:Int) (a2:Int) (r:Bool) (w:World) (h:impl_within.f a0 a1 a2=some r) :
    Calls Try.prog 165 #[.int .i64 a0,.int .i64 a1,.int .i64 a2] w fun e w'=>e= .returned (.bool r)∧Drawn0 w w':=by
  have H:(if a0 ≥ a1 then (some (decide (a0≤a2))) else (some false))=some r:=h;clear h;by_cases c4:a0 ≥ a1
  ·rw [if_pos c4] at H;have c4b0:decide (a1≤a0)=true:=aL c4;clear c4;obtain rfl:=Option.some.inj H;go_enter Try.func165,Try.ntmps165;go_wp2
   go_ret
   exact ⟨by first|rfl|(simp;done)|(simp [*];done),by repeat (first|exact Drawn0.refl _|apply Drawn0.step)⟩
  ·rw [if_neg c4] at H;have c4b0:decide (a1≤a0)=false:=aN c4;clear c4;obtain rfl:=Option.some.inj H;go_enter Try.func165,Try.ntmps165;go_wp2
   go_ret
   exact ⟨by first|rfl|(simp;done)|(simp [*];done),by repeat (first|exact Drawn0.refl _|apply Drawn0.step)⟩

section srt
open Go.Shelf
attribute [local go_sem] Oper.semAt_some
def srt.sortInt_ren:Go.Shelf.Ren:=⟨fun|5=>207|8=>291|7=>290|19=>329|20=>330|10=>320|11=>321|12=>322|13=>323|14=>324|15=>325|16=>326|17=>327|18=>328|30=>338|31=>339|32=>340|33=>341|34=>342|35=>343|40=>345|n=>n,fun|23=>34|25=>3|3=>3|32=>48|22=>34|0=>0|44=>266|46=>133|4=>4|36=>260|35=>259|41=>32|5=>5|9=>9|53=>274|57=>278|63=>280|64=>162|n=>n,fun|n=>n⟩
theorem srt.sortInt:Go.Proofs.SlLaysM.n5 Try.prog srt.sortInt_ren:={
  mixed:=by kernel_rfl
  f5:=⟨Try.f207.name,by decide,Try.func207.trans (congrArg some (by kernel_rfl))⟩
  f7:=⟨Try.f290.name,by decide,Try.func290.trans (congrArg some (by kernel_rfl))⟩
  f8:=Try.func291.trans (congrArg some (by kernel_rfl))
  f10:=⟨Try.f320.name,by decide,Try.func320.trans (congrArg some (by kernel_rfl))⟩
  f11:=⟨Try.f321.name,by decide,Try.func321.trans (congrArg some (by kernel_rfl))⟩
  f12:=⟨Try.f322.name,by decide,Try.func322.trans (congrArg some (by kernel_rfl))⟩
  f13:=⟨Try.f323.name,by decide,Try.func323.trans (congrArg some (by kernel_rfl))⟩
  f14:=⟨Try.f324.name,by decide,Try.func324.trans (congrArg some (by kernel_rfl))⟩
  f15:=⟨Try.f325.name,by decide,Try.func325.trans (congrArg some (by kernel_rfl))⟩
  f16:=⟨Try.f326.name,by decide,Try.func326.trans (congrArg some (by kernel_rfl))⟩
  f17:=⟨Try.f327.name,by decide,Try.func327.trans (congrArg some (by kernel_rfl))⟩
  f18:=⟨Try.f328.name,by decide,Try.func328.trans (congrArg some (by kernel_rfl))⟩
  f19:=Try.func329.trans (congrArg some (by kernel_rfl))
  f20:=Try.func330.trans (congrArg some (by kernel_rfl))
  f30:=⟨Try.f338.name,by decide,Try.func338.trans (congrArg some (by kernel_rfl))⟩
  f31:=Try.func339.trans (congrArg some (by kernel_rfl))
  f32:=Try.func340.trans (congrArg some (by kernel_rfl))
  f33:=⟨Try.f341.name,by decide,Try.func341.trans (congrArg some (by kernel_rfl))⟩
  f34:=⟨Try.f342.name,by decide,Try.func342.trans (congrArg some (by kernel_rfl))⟩
  f35:=⟨Try.f343.name,by decide,Try.func343.trans (congrArg some (by kernel_rfl))⟩
  f40:=⟨Try.f345.name,by decide,Try.func345.trans (congrArg some (by kernel_rfl))⟩
  t0:=Try.underlying0
  a0:=Try.isAgg0
  z0:=Try.sizeOf0
  v0:=Try.zeroValue0
  t3:=Try.underlying3
  a3:=Try.isAgg3
  z3:=Try.sizeOf3
  v3:=Try.zeroValue3
  t4:=Try.underlying4
  a4:=Try.isAgg4
  z4:=Try.sizeOf4
  v4:=Try.zeroValue4
  t5:=Try.underlying5
  a5:=Try.isAgg5
  z5:=Try.sizeOf5
  v5:=Try.zeroValue5
  t9:=Try.underlying9
  a9:=Try.isAgg9
  z9:=Try.sizeOf9
  v9:=Try.zeroValue9
  t22:=Try.underlying34
  a22:=Try.isAgg34
  z22:=Try.sizeOf34
  v22:=Try.zeroValue34
  t23:=Try.underlying34
  a23:=Try.isAgg34
  z23:=Try.sizeOf34
  v23:=Try.zeroValue34
  t25:=Try.underlying3
  a25:=Try.isAgg3
  z25:=Try.sizeOf3
  v25:=Try.zeroValue3
  t32:=Try.underlying48
  a32:=Try.isAgg48
  z32:=Try.sizeOf48
  v32:=Try.zeroValue48
  t35:=Try.underlying259
  a35:=Try.isAgg259
  z35:=Try.sizeOf259
  v35:=Try.zeroValue259
  t36:=Try.underlying260
  a36:=Try.isAgg260
  z36:=Try.sizeOf260
  v36:=Try.zeroValue260
  t41:=Try.underlying32
  a41:=Try.isAgg32
  z41:=Try.sizeOf32
  v41:=Try.zeroValue32
  t44:=Try.underlying266
  a44:=Try.isAgg266
  z44:=Try.sizeOf266
  v44:=Try.zeroValue266
  t46:=Try.underlying133
  a46:=Try.isAgg133
  z46:=Try.sizeOf133
  v46:=Try.zeroValue133
  t53:=Try.underlying274
  a53:=Try.isAgg274
  z53:=Try.sizeOf274
  v53:=Try.zeroValue274
  t57:=Try.underlying278
  a57:=Try.isAgg278
  z57:=Try.sizeOf278
  v57:=Try.zeroValue278
  t63:=Try.underlying280
  a63:=Try.isAgg280
  z63:=Try.sizeOf280
  v63:=Try.zeroValue280
  t64:=Try.underlying162
  a64:=Try.isAgg162
  z64:=Try.sizeOf162
  v64:=Try.zeroValue162}
theorem srt.add_block (ad:Addr) (j:Nat):(ad.add j).block=ad.block:=by
  unfold Addr.add
  split <;> rfl
def srt.upto {α:Type} (f:Nat→α) (k:Nat):List α:=(List.range k).map f
theorem srt.upto_succ {α:Type} (f:Nat→α) (k:Nat):srt.upto f (k+1)=srt.upto f k ++ [f k]:=by simp [srt.upto,List.range_succ]
theorem srt.upto_length {α:Type} (f:Nat→α) (k:Nat):(srt.upto f k).length=k:=by simp [srt.upto]
theorem srt.upto_all (zs:List Int):srt.upto (fun j=>zs[j]?.getD 0) zs.length=zs:=by
  apply List.ext_getElem
  · simp [srt.upto]
  · intro i h1 h2
    simp [srt.upto,h2]
theorem srt.upto_take (zs:List Int) {k:Nat} (hk:k≤zs.length):srt.upto (fun j=>zs[j]?.getD 0) k=zs.take k:=by
  apply List.ext_getElem
  · simp [srt.upto,hk]
  · intro i h1 h2
    have:i<zs.length:=by simp [srt.upto] at h1;omega
    simp [srt.upto,this]
set_option maxRecDepth 100000 in
set_option maxHeartbeats 2000000 in
theorem srt.values1_in (F:Fence) (n:Nat) (h7:F.fn 316) (hro:F.round=none) (hn:1≤n) (l Bs n₀ len cap:Nat) (ad:Addr) (zs:List Int) (hreach:len * 8≤140737488351232) (hb:ad.block<n₀) (J Jx:List Int→World→Prop)
    (hY:∀ pre x W,J pre W→pre.length<len→YieldAt F (n - 1) Try.prog l #[.int .i64 x] W fun e W'=>
      (e= .returned (.bool true)∧J (pre ++ [x]) W'∧Below n₀ W W')∨(e= .returned (.bool false)∧Jx (pre ++ [x]) W'))
    (W:World) (hBs:W.cell? ⟨Bs,0,none⟩=some (.slice (some ad) len cap)) (hc:∀ j,j<len→W.cell? (ad.add j)=some (.int .i64 (zs[j]?.getD 0))) (h0:J [] W) :
    CallsIn F n Try.prog 316 #[.func (.yield l) #[] #[],.pointer (some ⟨Bs,0,none⟩)] W fun e W'=>(∃ v,e= .returned v) ∧
      ((∃ ys,ys=srt.upto (fun j=>zs[j]?.getD 0) len∧J ys W')∨(∃ pre,(∃ k,k≤len∧pre=srt.upto (fun j=>zs[j]?.getD 0) k)∧Jx pre W')):=by
  refine callsIn_of_wp Try.func316 rfl h7 ?_ hro;simp only [Try.ntmps316,List.size_toArray,List.length_cons,List.length_nil,Nat.reduceAdd,Nat.reduceSub,Array.replicate_succ,Array.replicate_zero,List.push_toArray,List.append_toArray,List.nil_append,List.cons_append]
  gi_wp2
  gi_loopw [7] (fun i wr=>∃ k:Nat,k≤len∧i= .int .i64 k∧J (srt.upto (fun j=>zs[j]?.getD 0) k) wr∧Below n₀ W wr)
    (fun i _=>len - (intOf i).toNat)
  case atStart=>exact ⟨0,Nat.zero_le _,rfl,h0,Below.refl _ _⟩
  case round=>
    obtain ⟨k,hk,rfl,hJs,hnx⟩:=hrel;have hcx:k<len→wr.cell? (ad.add k)=some (.int .i64 (zs[k]?.getD 0)):=fun h=>(hnx.cell (p:=ad.add k) (by rw [srt.add_block];exact hb)).trans (hc k h)
    by_cases hlt:k<len
    · obtain ⟨fn,tmps,assign,body,hy,hR⟩:=hY _ (zs[k]?.getD 0) wr hJs (by rw [srt.upto_length];exact hlt)
      have hcx':=hcx hlt
      gi_wp2
      refine hR.mono ?_
      rintro e W3 (⟨rfl,hJ3,hk3⟩|⟨rfl,hJx3⟩)
      · gi_wp2
        go_roundw
        case rel=>exact ⟨k+1,by omega,by simp,by rw [srt.upto_succ];exact hJ3,hnx.trans hk3⟩
        case measure=>simp [intOf];omega
      · gi_wp2
        refine bodyPost_ret (results_none rfl _ _ _) rfl ?_;exact ⟨⟨_,rfl⟩,.inr ⟨_,⟨k+1,by omega,(srt.upto_succ _ _).symm⟩,hJx3⟩⟩
    · obtain rfl:k=len:=by omega
      gi_wp2
      go_end0
      exact ⟨⟨_,rfl⟩,.inl ⟨_,rfl,hJs⟩⟩
/-- The slice value holds these numbers,in a block below n₀;or there are none. -/
def srt.Ints (n₀:Nat) (W:World) (sv:Value) (zs:List Int):Prop:=
  (∃ a cap,sv= .slice a 0 cap∧zs=[])∨∃ ad cap,sv= .slice (some ad) zs.length cap∧ad.block<n₀∧∀ j,j<zs.length→W.cell? (ad.add j)=some (.int .i64 (zs[j]?.getD 0))
theorem srt.ints_of {w:World} {A:Option Addr} {zs:List Int} {c:Nat} (h:Kd.C (Kd.int .i64) w A zs.length zs):srt.Ints w.heap.size w (.slice A zs.length c) zs:=by
  rcases Nat.eq_zero_or_pos zs.length with h0|h0
  · have:zs=[]:=List.length_eq_zero_iff.mp h0
    subst this;exact .inl ⟨A,c,rfl,rfl⟩
  · obtain ⟨ad,rfl,hc⟩:=h.2.2 h0
    have hcell:∀ j,j<zs.length→w.cell? (ad.add j)=some (.int .i64 (zs[j]?.getD 0)):=fun j hj=>by
      obtain ⟨cs,_,e,h2⟩:=hc j _ (List.getElem?_eq_getElem hj);have e':cs=[.int .i64 zs[j]]:=e;subst e';have h3:w.cell? (ad.add (j * 1+0))=some (.int .i64 zs[j]):=h2 0 _ rfl;rw [Nat.mul_one,Nat.add_zero] at h3;rw [h3,List.getElem?_eq_getElem hj];rfl
    refine .inr ⟨ad,c,rfl,?_,hcell⟩;obtain ⟨o,ho,_⟩:=not_walk_of_cell (hcell 0 h0);rw [srt.add_block] at ho;exact (Array.getElem?_eq_some_iff.1 ho).1
theorem srt.Ints.below {n₀:Nat} {A B:World} (h:Below n₀ A B) {sv:Value} {zs:List Int}:srt.Ints n₀ A sv zs→srt.Ints n₀ B sv zs
  | .inl e=> .inl e
  | .inr ⟨ad,cap,e,hb,hc⟩=> .inr ⟨ad,cap,e,hb,fun j hj=>(h.cell (p:=ad.add j) (by rw [srt.add_block];exact hb)).trans (hc j hj)⟩
set_option maxRecDepth 100000 in
set_option maxHeartbeats 1000000 in
theorem srt.values1_nil_in (F:Fence) (n:Nat) (h7:F.fn 316) (hro:F.round=none) (l Bs:Nat) (a:Option Addr) (cap:Nat) (J:List Int→World→Prop) (W:World) (hBs:W.cell? ⟨Bs,0,none⟩=some (.slice a 0 cap)) (h0:J [] W) :
    CallsIn F n Try.prog 316 #[.func (.yield l) #[] #[],.pointer (some ⟨Bs,0,none⟩)] W fun e W'=>(∃ v,e= .returned v)∧J [] W':=by
  refine callsIn_of_wp Try.func316 rfl h7 ?_ hro;simp only [Try.ntmps316,List.size_toArray,List.length_cons,List.length_nil,Nat.reduceAdd,Nat.reduceSub,Array.replicate_succ,Array.replicate_zero,List.push_toArray,List.append_toArray,List.nil_append,List.cons_append]
  gi_wp2
  gi_loopw [7] (fun i wr=>i= .int .i64 0∧J [] wr) (fun _ _=>0)
  case atStart=>exact ⟨rfl,h0⟩
  case round=>
    obtain ⟨rfl,hJs⟩:=hrel
    gi_wp2
    go_end0
    exact ⟨⟨_,rfl⟩,hJs⟩
set_option maxHeartbeats 1000000 in
theorem srt.values_in (F:Fence) (n:Nat) (h5:F.fn 286) (hro:F.round=none) (a:Option Addr) (len cap:Nat) (w:World) :
    CallsIn F n Try.prog 286 #[.slice a len cap] w fun e w'=>e= .returned (.func (.func 316) #[] #[.pointer (some ⟨w.heap.size,0,none⟩)])∧w'=w.alloc (.cells #[.slice a len cap] 34):=by
  refine callsIn_of_wp Try.func286 rfl h5 ?_ hro;simp only [Try.ntmps286,List.size_toArray,List.length_cons,List.length_nil,Nat.reduceAdd,Nat.reduceSub,Array.replicate_succ,Array.replicate_zero,List.push_toArray,List.append_toArray,List.nil_append,List.cons_append]
  gi_wp2
  go_ret
  exact ⟨rfl,rfl⟩
theorem srt.values_stops (F:Fence) (n:Nat) (h7:F.fn 316) (hro:F.round=none) (hn:1≤n) (Bs n₀:Nat) (sv:Value) (zs:List Int) (hreach:zs.length * 8≤140737488351232) (w:World) (hBs:Bs<w.heap.size) (hn₀:n₀≤w.heap.size)
    (hc:w.cell? ⟨Bs,0,none⟩=some sv) (hI:srt.Ints n₀ w sv zs) :
    SeqStopsK F n Try.prog 316 #[.pointer (some ⟨Bs,0,none⟩)] (fun x:Int=>#[Value.int .i64 x]) (Below n₀) (fun ys=>ys=zs) (fun pre=>pre <+:zs) zs.length w:=fun l J Jx W hW _ _ hY h0=>by
  have hc':=(hW.cell (p:=⟨Bs,0,none⟩) hBs).trans hc
  rcases hI.below (hW.mono hn₀) with ⟨a,cap,rfl,rfl⟩|⟨ad,cap,rfl,hb,hcs⟩
  · exact (srt.values1_nil_in F n h7 hro l Bs a cap J W hc' h0).mono fun e W' ⟨he,hj⟩=>⟨he,.inl ⟨_,rfl,hj⟩⟩
  · refine (srt.values1_in F n h7 hro hn l Bs n₀ zs.length cap ad zs hreach hb J Jx hY W hc' hcs h0).mono ?_
    rintro e W' ⟨he,⟨ys,rfl,hj⟩|⟨pre,⟨k,hk,rfl⟩,hj⟩⟩
    · exact ⟨he,.inl ⟨_,srt.upto_all zs,hj⟩⟩
    · exact ⟨he,.inr ⟨_,by rw [srt.upto_take zs hk];exact List.take_prefix _ _,hj⟩⟩
theorem srt.info:(Try.prog.info? 3).map (fun i=>(i.zero,i.size,i.bytes))=some (some (.int .i64 0),1,8):=by kernel_rfl
set_option maxRecDepth 100000 in
set_option maxHeartbeats 2000000 in
theorem srt.append_in (F:Fence) (n:Nat) (h3:F.fn 336) (h7:F.fn 316) (hro:F.round=none) (hn:3≤n) (Bs:Nat) (sv:Value) (zs:List Int) (hreach:zs.length * 8≤140737488351232) (w:World) (hBs:Bs<w.heap.size) (hc:w.cell? ⟨Bs,0,none⟩=some sv) (hI:srt.Ints w.heap.size w sv zs) :
    CallsIn F n Try.prog 336 #[.slice none 0 0,.func (.func 316) #[] #[.pointer (some ⟨Bs,0,none⟩)]] w fun e w'=>∃ v,e= .returned v∧w'.ownsRow w.heap.size 3 1 v zs.length (zs.map (Value.int .i64))∧(v= .slice none 0 0 ↔ zs=[])∧Below w.heap.size w w':=by
  have h1:1≤n:=by omega
  have hN:zs.length≤maxLen:=by show _≤9223372036854775807;omega
  obtain ⟨i0,hi,hz0,hz1,hz2⟩:=info_parts srt.info;refine callsIn_of_wp_marks Try.func336 rfl h3 ?_ hro;simp only [Try.ntmps336,List.size_toArray,List.length_cons,List.length_nil,Nat.reduceAdd,Nat.reduceSub,Array.replicate_succ,Array.replicate_zero,List.push_toArray,List.append_toArray,List.nil_append,List.cons_append]
  gi_wp2
  have bS:=Boxed.new w 34 (.slice none 0 0);have hB0:Below w.heap.size w (w.alloc (.cells #[.slice none 0 0] 34)):=(Below.refl _ w).alloc (Nat.le_refl _) _
  refine wpIn_rangeFunc_ownF hro h1 (gf:=316) (lb:=#[.pointer (some ⟨Bs,0,none⟩)]) rfl h7 (enters_of Try.func316 (by kernel_rfl) rfl)
    (srt.values_stops F (n - 1) h7 hro (by omega) Bs w.heap.size sv zs hreach _ (by simp;omega) (by simp) ((hB0.cell (p:=⟨Bs,0,none⟩) hBs).trans hc) (hI.below hB0)) belowK_t (belowK_b (by simp)) (Below.refl _ _) (fun _=>rfl)
    (fun pre W=>(∃ v,Boxed W w.heap.size 34 v∧W.ownsRow w.heap.size 3 1 v pre.length (pre.map (Value.int .i64))∧(v= .slice none 0 0 ↔ pre=[]))∧Below w.heap.size w W)
    (fun _ _ _=>False)
    (OwnFrom.and (Own.from (holdsRow_own w.heap.size w.heap.size 34 3 1 (fun pre:List Int=>pre.length) (fun pre=>pre.map (Value.int .i64)) (fun pre v=>(v= .slice none 0 0 ↔ pre=[]))) _) (ownFrom_below (Nat.le_refl _) (by simp)))
    (fun _ _ _ _ _ hs _ _=>hs)
    ⟨⟨_,bS,own_nil _ _ _ _,by simp⟩,hB0⟩
    (fun x=>{tmps:=#[.slice none 0 0,.func (.func 316) #[] #[.pointer (some ⟨Bs,0,none⟩)],.pointer (some ⟨w.heap.size,0,none⟩),undef,.slice none 0 0,.int .i64 x,.func (.func 316) #[] #[.pointer (some ⟨Bs,0,none⟩)],.int .i64 x,undef,undef,undef,undef,undef],defers:=[]}) ?assign ?body ?done ?stop
  case assign=>
    intro l x W K hK
    gi_wp2
    exact hK
  case body=>
    rintro l pre x W ⟨⟨v,hv,hrow,hnil⟩,hB⟩ hlt
    have hvc:=hv.cell
    gi_wp2_with (first
      |(gi_at_builtin;refine wpListIn_append_own _ rfl _ _ 34 rfl w.heap.size 3 i0 (.int .i64 0) 1 8 Try.underlying34 hi hz0 hz1 hz2 rfl (by decide) _ _ _ rfl (hrow.alloc _) ⟨W.heap.size,0,none⟩ 1 1 [.int .i64 x] rfl rfl (cell_one_new _ _ _) (by simp [Value.oneCell']) (by omega) (by omega) (by have:=hB.size;simp;omega) ?_;intro v' w1 hown' hgrow _;obtain ⟨g',cap',rfl⟩:=ownsRow_succ hown';obtain ⟨hv1,hv2,hr2,hk2,hb2⟩:=hv.appended (by decide) hrow hB.size (Nat.le_refl _) hown' hgrow;have hc1:=hv1.cell;have hf1:=hv1.frozen)
      |gi_in)
    exact ⟨hk2,hb2,⟨_,hv2,by simpa using hr2,by simp⟩,hB.trans hb2⟩
  case done=>
    rintro D ys W hD rfl ⟨⟨v,hv,hrow,hnil⟩,hB⟩ hK
    have hvc:=hv.cell
    gi_wp2
    refine ⟨by simp,.inl ⟨_,_,rfl,run_takeDeferred hK,?_⟩⟩;exact ⟨_,results_tmp rfl _ _ _,v,rfl,ownsRow_putObj hrow _ hK rfl,hnil,hB.trans (belowK_b (w:=w) (Nat.le_refl _) W D _ _ (by simp at hD;omega) hK rfl rfl)⟩
  case stop=>
    rintro D c pre W _ _ h _
    exact h.elim
set_option maxHeartbeats 1000000 in
theorem srt.collect_in (F:Fence) (n:Nat) (h8:F.fn 315) (h3:F.fn 336) (h7:F.fn 316) (hro:F.round=none) (hn:4≤n) (Bs:Nat) (sv:Value) (zs:List Int) (hreach:zs.length * 8≤140737488351232) (w:World) (hBs:Bs<w.heap.size) (hc:w.cell? ⟨Bs,0,none⟩=some sv) (hI:srt.Ints w.heap.size w sv zs) :
    CallsIn F n Try.prog 315 #[.func (.func 316) #[] #[.pointer (some ⟨Bs,0,none⟩)]] w fun e w'=>∃ v,e= .returned v∧w'.ownsRow w.heap.size 3 1 v zs.length (zs.map (Value.int .i64))∧(v= .slice none 0 0 ↔ zs=[])∧Below w.heap.size w w':=by
  have h1:1≤n:=by omega
  refine callsIn_of_wp Try.func315 rfl h8 ?_ hro;simp only [Try.ntmps315,List.size_toArray,List.length_cons,List.length_nil,Nat.reduceAdd,Nat.reduceSub,Array.replicate_succ,Array.replicate_zero,List.push_toArray,List.append_toArray,List.nil_append,List.cons_append]
  gi_wp2_with (gi_at_call 336;refine (srt.append_in F (n - 1) h3 h7 hro (by omega) Bs sv zs hreach _ hBs hc hI).mono ?_;rintro e w' ⟨v,rfl,hrow,hnil,hb⟩)
  go_ret
  exact ⟨v,rfl,hrow,hnil,hb⟩
/-- The numbers,sorted. -/
def srt.sorted (zs:List Int):List Int:=zs.mergeSort fun x y=>decide (x≤y)
theorem srt.sorted_length (zs:List Int):(srt.sorted zs).length=zs.length:=List.length_mergeSort _
set_option maxRecDepth 100000 in
set_option maxHeartbeats 2000000 in
/-- slices.Sorted(slices.Values(s)):a new row that holds what s holds,sorted. -/
theorem srt.sorted_in (n:Nat) (hn:5≤n) (Bs:Nat) (sv:Value) (zs:List Int) (hreach:zs.length * 8≤140737488351232) (w:World) (hBs:Bs<w.heap.size) (hc:w.cell? ⟨Bs,0,none⟩=some sv) (hI:srt.Ints w.heap.size w sv zs) :
    CallsIn Fence.wide n Try.prog 285 #[.func (.func 316) #[] #[.pointer (some ⟨Bs,0,none⟩)]] w fun e w'=>∃ v,e= .returned v∧w'.ownsRow w.heap.size 3 1 v (srt.sorted zs).length ((srt.sorted zs).map (Value.int .i64))∧Below w.heap.size w w':=by
  have e315:∀ args w,(callFunc 315 args).run Try.prog w= .ok (.enter 315 args) w:=enters_of Try.func315 (by kernel_rfl) rfl;have e207:∀ args w,(callFunc 207 args).run Try.prog w= .ok (.enter 207 args) w:=enters_of Try.func207 (by kernel_rfl) rfl;have h1:1≤n:=by omega
  have f315:Fence.wide.fn 315:=trivial;have f207:Fence.wide.fn 207:=trivial;refine callsIn_of_wp Try.func285 rfl trivial ?_ rfl;simp only [Try.ntmps285,List.size_toArray,List.length_cons,List.length_nil,Nat.reduceAdd,Nat.reduceSub,Array.replicate_succ,Array.replicate_zero,List.push_toArray,List.append_toArray,List.nil_append,List.cons_append]
  gi_wp2_with (gi_at_call 315;refine (srt.collect_in Fence.wide (n - 1) trivial trivial trivial rfl (by omega) Bs sv zs hreach _ hBs hc hI).mono ?_;rintro e W ⟨v,rfl,hrow,hnil,hb⟩)
  rcases hrow.2 with ⟨rfl,hz⟩|⟨gb,cap,cur,rfl,hbase,hgb,r1,r2,r3,r4⟩
  · have hss:zs=[]:=List.eq_nil_of_length_eq_zero hz
    subst hss;have cS:CallsIn Fence.wide (n - 1) Try.prog 207 #[.slice none 0 0] W fun e w'=>e= .returned (.tuple #[])∧w'=W:=callsIn_wide.2 (AnyM.slices_Sort_int_none srt.sortInt none 0 W)
    gi_wp2_with (gi_at_call 207;refine cS.mono ?_;rintro e w' ⟨rfl,rfl⟩)
    go_ret
    exact ⟨.slice none 0 0,rfl,by simpa [srt.sorted] using hrow,hb⟩
  · have hH:Sort.Holds (Value.int .i64) W gb 0 zs.toArray:=holds_of_block_i hgb (by simpa using r4)
    have hgl:gb<W.heap.size:=(Array.getElem?_eq_some_iff.1 hgb).1;have hsz:zs.length<4611686018427387904:=by omega
    have cS:CallsIn Fence.wide (n - 1) Try.prog 207 #[.slice (some ⟨gb,0,none⟩) zs.length cap] W fun e w'=>e= .returned (.tuple #[])∧∃ k os,w'=Sort.grow (Sort.putRow (Value.int .i64) (Sort.ahead W k) gb 0 (srt.sorted zs).toArray) os:=callsIn_wide.2 (AnyM.slices_Sort_int srt.sortInt gb 0 cap zs W hH hgl hsz)
    gi_wp2_with (gi_at_call 207;refine cS.mono ?_;rintro e w' ⟨rfl,nn,os,rfl⟩)
    go_ret
    refine ⟨_,rfl,?_,hb.grown (grownBy_sorted_i _) hb.size (fun j hj=>by cases hj;exact hbase)⟩;have:=ownsRow_sorted_i (ts:=srt.sorted zs) (n:=nn) (os:=os) (srt.sorted_length zs) hbase hgb r1 r2 r3;rw [srt.sorted_length];exact this
theorem srt.values_calls (A:Option Addr) (n c:Nat) (W:World):Calls Try.prog 286 #[.slice A n c] W fun e w'=>∃ B,e= .returned (.func (.func 316) #[] #[.pointer (some ⟨B,0,none⟩)])∧B<w'.heap.size∧w'.cell? ⟨B,0,none⟩=some (.slice A n c)∧Below W.heap.size W w':=by
  refine ((callsIn_wide (n:=6)).1 (srt.values_in Fence.wide 6 trivial rfl A n c W)).mono ?_
  rintro e w' ⟨rfl,rfl⟩
  exact ⟨W.heap.size,rfl,by simp,by simp,(Below.refl _ W).alloc (Nat.le_refl _) _⟩
theorem srt.sorted_calls (l:List Int) (hl:l.length≤1048576) (A:Option Addr) (c B:Nat) (W:World) (hB:B<W.heap.size) (hc:W.cell? ⟨B,0,none⟩=some (.slice A l.length c)) (hC:Kd.C (Kd.int .i64) W A l.length l) :
    Calls Try.prog 285 #[.func (.func 316) #[] #[.pointer (some ⟨B,0,none⟩)]] W fun e w'=>∃ Av cv,e= .returned (.slice Av (srt.sorted l).length cv)∧(srt.sorted l).length≤cv∧Kd.C (Kd.int .i64) w' Av (srt.sorted l).length (srt.sorted l)∧Below W.heap.size W w':=by
  refine ((callsIn_wide (n:=6)).1 (srt.sorted_in 6 (by omega) B (.slice A l.length c) l (by omega) W hB hc (srt.ints_of hC))).mono ?_
  rintro e w' ⟨v,rfl,hrow,hb⟩
  have hR:(Kd.int .i64).R 3 w' W.heap.size (fun _=>True) v (srt.sorted l):=Kd.R_of_own hrow (fun _ _=>trivial);obtain ⟨Av,cv,rfl,hcv,hC⟩:=Kd.R_reads hR;exact ⟨Av,cv,rfl,hcv,hC,hb⟩
end srt

-- NEEDS slices.Sorted[int]
def srt.upNat (n:Nat):List Int:=(List.range n).map fun (j:Nat)=>(j:Int)
def impl_isOrder.f (l0:List Int) (a1:Int):Option Bool:=if l0.length≤1048576 then some (decide (srt.sorted l0=srt.upNat l0.length) && decide ((l0.length:Int)=a1)) else none
theorem srt.up_iff (s:List Int):s=srt.upNat s.length ↔ ∀ j,j<s.length→rd s j=(j:Int):=by
  constructor
  · intro h j hj
    have h2:s[j]=(srt.upNat s.length)[j]'(by simp [srt.upNat];exact hj):=by congr 1
    unfold rd
    rw [Int.toNat_natCast,List.getD_eq_getElem?_getD,List.getElem?_eq_getElem hj,Option.getD_some,h2]
    simp [srt.upNat]
  · intro h
    apply List.ext_getElem
    · simp [srt.upNat]
    · intro j h1 h2
      have:=h j h1
      unfold rd at this
      rw [Int.toNat_natCast,List.getD_eq_getElem?_getD,List.getElem?_eq_getElem h1,Option.getD_some] at this;rw [this];simp [srt.upNat]
set_option maxHeartbeats 4000000 in
set_option maxRecDepth 100000 in
theorem impl_isOrder.calls (A0:Option Addr) (c0:Nat) (l0:List Int) (a1:Int) (r:Bool) (w:World) (hr0:Kd.C (Kd.int .i64) w A0 l0.length l0) (hc0:l0.length≤c0) (h:impl_isOrder.f l0 a1=some r) :
    Calls Try.prog 193 #[.slice A0 l0.length c0,.int .i64 a1] w fun e w'=>e= .returned (.bool r)∧Below w.heap.size w w':=by
  unfold impl_isOrder.f at h
  by_cases hl:l0.length≤1048576
  case neg=>rw [if_neg hl] at h;cases h
  rw [if_pos hl] at h;obtain rfl:=Option.some.inj h;clear h;have hI:=srt.ints_of (c:=c0) hr0;have cV:∀ W,Calls Try.prog 286 #[.slice A0 l0.length c0] W fun e w'=>e= .returned (.func (.func 316) #[] #[.pointer (some ⟨W.heap.size,0,none⟩)])∧w'=W.alloc (.cells #[.slice A0 l0.length c0] 34):=fun W=>(callsIn_wide (n:=6)).1 (srt.values_in Fence.wide 6 trivial rfl _ _ _ W)
  have hB1:Below w.heap.size w (w.alloc (.cells #[.slice A0 l0.length c0] 34)):=(Below.refl _ w).alloc (Nat.le_refl _) _
  have cS:Calls Try.prog 285 #[.func (.func 316) #[] #[.pointer (some ⟨w.heap.size,0,none⟩)]] (w.alloc (.cells #[.slice A0 l0.length c0] 34)) fun e w'=>∃ Av cv,e= .returned (.slice Av (srt.sorted l0).length cv)∧(srt.sorted l0).length≤cv∧Kd.C (Kd.int .i64) w' Av (srt.sorted l0).length (srt.sorted l0)∧Below w.heap.size w w':=by
    refine ((callsIn_wide (n:=6)).1 (srt.sorted_in 6 (by omega) w.heap.size (.slice A0 l0.length c0) l0 (by omega) _ (by simp) (by simp) (by
      rcases hI.below hB1 with h|⟨ad,cap,e,hb,hc⟩
      · exact .inl h
      · exact .inr ⟨ad,cap,e,by simp;omega,hc⟩))).mono ?_
    rintro e w' ⟨v,rfl,hrow,hb⟩
    have hR:(Kd.int .i64).R 3 w' (w.alloc (.cells #[.slice A0 l0.length c0] 34)).heap.size (fun _=>True) v (srt.sorted l0):=Kd.R_of_own hrow (fun _ _=>trivial);obtain ⟨Av,cv,rfl,hcv,hC⟩:=Kd.R_reads hR;exact ⟨Av,cv,rfl,hcv,hC,hB1.trans (hb.mono hB1.size)⟩
  have hsl:=srt.sorted_length l0
  generalize hs:srt.sorted l0=s at *
  have hsl':=aM hsl;clear hsl;go_enter Try.func193,Try.ntmps193
  go_wp2_with (first
    |(go_at_call 286;refine (cV _).mono ?_;rintro e w' ⟨rfl,rfl⟩)
    |(go_at_call 285;refine cS.mono ?_;rintro e w1 ⟨Av,cv,rfl,hcv,hC,hbb⟩))
  clear cV cS hB1 hI hs;go_loopg [13] s.length (fun kq v13 w'=>∃ x:Int,v13= .int .i64 x∧Aside0 (0≤x∧x+kq=s.length∧∀ j:Nat,(j:Int)<x→rd s j=(j:Int))∧Drawn0 w1 w')
  case atStart=>exact ⟨0,rfl,⟨by omega,by omega,fun j hj=>by omega⟩,Drawn0.refl _⟩
  case round=>
    obtain ⟨x,rfl,hx,⟨m1,rfl⟩⟩:=hrel;by_cases hlt:x<(s.length:Int)
    · have p:0≤x:=hx.out.1
      obtain ⟨ad,e,hxc⟩:=Kd.at_int hC x p hlt
      cases e
      have c1:decide (x<(s.length:Int))=true:=aL hlt;by_cases heq:rd s x=x
      · have c2:(rd s x == x)=true:=by simpa using heq
        have hnx:Aside0 (0≤x+1∧x+1+((gk - 1:Nat):Int)=s.length∧∀ j:Nat,(j:Int)<x+1→rd s j=(j:Int)):=⟨by have:=hx.out;omega,by have:=hx.out.2.1;omega,fun j hj=>by
          by_cases e:(j:Int)=x
          · rw [e];exact heq
          · exact hx.out.2.2 j (by omega)⟩
        have hw:wrap64 (x+1)=x+1:=by have:=hx.out.2.1;have:=hsl'.out;unfold wrap64;omega
        have hgk:Aside0 (gk - 1<gk):=⟨by have:=hx.out.2.1;omega⟩;clear heq;replace p:=eq_true p;replace hlt:=eq_true hlt;go_wp2;go_roundg (gk - 1)
        case measure=>exact hgk.out
        case rel=>exact ⟨x+1,by first|rfl|(rw [hw])|(simp [hw];done),hnx,by repeat (first|exact Drawn0.refl _|apply Drawn0.step)⟩
      · have c2:(rd s x == x)=false:=by simpa using heq
        have hno:Aside0 (decide (s=srt.upNat l0.length)=false):=⟨aN fun e=>heq (by
          have h1:=(srt.up_iff s).mp (by rw [hsl'.out];exact e) x.toNat (by omega)
          rwa [show ((x.toNat:Nat):Int)=x by omega] at h1)⟩
        clear heq;replace p:=eq_true p;replace hlt:=eq_true hlt;go_wp2
        go_ret
        refine ⟨by rw [hno.out];rfl,?_⟩;exact Qa hbb _
    · have c1:decide (x<(s.length:Int))=false:=aN hlt
      have hyes:Aside0 (decide (s=srt.upNat l0.length)=true):=⟨aL (by
        rw [←hsl'.out];exact (srt.up_iff s).mpr fun j hj=>hx.out.2.2 j (by have:=hx.out.2.1;omega))⟩
      clear hlt;go_wp2
      go_ret
      refine ⟨by rw [hyes.out,Bool.true_and];first|rfl|(congr 2;done)|(simp;done),?_⟩;exact Qa hbb _

def impl_IsOrder.f (l0:List Int) (a1:Int):Option (Bool×Bool):=(impl_within.f a1 0 10).bind fun t101=>(if t101=true then ((impl_isOrder.f l0 a1).bind fun t102=>(some (t102,true))) else (some (false,false)))
set_option maxHeartbeats 8000000 in
set_option maxRecDepth 100000 in
theorem impl_IsOrder.calls (A0:Option Addr) (c0:Nat) (l0:List Int) (a1:Int) (r1:Bool) (r2:Bool) (w:World) (hr0:Kd.C (Kd.int .i64) w A0 l0.length l0) (hc0:l0.length≤c0) (h:impl_IsOrder.f l0 a1=some (r1,r2)) :
    Calls Try.prog 60 #[.slice A0 l0.length c0,.int .i64 a1] w fun e w'=>e= .returned (.tuple #[.bool r1,.bool r2])∧Below w.heap.size w w':=by
  have HR0:=aM hr0;have HC0:=aM hc0;clear hr0 hc0;have HB:=aM (Below.refl w.heap.size w);have H:((impl_within.f a1 0 10).bind fun t101=>(if t101=true then ((impl_isOrder.f l0 a1).bind fun t102=>(some (t102,true))) else (some (false,false))))=some (r1,r2):=h;clear h;replace H:=Option.bind_eq_some_iff.mp H;obtain ⟨t101,A30,H⟩:=H;replace H:(if t101=true then ((impl_isOrder.f l0 a1).bind fun t102=>(some (t102,true))) else (some (false,false)))=some (r1,r2):=H;have A3:=aM A30;clear A30;by_cases c4:t101=true
  ·subst c4;have H1:((impl_isOrder.f l0 a1).bind fun t102=>(some (t102,true)))=some (r1,r2):=by rw [if_pos rfl] at H;exact H
   clear H;have H:=H1;clear H1;replace H:=Option.bind_eq_some_iff.mp H;obtain ⟨t102,A50,H⟩:=H;replace H:(some (t102,true))=some (r1,r2):=H;have A5:=aM A50;clear A50;simp only [Option.some.injEq,Prod.mk.injEq] at H;obtain ⟨rfl,rfl⟩:=H;go_enter Try.func60,Try.ntmps60;go_wp2_with (first|((with_reducible refine Qj (f:=165) rfl ?_);refine goesL_ (some 7) rfl rfl Try.func165 (by kernel_rfl) rfl #[.int .i64 a1,.int .i64 0,.int .i64 10] rfl (by (try simp only [aD,aE,aF]);first|done|rfl|(simp only [aG,aH];rfl)) ?_;(with_reducible refine (impl_within.calls a1 0 10 true _ A3.out).mono ?_);rintro e w' ⟨rfl,⟨nd,rfl⟩⟩;refine ⟨_,rfl,?_⟩)|((with_reducible refine Qj (f:=193) rfl ?_);refine goesL_ (some 11) rfl rfl Try.func193 (by kernel_rfl) rfl #[.slice A0 l0.length c0,.int .i64 a1] rfl (by (try simp only [aD,aE,aF]);first|done|rfl|(simp only [aG,aH];rfl)) ?_;(with_reducible refine (impl_isOrder.calls _ _ l0 a1 t102 _ ?side1 ?side2 A5.out).mono ?_);(case side1=>repeat first|exact HR0.out|(with_reducible first|refine Kd.Qh ?_ _|refine Kd.Qi ?_ _|refine Kd.C_drew ?_));(case side2=>exact HC0.out);rintro e w6 ⟨rfl,hb⟩;refine ⟨_,rfl,?_⟩;have n0_:=aM (Qo (by repeat (with_reducible first|exact HB.out|apply Qc|apply Qa|apply Qb)) hb);clear HB;have HB:=n0_;clear n0_ hb))
   go_ret2
   exact ⟨by first|rfl|(simp [errW_none,errW_some] <;> rfl)|(simp [*,errW_none,errW_some] <;> rfl),by repeat (with_reducible first|exact HB.out|apply Qc|apply Qa|apply Qb)⟩
  ·replace c4:=Bool.eq_false_iff.mpr c4;subst c4;have H1:(some (false,false))=some (r1,r2):=by rw [if_neg (show ¬ (false=true) by decide)] at H;exact H
   clear H;have H:=H1;clear H1;simp only [Option.some.injEq,Prod.mk.injEq] at H;obtain ⟨rfl,rfl⟩:=H;go_enter Try.func60,Try.ntmps60;go_wp2_with (first|((with_reducible refine Qj (f:=165) rfl ?_);refine goesL_ (some 7) rfl rfl Try.func165 (by kernel_rfl) rfl #[.int .i64 a1,.int .i64 0,.int .i64 10] rfl (by (try simp only [aD,aE,aF]);first|done|rfl|(simp only [aG,aH];rfl)) ?_;(with_reducible refine (impl_within.calls a1 0 10 false _ A3.out).mono ?_);rintro e w' ⟨rfl,⟨nd,rfl⟩⟩;refine ⟨_,rfl,?_⟩))
   go_ret2
   exact ⟨by first|rfl|(simp [errW_none,errW_some] <;> rfl)|(simp [*,errW_none,errW_some] <;> rfl),by repeat (with_reducible first|exact HB.out|apply Qc|apply Qa|apply Qb)⟩

/-- A state of type 135 at block g of W;what its slices lead to came in by w0. -/
def IsS135 (w0 W:World) (g:Nat) (f0:List Int) (f1:Int) (f2:Int):Prop:=∃ A0 c0,W.heap[g]? = some (.cells #[.slice A0 f0.length c0,.int .i64 f1,.int .u64 f2] 135 (0,0))∧w0.heap.size≤g∧Kd.C (Kd.int .u8) w0 A0 f0.length f0
theorem IsS135.grown {w0 W:World} {g:Nat} {f0:List Int} {f1:Int} {f2:Int} {W1:World} {row:Option Nat} (h:IsS135 w0 W g f0 f1 f2) (hw:W.grownBy W1 row) (hne:some g≠row):IsS135 w0 W1 g f0 f1 f2:=by
  obtain ⟨A0,c0,hb,hg,hr0⟩:=h;exact ⟨A0,c0,blk_grown hb hw hne,hg,hr0⟩
theorem IsS135.own_neN {w0 W:World} {g:Nat} {f0:List Int} {f1:Int} {f2:Int} {α:Type} {d:Kd α} {e:Nat} {base:Nat} {ok:Nat→Prop} {v:Value} {xs:List α} (h:IsS135 w0 W g f0 f1 f2) (ho:Kd.N d e W base ok v xs) (ht:e≠135):some g≠v.ownBlock:=by
  obtain ⟨A0,c0,hb,hg,hr0⟩:=h;exact Kd.N_ne ho hb ht
theorem IsS135.fresh {w0 W:World} {g:Nat} {f0:List Int} {f1:Int} {f2:Int} (h:IsS135 w0 W g f0 f1 f2):∀ k,W.heap.size≤k→k≠g:=by
  obtain ⟨A0,c0,hb,hg,hr0⟩:=h;exact Kd.freshB hb
theorem IsS135.kept {w0 W:World} {g:Nat} {f0:List Int} {f1:Int} {f2:Int} {W1:World} {S:Nat→Prop} (h:IsS135 w0 W g f0 f1 f2) (hk:Kept W W1 S) (hne: ¬ S g):IsS135 w0 W1 g f0 f1 f2:=by
  obtain ⟨A0,c0,hb,hg,hr0⟩:=h;exact ⟨A0,c0,blk_kept hb hk hne,hg,hr0⟩
theorem IsS135.below {w0 W:World} {g:Nat} {f0:List Int} {f1:Int} {f2:Int} {W1:World} (h:IsS135 w0 W g f0 f1 f2) (hw:Below W.heap.size W W1):IsS135 w0 W1 g f0 f1 f2:=h.grown (grown_of_below hw none) (by simp)
theorem IsS135.alloc {w0 W:World} {g:Nat} {f0:List Int} {f1:Int} {f2:Int} (h:IsS135 w0 W g f0 f1 f2) (o:Obj):IsS135 w0 (W.alloc o) g f0 f1 f2:=h.below (Qc (Below.refl _ _) o)
theorem IsS135.drewN {w0 W:World} {g:Nat} {f0:List Int} {f1:Int} {f2:Int} (h:IsS135 w0 W g f0 f1 f2) (m:Nat):IsS135 w0 (W.drewN m) g f0 f1 f2:=h
theorem IsS135.drew {w0 W:World} {g:Nat} {f0:List Int} {f1:Int} {f2:Int} (h:IsS135 w0 W g f0 f1 f2):IsS135 w0 W.drew g f0 f1 f2:=h
theorem IsS135.at_ {w0 W:World} {g:Nat} {f0:List Int} {f1:Int} {f2:Int} {w':World} {m:Nat} (hq:W.drewN m=w') (h:IsS135 w0 W g f0 f1 f2):IsS135 w0 w' g f0 f1 f2:=by subst hq;exact IsS135.drewN h m
theorem IsS135.apart {w0 W:World} {g:Nat} {f0:List Int} {f1:Int} {f2:Int} {α:Type} {d:Kd α} {e:Nat} {base:Nat} {ok:Nat→Prop} {v:Value} {xs:List α} (h:IsS135 w0 W g f0 f1 f2) (ho:d.R e W base ok v xs) (ht:∀ q,q ∈ e :: d.E→q≠135):d.R e W base (fun k=>ok k∧k≠g) v xs:=by
  obtain ⟨A0,c0,hb,hg,hr0⟩:=h;exact Kd.R_types ho hb ht
theorem IsS135.own_ne {w0 W:World} {g:Nat} {f0:List Int} {f1:Int} {f2:Int} {α:Type} {d:Kd α} {e:Nat} {base:Nat} {ok:Nat→Prop} {v:Value} {xs:List α} (h:IsS135 w0 W g f0 f1 f2) (ho:d.R e W base ok v xs) (ht:e≠135):some g≠v.ownBlock:=by
  obtain ⟨A0,c0,hb,hg,hr0⟩:=h;exact Kd.R_ne ho hb ht
theorem IsS135.apartQ {w0 W:World} {g:Nat} {f0:List Int} {f1:Int} {f2:Int} {α:Type} {d:Kd α} {e:Nat} {base:Nat} {ok:Nat→Prop} {v:Value} {xs:List α} (h:IsS135 w0 W g f0 f1 f2) (ho:d.Q e W base ok v xs) (ht:∀ q,q ∈ e :: d.E→q≠135):d.Q e W base (fun k=>ok k∧k≠g) v xs:=by
  obtain ⟨A0,c0,hb,hg,hr0⟩:=h;exact Kd.Q_types ho hb ht
theorem IsS135.own_neQ {w0 W:World} {g:Nat} {f0:List Int} {f1:Int} {f2:Int} {α:Type} {d:Kd α} {e:Nat} {base:Nat} {ok:Nat→Prop} {v:Value} {xs:List α} (h:IsS135 w0 W g f0 f1 f2) (ho:d.Q e W base ok v xs) (ht:e≠135):some g≠v.ownBlock:=by
  obtain ⟨A0,c0,hb,hg,hr0⟩:=h;exact Kd.Q_ne ho hb ht
theorem IsS135.apartS {w0 W:World} {g:Nat} {f0:List Int} {f1:Int} {f2:Int} {α:Type} {d:Kd α} {e:Nat} {base:Nat} {ok:Nat→Prop} {v:Value} {xs:List α} (h:IsS135 w0 W g f0 f1 f2) (ho:d.S e W base ok v xs) (ht:∀ q,q ∈ e :: d.E→q≠135):d.S e W base (fun k=>ok k∧k≠g) v xs:=by
  obtain ⟨A0,c0,hb,hg,hr0⟩:=h;exact Kd.S_types ho hb ht
theorem IsS135.own_neS {w0 W:World} {g:Nat} {f0:List Int} {f1:Int} {f2:Int} {α:Type} {d:Kd α} {e:Nat} {base:Nat} {ok:Nat→Prop} {v:Value} {xs:List α} (h:IsS135 w0 W g f0 f1 f2) (ho:d.S e W base ok v xs) (ht:e≠135):some g≠v.ownBlock:=by
  obtain ⟨A0,c0,hb,hg,hr0⟩:=h;exact Kd.S_ne ho hb ht
theorem IsS135.lt {w0 W:World} {g:Nat} {f0:List Int} {f1:Int} {f2:Int} (h:IsS135 w0 W g f0 f1 f2):g<W.heap.size:=by
  obtain ⟨A0,c0,hb,hg,hr0⟩:=h;exact blk_lt hb
theorem IsS135.ge {w0 W:World} {g:Nat} {f0:List Int} {f1:Int} {f2:Int} (h:IsS135 w0 W g f0 f1 f2):w0.heap.size≤g:=by
  obtain ⟨A0,c0,hb,hg,hr0⟩:=h;exact hg
theorem IsS135.ne_blk {w0 W:World} {g:Nat} {f0:List Int} {f1:Int} {f2:Int} {a:Nat} {cs:Array Value} {t:TypeId} {fr:Nat×Nat} (h:IsS135 w0 W g f0 f1 f2) (hb2:W.heap[a]? = some (.cells cs t fr)) (ht:t≠135):g≠a:=by
  obtain ⟨A0,c0,hb,hg,hr0⟩:=h
  rintro rfl
  rw [hb] at hb2
  injection hb2 with hb2
  injection hb2 with _ ht2
  exact ht ht2.symm
theorem IsS135.far {w0 W:World} {g:Nat} {f0:List Int} {f1:Int} {f2:Int} {p:Addr} (h:IsS135 w0 W g f0 f1 f2) (hne:g≠p.block) (u:Value):IsS135 w0 (W.setCell p u) g f0 f1 f2:=by
  obtain ⟨A0,c0,hb,hg,hr0⟩:=h;exact ⟨A0,c0,blk_far hb hne u,hg,hr0⟩
theorem cellS135_0 {W:World} {g:Nat} {A0:Option Addr} {c0:Nat} {f0:List Int} {f1:Int} {f2:Int} (h:W.heap[g]? = some (.cells #[.slice A0 f0.length c0,.int .i64 f1,.int .u64 f2] 135 (0,0))):W.cell? ⟨g,0,none⟩=some (.slice A0 f0.length c0):=(blk_cell h 0).trans rfl
theorem cellS135_1 {W:World} {g:Nat} {A0:Option Addr} {c0:Nat} {f0:List Int} {f1:Int} {f2:Int} (h:W.heap[g]? = some (.cells #[.slice A0 f0.length c0,.int .i64 f1,.int .u64 f2] 135 (0,0))):W.cell? ⟨g,1,none⟩=some (.int .i64 f1):=(blk_cell h 1).trans rfl
theorem IsS135.set_1 {w0 W:World} {g:Nat} {f0:List Int} {f1:Int} {f2:Int} (h:IsS135 w0 W g f0 f1 f2) (x:Int):IsS135 w0 (W.setCell ⟨g,1,none⟩ (.int .i64 x)) g f0 x f2:=by
  obtain ⟨A0,c0,hb,hg,hr0⟩:=h;exact ⟨A0,c0,by simpa using blk_set hb 1 (.int .i64 x),hg,hr0⟩
theorem cellS135_2 {W:World} {g:Nat} {A0:Option Addr} {c0:Nat} {f0:List Int} {f1:Int} {f2:Int} (h:W.heap[g]? = some (.cells #[.slice A0 f0.length c0,.int .i64 f1,.int .u64 f2] 135 (0,0))):W.cell? ⟨g,2,none⟩=some (.int .u64 f2):=(blk_cell h 2).trans rfl
theorem IsS135.set_2 {w0 W:World} {g:Nat} {f0:List Int} {f1:Int} {f2:Int} (h:IsS135 w0 W g f0 f1 f2) (x:Int):IsS135 w0 (W.setCell ⟨g,2,none⟩ (.int .u64 x)) g f0 f1 x:=by
  obtain ⟨A0,c0,hb,hg,hr0⟩:=h;exact ⟨A0,c0,by simpa using blk_set hb 2 (.int .u64 x),hg,hr0⟩
theorem IsS135.new (w0 W:World) (A0:Option Addr) (c0:Nat) (f0:List Int) (f1:Int) (f2:Int) (hB:Below w0.heap.size w0 W) (hr0:Kd.C (Kd.int .u8) w0 A0 f0.length f0):IsS135 w0 (W.alloc (.cells #[.slice A0 f0.length c0,.int .i64 f1,.int .u64 f2] 135)) W.heap.size f0 f1 f2:=⟨A0,c0,by simpa using heap_alloc_new W _,hB.size,hr0⟩

def spec_l1Cur_next.f (s0_0:List Int) (s0_1:Int) (s0_2:Int):Option (Int×Int×Int):=if s0_1<(s0_0.length:Int) then (if 0≤s0_1 then (if (wrap64 (s0_1+1))≤(s0_0.length:Int) then (some (wrap64 (rd s0_0 s0_1),wrap64 (s0_1+1),IntKind.u64.wrap ((IntKind.u64.wrap ((IntKind.u64.wrap (s0_2 * 6364136223846793005))+(IntKind.u64.wrap (wrap64 (rd s0_0 s0_1)))))+1442695040888963407))) else (some (wrap64 (Go.bits .and .u64 ((IntKind.u64.wrap ((IntKind.u64.wrap ((IntKind.u64.wrap (s0_2 * 6364136223846793005))+(IntKind.u64.wrap (wrap64 (rd s0_0 s0_1)))))+1442695040888963407)) / 1099511627776) 255),wrap64 (s0_1+1),IntKind.u64.wrap ((IntKind.u64.wrap ((IntKind.u64.wrap (s0_2 * 6364136223846793005))+(IntKind.u64.wrap (wrap64 (rd s0_0 s0_1)))))+1442695040888963407)))) else (none)) else (if (wrap64 (s0_1+1))≤(s0_0.length:Int) then (some (0,wrap64 (s0_1+1),IntKind.u64.wrap ((IntKind.u64.wrap ((IntKind.u64.wrap (s0_2 * 6364136223846793005))))+1442695040888963407))) else (some (wrap64 (Go.bits .and .u64 ((IntKind.u64.wrap ((IntKind.u64.wrap ((IntKind.u64.wrap (s0_2 * 6364136223846793005))))+1442695040888963407)) / 1099511627776) 255),wrap64 (s0_1+1),IntKind.u64.wrap ((IntKind.u64.wrap ((IntKind.u64.wrap (s0_2 * 6364136223846793005))))+1442695040888963407))))
set_option maxHeartbeats 8000000 in
set_option maxRecDepth 100000 in
theorem spec_l1Cur_next.calls (g:Nat) (s0_0:List Int) (s0_1:Int) (s0_2:Int) (r1:Int) (r2:Int) (r3:Int) (w0 w:World) (hI:IsS135 w0 w g s0_0 s0_1 s0_2) (hB:Below w0.heap.size w0 w) (h:spec_l1Cur_next.f s0_0 s0_1 s0_2=some (r1,r2,r3)) :
    Calls Try.prog 263 #[.pointer (some ⟨g,0,none⟩)] w fun e w'=>e= .returned (.int .i64 r1)∧IsS135 w0 w' g s0_0 r2 r3∧Below w0.heap.size w0 w'∧KeepBut w w' g none:=by
  have HI0:=aM hI;have HK:=aM (KeepBut.refl w g none);have HL:=aM hB.size;clear hI;have HW0:=aM hB.size;have HB:=aM hB;clear hB;have H:(if s0_1<(s0_0.length:Int) then (if 0≤s0_1 then (if (wrap64 (s0_1+1))≤(s0_0.length:Int) then (some (wrap64 (rd s0_0 s0_1),wrap64 (s0_1+1),IntKind.u64.wrap ((IntKind.u64.wrap ((IntKind.u64.wrap (s0_2 * 6364136223846793005))+(IntKind.u64.wrap (wrap64 (rd s0_0 s0_1)))))+1442695040888963407))) else (some (wrap64 (Go.bits .and .u64 ((IntKind.u64.wrap ((IntKind.u64.wrap ((IntKind.u64.wrap (s0_2 * 6364136223846793005))+(IntKind.u64.wrap (wrap64 (rd s0_0 s0_1)))))+1442695040888963407)) / 1099511627776) 255),wrap64 (s0_1+1),IntKind.u64.wrap ((IntKind.u64.wrap ((IntKind.u64.wrap (s0_2 * 6364136223846793005))+(IntKind.u64.wrap (wrap64 (rd s0_0 s0_1)))))+1442695040888963407)))) else (none)) else (if (wrap64 (s0_1+1))≤(s0_0.length:Int) then (some (0,wrap64 (s0_1+1),IntKind.u64.wrap ((IntKind.u64.wrap ((IntKind.u64.wrap (s0_2 * 6364136223846793005))))+1442695040888963407))) else (some (wrap64 (Go.bits .and .u64 ((IntKind.u64.wrap ((IntKind.u64.wrap ((IntKind.u64.wrap (s0_2 * 6364136223846793005))))+1442695040888963407)) / 1099511627776) 255),wrap64 (s0_1+1),IntKind.u64.wrap ((IntKind.u64.wrap ((IntKind.u64.wrap (s0_2 * 6364136223846793005))))+1442695040888963407)))))=some (r1,r2,r3):=h;clear h;by_cases c2:s0_1<(s0_0.length:Int)
  ·rw [if_pos c2] at H;have c2b0:decide (s0_1<(s0_0.length:Int))=true:=aL c2;clear c2;by_cases c3:0≤s0_1
   ·rw [if_pos c3] at H;have c3b0:decide (0≤s0_1)=true:=aL c3;clear c3;by_cases c4:(wrap64 (s0_1+1))≤(s0_0.length:Int)
    ·rw [if_pos c4] at H;have c4b0:decide ((wrap64 (s0_1+1))≤(s0_0.length:Int))=true:=aL c4;clear c4;simp only [Option.some.injEq,Prod.mk.injEq] at H;obtain ⟨rfl,rfl,rfl⟩:=H;obtain ⟨ASz5_0,cSz5_0,HGz5,hgz5,HSz5_0⟩:=HI0.out;have hcz5_0:=cellS135_0 HGz5;have hcz5_1:=cellS135_1 HGz5;have hcz5_2:=cellS135_2 HGz5;have hfz5_1:=blk_frozen HGz5 1;have hfz5_2:=blk_frozen HGz5 2;clear HGz5 hgz5;have p101:0≤(s0_1:Int):=aK (by first|(with_reducible assumption)|assumption);have q101:s0_1<(s0_0.length:Int):=aK (by first|(with_reducible assumption)|assumption);obtain ⟨ad101,e101,hx101_0⟩:=Kd.at_int HSz5_0 s0_1 p101 q101
     cases e101
     replace hx101_0:=pw_cell_below HB.out hx101_0;replace p101:=eq_true p101;replace q101:=eq_true q101;go_enter Try.func263,Try.ntmps263;go_wp2
     repeat (go_quiet (fail);try go_wp2)
     go_ret
     exact ⟨by first|rfl|(simp [errW_none,errW_some] <;> rfl)|(simp [*,errW_none,errW_some] <;> rfl),by repeat (first|(with_reducible first|exact HI0.out|apply IsS135.alloc|apply IsS135.drewN|apply IsS135.drew|apply IsS135.set_1|apply IsS135.set_2)|exact HI0.out),by repeat (first|(with_reducible first|exact HB.out|apply Qc|apply Qa|apply Qb|refine Qf ?_ (IsS135.ge HI0.out))|exact HB.out),by repeat (first|(with_reducible first|exact HK.out|apply KeepBut.set_|apply keep_drewN|apply keep_drew|apply keep_alloc)|exact HK.out)⟩
    ·rw [if_neg c4] at H;have c4b0:decide ((wrap64 (s0_1+1))≤(s0_0.length:Int))=false:=aN c4;clear c4;simp only [Option.some.injEq,Prod.mk.injEq] at H;obtain ⟨rfl,rfl,rfl⟩:=H;obtain ⟨ASz6_0,cSz6_0,HGz6,hgz6,HSz6_0⟩:=HI0.out;have hcz6_0:=cellS135_0 HGz6;have hcz6_1:=cellS135_1 HGz6;have hcz6_2:=cellS135_2 HGz6;have hfz6_1:=blk_frozen HGz6 1;have hfz6_2:=blk_frozen HGz6 2;clear HGz6 hgz6;have p101:0≤(s0_1:Int):=aK (by first|(with_reducible assumption)|assumption);have q101:s0_1<(s0_0.length:Int):=aK (by first|(with_reducible assumption)|assumption);obtain ⟨ad101,e101,hx101_0⟩:=Kd.at_int HSz6_0 s0_1 p101 q101
     cases e101
     replace hx101_0:=pw_cell_below HB.out hx101_0;replace p101:=eq_true p101;replace q101:=eq_true q101;go_enter Try.func263,Try.ntmps263;go_wp2
     repeat (go_quiet (fail);try go_wp2)
     go_ret
     exact ⟨by first|rfl|(simp [errW_none,errW_some] <;> rfl)|(simp [*,errW_none,errW_some] <;> rfl),by repeat (first|(with_reducible first|exact HI0.out|apply IsS135.alloc|apply IsS135.drewN|apply IsS135.drew|apply IsS135.set_1|apply IsS135.set_2)|exact HI0.out),by repeat (first|(with_reducible first|exact HB.out|apply Qc|apply Qa|apply Qb|refine Qf ?_ (IsS135.ge HI0.out))|exact HB.out),by repeat (first|(with_reducible first|exact HK.out|apply KeepBut.set_|apply keep_drewN|apply keep_drew|apply keep_alloc)|exact HK.out)⟩
   ·rw [if_neg c3] at H;exact absurd H (by simp)
  ·rw [if_neg c2] at H;have c2b0:decide (s0_1<(s0_0.length:Int))=false:=aN c2;clear c2;by_cases c7:(wrap64 (s0_1+1))≤(s0_0.length:Int)
   ·rw [if_pos c7] at H;have c7b0:decide ((wrap64 (s0_1+1))≤(s0_0.length:Int))=true:=aL c7;clear c7;simp only [Option.some.injEq,Prod.mk.injEq] at H;obtain ⟨rfl,rfl,rfl⟩:=H;obtain ⟨ASz8_0,cSz8_0,HGz8,hgz8,HSz8_0⟩:=HI0.out;have hcz8_0:=cellS135_0 HGz8;have hcz8_1:=cellS135_1 HGz8;have hcz8_2:=cellS135_2 HGz8;have hfz8_1:=blk_frozen HGz8 1;have hfz8_2:=blk_frozen HGz8 2;clear HGz8 hgz8;go_enter Try.func263,Try.ntmps263;go_wp2
    repeat (go_quiet (fail);try go_wp2)
    go_ret
    exact ⟨by first|rfl|(simp [errW_none,errW_some] <;> rfl)|(simp [*,errW_none,errW_some] <;> rfl),by repeat (first|(with_reducible first|exact HI0.out|apply IsS135.alloc|apply IsS135.drewN|apply IsS135.drew|apply IsS135.set_1|apply IsS135.set_2)|exact HI0.out),by repeat (first|(with_reducible first|exact HB.out|apply Qc|apply Qa|apply Qb|refine Qf ?_ (IsS135.ge HI0.out))|exact HB.out),by repeat (first|(with_reducible first|exact HK.out|apply KeepBut.set_|apply keep_drewN|apply keep_drew|apply keep_alloc)|exact HK.out)⟩
   ·rw [if_neg c7] at H;have c7b0:decide ((wrap64 (s0_1+1))≤(s0_0.length:Int))=false:=aN c7;clear c7;simp only [Option.some.injEq,Prod.mk.injEq] at H;obtain ⟨rfl,rfl,rfl⟩:=H;obtain ⟨ASz9_0,cSz9_0,HGz9,hgz9,HSz9_0⟩:=HI0.out;have hcz9_0:=cellS135_0 HGz9;have hcz9_1:=cellS135_1 HGz9;have hcz9_2:=cellS135_2 HGz9;have hfz9_1:=blk_frozen HGz9 1;have hfz9_2:=blk_frozen HGz9 2;clear HGz9 hgz9;go_enter Try.func263,Try.ntmps263;go_wp2
    repeat (go_quiet (fail);try go_wp2)
    go_ret
    exact ⟨by first|rfl|(simp [errW_none,errW_some] <;> rfl)|(simp [*,errW_none,errW_some] <;> rfl),by repeat (first|(with_reducible first|exact HI0.out|apply IsS135.alloc|apply IsS135.drewN|apply IsS135.drew|apply IsS135.set_1|apply IsS135.set_2)|exact HI0.out),by repeat (first|(with_reducible first|exact HB.out|apply Qc|apply Qa|apply Qb|refine Qf ?_ (IsS135.ge HI0.out))|exact HB.out),by repeat (first|(with_reducible first|exact HK.out|apply KeepBut.set_|apply keep_drewN|apply keep_drew|apply keep_alloc)|exact HK.out)⟩

def spec_l1Cur_pick.f (s0_0:List Int) (s0_1:Int) (s0_2:Int) (a1:Int):Option (Int×Int×Int):=if a1≤1 then (some (0,s0_1,s0_2)) else ((spec_l1Cur_next.f s0_0 s0_1 s0_2).bind fun bt101=>(if a1 > 200 then ((spec_l1Cur_next.f s0_0 bt101.2.1 bt101.2.2).bind fun bt104=>(if a1=0 then (none) else (some (Int.tmod (wrap64 ((wrap64 (bt101.1 * 256))+bt104.1)) a1,bt104.2.1,bt104.2.2)))) else (if a1=0 then (none) else (some (Int.tmod bt101.1 a1,bt101.2.1,bt101.2.2)))))
set_option maxHeartbeats 8000000 in
set_option maxRecDepth 100000 in
theorem spec_l1Cur_pick.calls (g:Nat) (s0_0:List Int) (s0_1:Int) (s0_2:Int) (a1:Int) (r1:Int) (r2:Int) (r3:Int) (w0 w:World) (hI:IsS135 w0 w g s0_0 s0_1 s0_2) (hB:Below w0.heap.size w0 w) (h:spec_l1Cur_pick.f s0_0 s0_1 s0_2 a1=some (r1,r2,r3)) :
    Calls Try.prog 148 #[.pointer (some ⟨g,0,none⟩),.int .i64 a1] w fun e w'=>e= .returned (.int .i64 r1)∧IsS135 w0 w' g s0_0 r2 r3∧Below w0.heap.size w0 w'∧KeepBut w w' g none:=by
  have HI0:=aM hI;have HK:=aM (KeepBut.refl w g none);have HL:=aM hB.size;clear hI;have HW0:=aM hB.size;have HB:=aM hB;clear hB;have H:(if a1≤1 then (some (0,s0_1,s0_2)) else ((spec_l1Cur_next.f s0_0 s0_1 s0_2).bind fun bt101=>(if a1 > 200 then ((spec_l1Cur_next.f s0_0 bt101.2.1 bt101.2.2).bind fun bt104=>(if a1=0 then (none) else (some (Int.tmod (wrap64 ((wrap64 (bt101.1 * 256))+bt104.1)) a1,bt104.2.1,bt104.2.2)))) else (if a1=0 then (none) else (some (Int.tmod bt101.1 a1,bt101.2.1,bt101.2.2))))))=some (r1,r2,r3):=h;clear h;by_cases c3:a1≤1
  ·rw [if_pos c3] at H;have c3b0:decide (a1≤1)=true:=aL c3;clear c3;simp only [Option.some.injEq,Prod.mk.injEq] at H;obtain ⟨rfl,rfl,rfl⟩:=H;go_enter Try.func148,Try.ntmps148;go_wp2
   go_ret
   exact ⟨by first|rfl|(simp [errW_none,errW_some] <;> rfl)|(simp [*,errW_none,errW_some] <;> rfl),by repeat (first|(with_reducible first|exact HI0.out|apply IsS135.alloc|apply IsS135.drewN|apply IsS135.drew|apply IsS135.set_1|apply IsS135.set_2)|exact HI0.out),by repeat (first|(with_reducible first|exact HB.out|apply Qc|apply Qa|apply Qb|refine Qf ?_ (IsS135.ge HI0.out))|exact HB.out),by repeat (first|(with_reducible first|exact HK.out|apply KeepBut.set_|apply keep_drewN|apply keep_drew|apply keep_alloc)|exact HK.out)⟩
  ·rw [if_neg c3] at H;have c3b0:decide (a1≤1)=false:=aN c3;clear c3;replace H:=Option.bind_eq_some_iff.mp H;obtain ⟨⟨t101,t102,t103⟩,A40,H⟩:=H;replace H:(if a1 > 200 then ((spec_l1Cur_next.f s0_0 t102 t103).bind fun bt104=>(if a1=0 then (none) else (some (Int.tmod (wrap64 ((wrap64 (t101 * 256))+bt104.1)) a1,bt104.2.1,bt104.2.2)))) else (if a1=0 then (none) else (some (Int.tmod t101 a1,t102,t103))))=some (r1,r2,r3):=H;have A4:=aM A40;clear A40;by_cases c5:a1 > 200
   ·rw [if_pos c5] at H;have c5b0:decide (200<a1)=true:=aL c5;clear c5;replace H:=Option.bind_eq_some_iff.mp H;obtain ⟨⟨t104,t105,t106⟩,A60,H⟩:=H;replace H:(if a1=0 then (none) else (some (Int.tmod (wrap64 ((wrap64 (t101 * 256))+t104)) a1,t105,t106)))=some (r1,r2,r3):=H;have A6:=aM A60;clear A60;by_cases c7:a1=0
    ·rw [if_pos c7] at H;exact absurd H (by simp)
    ·rw [if_neg c7] at H;have c7b0:(a1 == 0)=false:=beq_eq_false_iff_ne.mpr c7;have c7b1:(a1 != 0)=true:=bne_iff_ne.mpr c7;simp only [Option.some.injEq,Prod.mk.injEq] at H;obtain ⟨rfl,rfl,rfl⟩:=H;go_enter Try.func148,Try.ntmps148;go_wp2_with (first|((with_reducible refine Qj (f:=263) rfl ?_);refine goesL_ (some 9) rfl rfl Try.func263 (by kernel_rfl) rfl #[.pointer (some ⟨g,0,none⟩)] rfl (by (try simp only [aD,aE,aF]);first|done|rfl|(simp only [aG,aH];rfl)) ?_;(with_reducible refine (spec_l1Cur_next.calls g s0_0 s0_1 s0_2 t101 t102 t103 w0 _ ?side1 ?side2 A4.out).mono ?_);(case side1=>repeat first|(with_reducible first|exact HI0.out|apply IsS135.alloc|apply IsS135.drewN|apply IsS135.drew|apply IsS135.set_1|apply IsS135.set_2)|exact HI0.out);(case side2=>repeat first|(with_reducible first|exact HB.out|apply Qc|apply Qa|apply Qb|refine Qf ?_ (IsS135.ge HI0.out))|exact HB.out);rintro e w8 ⟨rfl,hi,hb,hk⟩;refine ⟨_,rfl,?_⟩;have n0_:=aM (KeepBut.trans (by repeat first|(with_reducible first|exact HK.out|apply KeepBut.set_|apply keep_drewN|apply keep_drew|apply keep_alloc)|exact HK.out) hk (.inl rfl));have n1_:=aM (hb);have n2_:=aM (hi);clear HK HB HI0;have HK:=n0_;have HB:=n1_;have HI0:=n2_;clear n0_ n1_ n2_;(try clear hb);(try clear hb2);(try clear hk);(try clear hi))|((with_reducible refine Qj (f:=263) rfl ?_);refine goesL_ (some 15) rfl rfl Try.func263 (by kernel_rfl) rfl #[.pointer (some ⟨g,0,none⟩)] rfl (by (try simp only [aD,aE,aF]);first|done|rfl|(simp only [aG,aH];rfl)) ?_;(with_reducible refine (spec_l1Cur_next.calls g s0_0 t102 t103 t104 t105 t106 w0 _ ?side1 ?side2 A6.out).mono ?_);(case side1=>repeat first|(with_reducible first|exact HI0.out|apply IsS135.alloc|apply IsS135.drewN|apply IsS135.drew|apply IsS135.set_1|apply IsS135.set_2)|exact HI0.out);(case side2=>repeat first|(with_reducible first|exact HB.out|apply Qc|apply Qa|apply Qb|refine Qf ?_ (IsS135.ge HI0.out))|exact HB.out);rintro e w9 ⟨rfl,hi,hb,hk⟩;refine ⟨_,rfl,?_⟩;have n0_:=aM (KeepBut.trans (by repeat first|(with_reducible first|exact HK.out|apply KeepBut.set_|apply keep_drewN|apply keep_drew|apply keep_alloc)|exact HK.out) hk (.inl rfl));have n1_:=aM (hb);have n2_:=aM (hi);clear HK HB HI0;have HK:=n0_;have HB:=n1_;have HI0:=n2_;clear n0_ n1_ n2_;(try clear hb);(try clear hb2);(try clear hk);(try clear hi)))
     go_ret
     exact ⟨by first|rfl|(simp [errW_none,errW_some] <;> rfl)|(simp [*,errW_none,errW_some] <;> rfl),by repeat (first|(with_reducible first|exact HI0.out|apply IsS135.alloc|apply IsS135.drewN|apply IsS135.drew|apply IsS135.set_1|apply IsS135.set_2)|exact HI0.out),by repeat (first|(with_reducible first|exact HB.out|apply Qc|apply Qa|apply Qb|refine Qf ?_ (IsS135.ge HI0.out))|exact HB.out),by repeat (first|(with_reducible first|exact HK.out|apply KeepBut.set_|apply keep_drewN|apply keep_drew|apply keep_alloc)|exact HK.out)⟩
   ·rw [if_neg c5] at H;have c5b0:decide (200<a1)=false:=aN c5;clear c5;by_cases c10:a1=0
    ·rw [if_pos c10] at H;exact absurd H (by simp)
    ·rw [if_neg c10] at H;have c10b0:(a1 == 0)=false:=beq_eq_false_iff_ne.mpr c10;have c10b1:(a1 != 0)=true:=bne_iff_ne.mpr c10;simp only [Option.some.injEq,Prod.mk.injEq] at H;obtain ⟨rfl,rfl,rfl⟩:=H;go_enter Try.func148,Try.ntmps148;go_wp2_with (first|((with_reducible refine Qj (f:=263) rfl ?_);refine goesL_ (some 9) rfl rfl Try.func263 (by kernel_rfl) rfl #[.pointer (some ⟨g,0,none⟩)] rfl (by (try simp only [aD,aE,aF]);first|done|rfl|(simp only [aG,aH];rfl)) ?_;(with_reducible refine (spec_l1Cur_next.calls g s0_0 s0_1 s0_2 t101 t102 t103 w0 _ ?side1 ?side2 A4.out).mono ?_);(case side1=>repeat first|(with_reducible first|exact HI0.out|apply IsS135.alloc|apply IsS135.drewN|apply IsS135.drew|apply IsS135.set_1|apply IsS135.set_2)|exact HI0.out);(case side2=>repeat first|(with_reducible first|exact HB.out|apply Qc|apply Qa|apply Qb|refine Qf ?_ (IsS135.ge HI0.out))|exact HB.out);rintro e w11 ⟨rfl,hi,hb,hk⟩;refine ⟨_,rfl,?_⟩;have n0_:=aM (KeepBut.trans (by repeat first|(with_reducible first|exact HK.out|apply KeepBut.set_|apply keep_drewN|apply keep_drew|apply keep_alloc)|exact HK.out) hk (.inl rfl));have n1_:=aM (hb);have n2_:=aM (hi);clear HK HB HI0;have HK:=n0_;have HB:=n1_;have HI0:=n2_;clear n0_ n1_ n2_;(try clear hb);(try clear hb2);(try clear hk);(try clear hi)))
     go_ret
     exact ⟨by first|rfl|(simp [errW_none,errW_some] <;> rfl)|(simp [*,errW_none,errW_some] <;> rfl),by repeat (first|(with_reducible first|exact HI0.out|apply IsS135.alloc|apply IsS135.drewN|apply IsS135.drew|apply IsS135.set_1|apply IsS135.set_2)|exact HI0.out),by repeat (first|(with_reducible first|exact HB.out|apply Qc|apply Qa|apply Qb|refine Qf ?_ (IsS135.ge HI0.out))|exact HB.out),by repeat (first|(with_reducible first|exact HK.out|apply KeepBut.set_|apply keep_drewN|apply keep_drew|apply keep_alloc)|exact HK.out)⟩

def spec_l1Cur_one.f (s0_0:List Int) (s0_1:Int) (s0_2:Int) (a1:Int):Option (Bool×Int×Int):=(spec_l1Cur_pick.f s0_0 s0_1 s0_2 a1).bind fun bt101=>(some ((bt101.1 == 0),bt101.2.1,bt101.2.2))
set_option maxHeartbeats 8000000 in
set_option maxRecDepth 100000 in
theorem spec_l1Cur_one.calls (g:Nat) (s0_0:List Int) (s0_1:Int) (s0_2:Int) (a1:Int) (r1:Bool) (r2:Int) (r3:Int) (w0 w:World) (hI:IsS135 w0 w g s0_0 s0_1 s0_2) (hB:Below w0.heap.size w0 w) (h:spec_l1Cur_one.f s0_0 s0_1 s0_2 a1=some (r1,r2,r3)) :
    Calls Try.prog 147 #[.pointer (some ⟨g,0,none⟩),.int .i64 a1] w fun e w'=>e= .returned (.bool r1)∧IsS135 w0 w' g s0_0 r2 r3∧Below w0.heap.size w0 w'∧KeepBut w w' g none:=by
  have HI0:=aM hI;have HK:=aM (KeepBut.refl w g none);have HL:=aM hB.size;clear hI;have HW0:=aM hB.size;have HB:=aM hB;clear hB;have H:((spec_l1Cur_pick.f s0_0 s0_1 s0_2 a1).bind fun bt101=>(some ((bt101.1 == 0),bt101.2.1,bt101.2.2)))=some (r1,r2,r3):=h;clear h;replace H:=Option.bind_eq_some_iff.mp H;obtain ⟨⟨t101,t102,t103⟩,A30,H⟩:=H;replace H:(some ((t101 == 0),t102,t103))=some (r1,r2,r3):=H;have A3:=aM A30;clear A30;simp only [Option.some.injEq,Prod.mk.injEq] at H;obtain ⟨rfl,rfl,rfl⟩:=H;go_enter Try.func147,Try.ntmps147;go_wp2_with (first|((with_reducible refine Qj (f:=148) rfl ?_);refine goesL_ (some 7) rfl rfl Try.func148 (by kernel_rfl) rfl #[.pointer (some ⟨g,0,none⟩),.int .i64 a1] rfl (by (try simp only [aD,aE,aF]);first|done|rfl|(simp only [aG,aH];rfl)) ?_;(with_reducible refine (spec_l1Cur_pick.calls g s0_0 s0_1 s0_2 a1 t101 t102 t103 w0 _ ?side1 ?side2 A3.out).mono ?_);(case side1=>repeat first|(with_reducible first|exact HI0.out|apply IsS135.alloc|apply IsS135.drewN|apply IsS135.drew|apply IsS135.set_1|apply IsS135.set_2)|exact HI0.out);(case side2=>repeat first|(with_reducible first|exact HB.out|apply Qc|apply Qa|apply Qb|refine Qf ?_ (IsS135.ge HI0.out))|exact HB.out);rintro e w4 ⟨rfl,hi,hb,hk⟩;refine ⟨_,rfl,?_⟩;have n0_:=aM (KeepBut.trans (by repeat first|(with_reducible first|exact HK.out|apply KeepBut.set_|apply keep_drewN|apply keep_drew|apply keep_alloc)|exact HK.out) hk (.inl rfl));have n1_:=aM (hb);have n2_:=aM (hi);clear HK HB HI0;have HK:=n0_;have HB:=n1_;have HI0:=n2_;clear n0_ n1_ n2_;(try clear hb);(try clear hb2);(try clear hk);(try clear hi)))
  go_ret
  exact ⟨by first|rfl|(simp [errW_none,errW_some] <;> rfl)|(simp [*,errW_none,errW_some] <;> rfl),by repeat (first|(with_reducible first|exact HI0.out|apply IsS135.alloc|apply IsS135.drewN|apply IsS135.drew|apply IsS135.set_1|apply IsS135.set_2)|exact HI0.out),by repeat (first|(with_reducible first|exact HB.out|apply Qc|apply Qa|apply Qb|refine Qf ?_ (IsS135.ge HI0.out))|exact HB.out),by repeat (first|(with_reducible first|exact HK.out|apply KeepBut.set_|apply keep_drewN|apply keep_drew|apply keep_alloc)|exact HK.out)⟩

mutual
def spec_l1Cur_order7.l0:Nat→Int→List Int→Int→List Int→Int→Int→Option (List Int×Int×Int)
  |0,_,_,_,_,_,_=>none
  |k+1,x1,x5,x6,x1000,x1001,x1002=>if x6<x1 then (if x5.length<17592186044416 then (spec_l1Cur_order7.l0 k x1 (x5 ++ [x6]) (wrap64 (x6+1)) x1000 x1001 x1002) else (none)) else ((spec_l1Cur_pick.f x1000 x1001 x1002 6).bind fun bt104=>(spec_l1Cur_order7.l1 k x1 x5 bt104.1 x1000 bt104.2.1 bt104.2.2))
def spec_l1Cur_order7.l1:Nat→Int→List Int→Int→List Int→Int→Int→Option (List Int×Int×Int)
  |0,_,_,_,_,_,_=>none
  |k+1,x1,x5,x7,x1000,x1001,x1002=>if x7 > 0 then (spec_l1Cur_order7.j2 k x1 x5 x7 (decide (x1 > 1)) x1000 x1001 x1002) else (spec_l1Cur_order7.j2 k x1 x5 x7 false x1000 x1001 x1002)
def spec_l1Cur_order7.j2:Nat→Int→List Int→Int→Bool→List Int→Int→Int→Option (List Int×Int×Int)
  |0,_,_,_,_,_,_,_=>none
  |k+1,x1,x5,x7,x27,x1000,x1001,x1002=>if x27=true then ((spec_l1Cur_pick.f x1000 x1001 x1002 x1).bind fun bt107=>((spec_l1Cur_pick.f x1000 bt107.2.1 bt107.2.2 x1).bind fun bt110=>(if 0≤bt107.1 then (if bt107.1<(x5.length:Int) then (if 0≤bt110.1 then (if bt110.1<(x5.length:Int) then (spec_l1Cur_order7.l1 k x1 ((x5.set (bt107.1:Int).toNat (rd x5 bt110.1)).set (bt110.1:Int).toNat (rd x5 bt107.1)) (wrap64 (x7 - 1)) x1000 bt110.2.1 bt110.2.2) else (none)) else (none)) else (none)) else (none)))) else (if x1 > 0 then ((spec_l1Cur_one.f x1000 x1001 x1002 20).bind fun bt117=>(if bt117.1=true then ((spec_l1Cur_pick.f x1000 bt117.2.1 bt117.2.2 (wrap64 (x1+2))).bind fun bt120=>(if 0<(x5.length:Int) then (some ((x5.set (0:Int).toNat (wrap64 (bt120.1 - 1))),bt120.2.1,bt120.2.2)) else (none))) else (some (x5,bt117.2.1,bt117.2.2)))) else (some (x5,x1001,x1002)))
end
def spec_l1Cur_order7.f (k:Nat) (s0_0:List Int) (s0_1:Int) (s0_2:Int) (a1:Int):Option (List Int×Int×Int):=spec_l1Cur_order7.l0 k a1 ([]:List Int) 0 s0_0 s0_1 s0_2
set_option maxHeartbeats 8000000 in
set_option maxRecDepth 100000 in
theorem spec_l1Cur_order7.calls (k:Nat) (g:Nat) (s0_0:List Int) (s0_1:Int) (s0_2:Int) (a1:Int) (r1:List Int) (r2:Int) (r3:Int) (w0 w:World) (hI:IsS135 w0 w g s0_0 s0_1 s0_2) (hB:Below w0.heap.size w0 w) (h:spec_l1Cur_order7.f k s0_0 s0_1 s0_2 a1=some (r1,r2,r3)) :
    Calls Try.prog 191 #[.pointer (some ⟨g,0,none⟩),.int .i64 a1] w fun e w'=>∃ v0_:Value,e= .returned (v0_)∧Kd.R (Kd.int .i64) 3 w' w.heap.size (fun _=>True) v0_ r1∧IsS135 w0 w' g s0_0 r2 r3∧Below w0.heap.size w0 w'∧KeepBut w w' g none:=by
  have HI0:=aM hI;have HK:=aM (KeepBut.refl w g none);have HL:=aM hB.size;clear hI;have HW0:=aM hB.size;have HB:=aM hB;clear hB;have H:(spec_l1Cur_order7.l0 k a1 ([]:List Int) 0 s0_0 s0_1 s0_2)=some (r1,r2,r3):=h;clear h;have H':=aM H;clear H;go_enter Try.func191,Try.ntmps191;go_wp2;go_loopg [5,6] k (fun kq v5 v6 w'=>∃ (x5_1:List Int) (x6_1:Int),v6= .int .i64 x6_1∧Aside0 (spec_l1Cur_order7.l0 kq a1 x5_1 x6_1 s0_0 s0_1 s0_2=some (r1,r2,r3))∧Aside0 (kq≤k)∧Aside0 (Kd.R (Kd.int .i64) 3 w' w.heap.size (fun _=>True) v5 x5_1)∧Aside0 (IsS135 w0 w' g s0_0 s0_1 s0_2)∧Aside0 (KeepBut w w' g none)∧Aside0 (Below w0.heap.size w0 w'))
  case atStart=>exact ⟨(([]:List Int)),(0),(by first|rfl|(simp;done)|(simp [*];done)),H',⟨Nat.le_refl _⟩,⟨by first|exact Kd.R_nil _ _ _ _ _|exact Kd.N_nil _ _ _ _ _|exact Kd.V_nil _ _ _ _ _|exact Kd.Q_nil _ _ _ _ _|exact Kd.S_nil _ _ _ _ _⟩,⟨by repeat (first|(with_reducible first|exact HI0.out|apply IsS135.alloc|apply IsS135.drewN|apply IsS135.drew|apply IsS135.set_1|apply IsS135.set_2)|exact HI0.out)⟩,⟨by repeat (first|(with_reducible first|exact HK.out|apply KeepBut.set_|apply keep_drewN|apply keep_drew|apply keep_alloc)|exact HK.out)⟩,⟨by repeat (first|(with_reducible first|exact HB.out|apply Qc|apply Qa|apply Qb|refine Qf ?_ (IsS135.ge HI0.out))|exact HB.out)⟩⟩
  case round=>
   clear H';(try clear c1);(try clear p2);obtain ⟨x5_1,x6_1,rfl,HA,HK1,HO_5,HI0,HK,HB⟩:=hrel
   cases gk with
   |zero=>exact absurd HA.out (by simp [spec_l1Cur_order7.l0])
   |succ k1=>
    have H:=HA.out;clear HA;simp only [spec_l1Cur_order7.l0] at H;by_cases c3:x6_1<a1
    ·rw [if_pos c3] at H;have c3b0:decide (x6_1<a1)=true:=aL c3;clear c3;by_cases c4:x5_1.length<17592186044416
     ·rw [if_pos c4] at H;have LMc4:=aM c4;clear c4;obtain ⟨y101,hy101⟩:∃ y_:List Int,y_=(x5_1 ++ [x6_1]):=⟨_,rfl⟩;replace H:(spec_l1Cur_order7.l0 k1 a1 y101 (wrap64 (x6_1+1)) s0_0 s0_1 s0_2)=some (r1,r2,r3):=by first|(rw [hy101];with_reducible exact H)|(have H2_:=(Option.bind_some _ _).symm.trans H;rw [hy101];with_reducible exact H2_)|(have H2_:=(Option.bind_some _ _).symm.trans H;with_reducible exact H2_)|with_reducible exact H|(rw [hy101];exact H)|exact H
      have Ny101:=aM hy101;clear hy101;have H':=aM H;clear H;go_wp2_with (first|((with_reducible refine gate_builtin (b:= .append) (xs:=#[.tmp 16,.tmp 18]) rfl ?_);at_builtin;refine Kd.R_append (Kd.int .i64) w.heap.size rfl (.tmp 16) (.tmp 18) 34 3 (.int .i64 0) 8 rfl Try.underlying34 info3 rfl (by decide) (by omega) u5 x5_1 x6_1 [.int .i64 x6_1] (fun _=>True) (fun _=>False) rfl rfl ?aP (fun _ hk=>hk.elim) ?aF ?aO (Below.refl _ _) ?aS ?aL ?_;(case aP=>exact rfl);(case aF=>exact (fun _ _=>trivial));(case aO=>exact (by (with_reducible repeat first|apply Kd.Qd|apply Kd.Qe|apply Kd.R_drew);exact HO_5.out));(case aS=>exact (keep_size (w:=w) (g:=g) (row:=none) (by repeat first|(with_reducible first|exact HK.out|apply KeepBut.set_|apply keep_drewN|apply keep_drew|apply keep_alloc)|exact HK.out)));(case aL=>have:=LMc4.out;omega);intro v102 w5 ho hb hg hat;rw [←Ny101.out] at ho;have n0_:=aM (IsS135.grown (by repeat first|(with_reducible first|exact HI0.out|apply IsS135.alloc|apply IsS135.drewN|apply IsS135.drew|apply IsS135.set_1|apply IsS135.set_2)|exact HI0.out) hg (IsS135.own_ne HI0.out HO_5.out (by decide)));have n1_:=aM (below_weaken (by repeat first|(with_reducible first|exact HB.out|apply Qc|apply Qa|apply Qb|refine Qf ?_ (IsS135.ge HI0.out))|exact HB.out) HL.out hb);have n2_:=aM (KeepBut.trans (by repeat first|(with_reducible first|exact HK.out|apply KeepBut.set_|apply keep_drewN|apply keep_drew|apply keep_alloc)|exact HK.out) (KeepBut.of_grown hg g) (Kd.R_base2 HO_5.out));have n3_:=aM (ho);clear HI0 HB HK HO_5;have HI0:=n0_;have HB:=n1_;have HK:=n2_;have HO103:=n3_;clear n0_ n1_ n2_ n3_ ho hb hg hat))
      go_roundg k1
      case measure=>have:=HK1.out;omega
      case rel=>exact ⟨(y101),(wrap64 (x6_1+1)),(by first|rfl|(simp;done)|(simp [*];done)),H',⟨by have:=HK1.out;omega⟩,⟨by (with_reducible repeat first|apply Kd.Qd|apply Kd.Qe|apply Kd.R_drew);exact HO103.out⟩,⟨by repeat (first|(with_reducible first|exact HI0.out|apply IsS135.alloc|apply IsS135.drewN|apply IsS135.drew|apply IsS135.set_1|apply IsS135.set_2)|exact HI0.out)⟩,⟨by repeat (first|(with_reducible first|exact HK.out|apply KeepBut.set_|apply keep_drewN|apply keep_drew|apply keep_alloc)|exact HK.out)⟩,⟨by repeat (first|(with_reducible first|exact HB.out|apply Qc|apply Qa|apply Qb|refine Qf ?_ (IsS135.ge HI0.out))|exact HB.out)⟩⟩
     ·rw [if_neg c4] at H;exact absurd H (by simp)
    ·rw [if_neg c3] at H;have c3b0:decide (x6_1<a1)=false:=aN c3;clear c3;replace H:=Option.bind_eq_some_iff.mp H;obtain ⟨⟨t104,t105,t106⟩,A60,H⟩:=H;replace H:(spec_l1Cur_order7.l1 k1 a1 x5_1 t104 s0_0 t105 t106)=some (r1,r2,r3):=H;have A6:=aM A60;clear A60;have H':=aM H;clear H;go_wp2_with (first|((with_reducible refine Qj (f:=148) rfl ?_);refine goesL_ (some 21) rfl rfl Try.func148 (by kernel_rfl) rfl #[.pointer (some ⟨g,0,none⟩),.int .i64 6] rfl (by (try simp only [aD,aE,aF]);first|done|rfl|(simp only [aG,aH];rfl)) ?_;(with_reducible refine (spec_l1Cur_pick.calls g s0_0 s0_1 s0_2 6 t104 t105 t106 w0 _ ?side1 ?side2 A6.out).mono ?_);(case side1=>repeat first|(with_reducible first|exact HI0.out|apply IsS135.alloc|apply IsS135.drewN|apply IsS135.drew|apply IsS135.set_1|apply IsS135.set_2)|exact HI0.out);(case side2=>repeat first|(with_reducible first|exact HB.out|apply Qc|apply Qa|apply Qb|refine Qf ?_ (IsS135.ge HI0.out))|exact HB.out);rintro e w7 ⟨rfl,hi,hb,hk⟩;refine ⟨_,rfl,?_⟩;have n0_:=aM (Kd.R_mono (Kd.R_keep (IsS135.apart (show IsS135 w0 _ g s0_0 s0_1 s0_2 from by repeat first|(with_reducible first|exact HI0.out|apply IsS135.alloc|apply IsS135.drewN|apply IsS135.drew|apply IsS135.set_1|apply IsS135.set_2)|exact HI0.out) (by (with_reducible repeat first|apply Kd.Qd|apply Kd.Qe|apply Kd.R_drew);exact HO_5.out) (by decide)) hk (fun _ h=>h.2)) (fun _ h=>h.1));have n1_:=aM (KeepBut.trans (by repeat first|(with_reducible first|exact HK.out|apply KeepBut.set_|apply keep_drewN|apply keep_drew|apply keep_alloc)|exact HK.out) hk (.inl rfl));have n2_:=aM (hb);have n3_:=aM (hi);clear HO_5 HK HB HI0;have HO_5:=n0_;have HK:=n1_;have HB:=n2_;have HI0:=n3_;clear n0_ n1_ n2_ n3_;(try clear hb);(try clear hb2);(try clear hk);(try clear hi)))
     go_loopg [7] k1 (fun kq v7 w'=>∃ (x5_2:List Int) (x7_2:Int) (x1001_2:Int) (x1002_2:Int),v7= .int .i64 x7_2∧Aside0 (spec_l1Cur_order7.l1 kq a1 x5_2 x7_2 s0_0 x1001_2 x1002_2=some (r1,r2,r3))∧Aside0 (kq≤k1)∧Aside0 (Kd.R (Kd.int .i64) 3 w' w.heap.size (fun _=>True) u5 x5_2)∧Aside0 (IsS135 w0 w' g s0_0 x1001_2 x1002_2)∧Aside0 (KeepBut w w' g none)∧Aside0 (Below w0.heap.size w0 w'))
     case atStart=>exact ⟨(x5_1),(t104),(t105),(t106),(by first|rfl|(simp;done)|(simp [*];done)),H',⟨Nat.le_refl _⟩,⟨by (with_reducible repeat first|apply Kd.Qd|apply Kd.Qe|apply Kd.R_drew);exact HO_5.out⟩,⟨by repeat (first|(with_reducible first|exact HI0.out|apply IsS135.alloc|apply IsS135.drewN|apply IsS135.drew|apply IsS135.set_1|apply IsS135.set_2)|exact HI0.out)⟩,⟨by repeat (first|(with_reducible first|exact HK.out|apply KeepBut.set_|apply keep_drewN|apply keep_drew|apply keep_alloc)|exact HK.out)⟩,⟨by repeat (first|(with_reducible first|exact HB.out|apply Qc|apply Qa|apply Qb|refine Qf ?_ (IsS135.ge HI0.out))|exact HB.out)⟩⟩
     case round=>
      clear H';(try clear c1);(try clear p2);(try clear c3);(try clear c3b0);(try clear c4);(try clear p6);(try clear p2);obtain ⟨x5_2,x7_2,x1001_2,x1002_2,rfl,HA,HK2,HO_5,HI0,HK,HB⟩:=hrel
      cases gk with
      |zero=>exact absurd HA.out (by simp [spec_l1Cur_order7.l1])
      |succ k2=>
       have H:=HA.out;clear HA;simp only [spec_l1Cur_order7.l1] at H;have HC8:=aM H;clear H
       go_upto_region 7 with (fail)
       go_cut [27] (fun v27 wc=>∃ (kq:Nat) (x27_7:Bool),v27= .bool x27_7∧Aside0 (spec_l1Cur_order7.j2 kq a1 x5_2 x7_2 x27_7 s0_0 x1001_2 x1002_2=some (r1,r2,r3))∧Aside0 (kq≤k2)∧Aside0 (Kd.R (Kd.int .i64) 3 wc w.heap.size (fun _=>True) u5 x5_2)∧Aside0 (IsS135 w0 wc g s0_0 x1001_2 x1002_2)∧Aside0 (KeepBut w wc g none)∧Aside0 (Below w0.heap.size w0 wc))
       case first=>
        have H:=HC8.out;clear HC8;by_cases c9:x7_2 > 0
        ·rw [if_pos c9] at H;have c9b0:decide (0<x7_2)=true:=aL c9;clear c9
         (first|rw [c9b0]|(simp only [i64_w,i32_w];rw [c9b0])|skip)
         have H':=aM H;clear H;go_wp2
         go_meet
         case rel=>exact ⟨_,(decide (a1 > 1)),(by first|rfl|(simp;done)|(simp [*];done)),H',⟨by have:=HK1.out;have:=HK2.out;first|omega|exact Nat.le_refl _⟩,⟨by (with_reducible repeat first|apply Kd.Qd|apply Kd.Qe|apply Kd.R_drew);exact HO_5.out⟩,⟨by repeat (first|(with_reducible first|exact HI0.out|apply IsS135.alloc|apply IsS135.drewN|apply IsS135.drew|apply IsS135.set_1|apply IsS135.set_2)|exact HI0.out)⟩,⟨by repeat (first|(with_reducible first|exact HK.out|apply KeepBut.set_|apply keep_drewN|apply keep_drew|apply keep_alloc)|exact HK.out)⟩,⟨by repeat (first|(with_reducible first|exact HB.out|apply Qc|apply Qa|apply Qb|refine Qf ?_ (IsS135.ge HI0.out))|exact HB.out)⟩⟩
        ·rw [if_neg c9] at H;have c9b0:decide (0<x7_2)=false:=aN c9;clear c9
         (first|rw [c9b0]|(simp only [i64_w,i32_w];rw [c9b0])|skip)
         have H':=aM H;clear H;go_wp2
         go_meet
         case rel=>exact ⟨_,(false),(by first|rfl|(simp;done)|(simp [*];done)),H',⟨by have:=HK1.out;have:=HK2.out;first|omega|exact Nat.le_refl _⟩,⟨by (with_reducible repeat first|apply Kd.Qd|apply Kd.Qe|apply Kd.R_drew);exact HO_5.out⟩,⟨by repeat (first|(with_reducible first|exact HI0.out|apply IsS135.alloc|apply IsS135.drewN|apply IsS135.drew|apply IsS135.set_1|apply IsS135.set_2)|exact HI0.out)⟩,⟨by repeat (first|(with_reducible first|exact HK.out|apply KeepBut.set_|apply keep_drewN|apply keep_drew|apply keep_alloc)|exact HK.out)⟩,⟨by repeat (first|(with_reducible first|exact HB.out|apply Qc|apply Qa|apply Qb|refine Qf ?_ (IsS135.ge HI0.out))|exact HB.out)⟩⟩
       case rest=>
        clear HC8;(try clear c1);(try clear p2);(try clear c3);(try clear c3b0);(try clear c4);(try clear p6);(try clear c9);(try clear c9b0);(try clear p2);(try clear p6);obtain ⟨kq,x27_7,rfl,HA,HJ7,HO_5,HI0,HK,HB⟩:=hcut
        cases kq with
        |zero=>exact absurd HA.out (by simp [spec_l1Cur_order7.j2])
        |succ kj7=>
         have H:=HA.out;clear HA;simp only [spec_l1Cur_order7.j2] at H;by_cases c10:x27_7=true
         ·subst c10;have H1:((spec_l1Cur_pick.f s0_0 x1001_2 x1002_2 a1).bind fun bt107=>((spec_l1Cur_pick.f s0_0 bt107.2.1 bt107.2.2 a1).bind fun bt110=>(if 0≤bt107.1 then (if bt107.1<(x5_2.length:Int) then (if 0≤bt110.1 then (if bt110.1<(x5_2.length:Int) then (spec_l1Cur_order7.l1 kj7 a1 ((x5_2.set (bt107.1:Int).toNat (rd x5_2 bt110.1)).set (bt110.1:Int).toNat (rd x5_2 bt107.1)) (wrap64 (x7_2 - 1)) s0_0 bt110.2.1 bt110.2.2) else (none)) else (none)) else (none)) else (none))))=some (r1,r2,r3):=by rw [if_pos rfl] at H;exact H
          clear H;have H:=H1;clear H1;replace H:=Option.bind_eq_some_iff.mp H;obtain ⟨⟨t107,t108,t109⟩,A110,H⟩:=H;replace H:((spec_l1Cur_pick.f s0_0 t108 t109 a1).bind fun bt110=>(if 0≤t107 then (if t107<(x5_2.length:Int) then (if 0≤bt110.1 then (if bt110.1<(x5_2.length:Int) then (spec_l1Cur_order7.l1 kj7 a1 ((x5_2.set (t107:Int).toNat (rd x5_2 bt110.1)).set (bt110.1:Int).toNat (rd x5_2 t107)) (wrap64 (x7_2 - 1)) s0_0 bt110.2.1 bt110.2.2) else (none)) else (none)) else (none)) else (none)))=some (r1,r2,r3):=H;have A11:=aM A110;clear A110;replace H:=Option.bind_eq_some_iff.mp H;obtain ⟨⟨t110,t111,t112⟩,A120,H⟩:=H;replace H:(if 0≤t107 then (if t107<(x5_2.length:Int) then (if 0≤t110 then (if t110<(x5_2.length:Int) then (spec_l1Cur_order7.l1 kj7 a1 ((x5_2.set (t107:Int).toNat (rd x5_2 t110)).set (t110:Int).toNat (rd x5_2 t107)) (wrap64 (x7_2 - 1)) s0_0 t111 t112) else (none)) else (none)) else (none)) else (none))=some (r1,r2,r3):=H;have A12:=aM A120;clear A120;by_cases c13:0≤t107
          ·rw [if_pos c13] at H;have c13b0:decide (0≤t107)=true:=aL c13;clear c13;by_cases c14:t107<(x5_2.length:Int)
           ·rw [if_pos c14] at H;have c14b0:decide (t107<(x5_2.length:Int))=true:=aL c14;clear c14;by_cases c15:0≤t110
            ·rw [if_pos c15] at H;have c15b0:decide (0≤t110)=true:=aL c15;clear c15;by_cases c16:t110<(x5_2.length:Int)
             ·rw [if_pos c16] at H;have c16b0:decide (t110<(x5_2.length:Int))=true:=aL c16;clear c16;obtain ⟨y115,hy115⟩:∃ y_:List Int,y_=(x5_2.set (t107:Int).toNat (rd x5_2 t110)):=⟨_,rfl⟩;replace H:(spec_l1Cur_order7.l1 kj7 a1 (y115.set (t110:Int).toNat (rd x5_2 t107)) (wrap64 (x7_2 - 1)) s0_0 t111 t112)=some (r1,r2,r3):=by first|(rw [hy115];with_reducible exact H)|(have H2_:=(Option.bind_some _ _).symm.trans H;rw [hy115];with_reducible exact H2_)|(have H2_:=(Option.bind_some _ _).symm.trans H;with_reducible exact H2_)|with_reducible exact H|(rw [hy115];exact H)|exact H
              have Ny115:=aM hy115;clear hy115;obtain ⟨y116,hy116⟩:∃ y_:List Int,y_=(y115.set (t110:Int).toNat (rd x5_2 t107)):=⟨_,rfl⟩;replace H:(spec_l1Cur_order7.l1 kj7 a1 y116 (wrap64 (x7_2 - 1)) s0_0 t111 t112)=some (r1,r2,r3):=by first|(rw [hy116];with_reducible exact H)|(have H2_:=(Option.bind_some _ _).symm.trans H;rw [hy116];with_reducible exact H2_)|(have H2_:=(Option.bind_some _ _).symm.trans H;with_reducible exact H2_)|with_reducible exact H|(rw [hy116];exact H)|exact H
              have Ny116:=aM hy116;clear hy116;have H':=aM H;clear H;go_wp2_with (first|((with_reducible refine Qj (f:=148) rfl ?_);refine goesL_ (some 32) rfl rfl Try.func148 (by kernel_rfl) rfl #[.pointer (some ⟨g,0,none⟩),.int .i64 a1] rfl (by (try simp only [aD,aE,aF]);first|done|rfl|(simp only [aG,aH];rfl)) ?_;(with_reducible refine (spec_l1Cur_pick.calls g s0_0 x1001_2 x1002_2 a1 t107 t108 t109 w0 _ ?side1 ?side2 A11.out).mono ?_);(case side1=>repeat first|(with_reducible first|exact HI0.out|apply IsS135.alloc|apply IsS135.drewN|apply IsS135.drew|apply IsS135.set_1|apply IsS135.set_2)|exact HI0.out);(case side2=>repeat first|(with_reducible first|exact HB.out|apply Qc|apply Qa|apply Qb|refine Qf ?_ (IsS135.ge HI0.out))|exact HB.out);rintro e w19 ⟨rfl,hi,hb,hk⟩;refine ⟨_,rfl,?_⟩;have n0_:=aM (Kd.R_mono (Kd.R_keep (IsS135.apart (show IsS135 w0 _ g s0_0 x1001_2 x1002_2 from by repeat first|(with_reducible first|exact HI0.out|apply IsS135.alloc|apply IsS135.drewN|apply IsS135.drew|apply IsS135.set_1|apply IsS135.set_2)|exact HI0.out) (by (with_reducible repeat first|apply Kd.Qd|apply Kd.Qe|apply Kd.R_drew);exact HO_5.out) (by decide)) hk (fun _ h=>h.2)) (fun _ h=>h.1));have n1_:=aM (KeepBut.trans (by repeat first|(with_reducible first|exact HK.out|apply KeepBut.set_|apply keep_drewN|apply keep_drew|apply keep_alloc)|exact HK.out) hk (.inl rfl));have n2_:=aM (hb);have n3_:=aM (hi);clear HO_5 HK HB HI0;have HO_5:=n0_;have HK:=n1_;have HB:=n2_;have HI0:=n3_;clear n0_ n1_ n2_ n3_;(try clear hb);(try clear hb2);(try clear hk);(try clear hi))|((with_reducible refine Qj (f:=148) rfl ?_);refine goesL_ (some 35) rfl rfl Try.func148 (by kernel_rfl) rfl #[.pointer (some ⟨g,0,none⟩),.int .i64 a1] rfl (by (try simp only [aD,aE,aF]);first|done|rfl|(simp only [aG,aH];rfl)) ?_;(with_reducible refine (spec_l1Cur_pick.calls g s0_0 t108 t109 a1 t110 t111 t112 w0 _ ?side1 ?side2 A12.out).mono ?_);(case side1=>repeat first|(with_reducible first|exact HI0.out|apply IsS135.alloc|apply IsS135.drewN|apply IsS135.drew|apply IsS135.set_1|apply IsS135.set_2)|exact HI0.out);(case side2=>repeat first|(with_reducible first|exact HB.out|apply Qc|apply Qa|apply Qb|refine Qf ?_ (IsS135.ge HI0.out))|exact HB.out);rintro e w20 ⟨rfl,hi,hb,hk⟩;refine ⟨_,rfl,?_⟩;have n0_:=aM (Kd.R_mono (Kd.R_keep (IsS135.apart (show IsS135 w0 _ g s0_0 t108 t109 from by repeat first|(with_reducible first|exact HI0.out|apply IsS135.alloc|apply IsS135.drewN|apply IsS135.drew|apply IsS135.set_1|apply IsS135.set_2)|exact HI0.out) (by (with_reducible repeat first|apply Kd.Qd|apply Kd.Qe|apply Kd.R_drew);exact HO_5.out) (by decide)) hk (fun _ h=>h.2)) (fun _ h=>h.1));have n1_:=aM (KeepBut.trans (by repeat first|(with_reducible first|exact HK.out|apply KeepBut.set_|apply keep_drewN|apply keep_drew|apply keep_alloc)|exact HK.out) hk (.inl rfl));have n2_:=aM (hb);have n3_:=aM (hi);clear HO_5 HK HB HI0;have HO_5:=n0_;have HK:=n1_;have HB:=n2_;have HI0:=n3_;clear n0_ n1_ n2_ n3_;(try clear hb);(try clear hb2);(try clear hk);(try clear hi);obtain ⟨Ao21,co21,eo21⟩:=Kd.R_slice HO_5.out;subst eo21;have p113:0≤(t107:Int):=aK (by first|(with_reducible assumption)|assumption);have q113:t107<(x5_2.length:Int):=aK (by first|(with_reducible assumption)|assumption);obtain ⟨ad113,e113,hx113_0⟩:=Kd.at_int (Kd.Qg HO_5.out).2.2 t107 p113 q113;cases e113;replace p113:=eq_true p113;replace q113:=eq_true q113;have p114:0≤(t110:Int):=aK (by first|(with_reducible assumption)|assumption);have q114:t110<(x5_2.length:Int):=aK (by first|(with_reducible assumption)|assumption);obtain ⟨ad114,e114,hx114_0⟩:=Kd.at_int (Kd.Qg HO_5.out).2.2 t110 p114 q114;obtain rfl:ad113=ad114:=(by injection e114);replace p114:=eq_true p114;replace q114:=eq_true q114;have p17:0≤(t107:Int):=aK (by first|(with_reducible assumption)|assumption);have q17:(t107:Int)<((x5_2.length:Int):Int):=aK (by first|(with_reducible assumption)|assumption);obtain ⟨go17,co17,eo17,gb17,gl17,cl17,HG17⟩:=Kd.R_form HO_5.out (by omega);(first|cases eo17|(injection eo17 with ea_ en_ ec_;(first|subst ea_|(injection ea_ with ea_;subst ea_));subst ec_;clear en_));have GB17:=aM gb17;have GG17:=aM HG17;clear gb17 gl17 HG17;(first|simp only [add_plain] at hx113_0|skip);(first|simp only [add_plain] at hx114_0|skip);obtain ⟨hx17_0,hf17_0⟩:=Kd.R_celln 0 HO_5.out (t107:Int) p17 q17;replace p17:=eq_true p17;replace q17:=eq_true q17;obtain ⟨hy22_,hz22_⟩:=Kd.R_celln 0 HO_5.out (t107:Int) (aK (by first|(with_reducible assumption)|assumption)) (aK (by first|(with_reducible assumption)|assumption));have HP22:=Kd.R_putg HO_5.out (t107:Int) (rd x5_2 t110))|((with_reducible refine gate_store (t:=3) (p:=46) rfl ?_);refine store_event (t:=3) (p:=46) (v:=?vo_w23) (w1:=(w20.setCell ⟨go17,(t107:Int).toNat,none⟩ (.int .i64 (rd x5_2 t110)))) ?hg ?ho ?hn ?hr ?_;(case ho=>rfl);(case hg=>rfl);(case hn=>rfl);(case hr=>first|(go_simp;done)|(go_simp;rfl));intro w23 hw;have hg:w20.grownBy w23 (some go17):=(by rw [hw];exact HP22.2);have hp_:Kd.R (Kd.int .i64) 3 w23 w.heap.size (fun _=>True) (.slice (some ⟨go17,0,none⟩) x5_2.length co21) y115:=(by rw [hw,Ny115.out];exact HP22.1);clear HP22;have n0_:=aM (hp_);have n1_:=aM (IsS135.grown (by repeat first|(with_reducible first|exact HI0.out|apply IsS135.alloc|apply IsS135.drewN|apply IsS135.drew|apply IsS135.set_1|apply IsS135.set_2)|exact HI0.out) hg (IsS135.own_ne HI0.out HO_5.out (by decide)));have n2_:=aM ((by rw [hw];exact Qf (HB.out) (Nat.le_trans HL.out GB17.out):Below w0.heap.size w0 w23));have n3_:=aM (KeepBut.trans (by repeat first|(with_reducible first|exact HK.out|apply KeepBut.set_|apply keep_drewN|apply keep_drew|apply keep_alloc)|exact HK.out) (KeepBut.of_grown hg g) (Kd.R_base2 HO_5.out));clear HO_5 HI0 HB HK;have HO_5:=n0_;have HI0:=n1_;have HB:=n2_;have HK:=n3_;clear n0_ n1_ n2_ n3_ hg hw hp_;have p18:0≤(t110:Int):=aK (by first|(with_reducible assumption)|assumption);have q18:(t110:Int)<((x5_2.length:Int):Int):=aK (by first|(with_reducible assumption)|assumption);obtain ⟨hx18_0,hf18_0⟩:=Kd.R_celln 0 HO_5.out (t110:Int) p18 q18;replace p18:=eq_true p18;replace q18:=eq_true q18;obtain ⟨hy24_,hz24_⟩:=Kd.R_celln 0 HO_5.out (t110:Int) (aK (by first|(with_reducible assumption)|assumption)) (aK (by first|(with_reducible assumption)|assumption));have HP24:=Kd.R_putg HO_5.out (t110:Int) (rd x5_2 t107))|((with_reducible refine gate_store (t:=3) (p:=50) rfl ?_);refine store_event (t:=3) (p:=50) (v:=?vo_w25) (w1:=(w23.setCell ⟨go17,(t110:Int).toNat,none⟩ (.int .i64 (rd x5_2 t107)))) ?hg ?ho ?hn ?hr ?_;(case ho=>rfl);(case hg=>rfl);(case hn=>rfl);(case hr=>first|(go_simp;done)|(go_simp;rfl));intro w25 hw;have hg:w23.grownBy w25 (some go17):=(by rw [hw];exact HP24.2);have hp_:Kd.R (Kd.int .i64) 3 w25 w.heap.size (fun _=>True) (.slice (some ⟨go17,0,none⟩) x5_2.length co21) y116:=(by rw [hw,Ny116.out];exact HP24.1);clear HP24;have n0_:=aM (hp_);have n1_:=aM (IsS135.grown (by repeat first|(with_reducible first|exact HI0.out|apply IsS135.alloc|apply IsS135.drewN|apply IsS135.drew|apply IsS135.set_1|apply IsS135.set_2)|exact HI0.out) hg (IsS135.own_ne HI0.out HO_5.out (by decide)));have n2_:=aM ((by rw [hw];exact Qf (HB.out) (Nat.le_trans HL.out GB17.out):Below w0.heap.size w0 w25));have n3_:=aM (KeepBut.trans (by repeat first|(with_reducible first|exact HK.out|apply KeepBut.set_|apply keep_drewN|apply keep_drew|apply keep_alloc)|exact HK.out) (KeepBut.of_grown hg g) (Kd.R_base2 HO_5.out));clear HO_5 HI0 HB HK;have HO_5:=n0_;have HI0:=n1_;have HB:=n2_;have HK:=n3_;clear n0_ n1_ n2_ n3_ hg hw hp_))
              go_roundg kj7
              case measure=>have:=HK1.out;have:=HK2.out;have:=HJ7.out;omega
              case rel=>exact ⟨(y116),(wrap64 (x7_2 - 1)),(t111),(t112),(by first|rfl|(simp;done)|(simp [*];done)),H',⟨by have:=HK1.out;have:=HK2.out;have:=HJ7.out;omega⟩,⟨by (with_reducible repeat first|apply Kd.Qd|apply Kd.Qe|apply Kd.R_drew);exact HO_5.out⟩,⟨by repeat (first|(with_reducible first|exact HI0.out|apply IsS135.alloc|apply IsS135.drewN|apply IsS135.drew|apply IsS135.set_1|apply IsS135.set_2)|exact HI0.out)⟩,⟨by repeat (first|(with_reducible first|exact HK.out|apply KeepBut.set_|apply keep_drewN|apply keep_drew|apply keep_alloc)|exact HK.out)⟩,⟨by repeat (first|(with_reducible first|exact HB.out|apply Qc|apply Qa|apply Qb|refine Qf ?_ (IsS135.ge HI0.out))|exact HB.out)⟩⟩
             ·rw [if_neg c16] at H;exact absurd H (by simp)
            ·rw [if_neg c15] at H;exact absurd H (by simp)
           ·rw [if_neg c14] at H;exact absurd H (by simp)
          ·rw [if_neg c13] at H;exact absurd H (by simp)
         ·replace c10:=Bool.eq_false_iff.mpr c10;subst c10;have H1:(if a1 > 0 then ((spec_l1Cur_one.f s0_0 x1001_2 x1002_2 20).bind fun bt117=>(if bt117.1=true then ((spec_l1Cur_pick.f s0_0 bt117.2.1 bt117.2.2 (wrap64 (a1+2))).bind fun bt120=>(if 0<(x5_2.length:Int) then (some ((x5_2.set (0:Int).toNat (wrap64 (bt120.1 - 1))),bt120.2.1,bt120.2.2)) else (none))) else (some (x5_2,bt117.2.1,bt117.2.2)))) else (some (x5_2,x1001_2,x1002_2)))=some (r1,r2,r3):=by rw [if_neg (show ¬ (false=true) by decide)] at H;exact H
          clear H;have H:=H1;clear H1;by_cases c26:a1 > 0
          ·rw [if_pos c26] at H;have c26b0:decide (0<a1)=true:=aL c26;clear c26;replace H:=Option.bind_eq_some_iff.mp H;obtain ⟨⟨t117,t118,t119⟩,A270,H⟩:=H;replace H:(if t117=true then ((spec_l1Cur_pick.f s0_0 t118 t119 (wrap64 (a1+2))).bind fun bt120=>(if 0<(x5_2.length:Int) then (some ((x5_2.set (0:Int).toNat (wrap64 (bt120.1 - 1))),bt120.2.1,bt120.2.2)) else (none))) else (some (x5_2,t118,t119)))=some (r1,r2,r3):=H;have A27:=aM A270;clear A270;by_cases c28:t117=true
           ·subst c28;have H1:((spec_l1Cur_pick.f s0_0 t118 t119 (wrap64 (a1+2))).bind fun bt120=>(if 0<(x5_2.length:Int) then (some ((x5_2.set (0:Int).toNat (wrap64 (bt120.1 - 1))),bt120.2.1,bt120.2.2)) else (none)))=some (r1,r2,r3):=by rw [if_pos rfl] at H;exact H
            clear H;have H:=H1;clear H1;replace H:=Option.bind_eq_some_iff.mp H;obtain ⟨⟨t120,t121,t122⟩,A290,H⟩:=H;replace H:(if 0<(x5_2.length:Int) then (some ((x5_2.set (0:Int).toNat (wrap64 (t120 - 1))),t121,t122)) else (none))=some (r1,r2,r3):=H;have A29:=aM A290;clear A290;by_cases c30:0<(x5_2.length:Int)
            ·rw [if_pos c30] at H;have c30b0:decide (0<(x5_2.length:Int))=true:=aL c30;have c30b1:decide (0<x5_2.length)=true:=aL (by omega);clear c30;obtain ⟨y123,hy123⟩:∃ y_:List Int,y_=(x5_2.set (0:Int).toNat (wrap64 (t120 - 1))):=⟨_,rfl⟩;replace H:(some (y123,t121,t122))=some (r1,r2,r3):=by first|(rw [hy123];with_reducible exact H)|(have H2_:=(Option.bind_some _ _).symm.trans H;rw [hy123];with_reducible exact H2_)|(have H2_:=(Option.bind_some _ _).symm.trans H;with_reducible exact H2_)|with_reducible exact H|(rw [hy123];exact H)|exact H
             have Ny123:=aM hy123;clear hy123;simp only [Option.some.injEq,Prod.mk.injEq] at H;obtain ⟨rfl,rfl,rfl⟩:=H;go_wp2_with (first|(go_at_call 147;(with_reducible refine (spec_l1Cur_one.calls g s0_0 x1001_2 x1002_2 20 true t118 t119 w0 _ ?side1 ?side2 A27.out).mono ?_);(case side1=>repeat first|(with_reducible first|exact HI0.out|apply IsS135.alloc|apply IsS135.drewN|apply IsS135.drew|apply IsS135.set_1|apply IsS135.set_2)|exact HI0.out);(case side2=>repeat first|(with_reducible first|exact HB.out|apply Qc|apply Qa|apply Qb|refine Qf ?_ (IsS135.ge HI0.out))|exact HB.out);rintro e w32 ⟨rfl,hi,hb,hk⟩;have n0_:=aM (Kd.R_mono (Kd.R_keep (IsS135.apart (show IsS135 w0 _ g s0_0 x1001_2 x1002_2 from by repeat first|(with_reducible first|exact HI0.out|apply IsS135.alloc|apply IsS135.drewN|apply IsS135.drew|apply IsS135.set_1|apply IsS135.set_2)|exact HI0.out) (by (with_reducible repeat first|apply Kd.Qd|apply Kd.Qe|apply Kd.R_drew);exact HO_5.out) (by decide)) hk (fun _ h=>h.2)) (fun _ h=>h.1));have n1_:=aM (KeepBut.trans (by repeat first|(with_reducible first|exact HK.out|apply KeepBut.set_|apply keep_drewN|apply keep_drew|apply keep_alloc)|exact HK.out) hk (.inl rfl));have n2_:=aM (hb);have n3_:=aM (hi);clear HO_5 HK HB HI0;have HO_5:=n0_;have HK:=n1_;have HB:=n2_;have HI0:=n3_;clear n0_ n1_ n2_ n3_;(try clear hb);(try clear hb2);(try clear hk);(try clear hi))|((with_reducible refine Qj (f:=148) rfl ?_);refine goesL_ (some 61) rfl rfl Try.func148 (by kernel_rfl) rfl #[.pointer (some ⟨g,0,none⟩),.int .i64 (wrap64 (a1+2))] rfl (by (try simp only [aD,aE,aF]);first|done|rfl|(simp only [aG,aH];rfl)) ?_;(with_reducible refine (spec_l1Cur_pick.calls g s0_0 t118 t119 (wrap64 (a1+2)) t120 t121 t122 w0 _ ?side1 ?side2 A29.out).mono ?_);(case side1=>repeat first|(with_reducible first|exact HI0.out|apply IsS135.alloc|apply IsS135.drewN|apply IsS135.drew|apply IsS135.set_1|apply IsS135.set_2)|exact HI0.out);(case side2=>repeat first|(with_reducible first|exact HB.out|apply Qc|apply Qa|apply Qb|refine Qf ?_ (IsS135.ge HI0.out))|exact HB.out);rintro e w33 ⟨rfl,hi,hb,hk⟩;refine ⟨_,rfl,?_⟩;have n0_:=aM (Kd.R_mono (Kd.R_keep (IsS135.apart (show IsS135 w0 _ g s0_0 t118 t119 from by repeat first|(with_reducible first|exact HI0.out|apply IsS135.alloc|apply IsS135.drewN|apply IsS135.drew|apply IsS135.set_1|apply IsS135.set_2)|exact HI0.out) (by (with_reducible repeat first|apply Kd.Qd|apply Kd.Qe|apply Kd.R_drew);exact HO_5.out) (by decide)) hk (fun _ h=>h.2)) (fun _ h=>h.1));have n1_:=aM (KeepBut.trans (by repeat first|(with_reducible first|exact HK.out|apply KeepBut.set_|apply keep_drewN|apply keep_drew|apply keep_alloc)|exact HK.out) hk (.inl rfl));have n2_:=aM (hb);have n3_:=aM (hi);clear HO_5 HK HB HI0;have HO_5:=n0_;have HK:=n1_;have HB:=n2_;have HI0:=n3_;clear n0_ n1_ n2_ n3_;(try clear hb);(try clear hb2);(try clear hk);(try clear hi);have p31:0≤(0:Int):=(by omega);have q31:(0:Int)<((x5_2.length:Int):Int):=aK (by first|(with_reducible assumption)|assumption);have qi31:(0<x5_2.length)=True:=eq_true (by omega);obtain ⟨go31,co31,eo31,gb31,gl31,cl31,HG31⟩:=Kd.R_form HO_5.out (by omega);(first|cases eo31|(injection eo31 with ea_ en_ ec_;(first|subst ea_|(injection ea_ with ea_;subst ea_));subst ec_;clear en_));have GB31:=aM gb31;have GG31:=aM HG31;clear gb31 gl31 HG31;obtain ⟨hx31_0,hf31_0⟩:=Kd.R_celln 0 HO_5.out (0:Int) p31 q31;(try rw [show ((0:Int)).toNat=0 from rfl] at hx31_0);(try simp only [Nat.reduceMul,Nat.zero_mul,Nat.zero_add,Nat.reduceAdd] at hx31_0);(try rw [show ((0:Int)).toNat=0 from rfl] at hf31_0);(try simp only [Nat.reduceMul,Nat.zero_mul,Nat.zero_add,Nat.reduceAdd] at hf31_0);replace p31:=eq_true p31;replace q31:=eq_true q31;obtain ⟨hy34_,hz34_⟩:=Kd.R_celln 0 HO_5.out (0:Int) (by omega) (aK (by first|(with_reducible assumption)|assumption));(try simp only [Int.reduceToNat,Int.toNat_zero,Int.toNat_ofNat,Nat.reduceMul,Nat.zero_mul,Nat.zero_add] at hy34_ hz34_);(try rw [show ((0:Int)).toNat=0 from rfl] at hy34_);(try rw [show ((0:Int)).toNat=0 from rfl] at hz34_);have HP34:=Kd.R_putg HO_5.out (0:Int) (wrap64 (t120 - 1)))|((with_reducible refine gate_store (t:=3) (p:=63) rfl ?_);refine store_event (t:=3) (p:=63) (v:=?vo_w35) (w1:=(w33.setCell ⟨go31,(0:Int).toNat,none⟩ (.int .i64 (wrap64 (t120 - 1))))) ?hg ?ho ?hn ?hr ?_;(case ho=>rfl);(case hg=>rfl);(case hn=>rfl);(case hr=>first|(go_simp;done)|(go_simp;rfl));intro w35 hw;have hg:w33.grownBy w35 (some go31):=(by rw [hw];exact HP34.2);have hp_:Kd.R (Kd.int .i64) 3 w35 w.heap.size (fun _=>True) (.slice (some ⟨go31,0,none⟩) x5_2.length co31) y123:=(by rw [hw,Ny123.out];exact HP34.1);clear HP34;have n0_:=aM (hp_);have n1_:=aM (IsS135.grown (by repeat first|(with_reducible first|exact HI0.out|apply IsS135.alloc|apply IsS135.drewN|apply IsS135.drew|apply IsS135.set_1|apply IsS135.set_2)|exact HI0.out) hg (IsS135.own_ne HI0.out HO_5.out (by decide)));have n2_:=aM ((by rw [hw];exact Qf (HB.out) (Nat.le_trans HL.out GB31.out):Below w0.heap.size w0 w35));have n3_:=aM (KeepBut.trans (by repeat first|(with_reducible first|exact HK.out|apply KeepBut.set_|apply keep_drewN|apply keep_drew|apply keep_alloc)|exact HK.out) (KeepBut.of_grown hg g) (Kd.R_base2 HO_5.out));clear HO_5 HI0 HB HK;have HO_5:=n0_;have HI0:=n1_;have HB:=n2_;have HK:=n3_;clear n0_ n1_ n2_ n3_ hg hw hp_))
             go_ret
             exact ⟨_,by first|rfl|(simp [errW_none,errW_some] <;> rfl)|(simp [*,errW_none,errW_some] <;> rfl),by (with_reducible repeat first|apply Kd.Qd|apply Kd.Qe|apply Kd.R_drew);exact HO_5.out,by repeat (first|(with_reducible first|exact HI0.out|apply IsS135.alloc|apply IsS135.drewN|apply IsS135.drew|apply IsS135.set_1|apply IsS135.set_2)|exact HI0.out),by repeat (first|(with_reducible first|exact HB.out|apply Qc|apply Qa|apply Qb|refine Qf ?_ (IsS135.ge HI0.out))|exact HB.out),by repeat (first|(with_reducible first|exact HK.out|apply KeepBut.set_|apply keep_drewN|apply keep_drew|apply keep_alloc)|exact HK.out)⟩
            ·rw [if_neg c30] at H;exact absurd H (by simp)
           ·replace c28:=Bool.eq_false_iff.mpr c28;subst c28;have H1:(some (x5_2,t118,t119))=some (r1,r2,r3):=by rw [if_neg (show ¬ (false=true) by decide)] at H;exact H
            clear H;have H:=H1;clear H1;simp only [Option.some.injEq,Prod.mk.injEq] at H;obtain ⟨rfl,rfl,rfl⟩:=H;go_wp2_with (first|(go_at_call 147;(with_reducible refine (spec_l1Cur_one.calls g s0_0 x1001_2 x1002_2 20 false t118 t119 w0 _ ?side1 ?side2 A27.out).mono ?_);(case side1=>repeat first|(with_reducible first|exact HI0.out|apply IsS135.alloc|apply IsS135.drewN|apply IsS135.drew|apply IsS135.set_1|apply IsS135.set_2)|exact HI0.out);(case side2=>repeat first|(with_reducible first|exact HB.out|apply Qc|apply Qa|apply Qb|refine Qf ?_ (IsS135.ge HI0.out))|exact HB.out);rintro e w36 ⟨rfl,hi,hb,hk⟩;have n0_:=aM (Kd.R_mono (Kd.R_keep (IsS135.apart (show IsS135 w0 _ g s0_0 x1001_2 x1002_2 from by repeat first|(with_reducible first|exact HI0.out|apply IsS135.alloc|apply IsS135.drewN|apply IsS135.drew|apply IsS135.set_1|apply IsS135.set_2)|exact HI0.out) (by (with_reducible repeat first|apply Kd.Qd|apply Kd.Qe|apply Kd.R_drew);exact HO_5.out) (by decide)) hk (fun _ h=>h.2)) (fun _ h=>h.1));have n1_:=aM (KeepBut.trans (by repeat first|(with_reducible first|exact HK.out|apply KeepBut.set_|apply keep_drewN|apply keep_drew|apply keep_alloc)|exact HK.out) hk (.inl rfl));have n2_:=aM (hb);have n3_:=aM (hi);clear HO_5 HK HB HI0;have HO_5:=n0_;have HK:=n1_;have HB:=n2_;have HI0:=n3_;clear n0_ n1_ n2_ n3_;(try clear hb);(try clear hb2);(try clear hk);(try clear hi)))
            go_ret
            exact ⟨_,by first|rfl|(simp [errW_none,errW_some] <;> rfl)|(simp [*,errW_none,errW_some] <;> rfl),by (with_reducible repeat first|apply Kd.Qd|apply Kd.Qe|apply Kd.R_drew);exact HO_5.out,by repeat (first|(with_reducible first|exact HI0.out|apply IsS135.alloc|apply IsS135.drewN|apply IsS135.drew|apply IsS135.set_1|apply IsS135.set_2)|exact HI0.out),by repeat (first|(with_reducible first|exact HB.out|apply Qc|apply Qa|apply Qb|refine Qf ?_ (IsS135.ge HI0.out))|exact HB.out),by repeat (first|(with_reducible first|exact HK.out|apply KeepBut.set_|apply keep_drewN|apply keep_drew|apply keep_alloc)|exact HK.out)⟩
          ·rw [if_neg c26] at H;have c26b0:decide (0<a1)=false:=aN c26;clear c26;simp only [Option.some.injEq,Prod.mk.injEq] at H;obtain ⟨rfl,rfl,rfl⟩:=H;go_wp2
           go_ret
           exact ⟨_,by first|rfl|(simp [errW_none,errW_some] <;> rfl)|(simp [*,errW_none,errW_some] <;> rfl),by (with_reducible repeat first|apply Kd.Qd|apply Kd.Qe|apply Kd.R_drew);exact HO_5.out,by repeat (first|(with_reducible first|exact HI0.out|apply IsS135.alloc|apply IsS135.drewN|apply IsS135.drew|apply IsS135.set_1|apply IsS135.set_2)|exact HI0.out),by repeat (first|(with_reducible first|exact HB.out|apply Qc|apply Qa|apply Qb|refine Qf ?_ (IsS135.ge HI0.out))|exact HB.out),by repeat (first|(with_reducible first|exact HK.out|apply KeepBut.set_|apply keep_drewN|apply keep_drew|apply keep_alloc)|exact HK.out)⟩

def spec_l1Cur_among.f (s0_0:List Int) (s0_1:Int) (s0_2:Int) (l1:List Int):Option (Int×Int×Int):=(spec_l1Cur_pick.f s0_0 s0_1 s0_2 (l1.length:Int)).bind fun bt101=>(if 0≤bt101.1 then (if bt101.1<(l1.length:Int) then (some (rd l1 bt101.1,bt101.2.1,bt101.2.2)) else (none)) else (none))
set_option maxHeartbeats 8000000 in
set_option maxRecDepth 100000 in
theorem spec_l1Cur_among.calls (g:Nat) (s0_0:List Int) (s0_1:Int) (s0_2:Int) (A1:Option Addr) (c1:Nat) (l1:List Int) (r1:Int) (r2:Int) (r3:Int) (w0 w:World) (hI:IsS135 w0 w g s0_0 s0_1 s0_2) (hB:Below w0.heap.size w0 w) (hr1:Kd.C (Kd.int .i64) w A1 l1.length l1) (hc1:l1.length≤c1) (hf1:∀ ad,A1=some ad→0<l1.length→ad.block≠g) (h:spec_l1Cur_among.f s0_0 s0_1 s0_2 l1=some (r1,r2,r3)) :
    Calls Try.prog 167 #[.pointer (some ⟨g,0,none⟩),.slice A1 l1.length c1] w fun e w'=>e= .returned (.int .i64 r1)∧IsS135 w0 w' g s0_0 r2 r3∧Below w0.heap.size w0 w'∧KeepBut w w' g none:=by
  have HR1:=aM hr1;have HC1:=aM hc1;clear hr1 hc1;have HI0:=aM hI;have HK:=aM (KeepBut.refl w g none);have HL:=aM hB.size;clear hI;have HW0:=aM hB.size;have HB:=aM hB;clear hB;have H:((spec_l1Cur_pick.f s0_0 s0_1 s0_2 (l1.length:Int)).bind fun bt101=>(if 0≤bt101.1 then (if bt101.1<(l1.length:Int) then (some (rd l1 bt101.1,bt101.2.1,bt101.2.2)) else (none)) else (none)))=some (r1,r2,r3):=h;clear h;replace H:=Option.bind_eq_some_iff.mp H;obtain ⟨⟨t101,t102,t103⟩,A30,H⟩:=H;replace H:(if 0≤t101 then (if t101<(l1.length:Int) then (some (rd l1 t101,t102,t103)) else (none)) else (none))=some (r1,r2,r3):=H;have A3:=aM A30;clear A30;by_cases c4:0≤t101
  ·rw [if_pos c4] at H;have c4b0:decide (0≤t101)=true:=aL c4;clear c4;by_cases c5:t101<(l1.length:Int)
   ·rw [if_pos c5] at H;have c5b0:decide (t101<(l1.length:Int))=true:=aL c5;clear c5;simp only [Option.some.injEq,Prod.mk.injEq] at H;obtain ⟨rfl,rfl,rfl⟩:=H;go_enter Try.func167,Try.ntmps167;go_wp2_with (first|((with_reducible refine Qj (f:=148) rfl ?_);refine goesL_ (some 9) rfl rfl Try.func148 (by kernel_rfl) rfl #[.pointer (some ⟨g,0,none⟩),.int .i64 (l1.length:Int)] rfl (by (try simp only [aD,aE,aF]);first|done|rfl|(simp only [aG,aH];rfl)) ?_;(with_reducible refine (spec_l1Cur_pick.calls g s0_0 s0_1 s0_2 (l1.length:Int) t101 t102 t103 w0 _ ?side1 ?side2 A3.out).mono ?_);(case side1=>repeat first|(with_reducible first|exact HI0.out|apply IsS135.alloc|apply IsS135.drewN|apply IsS135.drew|apply IsS135.set_1|apply IsS135.set_2)|exact HI0.out);(case side2=>repeat first|(with_reducible first|exact HB.out|apply Qc|apply Qa|apply Qb|refine Qf ?_ (IsS135.ge HI0.out))|exact HB.out);rintro e w6 ⟨rfl,hi,hb,hk⟩;refine ⟨_,rfl,?_⟩;have n0_:=aM (KeepBut.trans (by repeat first|(with_reducible first|exact HK.out|apply KeepBut.set_|apply keep_drewN|apply keep_drew|apply keep_alloc)|exact HK.out) hk (.inl rfl));have n1_:=aM (hb);have n2_:=aM (hi);clear HK HB HI0;have HK:=n0_;have HB:=n1_;have HI0:=n2_;clear n0_ n1_ n2_;(try clear hb);(try clear hb2);(try clear hk);(try clear hi);have p104:0≤(t101:Int):=aK (by first|(with_reducible assumption)|assumption);have q104:t101<(l1.length:Int):=aK (by first|(with_reducible assumption)|assumption);obtain ⟨ad104,e104,hx104_0⟩:=Kd.at_int HR1.out t101 p104 q104;cases e104;replace hx104_0:=keep_cell HK.out hx104_0 (by first|(rw [add_block];exact hf1 _ rfl (by omega))|exact hf1 _ rfl (by omega)|exact hf1 ad104 rfl (by omega));replace p104:=eq_true p104;replace q104:=eq_true q104))
    go_ret
    exact ⟨by first|rfl|(simp [errW_none,errW_some] <;> rfl)|(simp [*,errW_none,errW_some] <;> rfl),by repeat (first|(with_reducible first|exact HI0.out|apply IsS135.alloc|apply IsS135.drewN|apply IsS135.drew|apply IsS135.set_1|apply IsS135.set_2)|exact HI0.out),by repeat (first|(with_reducible first|exact HB.out|apply Qc|apply Qa|apply Qb|refine Qf ?_ (IsS135.ge HI0.out))|exact HB.out),by repeat (first|(with_reducible first|exact HK.out|apply KeepBut.set_|apply keep_drewN|apply keep_drew|apply keep_alloc)|exact HK.out)⟩
   ·rw [if_neg c5] at H;exact absurd H (by simp)
  ·rw [if_neg c4] at H;exact absurd H (by simp)

mutual
def spec_l1Cur_ways.j0:Nat→List Int→List Int→Int→List Int→Int→Int→Option (List Int×List Int×Int×Int)
  |0,_,_,_,_,_,_=>none
  |k+1,x4,x5,x6,x1000,x1001,x1002=>spec_l1Cur_ways.l0 k x4 x5 x6 x1000 x1001 x1002
def spec_l1Cur_ways.l0:Nat→List Int→List Int→Int→List Int→Int→Int→Option (List Int×List Int×Int×Int)
  |0,_,_,_,_,_,_=>none
  |k+1,x4,x5,x6,x1000,x1001,x1002=>if x6 > 0 then ((spec_l1Cur_pick.f x1000 x1001 x1002 12).bind fun bt110=>(if x4.length<17592186044416 then ((spec_l1Cur_pick.f x1000 bt110.2.1 bt110.2.2 12).bind fun bt116=>(if x5.length<17592186044416 then (spec_l1Cur_ways.l0 k (x4 ++ [bt110.1]) (x5 ++ [bt116.1]) (wrap64 (x6 - 1)) x1000 bt116.2.1 bt116.2.2) else (none))) else (none))) else (if (x4.length:Int) > 0 then ((spec_l1Cur_one.f x1000 x1001 x1002 30).bind fun bt122=>(if bt122.1=true then ((spec_l1Cur_among.f x1000 bt122.2.1 bt122.2.2 (([(-1),1000,1001]:List Int))).bind fun bt128=>(if 0<(x4.length:Int) then (some ((x4.set (0:Int).toNat bt128.1),x5,bt128.2.1,bt128.2.2)) else (none))) else (some (x4,x5,bt122.2.1,bt122.2.2)))) else (some (x4,x5,x1001,x1002)))
end
def spec_l1Cur_ways.f (k:Nat) (s0_0:List Int) (s0_1:Int) (s0_2:Int):Option (List Int×List Int×Int×Int):=(spec_l1Cur_pick.f s0_0 s0_1 s0_2 7).bind fun bt101=>((spec_l1Cur_one.f s0_0 bt101.2.1 bt101.2.2 20).bind fun bt104=>(if bt104.1=true then ((spec_l1Cur_pick.f s0_0 bt104.2.1 bt104.2.2 2).bind fun bt107=>(spec_l1Cur_ways.j0 k ([]:List Int) ([]:List Int) (wrap64 (10+bt107.1)) s0_0 bt107.2.1 bt107.2.2)) else (spec_l1Cur_ways.j0 k ([]:List Int) ([]:List Int) bt101.1 s0_0 bt104.2.1 bt104.2.2)))
set_option maxHeartbeats 8000000 in
set_option maxRecDepth 100000 in
theorem spec_l1Cur_ways.calls (k:Nat) (g:Nat) (s0_0:List Int) (s0_1:Int) (s0_2:Int) (r1:List Int) (r2:List Int) (r3:Int) (r4:Int) (w0 w:World) (hI:IsS135 w0 w g s0_0 s0_1 s0_2) (hB:Below w0.heap.size w0 w) (h:spec_l1Cur_ways.f k s0_0 s0_1 s0_2=some (r1,r2,r3,r4)) :
    Calls Try.prog 200 #[.pointer (some ⟨g,0,none⟩)] w fun e w'=>∃ v0_ v1_:Value,e= .returned (.tuple #[v0_,v1_])∧Kd.R (Kd.int .i64) 3 w' w.heap.size (fun k_=>some k_≠(v1_:Value).ownBlock) v0_ r1∧Kd.R (Kd.int .i64) 3 w' w.heap.size (fun k_=>some k_≠(v0_:Value).ownBlock) v1_ r2∧IsS135 w0 w' g s0_0 r3 r4∧Below w0.heap.size w0 w'∧KeepBut w w' g none:=by
  have HI0:=aM hI;have HK:=aM (KeepBut.refl w g none);have HL:=aM hB.size;clear hI;have HW0:=aM hB.size;have HB:=aM hB;clear hB;have H:((spec_l1Cur_pick.f s0_0 s0_1 s0_2 7).bind fun bt101=>((spec_l1Cur_one.f s0_0 bt101.2.1 bt101.2.2 20).bind fun bt104=>(if bt104.1=true then ((spec_l1Cur_pick.f s0_0 bt104.2.1 bt104.2.2 2).bind fun bt107=>(spec_l1Cur_ways.j0 k ([]:List Int) ([]:List Int) (wrap64 (10+bt107.1)) s0_0 bt107.2.1 bt107.2.2)) else (spec_l1Cur_ways.j0 k ([]:List Int) ([]:List Int) bt101.1 s0_0 bt104.2.1 bt104.2.2))))=some (r1,r2,r3,r4):=h;clear h;replace H:=Option.bind_eq_some_iff.mp H;obtain ⟨⟨t101,t102,t103⟩,A20,H⟩:=H;replace H:((spec_l1Cur_one.f s0_0 t102 t103 20).bind fun bt104=>(if bt104.1=true then ((spec_l1Cur_pick.f s0_0 bt104.2.1 bt104.2.2 2).bind fun bt107=>(spec_l1Cur_ways.j0 k ([]:List Int) ([]:List Int) (wrap64 (10+bt107.1)) s0_0 bt107.2.1 bt107.2.2)) else (spec_l1Cur_ways.j0 k ([]:List Int) ([]:List Int) t101 s0_0 bt104.2.1 bt104.2.2)))=some (r1,r2,r3,r4):=H;have A2:=aM A20;clear A20;replace H:=Option.bind_eq_some_iff.mp H;obtain ⟨⟨t104,t105,t106⟩,A30,H⟩:=H;replace H:(if t104=true then ((spec_l1Cur_pick.f s0_0 t105 t106 2).bind fun bt107=>(spec_l1Cur_ways.j0 k ([]:List Int) ([]:List Int) (wrap64 (10+bt107.1)) s0_0 bt107.2.1 bt107.2.2)) else (spec_l1Cur_ways.j0 k ([]:List Int) ([]:List Int) t101 s0_0 t105 t106))=some (r1,r2,r3,r4):=H;have A3:=aM A30;clear A30;have HC4:=aM H;clear H;go_enter Try.func200,Try.ntmps200
  go_upto_if 10 with (first|((with_reducible refine Qj (f:=148) rfl ?_);refine goesL_ (some 8) rfl rfl Try.func148 (by kernel_rfl) rfl #[.pointer (some ⟨g,0,none⟩),.int .i64 7] rfl (by (try simp only [aD,aE,aF]);first|done|rfl|(simp only [aG,aH];rfl)) ?_;(with_reducible refine (spec_l1Cur_pick.calls g s0_0 s0_1 s0_2 7 t101 t102 t103 w0 _ ?side1 ?side2 A2.out).mono ?_);(case side1=>repeat first|(with_reducible first|exact HI0.out|apply IsS135.alloc|apply IsS135.drewN|apply IsS135.drew|apply IsS135.set_1|apply IsS135.set_2)|exact HI0.out);(case side2=>repeat first|(with_reducible first|exact HB.out|apply Qc|apply Qa|apply Qb|refine Qf ?_ (IsS135.ge HI0.out))|exact HB.out);rintro e w5 ⟨rfl,hi,hb,hk⟩;refine ⟨_,rfl,?_⟩;have n0_:=aM (KeepBut.trans (by repeat first|(with_reducible first|exact HK.out|apply KeepBut.set_|apply keep_drewN|apply keep_drew|apply keep_alloc)|exact HK.out) hk (.inl rfl));have n1_:=aM (hb);have n2_:=aM (hi);clear HK HB HI0;have HK:=n0_;have HB:=n1_;have HI0:=n2_;clear n0_ n1_ n2_;(try clear hb);(try clear hb2);(try clear hk);(try clear hi))|((with_reducible refine Qj (f:=147) rfl ?_);refine goesL_ (some 10) rfl rfl Try.func147 (by kernel_rfl) rfl #[.pointer (some ⟨g,0,none⟩),.int .i64 20] rfl (by (try simp only [aD,aE,aF]);first|done|rfl|(simp only [aG,aH];rfl)) ?_;(with_reducible refine (spec_l1Cur_one.calls g s0_0 t102 t103 20 t104 t105 t106 w0 _ ?side1 ?side2 A3.out).mono ?_);(case side1=>repeat first|(with_reducible first|exact HI0.out|apply IsS135.alloc|apply IsS135.drewN|apply IsS135.drew|apply IsS135.set_1|apply IsS135.set_2)|exact HI0.out);(case side2=>repeat first|(with_reducible first|exact HB.out|apply Qc|apply Qa|apply Qb|refine Qf ?_ (IsS135.ge HI0.out))|exact HB.out);rintro e w6 ⟨rfl,hi,hb,hk⟩;refine ⟨_,rfl,?_⟩;have n0_:=aM (KeepBut.trans (by repeat first|(with_reducible first|exact HK.out|apply KeepBut.set_|apply keep_drewN|apply keep_drew|apply keep_alloc)|exact HK.out) hk (.inl rfl));have n1_:=aM (hb);have n2_:=aM (hi);clear HK HB HI0;have HK:=n0_;have HB:=n1_;have HI0:=n2_;clear n0_ n1_ n2_;(try clear hb);(try clear hb2);(try clear hk);(try clear hi)))
  (try simp only [Act.put,aA,aB,aC])
  go_cut [6] (fun v6 wc=>∃ (kq:Nat) (x6_3:Int) (x1001_3:Int) (x1002_3:Int),v6= .int .i64 x6_3∧Aside0 (spec_l1Cur_ways.j0 kq ([]:List Int) ([]:List Int) x6_3 s0_0 x1001_3 x1002_3=some (r1,r2,r3,r4))∧Aside0 (kq≤k)∧Aside0 (Kd.R (Kd.int .i64) 3 wc w.heap.size (fun k_=>some k_≠((.slice none 0 0):Value).ownBlock) (.slice none 0 0) ([]:List Int))∧Aside0 (Kd.R (Kd.int .i64) 3 wc w.heap.size (fun k_=>some k_≠((.slice none 0 0):Value).ownBlock) (.slice none 0 0) ([]:List Int))∧Aside0 (IsS135 w0 wc g s0_0 x1001_3 x1002_3)∧Aside0 (KeepBut w wc g none)∧Aside0 (Below w0.heap.size w0 wc))
  case first=>
   have H:=HC4.out;clear HC4;by_cases c7:t104=true
   ·subst c7;have H1:((spec_l1Cur_pick.f s0_0 t105 t106 2).bind fun bt107=>(spec_l1Cur_ways.j0 k ([]:List Int) ([]:List Int) (wrap64 (10+bt107.1)) s0_0 bt107.2.1 bt107.2.2))=some (r1,r2,r3,r4):=by rw [if_pos rfl] at H;exact H
    clear H;have H:=H1;clear H1;replace H:=Option.bind_eq_some_iff.mp H;obtain ⟨⟨t107,t108,t109⟩,A80,H⟩:=H;replace H:(spec_l1Cur_ways.j0 k ([]:List Int) ([]:List Int) (wrap64 (10+t107)) s0_0 t108 t109)=some (r1,r2,r3,r4):=H;have A8:=aM A80;clear A80;have H':=aM H;clear H;go_wp2_with (first|((with_reducible refine Qj (f:=148) rfl ?_);refine goesL_ (some 12) rfl rfl Try.func148 (by kernel_rfl) rfl #[.pointer (some ⟨g,0,none⟩),.int .i64 2] rfl (by (try simp only [aD,aE,aF]);first|done|rfl|(simp only [aG,aH];rfl)) ?_;(with_reducible refine (spec_l1Cur_pick.calls g s0_0 t105 t106 2 t107 t108 t109 w0 _ ?side1 ?side2 A8.out).mono ?_);(case side1=>repeat first|(with_reducible first|exact HI0.out|apply IsS135.alloc|apply IsS135.drewN|apply IsS135.drew|apply IsS135.set_1|apply IsS135.set_2)|exact HI0.out);(case side2=>repeat first|(with_reducible first|exact HB.out|apply Qc|apply Qa|apply Qb|refine Qf ?_ (IsS135.ge HI0.out))|exact HB.out);rintro e w9 ⟨rfl,hi,hb,hk⟩;refine ⟨_,rfl,?_⟩;have n0_:=aM (KeepBut.trans (by repeat first|(with_reducible first|exact HK.out|apply KeepBut.set_|apply keep_drewN|apply keep_drew|apply keep_alloc)|exact HK.out) hk (.inl rfl));have n1_:=aM (hb);have n2_:=aM (hi);clear HK HB HI0;have HK:=n0_;have HB:=n1_;have HI0:=n2_;clear n0_ n1_ n2_;(try clear hb);(try clear hb2);(try clear hk);(try clear hi)))
    go_meet
    case rel=>exact ⟨_,(wrap64 (10+t107)),(t108),(t109),(by first|rfl|(simp;done)|(simp [*];done)),H',⟨by first|omega|exact Nat.le_refl _⟩,⟨by first|exact Kd.R_nil _ _ _ _ _|exact Kd.N_nil _ _ _ _ _|exact Kd.V_nil _ _ _ _ _|exact Kd.Q_nil _ _ _ _ _|exact Kd.S_nil _ _ _ _ _⟩,⟨by first|exact Kd.R_nil _ _ _ _ _|exact Kd.N_nil _ _ _ _ _|exact Kd.V_nil _ _ _ _ _|exact Kd.Q_nil _ _ _ _ _|exact Kd.S_nil _ _ _ _ _⟩,⟨by repeat (first|(with_reducible first|exact HI0.out|apply IsS135.alloc|apply IsS135.drewN|apply IsS135.drew|apply IsS135.set_1|apply IsS135.set_2)|exact HI0.out)⟩,⟨by repeat (first|(with_reducible first|exact HK.out|apply KeepBut.set_|apply keep_drewN|apply keep_drew|apply keep_alloc)|exact HK.out)⟩,⟨by repeat (first|(with_reducible first|exact HB.out|apply Qc|apply Qa|apply Qb|refine Qf ?_ (IsS135.ge HI0.out))|exact HB.out)⟩⟩
   ·replace c7:=Bool.eq_false_iff.mpr c7;subst c7;have H1:(spec_l1Cur_ways.j0 k ([]:List Int) ([]:List Int) t101 s0_0 t105 t106)=some (r1,r2,r3,r4):=by rw [if_neg (show ¬ (false=true) by decide)] at H;exact H
    clear H;have H:=H1;clear H1;have H':=aM H;clear H;go_wp2
    go_meet
    case rel=>exact ⟨_,(t101),(t105),(t106),(by first|rfl|(simp;done)|(simp [*];done)),H',⟨by first|omega|exact Nat.le_refl _⟩,⟨by first|exact Kd.R_nil _ _ _ _ _|exact Kd.N_nil _ _ _ _ _|exact Kd.V_nil _ _ _ _ _|exact Kd.Q_nil _ _ _ _ _|exact Kd.S_nil _ _ _ _ _⟩,⟨by first|exact Kd.R_nil _ _ _ _ _|exact Kd.N_nil _ _ _ _ _|exact Kd.V_nil _ _ _ _ _|exact Kd.Q_nil _ _ _ _ _|exact Kd.S_nil _ _ _ _ _⟩,⟨by repeat (first|(with_reducible first|exact HI0.out|apply IsS135.alloc|apply IsS135.drewN|apply IsS135.drew|apply IsS135.set_1|apply IsS135.set_2)|exact HI0.out)⟩,⟨by repeat (first|(with_reducible first|exact HK.out|apply KeepBut.set_|apply keep_drewN|apply keep_drew|apply keep_alloc)|exact HK.out)⟩,⟨by repeat (first|(with_reducible first|exact HB.out|apply Qc|apply Qa|apply Qb|refine Qf ?_ (IsS135.ge HI0.out))|exact HB.out)⟩⟩
  case rest=>
   clear HC4;(try clear c1);(try clear c2);(try clear p2);(try clear p6);(try clear c7);obtain ⟨kq,x6_3,x1001_3,x1002_3,rfl,HA,HJ3,HO_4,HO_5,HI0,HK,HB⟩:=hcut
   cases kq with
   |zero=>exact absurd HA.out (by simp [spec_l1Cur_ways.j0])
   |succ kj3=>
    have H:=HA.out;clear HA;simp only [spec_l1Cur_ways.j0] at H;have H':=aM H;clear H;go_wp2;go_loopg [4,5,6] kj3 (fun kq v4 v5 v6 w'=>∃ (x4_2:List Int) (x5_2:List Int) (x6_2:Int) (x1001_2:Int) (x1002_2:Int),v6= .int .i64 x6_2∧Aside0 (spec_l1Cur_ways.l0 kq x4_2 x5_2 x6_2 s0_0 x1001_2 x1002_2=some (r1,r2,r3,r4))∧Aside0 (kq≤kj3)∧Aside0 (Kd.R (Kd.int .i64) 3 w' w.heap.size (fun k_=>some k_≠(v5:Value).ownBlock) v4 x4_2)∧Aside0 (Kd.R (Kd.int .i64) 3 w' w.heap.size (fun k_=>some k_≠(v4:Value).ownBlock) v5 x5_2)∧Aside0 (IsS135 w0 w' g s0_0 x1001_2 x1002_2)∧Aside0 (KeepBut w w' g none)∧Aside0 (Below w0.heap.size w0 w'))
    case atStart=>exact ⟨(([]:List Int)),(([]:List Int)),(x6_3),(x1001_3),(x1002_3),(by first|rfl|(simp;done)|(simp [*];done)),H',⟨Nat.le_refl _⟩,⟨by (with_reducible repeat first|apply Kd.Qd|apply Kd.Qe|apply Kd.R_drew);exact HO_4.out⟩,⟨by (with_reducible repeat first|apply Kd.Qd|apply Kd.Qe|apply Kd.R_drew);exact HO_5.out⟩,⟨by repeat (first|(with_reducible first|exact HI0.out|apply IsS135.alloc|apply IsS135.drewN|apply IsS135.drew|apply IsS135.set_1|apply IsS135.set_2)|exact HI0.out)⟩,⟨by repeat (first|(with_reducible first|exact HK.out|apply KeepBut.set_|apply keep_drewN|apply keep_drew|apply keep_alloc)|exact HK.out)⟩,⟨by repeat (first|(with_reducible first|exact HB.out|apply Qc|apply Qa|apply Qb|refine Qf ?_ (IsS135.ge HI0.out))|exact HB.out)⟩⟩
    case round=>
     clear H';(try clear c1);(try clear c2);(try clear p2);(try clear p6);(try clear c7);(try clear p2);(try clear p6);obtain ⟨x4_2,x5_2,x6_2,x1001_2,x1002_2,rfl,HA,HK2,HO_4,HO_5,HI0,HK,HB⟩:=hrel
     cases gk with
     |zero=>exact absurd HA.out (by simp [spec_l1Cur_ways.l0])
     |succ k2=>
      have H:=HA.out;clear HA;simp only [spec_l1Cur_ways.l0] at H;by_cases c10:x6_2 > 0
      ·rw [if_pos c10] at H;have c10b0:decide (0<x6_2)=true:=aL c10;clear c10;replace H:=Option.bind_eq_some_iff.mp H;obtain ⟨⟨t110,t111,t112⟩,A110,H⟩:=H;replace H:(if x4_2.length<17592186044416 then ((spec_l1Cur_pick.f s0_0 t111 t112 12).bind fun bt116=>(if x5_2.length<17592186044416 then (spec_l1Cur_ways.l0 k2 (x4_2 ++ [t110]) (x5_2 ++ [bt116.1]) (wrap64 (x6_2 - 1)) s0_0 bt116.2.1 bt116.2.2) else (none))) else (none))=some (r1,r2,r3,r4):=H;have A11:=aM A110;clear A110;by_cases c12:x4_2.length<17592186044416
       ·rw [if_pos c12] at H;have LMc12:=aM c12;clear c12;obtain ⟨y113,hy113⟩:∃ y_:List Int,y_=(x4_2 ++ [t110]):=⟨_,rfl⟩;replace H:((spec_l1Cur_pick.f s0_0 t111 t112 12).bind fun bt116=>(if x5_2.length<17592186044416 then (spec_l1Cur_ways.l0 k2 y113 (x5_2 ++ [bt116.1]) (wrap64 (x6_2 - 1)) s0_0 bt116.2.1 bt116.2.2) else (none)))=some (r1,r2,r3,r4):=by first|(rw [hy113];with_reducible exact H)|(have H2_:=(Option.bind_some _ _).symm.trans H;rw [hy113];with_reducible exact H2_)|(have H2_:=(Option.bind_some _ _).symm.trans H;with_reducible exact H2_)|with_reducible exact H|(rw [hy113];exact H)|exact H
        have Ny113:=aM hy113;clear hy113;replace H:=Option.bind_eq_some_iff.mp H;obtain ⟨⟨t116,t117,t118⟩,A130,H⟩:=H;replace H:(if x5_2.length<17592186044416 then (spec_l1Cur_ways.l0 k2 y113 (x5_2 ++ [t116]) (wrap64 (x6_2 - 1)) s0_0 t117 t118) else (none))=some (r1,r2,r3,r4):=H;have A13:=aM A130;clear A130;by_cases c14:x5_2.length<17592186044416
        ·rw [if_pos c14] at H;have LMc14:=aM c14;clear c14;obtain ⟨y119,hy119⟩:∃ y_:List Int,y_=(x5_2 ++ [t116]):=⟨_,rfl⟩;replace H:(spec_l1Cur_ways.l0 k2 y113 y119 (wrap64 (x6_2 - 1)) s0_0 t117 t118)=some (r1,r2,r3,r4):=by first|(rw [hy119];with_reducible exact H)|(have H2_:=(Option.bind_some _ _).symm.trans H;rw [hy119];with_reducible exact H2_)|(have H2_:=(Option.bind_some _ _).symm.trans H;with_reducible exact H2_)|with_reducible exact H|(rw [hy119];exact H)|exact H
         have Ny119:=aM hy119;clear hy119;have H':=aM H;clear H;go_wp2_with (first|((with_reducible refine Qj (f:=148) rfl ?_);refine goesL_ (some 20) rfl rfl Try.func148 (by kernel_rfl) rfl #[.pointer (some ⟨g,0,none⟩),.int .i64 12] rfl (by (try simp only [aD,aE,aF]);first|done|rfl|(simp only [aG,aH];rfl)) ?_;(with_reducible refine (spec_l1Cur_pick.calls g s0_0 x1001_2 x1002_2 12 t110 t111 t112 w0 _ ?side1 ?side2 A11.out).mono ?_);(case side1=>repeat first|(with_reducible first|exact HI0.out|apply IsS135.alloc|apply IsS135.drewN|apply IsS135.drew|apply IsS135.set_1|apply IsS135.set_2)|exact HI0.out);(case side2=>repeat first|(with_reducible first|exact HB.out|apply Qc|apply Qa|apply Qb|refine Qf ?_ (IsS135.ge HI0.out))|exact HB.out);rintro e w15 ⟨rfl,hi,hb,hk⟩;refine ⟨_,rfl,?_⟩;have n0_:=aM (Kd.R_mono (Kd.R_keep (IsS135.apart (show IsS135 w0 _ g s0_0 x1001_2 x1002_2 from by repeat first|(with_reducible first|exact HI0.out|apply IsS135.alloc|apply IsS135.drewN|apply IsS135.drew|apply IsS135.set_1|apply IsS135.set_2)|exact HI0.out) (by (with_reducible repeat first|apply Kd.Qd|apply Kd.Qe|apply Kd.R_drew);exact HO_4.out) (by decide)) hk (fun _ h=>h.2)) (fun _ h=>h.1));have n1_:=aM (Kd.R_mono (Kd.R_keep (IsS135.apart (show IsS135 w0 _ g s0_0 x1001_2 x1002_2 from by repeat first|(with_reducible first|exact HI0.out|apply IsS135.alloc|apply IsS135.drewN|apply IsS135.drew|apply IsS135.set_1|apply IsS135.set_2)|exact HI0.out) (by (with_reducible repeat first|apply Kd.Qd|apply Kd.Qe|apply Kd.R_drew);exact HO_5.out) (by decide)) hk (fun _ h=>h.2)) (fun _ h=>h.1));have n2_:=aM (KeepBut.trans (by repeat first|(with_reducible first|exact HK.out|apply KeepBut.set_|apply keep_drewN|apply keep_drew|apply keep_alloc)|exact HK.out) hk (.inl rfl));have n3_:=aM (hb);have n4_:=aM (hi);clear HO_4 HO_5 HK HB HI0;have HO_4:=n0_;have HO_5:=n1_;have HK:=n2_;have HB:=n3_;have HI0:=n4_;clear n0_ n1_ n2_ n3_ n4_;(try clear hb);(try clear hb2);(try clear hk);(try clear hi))|((with_reducible refine gate_builtin (b:= .append) (xs:=#[.tmp 18,.tmp 21]) rfl ?_);at_builtin;refine Kd.R_append (Kd.int .i64) w.heap.size rfl (.tmp 18) (.tmp 21) 34 3 (.int .i64 0) 8 rfl Try.underlying34 info3 rfl (by decide) (by omega) u4 x4_2 t110 [.int .i64 t110] (fun k_=>some k_≠(u5:Value).ownBlock) (fun _=>False) rfl rfl ?aP (fun _ hk=>hk.elim) ?aF ?aO (Below.refl _ _) ?aS ?aL ?_;(case aP=>exact rfl);(case aF=>exact (fun k_ hk=>Kd.fresh' (Kd.R_lt (by (with_reducible repeat first|apply Kd.Qd|apply Kd.Qe|apply Kd.R_drew);exact HO_5.out)) k_ hk));(case aO=>exact (by (with_reducible repeat first|apply Kd.Qd|apply Kd.Qe|apply Kd.R_drew);exact HO_4.out));(case aS=>exact (keep_size (w:=w) (g:=g) (row:=none) (by repeat first|(with_reducible first|exact HK.out|apply KeepBut.set_|apply keep_drewN|apply keep_drew|apply keep_alloc)|exact HK.out)));(case aL=>have:=LMc12.out;omega);intro v114 w16 ho hb hg hat;rw [←Ny113.out] at ho;have n0_:=aM (Kd.R_after (ok:=(fun _=>True)) (by (with_reducible repeat first|apply Kd.Qd|apply Kd.Qe|apply Kd.R_drew);exact Kd.R_mono HO_5.out (fun _ hk=>⟨trivial,hk⟩)) hg hat);have n1_:=aM (IsS135.grown (by repeat first|(with_reducible first|exact HI0.out|apply IsS135.alloc|apply IsS135.drewN|apply IsS135.drew|apply IsS135.set_1|apply IsS135.set_2)|exact HI0.out) hg (IsS135.own_ne HI0.out HO_4.out (by decide)));have n2_:=aM (below_weaken (by repeat first|(with_reducible first|exact HB.out|apply Qc|apply Qa|apply Qb|refine Qf ?_ (IsS135.ge HI0.out))|exact HB.out) HL.out hb);have n3_:=aM (KeepBut.trans (by repeat first|(with_reducible first|exact HK.out|apply KeepBut.set_|apply keep_drewN|apply keep_drew|apply keep_alloc)|exact HK.out) (KeepBut.of_grown hg g) (Kd.R_base2 HO_4.out));have n4_:=aM (ho);clear HO_5 HI0 HB HK HO_4;have HO_5:=n0_;have HI0:=n1_;have HB:=n2_;have HK:=n3_;have HO115:=n4_;clear n0_ n1_ n2_ n3_ n4_ ho hb hg hat)|((with_reducible refine Qj (f:=148) rfl ?_);refine goesL_ (some 25) rfl rfl Try.func148 (by kernel_rfl) rfl #[.pointer (some ⟨g,0,none⟩),.int .i64 12] rfl (by (try simp only [aD,aE,aF]);first|done|rfl|(simp only [aG,aH];rfl)) ?_;(with_reducible refine (spec_l1Cur_pick.calls g s0_0 t111 t112 12 t116 t117 t118 w0 _ ?side1 ?side2 A13.out).mono ?_);(case side1=>repeat first|(with_reducible first|exact HI0.out|apply IsS135.alloc|apply IsS135.drewN|apply IsS135.drew|apply IsS135.set_1|apply IsS135.set_2)|exact HI0.out);(case side2=>repeat first|(with_reducible first|exact HB.out|apply Qc|apply Qa|apply Qb|refine Qf ?_ (IsS135.ge HI0.out))|exact HB.out);rintro e w17 ⟨rfl,hi,hb,hk⟩;refine ⟨_,rfl,?_⟩;have n0_:=aM (Kd.R_mono (Kd.R_keep (IsS135.apart (show IsS135 w0 _ g s0_0 t111 t112 from by repeat first|(with_reducible first|exact HI0.out|apply IsS135.alloc|apply IsS135.drewN|apply IsS135.drew|apply IsS135.set_1|apply IsS135.set_2)|exact HI0.out) (by (with_reducible repeat first|apply Kd.Qd|apply Kd.Qe|apply Kd.R_drew);exact HO_5.out) (by decide)) hk (fun _ h=>h.2)) (fun _ h=>h.1));have n1_:=aM (Kd.R_mono (Kd.R_keep (IsS135.apart (show IsS135 w0 _ g s0_0 t111 t112 from by repeat first|(with_reducible first|exact HI0.out|apply IsS135.alloc|apply IsS135.drewN|apply IsS135.drew|apply IsS135.set_1|apply IsS135.set_2)|exact HI0.out) (by (with_reducible repeat first|apply Kd.Qd|apply Kd.Qe|apply Kd.R_drew);exact HO115.out) (by decide)) hk (fun _ h=>h.2)) (fun _ h=>h.1));have n2_:=aM (KeepBut.trans (by repeat first|(with_reducible first|exact HK.out|apply KeepBut.set_|apply keep_drewN|apply keep_drew|apply keep_alloc)|exact HK.out) hk (.inl rfl));have n3_:=aM (hb);have n4_:=aM (hi);clear HO_5 HO115 HK HB HI0;have HO_5:=n0_;have HO115:=n1_;have HK:=n2_;have HB:=n3_;have HI0:=n4_;clear n0_ n1_ n2_ n3_ n4_;(try clear hb);(try clear hb2);(try clear hk);(try clear hi))|((with_reducible refine gate_builtin (b:= .append) (xs:=#[.tmp 23,.tmp 26]) rfl ?_);at_builtin;refine Kd.R_append (Kd.int .i64) w.heap.size rfl (.tmp 23) (.tmp 26) 34 3 (.int .i64 0) 8 rfl Try.underlying34 info3 rfl (by decide) (by omega) u5 x5_2 t116 [.int .i64 t116] (fun k_=>some k_≠(v114:Value).ownBlock) (fun _=>False) rfl rfl ?aP (fun _ hk=>hk.elim) ?aF ?aO (Below.refl _ _) ?aS ?aL ?_;(case aP=>exact rfl);(case aF=>exact (fun k_ hk=>Kd.fresh' (Kd.R_lt (by (with_reducible repeat first|apply Kd.Qd|apply Kd.Qe|apply Kd.R_drew);exact HO115.out)) k_ hk));(case aO=>exact (by (with_reducible repeat first|apply Kd.Qd|apply Kd.Qe|apply Kd.R_drew);exact Kd.R_mono HO_5.out (fun _ hk=>hk.2)));(case aS=>exact (keep_size (w:=w) (g:=g) (row:=none) (by repeat first|(with_reducible first|exact HK.out|apply KeepBut.set_|apply keep_drewN|apply keep_drew|apply keep_alloc)|exact HK.out)));(case aL=>have:=LMc14.out;omega);intro v120 w18 ho hb hg hat;rw [←Ny119.out] at ho;have n0_:=aM (IsS135.grown (by repeat first|(with_reducible first|exact HI0.out|apply IsS135.alloc|apply IsS135.drewN|apply IsS135.drew|apply IsS135.set_1|apply IsS135.set_2)|exact HI0.out) hg (IsS135.own_ne HI0.out HO_5.out (by decide)));have n1_:=aM (Kd.R_after (ok:=(fun _=>True)) (by (with_reducible repeat first|apply Kd.Qd|apply Kd.Qe|apply Kd.R_drew);exact Kd.R_mono HO115.out (fun _ hk=>⟨trivial,hk⟩)) hg hat);have n2_:=aM (below_weaken (by repeat first|(with_reducible first|exact HB.out|apply Qc|apply Qa|apply Qb|refine Qf ?_ (IsS135.ge HI0.out))|exact HB.out) HL.out hb);have n3_:=aM (KeepBut.trans (by repeat first|(with_reducible first|exact HK.out|apply KeepBut.set_|apply keep_drewN|apply keep_drew|apply keep_alloc)|exact HK.out) (KeepBut.of_grown hg g) (Kd.R_base2 HO_5.out));have n4_:=aM (ho);clear HI0 HO115 HB HK HO_5;have HI0:=n0_;have HO115:=n1_;have HB:=n2_;have HK:=n3_;have HO121:=n4_;clear n0_ n1_ n2_ n3_ n4_ ho hb hg hat))
         go_roundg k2
         case measure=>have:=HJ3.out;have:=HK2.out;omega
         case rel=>exact ⟨(y113),(y119),(wrap64 (x6_2 - 1)),(t117),(t118),(by first|rfl|(simp;done)|(simp [*];done)),H',⟨by have:=HJ3.out;have:=HK2.out;omega⟩,⟨by (with_reducible repeat first|apply Kd.Qd|apply Kd.Qe|apply Kd.R_drew);exact Kd.R_mono HO115.out (fun _ hk=>hk.2)⟩,⟨by (with_reducible repeat first|apply Kd.Qd|apply Kd.Qe|apply Kd.R_drew);exact HO121.out⟩,⟨by repeat (first|(with_reducible first|exact HI0.out|apply IsS135.alloc|apply IsS135.drewN|apply IsS135.drew|apply IsS135.set_1|apply IsS135.set_2)|exact HI0.out)⟩,⟨by repeat (first|(with_reducible first|exact HK.out|apply KeepBut.set_|apply keep_drewN|apply keep_drew|apply keep_alloc)|exact HK.out)⟩,⟨by repeat (first|(with_reducible first|exact HB.out|apply Qc|apply Qa|apply Qb|refine Qf ?_ (IsS135.ge HI0.out))|exact HB.out)⟩⟩
        ·rw [if_neg c14] at H;exact absurd H (by simp)
       ·rw [if_neg c12] at H;exact absurd H (by simp)
      ·rw [if_neg c10] at H;have c10b0:decide (0<x6_2)=false:=aN c10;clear c10;by_cases c19:(x4_2.length:Int) > 0
       ·rw [if_pos c19] at H;have c19b0:decide (0<(x4_2.length:Int))=true:=aL c19;have c19b1:decide (0<x4_2.length)=true:=aL (by omega);clear c19;replace H:=Option.bind_eq_some_iff.mp H;obtain ⟨⟨t122,t123,t124⟩,A200,H⟩:=H;replace H:(if t122=true then ((spec_l1Cur_among.f s0_0 t123 t124 (([(-1),1000,1001]:List Int))).bind fun bt128=>(if 0<(x4_2.length:Int) then (some ((x4_2.set (0:Int).toNat bt128.1),x5_2,bt128.2.1,bt128.2.2)) else (none))) else (some (x4_2,x5_2,t123,t124)))=some (r1,r2,r3,r4):=H;have A20:=aM A200;clear A200;by_cases c21:t122=true
        ·subst c21;have H1:((spec_l1Cur_among.f s0_0 t123 t124 (([(-1),1000,1001]:List Int))).bind fun bt128=>(if 0<(x4_2.length:Int) then (some ((x4_2.set (0:Int).toNat bt128.1),x5_2,bt128.2.1,bt128.2.2)) else (none)))=some (r1,r2,r3,r4):=by rw [if_pos rfl] at H;exact H
         clear H;have H:=H1;clear H1;obtain ⟨y125,hy125⟩:∃ y_:List Int,y_=(([(-1),1000,1001]:List Int)):=⟨_,rfl⟩;replace H:((spec_l1Cur_among.f s0_0 t123 t124 y125).bind fun bt128=>(if 0<(x4_2.length:Int) then (some ((x4_2.set (0:Int).toNat bt128.1),x5_2,bt128.2.1,bt128.2.2)) else (none)))=some (r1,r2,r3,r4):=by first|(rw [hy125];with_reducible exact H)|(have H2_:=(Option.bind_some _ _).symm.trans H;rw [hy125];with_reducible exact H2_)|(have H2_:=(Option.bind_some _ _).symm.trans H;with_reducible exact H2_)|with_reducible exact H|(rw [hy125];exact H)|exact H
         have Ny125:=aM hy125;clear hy125;replace H:=Option.bind_eq_some_iff.mp H;obtain ⟨⟨t128,t129,t130⟩,A220,H⟩:=H;replace H:(if 0<(x4_2.length:Int) then (some ((x4_2.set (0:Int).toNat t128),x5_2,t129,t130)) else (none))=some (r1,r2,r3,r4):=H;have A22:=aM A220;clear A220;by_cases c23:0<(x4_2.length:Int)
         ·rw [if_pos c23] at H;have c23b0:decide (0<(x4_2.length:Int))=true:=aL c23;have c23b1:decide (0<x4_2.length)=true:=aL (by omega);clear c23;obtain ⟨y131,hy131⟩:∃ y_:List Int,y_=(x4_2.set (0:Int).toNat t128):=⟨_,rfl⟩;replace H:(some (y131,x5_2,t129,t130))=some (r1,r2,r3,r4):=by first|(rw [hy131];with_reducible exact H)|(have H2_:=(Option.bind_some _ _).symm.trans H;rw [hy131];with_reducible exact H2_)|(have H2_:=(Option.bind_some _ _).symm.trans H;with_reducible exact H2_)|with_reducible exact H|(rw [hy131];exact H)|exact H
          have Ny131:=aM hy131;clear hy131;simp only [Option.some.injEq,Prod.mk.injEq] at H;obtain ⟨rfl,rfl,rfl,rfl⟩:=H;obtain ⟨Ao25,co25,eo25⟩:=Kd.R_slice HO_4.out;subst eo25;go_wp2_with (first|(go_at_call 147;(with_reducible refine (spec_l1Cur_one.calls g s0_0 x1001_2 x1002_2 30 true t123 t124 w0 _ ?side1 ?side2 A20.out).mono ?_);(case side1=>repeat first|(with_reducible first|exact HI0.out|apply IsS135.alloc|apply IsS135.drewN|apply IsS135.drew|apply IsS135.set_1|apply IsS135.set_2)|exact HI0.out);(case side2=>repeat first|(with_reducible first|exact HB.out|apply Qc|apply Qa|apply Qb|refine Qf ?_ (IsS135.ge HI0.out))|exact HB.out);rintro e w26 ⟨rfl,hi,hb,hk⟩;have n0_:=aM (Kd.R_mono (Kd.R_keep (IsS135.apart (show IsS135 w0 _ g s0_0 x1001_2 x1002_2 from by repeat first|(with_reducible first|exact HI0.out|apply IsS135.alloc|apply IsS135.drewN|apply IsS135.drew|apply IsS135.set_1|apply IsS135.set_2)|exact HI0.out) (by (with_reducible repeat first|apply Kd.Qd|apply Kd.Qe|apply Kd.R_drew);exact HO_4.out) (by decide)) hk (fun _ h=>h.2)) (fun _ h=>h.1));have n1_:=aM (Kd.R_mono (Kd.R_keep (IsS135.apart (show IsS135 w0 _ g s0_0 x1001_2 x1002_2 from by repeat first|(with_reducible first|exact HI0.out|apply IsS135.alloc|apply IsS135.drewN|apply IsS135.drew|apply IsS135.set_1|apply IsS135.set_2)|exact HI0.out) (by (with_reducible repeat first|apply Kd.Qd|apply Kd.Qe|apply Kd.R_drew);exact HO_5.out) (by decide)) hk (fun _ h=>h.2)) (fun _ h=>h.1));have n2_:=aM (KeepBut.trans (by repeat first|(with_reducible first|exact HK.out|apply KeepBut.set_|apply keep_drewN|apply keep_drew|apply keep_alloc)|exact HK.out) hk (.inl rfl));have n3_:=aM (hb);have n4_:=aM (hi);clear HO_4 HO_5 HK HB HI0;have HO_4:=n0_;have HO_5:=n1_;have HK:=n2_;have HB:=n3_;have HI0:=n4_;clear n0_ n1_ n2_ n3_ n4_;(try clear hb);(try clear hb2);(try clear hk);(try clear hi))|((with_reducible refine gate_dst (N:=37) rfl ?_);refine Kd.R_lit (Kd.int .i64) _ 3 ?hg (N:=37) ?hd (xs:=([(-1),1000,1001]:List Int)) (inner:=[.int .i64 (-1),.int .i64 1000,.int .i64 1001]) (ok:=fun _=>True) (okp:=fun _=>True) ?hr ?hp (fun _ hk=>hk) trivial (Below.refl _ _) (Nat.le_refl _) (by simp) ?_;(case hd=>rfl);(case hg=>rfl);(case hr=>first|(go_simp;done)|(go_simp;rfl));(case hp=>exact (Reps.one (show Kd.M (Kd.int .i64) _ _ _ (-1) [.int .i64 (-1)] from rfl) (Reps.one (show Kd.M (Kd.int .i64) _ _ _ 1000 [.int .i64 1000] from rfl) (Reps.one (show Kd.M (Kd.int .i64) _ _ _ 1001 [.int .i64 1001] from rfl) (Reps.none _ _)))));intro v126 w27 ho28 hb hg_ hnew_;clear hg_ hnew_;(first|rw [←Ny125.out] at ho28|(simp only [Int.reduceToNat] at ho28;rw [←Ny125.out] at ho28));have n0_:=aM (Kd.R_elder' (by (with_reducible repeat first|apply Kd.Qd|apply Kd.Qe|apply Kd.R_drew);exact HO_4.out) (Kd.R_base ho28) hb);have n1_:=aM (Kd.R_elder' (by (with_reducible repeat first|apply Kd.Qd|apply Kd.Qe|apply Kd.R_drew);exact HO_5.out) (Kd.R_base ho28) hb);have n2_:=aM (Kd.R_lower (Kd.R_new' (Kd.R_new' ho28 (Kd.R_lt (by (with_reducible repeat first|apply Kd.Qd|apply Kd.Qe|apply Kd.R_drew);exact HO_4.out))) (Kd.R_lt (by (with_reducible repeat first|apply Kd.Qd|apply Kd.Qe|apply Kd.R_drew);exact HO_5.out))) (keep_size (w:=w) (g:=g) (row:=none) (by repeat first|(with_reducible first|exact HK.out|apply KeepBut.set_|apply keep_drewN|apply keep_drew|apply keep_alloc)|exact HK.out)));have n3_:=aM (IsS135.below (by repeat first|(with_reducible first|exact HI0.out|apply IsS135.alloc|apply IsS135.drewN|apply IsS135.drew|apply IsS135.set_1|apply IsS135.set_2)|exact HI0.out) hb);have n4_:=aM (KeepBut.trans (by repeat first|(with_reducible first|exact HK.out|apply KeepBut.set_|apply keep_drewN|apply keep_drew|apply keep_alloc)|exact HK.out) (KeepBut.of_below hb g none) (.inl rfl));have n5_:=aM (Qo (by repeat first|(with_reducible first|exact HB.out|apply Qc|apply Qa|apply Qb|refine Qf ?_ (IsS135.ge HI0.out))|exact HB.out) hb);clear HO_4 HO_5 HI0 HK HB;have HO_4:=n0_;have HO_5:=n1_;have HO127:=n2_;have HI0:=n3_;have HK:=n4_;have HB:=n5_;clear n0_ n1_ n2_ n3_ n4_ n5_ hb ho28;obtain ⟨Ao29,co29,eo29⟩:=Kd.R_slice HO127.out;subst eo29)|((with_reducible refine Qj (f:=167) rfl ?_);refine goesL_ (some 38) rfl rfl Try.func167 (by kernel_rfl) rfl #[.pointer (some ⟨g,0,none⟩),.slice Ao29 y125.length co29] rfl (by (try simp only [aD,aE,aF]);first|done|rfl|(simp only [aG,aH];rfl)) ?_;(with_reducible refine (spec_l1Cur_among.calls g s0_0 t123 t124 _ _ y125 t128 t129 t130 w0 _ ?side1 ?side2 ?side3 ?side4 ?side5 A22.out).mono ?_);(case side1=>repeat first|(with_reducible first|exact HI0.out|apply IsS135.alloc|apply IsS135.drewN|apply IsS135.drew|apply IsS135.set_1|apply IsS135.set_2)|exact HI0.out);(case side2=>repeat first|(with_reducible first|exact HB.out|apply Qc|apply Qa|apply Qb|refine Qf ?_ (IsS135.ge HI0.out))|exact HB.out);(case side3=>repeat first|exact (Kd.Qg HO127.out).2.2|(with_reducible first|refine Kd.Qh ?_ _|refine Kd.Qi ?_ _|refine Kd.C_drew ?_));(case side4=>exact (Kd.Qg HO127.out).2.1);(case side5=>exact far_slice (IsS135.own_ne HI0.out HO127.out (by decide)));rintro e w30 ⟨rfl,hi,hb,hk⟩;refine ⟨_,rfl,?_⟩;have n0_:=aM (Kd.R_mono (Kd.R_keep (IsS135.apart (show IsS135 w0 _ g s0_0 t123 t124 from by repeat first|(with_reducible first|exact HI0.out|apply IsS135.alloc|apply IsS135.drewN|apply IsS135.drew|apply IsS135.set_1|apply IsS135.set_2)|exact HI0.out) (by (with_reducible repeat first|apply Kd.Qd|apply Kd.Qe|apply Kd.R_drew);exact HO_4.out) (by decide)) hk (fun _ h=>h.2)) (fun _ h=>h.1));have n1_:=aM (Kd.R_mono (Kd.R_keep (IsS135.apart (show IsS135 w0 _ g s0_0 t123 t124 from by repeat first|(with_reducible first|exact HI0.out|apply IsS135.alloc|apply IsS135.drewN|apply IsS135.drew|apply IsS135.set_1|apply IsS135.set_2)|exact HI0.out) (by (with_reducible repeat first|apply Kd.Qd|apply Kd.Qe|apply Kd.R_drew);exact HO_5.out) (by decide)) hk (fun _ h=>h.2)) (fun _ h=>h.1));have n2_:=aM (Kd.R_mono (Kd.R_keep (IsS135.apart (show IsS135 w0 _ g s0_0 t123 t124 from by repeat first|(with_reducible first|exact HI0.out|apply IsS135.alloc|apply IsS135.drewN|apply IsS135.drew|apply IsS135.set_1|apply IsS135.set_2)|exact HI0.out) (by (with_reducible repeat first|apply Kd.Qd|apply Kd.Qe|apply Kd.R_drew);exact HO127.out) (by decide)) hk (fun _ h=>h.2)) (fun _ h=>h.1));have n3_:=aM (KeepBut.trans (by repeat first|(with_reducible first|exact HK.out|apply KeepBut.set_|apply keep_drewN|apply keep_drew|apply keep_alloc)|exact HK.out) hk (.inl rfl));have n4_:=aM (hb);have n5_:=aM (hi);clear HO_4 HO_5 HO127 HK HB HI0;have HO_4:=n0_;have HO_5:=n1_;have HO127:=n2_;have HK:=n3_;have HB:=n4_;have HI0:=n5_;clear n0_ n1_ n2_ n3_ n4_ n5_;(try clear hb);(try clear hb2);(try clear hk);(try clear hi);have p24:0≤(0:Int):=(by omega);have q24:(0:Int)<((x4_2.length:Int):Int):=aK (by first|(with_reducible assumption)|assumption);have qi24:(0<x4_2.length)=True:=eq_true (by omega);obtain ⟨go24,co24,eo24,gb24,gl24,cl24,HG24⟩:=Kd.R_form HO_4.out (by omega);(first|cases eo24|(injection eo24 with ea_ en_ ec_;(first|subst ea_|(injection ea_ with ea_;subst ea_));subst ec_;clear en_));have GB24:=aM gb24;have GG24:=aM HG24;clear gb24 gl24 HG24;obtain ⟨hx24_0,hf24_0⟩:=Kd.R_celln 0 HO_4.out (0:Int) p24 q24;(try rw [show ((0:Int)).toNat=0 from rfl] at hx24_0);(try simp only [Nat.reduceMul,Nat.zero_mul,Nat.zero_add,Nat.reduceAdd] at hx24_0);(try rw [show ((0:Int)).toNat=0 from rfl] at hf24_0);(try simp only [Nat.reduceMul,Nat.zero_mul,Nat.zero_add,Nat.reduceAdd] at hf24_0);replace p24:=eq_true p24;replace q24:=eq_true q24;obtain ⟨hy31_,hz31_⟩:=Kd.R_celln 0 HO_4.out (0:Int) (by omega) (aK (by first|(with_reducible assumption)|assumption));(try simp only [Int.reduceToNat,Int.toNat_zero,Int.toNat_ofNat,Nat.reduceMul,Nat.zero_mul,Nat.zero_add] at hy31_ hz31_);(try rw [show ((0:Int)).toNat=0 from rfl] at hy31_);(try rw [show ((0:Int)).toNat=0 from rfl] at hz31_);have HP31:=Kd.R_putg HO_4.out (0:Int) t128)|((with_reducible refine gate_store (t:=3) (p:=39) rfl ?_);refine store_event (t:=3) (p:=39) (v:=?vo_w32) (w1:=(w30.setCell ⟨go24,(0:Int).toNat,none⟩ (.int .i64 t128))) ?hg ?ho ?hn ?hr ?_;(case ho=>rfl);(case hg=>rfl);(case hn=>rfl);(case hr=>first|(go_simp;done)|(go_simp;rfl));intro w32 hw;have hg:w30.grownBy w32 (some go24):=(by rw [hw];exact HP31.2);have hp_:Kd.R (Kd.int .i64) 3 w32 w.heap.size (fun k_=>some k_≠(u5:Value).ownBlock∧some k_≠(.slice Ao29 y125.length co29:Value).ownBlock) (.slice (some ⟨go24,0,none⟩) x4_2.length co25) y131:=(by rw [hw,Ny131.out];exact HP31.1);clear HP31;have n0_:=aM (hp_);have n1_:=aM (Kd.R_after (v:=(.slice (some ⟨go24,0,none⟩) x4_2.length co25)) (v1:=(.slice (some ⟨go24,0,none⟩) x4_2.length co25)) (ok:=(fun k_=>some k_≠(.slice Ao29 y125.length co29:Value).ownBlock)) (by (with_reducible repeat first|apply Kd.Qd|apply Kd.Qe|apply Kd.R_drew);exact Kd.R_mono HO_5.out (fun _ hk=>⟨hk.2,hk.1⟩)) hg (.inl rfl));have n2_:=aM (IsS135.grown (by repeat first|(with_reducible first|exact HI0.out|apply IsS135.alloc|apply IsS135.drewN|apply IsS135.drew|apply IsS135.set_1|apply IsS135.set_2)|exact HI0.out) hg (IsS135.own_ne HI0.out HO_4.out (by decide)));have n3_:=aM (Kd.R_after (v:=(.slice (some ⟨go24,0,none⟩) x4_2.length co25)) (v1:=(.slice (some ⟨go24,0,none⟩) x4_2.length co25)) (ok:=(fun k_=>some k_≠(u5:Value).ownBlock)) (by (with_reducible repeat first|apply Kd.Qd|apply Kd.Qe|apply Kd.R_drew);exact Kd.R_mono HO127.out (fun _ hk=>⟨hk.2,hk.1.2⟩)) hg (.inl rfl));have n4_:=aM ((by rw [hw];exact Qf (HB.out) (Nat.le_trans HL.out GB24.out):Below w0.heap.size w0 w32));have n5_:=aM (KeepBut.trans (by repeat first|(with_reducible first|exact HK.out|apply KeepBut.set_|apply keep_drewN|apply keep_drew|apply keep_alloc)|exact HK.out) (KeepBut.of_grown hg g) (Kd.R_base2 HO_4.out));clear HO_4 HO_5 HI0 HO127 HB HK;have HO_4:=n0_;have HO_5:=n1_;have HI0:=n2_;have HO127:=n3_;have HB:=n4_;have HK:=n5_;clear n0_ n1_ n2_ n3_ n4_ n5_ hg hw hp_))
          go_ret2
          exact ⟨_,_,by first|rfl|(simp [errW_none,errW_some] <;> rfl)|(simp [*,errW_none,errW_some] <;> rfl),by (with_reducible repeat first|apply Kd.Qd|apply Kd.Qe|apply Kd.R_drew);exact Kd.R_mono HO_4.out (fun _ hk=>hk.1),by (with_reducible repeat first|apply Kd.Qd|apply Kd.Qe|apply Kd.R_drew);exact Kd.R_mono HO_5.out (fun _ hk=>hk.2),by repeat (first|(with_reducible first|exact HI0.out|apply IsS135.alloc|apply IsS135.drewN|apply IsS135.drew|apply IsS135.set_1|apply IsS135.set_2)|exact HI0.out),by repeat (first|(with_reducible first|exact HB.out|apply Qc|apply Qa|apply Qb|refine Qf ?_ (IsS135.ge HI0.out))|exact HB.out),by repeat (first|(with_reducible first|exact HK.out|apply KeepBut.set_|apply keep_drewN|apply keep_drew|apply keep_alloc)|exact HK.out)⟩
         ·rw [if_neg c23] at H;exact absurd H (by simp)
        ·replace c21:=Bool.eq_false_iff.mpr c21;subst c21;have H1:(some (x4_2,x5_2,t123,t124))=some (r1,r2,r3,r4):=by rw [if_neg (show ¬ (false=true) by decide)] at H;exact H
         clear H;have H:=H1;clear H1;simp only [Option.some.injEq,Prod.mk.injEq] at H;obtain ⟨rfl,rfl,rfl,rfl⟩:=H;obtain ⟨Ao33,co33,eo33⟩:=Kd.R_slice HO_4.out;subst eo33;go_wp2_with (first|(go_at_call 147;(with_reducible refine (spec_l1Cur_one.calls g s0_0 x1001_2 x1002_2 30 false t123 t124 w0 _ ?side1 ?side2 A20.out).mono ?_);(case side1=>repeat first|(with_reducible first|exact HI0.out|apply IsS135.alloc|apply IsS135.drewN|apply IsS135.drew|apply IsS135.set_1|apply IsS135.set_2)|exact HI0.out);(case side2=>repeat first|(with_reducible first|exact HB.out|apply Qc|apply Qa|apply Qb|refine Qf ?_ (IsS135.ge HI0.out))|exact HB.out);rintro e w34 ⟨rfl,hi,hb,hk⟩;have n0_:=aM (Kd.R_mono (Kd.R_keep (IsS135.apart (show IsS135 w0 _ g s0_0 x1001_2 x1002_2 from by repeat first|(with_reducible first|exact HI0.out|apply IsS135.alloc|apply IsS135.drewN|apply IsS135.drew|apply IsS135.set_1|apply IsS135.set_2)|exact HI0.out) (by (with_reducible repeat first|apply Kd.Qd|apply Kd.Qe|apply Kd.R_drew);exact HO_4.out) (by decide)) hk (fun _ h=>h.2)) (fun _ h=>h.1));have n1_:=aM (Kd.R_mono (Kd.R_keep (IsS135.apart (show IsS135 w0 _ g s0_0 x1001_2 x1002_2 from by repeat first|(with_reducible first|exact HI0.out|apply IsS135.alloc|apply IsS135.drewN|apply IsS135.drew|apply IsS135.set_1|apply IsS135.set_2)|exact HI0.out) (by (with_reducible repeat first|apply Kd.Qd|apply Kd.Qe|apply Kd.R_drew);exact HO_5.out) (by decide)) hk (fun _ h=>h.2)) (fun _ h=>h.1));have n2_:=aM (KeepBut.trans (by repeat first|(with_reducible first|exact HK.out|apply KeepBut.set_|apply keep_drewN|apply keep_drew|apply keep_alloc)|exact HK.out) hk (.inl rfl));have n3_:=aM (hb);have n4_:=aM (hi);clear HO_4 HO_5 HK HB HI0;have HO_4:=n0_;have HO_5:=n1_;have HK:=n2_;have HB:=n3_;have HI0:=n4_;clear n0_ n1_ n2_ n3_ n4_;(try clear hb);(try clear hb2);(try clear hk);(try clear hi)))
         go_ret2
         exact ⟨_,_,by first|rfl|(simp [errW_none,errW_some] <;> rfl)|(simp [*,errW_none,errW_some] <;> rfl),by (with_reducible repeat first|apply Kd.Qd|apply Kd.Qe|apply Kd.R_drew);exact HO_4.out,by (with_reducible repeat first|apply Kd.Qd|apply Kd.Qe|apply Kd.R_drew);exact HO_5.out,by repeat (first|(with_reducible first|exact HI0.out|apply IsS135.alloc|apply IsS135.drewN|apply IsS135.drew|apply IsS135.set_1|apply IsS135.set_2)|exact HI0.out),by repeat (first|(with_reducible first|exact HB.out|apply Qc|apply Qa|apply Qb|refine Qf ?_ (IsS135.ge HI0.out))|exact HB.out),by repeat (first|(with_reducible first|exact HK.out|apply KeepBut.set_|apply keep_drewN|apply keep_drew|apply keep_alloc)|exact HK.out)⟩
       ·rw [if_neg c19] at H;have c19b0:decide (0<(x4_2.length:Int))=false:=aN c19;have c19b1:decide (0<x4_2.length)=false:=aN (by omega);clear c19;simp only [Option.some.injEq,Prod.mk.injEq] at H;obtain ⟨rfl,rfl,rfl,rfl⟩:=H;obtain ⟨Ao35,co35,eo35⟩:=Kd.R_slice HO_4.out;subst eo35;go_wp2
        go_ret2
        exact ⟨_,_,by first|rfl|(simp [errW_none,errW_some] <;> rfl)|(simp [*,errW_none,errW_some] <;> rfl),by (with_reducible repeat first|apply Kd.Qd|apply Kd.Qe|apply Kd.R_drew);exact HO_4.out,by (with_reducible repeat first|apply Kd.Qd|apply Kd.Qe|apply Kd.R_drew);exact HO_5.out,by repeat (first|(with_reducible first|exact HI0.out|apply IsS135.alloc|apply IsS135.drewN|apply IsS135.drew|apply IsS135.set_1|apply IsS135.set_2)|exact HI0.out),by repeat (first|(with_reducible first|exact HB.out|apply Qc|apply Qa|apply Qb|refine Qf ?_ (IsS135.ge HI0.out))|exact HB.out),by repeat (first|(with_reducible first|exact HK.out|apply KeepBut.set_|apply keep_drewN|apply keep_drew|apply keep_alloc)|exact HK.out)⟩

def spec_DrawOrderCost.f (k:Nat) (l0:List Int):Option (List Int×List Int×List Int):=(spec_l1Cur_ways.f k l0 0 0).bind fun bt102=>((spec_l1Cur_order7.f k l0 bt102.2.2.1 bt102.2.2.2 (bt102.1.length:Int)).bind fun bt110=>(some (bt102.1,bt102.2.1,bt110.1)))
set_option maxHeartbeats 8000000 in
set_option maxRecDepth 100000 in
theorem spec_DrawOrderCost.calls (k:Nat) (A0:Option Addr) (c0:Nat) (l0:List Int) (r1:List Int) (r2:List Int) (r3:List Int) (w:World) (hr0:Kd.C (Kd.int .u8) w A0 l0.length l0) (hc0:l0.length≤c0) (h:spec_DrawOrderCost.f k l0=some (r1,r2,r3)) :
    Calls Try.prog 65 #[.slice A0 l0.length c0] w fun e w'=>∃ v0_ v1_ v2_:Value,e= .returned (.tuple #[v0_,v1_,v2_])∧Kd.R (Kd.int .i64) 3 w' w.heap.size (fun k_=>some k_≠(v1_:Value).ownBlock∧some k_≠(v2_:Value).ownBlock) v0_ r1∧Kd.R (Kd.int .i64) 3 w' w.heap.size (fun k_=>some k_≠(v0_:Value).ownBlock∧some k_≠(v2_:Value).ownBlock) v1_ r2∧Kd.R (Kd.int .i64) 3 w' w.heap.size (fun k_=>some k_≠(v0_:Value).ownBlock∧some k_≠(v1_:Value).ownBlock) v2_ r3∧Below w.heap.size w w':=by
  have hu135:=Try.underlying135;have HR0:=aM hr0;have HC0:=aM hc0;clear hr0 hc0;have HB:=aM (Below.refl w.heap.size w);have H:((spec_l1Cur_ways.f k l0 0 0).bind fun bt102=>((spec_l1Cur_order7.f k l0 bt102.2.2.1 bt102.2.2.2 (bt102.1.length:Int)).bind fun bt110=>(some (bt102.1,bt102.2.1,bt110.1))))=some (r1,r2,r3):=h;clear h;replace H:=Option.bind_eq_some_iff.mp H;obtain ⟨⟨t102,t105,t108,t109⟩,A20,H⟩:=H;replace H:((spec_l1Cur_order7.f k l0 t108 t109 (t102.length:Int)).bind fun bt110=>(some (t102,t105,bt110.1)))=some (r1,r2,r3):=H;have A2:=aM A20;clear A20;replace H:=Option.bind_eq_some_iff.mp H;obtain ⟨⟨t110,t113,t114⟩,A30,H⟩:=H;replace H:(some (t102,t105,t110))=some (r1,r2,r3):=H;have A3:=aM A30;clear A30;simp only [Option.some.injEq,Prod.mk.injEq] at H;obtain ⟨rfl,rfl,rfl⟩:=H;go_enter Try.func65,Try.ntmps65;go_wp2_with (first|((with_reducible refine gate_dst (N:=10) rfl ?_);refine box_event ?hg (N:=10) ?hd (cs:=#[.slice A0 l0.length c0,.int .i64 0,.int .u64 0]) (t:=135) ?hr ?_;(case hd=>rfl);(case hg=>rfl);(case hr=>first|(go_simp;done)|(go_simp;rfl));intro gb101 hg w4 hbox hb;have n0_:=aM (Qo (by repeat (with_reducible first|exact HB.out|apply Qc|apply Qa|apply Qb)) hb);have n1_:=aM ((show IsS135 w w4 gb101 l0 0 0 from ⟨A0,c0,hbox,(by rw [hg];exact (Qn (by repeat (with_reducible first|exact HB.out|apply Qc|apply Qa|apply Qb)))),HR0.out⟩));have n2_:=aM ((by rw [hg];exact (Qn (by repeat (with_reducible first|exact HB.out|apply Qc|apply Qa|apply Qb))):w.heap.size≤gb101));have n3_:=aM ((by rw [hg];exact (Qn (by repeat (with_reducible first|exact HB.out|apply Qc|apply Qa|apply Qb))):w.heap.size≤gb101));clear HB;have HB:=n0_;have HI101:=n1_;have GW101:=n2_;have GE101:=n3_;clear n0_ n1_ n2_ n3_ hb hbox hg)|((with_reducible refine Qj (f:=200) rfl ?_);refine goesL_ (some 13) rfl rfl Try.func200 (by kernel_rfl) rfl #[.pointer (some ⟨gb101,0,none⟩)] rfl (by (try simp only [aD,aE,aF]);first|done|rfl|(simp only [aG,aH];rfl)) ?_;(with_reducible refine (spec_l1Cur_ways.calls k gb101 l0 0 0 t102 t105 t108 t109 w _ ?side1 ?side2 A2.out).mono ?_);(case side1=>repeat first|(with_reducible first|exact HI101.out|apply IsS135.alloc|apply IsS135.drewN|apply IsS135.drew|apply IsS135.set_1|apply IsS135.set_2)|exact HI101.out);(case side2=>repeat first|(with_reducible first|exact HB.out|apply Qc|apply Qa|apply Qb|refine Qf ?_ (IsS135.ge HI101.out))|exact HB.out);rintro e w5 ⟨v103,v106,rfl,ho0,ho1,hi,hb,hk⟩;refine ⟨_,rfl,?_⟩;have n0_:=aM (Kd.R_lower ho0 (Qn (by repeat first|(with_reducible first|exact HB.out|apply Qc|apply Qa|apply Qb|refine Qf ?_ (IsS135.ge HI101.out))|exact HB.out)));have n1_:=aM (Kd.R_lower ho1 (Qn (by repeat first|(with_reducible first|exact HB.out|apply Qc|apply Qa|apply Qb|refine Qf ?_ (IsS135.ge HI101.out))|exact HB.out)));have n2_:=aM (hb);have n3_:=aM (hi);clear HB HI101;have HO104:=n0_;have HO107:=n1_;have HB:=n2_;have HI101:=n3_;clear n0_ n1_ n2_ n3_;(try clear hb);(try clear hb2);(try clear hk);(try clear hi);(try clear ho0);(try clear ho1);obtain ⟨Ao6,co6,eo6⟩:=Kd.R_slice HO104.out;subst eo6)|((with_reducible refine Qj (f:=191) rfl ?_);refine goesL_ (some 21) rfl rfl Try.func191 (by kernel_rfl) rfl #[.pointer (some ⟨gb101,0,none⟩),.int .i64 (t102.length:Int)] rfl (by (try simp only [aD,aE,aF]);first|done|rfl|(simp only [aG,aH];rfl)) ?_;(with_reducible refine (spec_l1Cur_order7.calls k gb101 l0 t108 t109 (t102.length:Int) t110 t113 t114 w _ ?side1 ?side2 A3.out).mono ?_);(case side1=>repeat first|(with_reducible first|exact HI101.out|apply IsS135.alloc|apply IsS135.drewN|apply IsS135.drew|apply IsS135.set_1|apply IsS135.set_2)|exact HI101.out);(case side2=>repeat first|(with_reducible first|exact HB.out|apply Qc|apply Qa|apply Qb|refine Qf ?_ (IsS135.ge HI101.out))|exact HB.out);rintro e w7 ⟨v111,rfl,ho0,hi,hb,hk⟩;refine ⟨_,rfl,?_⟩;have n0_:=aM (Kd.R_mono (Kd.R_told (Kd.R_oldK (IsS135.apart (show IsS135 w _ gb101 l0 t108 t109 from by repeat first|(with_reducible first|exact HI101.out|apply IsS135.alloc|apply IsS135.drewN|apply IsS135.drew|apply IsS135.set_1|apply IsS135.set_2)|exact HI101.out) (by (with_reducible repeat first|apply Kd.Qd|apply Kd.Qe|apply Kd.R_drew);exact HO104.out) (by decide)) hk) (Kd.R_base ho0)) (fun _ h_=>h_.1));have n1_:=aM (Kd.R_mono (Kd.R_told (Kd.R_oldK (IsS135.apart (show IsS135 w _ gb101 l0 t108 t109 from by repeat first|(with_reducible first|exact HI101.out|apply IsS135.alloc|apply IsS135.drewN|apply IsS135.drew|apply IsS135.set_1|apply IsS135.set_2)|exact HI101.out) (by (with_reducible repeat first|apply Kd.Qd|apply Kd.Qe|apply Kd.R_drew);exact HO107.out) (by decide)) hk) (Kd.R_base ho0)) (fun _ h_=>h_.1));have n2_:=aM (Kd.R_lower (Kd.R_new' (Kd.R_new' ho0 (Kd.R_lt (by (with_reducible repeat first|apply Kd.Qd|apply Kd.Qe|apply Kd.R_drew);exact HO104.out))) (Kd.R_lt (by (with_reducible repeat first|apply Kd.Qd|apply Kd.Qe|apply Kd.R_drew);exact HO107.out))) (Qn (by repeat first|(with_reducible first|exact HB.out|apply Qc|apply Qa|apply Qb|refine Qf ?_ (IsS135.ge HI101.out))|exact HB.out)));have n3_:=aM (hb);have n4_:=aM (hi);clear HO104 HO107 HB HI101;have HO104:=n0_;have HO107:=n1_;have HO112:=n2_;have HB:=n3_;have HI101:=n4_;clear n0_ n1_ n2_ n3_ n4_;(try clear hb);(try clear hb2);(try clear hk);(try clear hi);(try clear ho0)))
  go_ret3
  exact ⟨_,_,_,by first|rfl|(simp [errW_none,errW_some] <;> rfl)|(simp [*,errW_none,errW_some] <;> rfl),by (with_reducible repeat first|apply Kd.Qd|apply Kd.Qe|apply Kd.R_drew);exact HO104.out,by (with_reducible repeat first|apply Kd.Qd|apply Kd.Qe|apply Kd.R_drew);exact HO107.out,by (with_reducible repeat first|apply Kd.Qd|apply Kd.Qe|apply Kd.R_drew);exact Kd.R_mono HO112.out (fun _ hk=>⟨hk.1.2,hk.2⟩),by repeat (first|(with_reducible first|exact HB.out|apply Qc|apply Qa|apply Qb|refine Qf ?_ (IsS135.ge HI101.out))|exact HB.out)⟩

def impl_allWithin_1.f (a0:Int) (a1_0_0:Int) (a2_0_0:Int):Option (Bool):=(impl_within.f a0 a1_0_0 a2_0_0).bind fun t101=>(some (!t101))
set_option maxHeartbeats 8000000 in
set_option maxRecDepth 100000 in
theorem impl_allWithin_1.calls (a0:Int) (g1_0:Nat) (a1_0_0:Int) (g2_0:Nat) (a2_0_0:Int) (r:Bool) (w:World) (hg1_0:w.heap[g1_0]? = some (.cells #[.int .i64 a1_0_0] 3 (0,0))) (hg2_0:w.heap[g2_0]? = some (.cells #[.int .i64 a2_0_0] 3 (0,0))) (h:impl_allWithin_1.f a0 a1_0_0 a2_0_0=some r) :
    Calls Try.prog 265 #[.int .i64 a0,.pointer (some ⟨g1_0,0,none⟩),.pointer (some ⟨g2_0,0,none⟩)] w fun e w'=>e= .returned (.bool r)∧Drawn0 w w':=by
  have BK46:=aM hg1_0;clear hg1_0;have BK52:=aM hg2_0;clear hg2_0;have H:((impl_within.f a0 a1_0_0 a2_0_0).bind fun t101=>(some (!t101)))=some r:=h;clear h;replace H:=Option.bind_eq_some_iff.mp H;obtain ⟨t101,A40,H⟩:=H;replace H:(some (!t101))=some r:=H;have A4:=aM A40;clear A40;obtain rfl:=Option.some.inj H;have hcz5_0:w.cell? ⟨g1_0,0,none⟩=some (.int .i64 a1_0_0):=(blk_cell BK46.out 0).trans rfl;have hfz5_0:=blk_frozen BK46.out 0;have hcz6_0:w.cell? ⟨g2_0,0,none⟩=some (.int .i64 a2_0_0):=(blk_cell BK52.out 0).trans rfl;have hfz6_0:=blk_frozen BK52.out 0;go_enter Try.func265,Try.ntmps265;go_wp2_with (first|((with_reducible refine Qj (f:=165) rfl ?_);refine goesL_ (some 8) rfl rfl Try.func165 (by kernel_rfl) rfl #[.int .i64 a0,.int .i64 a1_0_0,.int .i64 a2_0_0] rfl (by (try simp only [aD,aE,aF]);first|done|rfl|(simp only [aG,aH];rfl)) ?_;(with_reducible refine (impl_within.calls a0 a1_0_0 a2_0_0 t101 _ A4.out).mono ?_);rintro e w' ⟨rfl,⟨nd,rfl⟩⟩;refine ⟨_,rfl,?_⟩))
  go_ret
  exact ⟨by first|rfl|(simp;done)|(simp [*];done),by repeat (first|exact Drawn0.refl _|apply Drawn0.step)⟩

def sl1_IndexFunc.l0:Nat→List Int→Int→Int→Int→Int→Option (Int)
  |0,_,_,_,_,_=>none
  |k+1,x0,x7,x8,x47000,x48000=>if x8<x7 then (if 0≤x8 then (if x8<(x0.length:Int) then ((impl_allWithin_1.f (rd x0 x8) x47000 x48000).bind fun t102=>(if t102=true then (some x8) else (sl1_IndexFunc.l0 k x0 x7 (wrap64 (x8+1)) x47000 x48000))) else (none)) else (none)) else (some (-1))
def sl1_IndexFunc.f (k:Nat) (l0:List Int) (a1_0_0:Int) (a1_1_0:Int):Option (Int):=sl1_IndexFunc.l0 k l0 (l0.length:Int) 0 a1_0_0 a1_1_0
set_option maxHeartbeats 8000000 in
set_option maxRecDepth 100000 in
theorem sl1_IndexFunc.calls (k:Nat) (A0:Option Addr) (c0:Nat) (l0:List Int) (g1_0:Nat) (a1_0_0:Int) (g1_1:Nat) (a1_1_0:Int) (r:Int) (w:World) (hr0:Kd.C (Kd.int .i64) w A0 l0.length l0) (hc0:l0.length≤c0) (hg1_0:w.heap[g1_0]? = some (.cells #[.int .i64 a1_0_0] 3 (0,0))) (hg1_1:w.heap[g1_1]? = some (.cells #[.int .i64 a1_1_0] 3 (0,0))) (h:sl1_IndexFunc.f k l0 a1_0_0 a1_1_0=some r) :
    Calls Try.prog 306 #[.slice A0 l0.length c0,.func (.func 265) #[] #[.pointer (some ⟨g1_0,0,none⟩),.pointer (some ⟨g1_1,0,none⟩)]] w fun e w'=>e= .returned (.int .i64 r)∧Below w.heap.size w w':=by
  have HR0:=aM hr0;have HC0:=aM hc0;clear hr0 hc0;have BK46:=aM hg1_0;clear hg1_0;have BK47:=aM hg1_1;clear hg1_1;have HB:=aM (Below.refl w.heap.size w);have H:(sl1_IndexFunc.l0 k l0 (l0.length:Int) 0 a1_0_0 a1_1_0)=some r:=h;clear h;have H':=aM H;clear H;go_enter Try.func306,Try.ntmps306;go_wp2;go_loopg [8] k (fun kq v8 w'=>∃ (x8_1:Int),v8= .int .i64 x8_1∧Aside0 (sl1_IndexFunc.l0 kq l0 (l0.length:Int) x8_1 a1_0_0 a1_1_0=some r)∧Aside0 (kq≤k)∧Aside0 (w'.heap[g1_0]? = some (.cells #[.int .i64 a1_0_0] 3 (0,0)))∧Aside0 (w'.heap[g1_1]? = some (.cells #[.int .i64 a1_1_0] 3 (0,0)))∧Aside0 (Below w.heap.size w w'))
  case atStart=>exact ⟨(0),(by first|rfl|(simp;done)|(simp [*];done)),H',⟨Nat.le_refl _⟩,⟨by (with_reducible repeat first|apply Ql|apply Qm|apply Qk);exact BK46.out⟩,⟨by (with_reducible repeat first|apply Ql|apply Qm|apply Qk);exact BK47.out⟩,⟨by repeat (first|(with_reducible first|exact HB.out|apply Qc|apply Qa|apply Qb|refine Qf ?_ GE46.out|refine Qf ?_ GE47.out)|exact HB.out)⟩⟩
  case round=>
   clear H';(try clear p2);obtain ⟨x8_1,rfl,HA,HK1,BK46,BK47,HB⟩:=hrel
   cases gk with
   |zero=>exact absurd HA.out (by simp [sl1_IndexFunc.l0])
   |succ k1=>
    have H:=HA.out;clear HA;simp only [sl1_IndexFunc.l0] at H;by_cases c3:x8_1<(l0.length:Int)
    ·rw [if_pos c3] at H;have c3b0:decide (x8_1<(l0.length:Int))=true:=aL c3;clear c3;by_cases c4:0≤x8_1
     ·rw [if_pos c4] at H;have c4b0:decide (0≤x8_1)=true:=aL c4;clear c4;by_cases c5:x8_1<(l0.length:Int)
      ·rw [if_pos c5] at H;have c5b0:decide (x8_1<(l0.length:Int))=true:=aL c5;clear c5;replace H:=Option.bind_eq_some_iff.mp H;obtain ⟨t102,A60,H⟩:=H;replace H:(if t102=true then (some x8_1) else (sl1_IndexFunc.l0 k1 l0 (l0.length:Int) (wrap64 (x8_1+1)) a1_0_0 a1_1_0))=some r:=H;have A6:=aM A60;clear A60;by_cases c7:t102=true
       ·subst c7;have H1:(some x8_1)=some r:=by rw [if_pos rfl] at H;exact H
        clear H;have H:=H1;clear H1;obtain rfl:=Option.some.inj H;have p101:0≤(x8_1:Int):=aK (by first|(with_reducible assumption)|assumption);have q101:x8_1<(l0.length:Int):=aK (by first|(with_reducible assumption)|assumption);obtain ⟨ad101,e101,hx101_0⟩:=Kd.at_int HR0.out x8_1 p101 q101
        cases e101
        replace hx101_0:=(HB.out.cell (aI w _ hx101_0)).trans hx101_0;replace p101:=eq_true p101;replace q101:=eq_true q101;go_wp2_with (first|(go_at_call 265;(with_reducible refine (impl_allWithin_1.calls (rd l0 x8_1) g1_0 a1_0_0 g1_1 a1_1_0 true _ ?side1 ?side2 A6.out).mono ?_);(case side1=>exact (by (with_reducible repeat first|apply Ql|apply Qm|apply Qk);exact BK46.out));(case side2=>exact (by (with_reducible repeat first|apply Ql|apply Qm|apply Qk);exact BK47.out));rintro e w' ⟨rfl,⟨nd,rfl⟩⟩))
        go_ret
        exact ⟨by first|rfl|(simp [errW_none,errW_some] <;> rfl)|(simp [*,errW_none,errW_some] <;> rfl),by repeat (first|(with_reducible first|exact HB.out|apply Qc|apply Qa|apply Qb|refine Qf ?_ GE46.out|refine Qf ?_ GE47.out)|exact HB.out)⟩
       ·replace c7:=Bool.eq_false_iff.mpr c7;subst c7;have H1:(sl1_IndexFunc.l0 k1 l0 (l0.length:Int) (wrap64 (x8_1+1)) a1_0_0 a1_1_0)=some r:=by rw [if_neg (show ¬ (false=true) by decide)] at H;exact H
        clear H;have H:=H1;clear H1;have H':=aM H;clear H;have p101:0≤(x8_1:Int):=aK (by first|(with_reducible assumption)|assumption);have q101:x8_1<(l0.length:Int):=aK (by first|(with_reducible assumption)|assumption);obtain ⟨ad101,e101,hx101_0⟩:=Kd.at_int HR0.out x8_1 p101 q101
        cases e101
        replace hx101_0:=(HB.out.cell (aI w _ hx101_0)).trans hx101_0;replace p101:=eq_true p101;replace q101:=eq_true q101;go_wp2_with (first|(go_at_call 265;(with_reducible refine (impl_allWithin_1.calls (rd l0 x8_1) g1_0 a1_0_0 g1_1 a1_1_0 false _ ?side1 ?side2 A6.out).mono ?_);(case side1=>exact (by (with_reducible repeat first|apply Ql|apply Qm|apply Qk);exact BK46.out));(case side2=>exact (by (with_reducible repeat first|apply Ql|apply Qm|apply Qk);exact BK47.out));rintro e w' ⟨rfl,⟨nd,rfl⟩⟩))
        go_roundg k1
        case measure=>have:=HK1.out;omega
        case rel=>exact ⟨(wrap64 (x8_1+1)),(by first|rfl|(simp;done)|(simp [*];done)),H',⟨by have:=HK1.out;omega⟩,⟨by (with_reducible repeat first|apply Ql|apply Qm|apply Qk);exact BK46.out⟩,⟨by (with_reducible repeat first|apply Ql|apply Qm|apply Qk);exact BK47.out⟩,⟨by repeat (first|(with_reducible first|exact HB.out|apply Qc|apply Qa|apply Qb|refine Qf ?_ GE46.out|refine Qf ?_ GE47.out)|exact HB.out)⟩⟩
      ·rw [if_neg c5] at H;exact absurd H (by simp)
     ·rw [if_neg c4] at H;exact absurd H (by simp)
    ·rw [if_neg c3] at H;have c3b0:decide (x8_1<(l0.length:Int))=false:=aN c3;clear c3;obtain rfl:=Option.some.inj H;go_wp2
     go_ret
     exact ⟨by first|rfl|(simp [errW_none,errW_some] <;> rfl)|(simp [*,errW_none,errW_some] <;> rfl),by repeat (first|(with_reducible first|exact HB.out|apply Qc|apply Qa|apply Qb|refine Qf ?_ GE46.out|refine Qf ?_ GE47.out)|exact HB.out)⟩

def sl0_ContainsFunc.f (k:Nat) (l0:List Int) (a1_0_0:Int) (a1_1_0:Int):Option (Bool):=(sl1_IndexFunc.f k l0 a1_0_0 a1_1_0).bind fun t101=>(some (decide (t101 ≥ 0)))
set_option maxHeartbeats 8000000 in
set_option maxRecDepth 100000 in
theorem sl0_ContainsFunc.calls (k:Nat) (A0:Option Addr) (c0:Nat) (l0:List Int) (g1_0:Nat) (a1_0_0:Int) (g1_1:Nat) (a1_1_0:Int) (r:Bool) (w:World) (hr0:Kd.C (Kd.int .i64) w A0 l0.length l0) (hc0:l0.length≤c0) (hg1_0:w.heap[g1_0]? = some (.cells #[.int .i64 a1_0_0] 3 (0,0))) (hg1_1:w.heap[g1_1]? = some (.cells #[.int .i64 a1_1_0] 3 (0,0))) (h:sl0_ContainsFunc.f k l0 a1_0_0 a1_1_0=some r) :
    Calls Try.prog 264 #[.slice A0 l0.length c0,.func (.func 265) #[] #[.pointer (some ⟨g1_0,0,none⟩),.pointer (some ⟨g1_1,0,none⟩)]] w fun e w'=>e= .returned (.bool r)∧Below w.heap.size w w':=by
  have HR0:=aM hr0;have HC0:=aM hc0;clear hr0 hc0;have BK46:=aM hg1_0;clear hg1_0;have BK47:=aM hg1_1;clear hg1_1;have HB:=aM (Below.refl w.heap.size w);have H:((sl1_IndexFunc.f k l0 a1_0_0 a1_1_0).bind fun t101=>(some (decide (t101 ≥ 0))))=some r:=h;clear h;replace H:=Option.bind_eq_some_iff.mp H;obtain ⟨t101,A30,H⟩:=H;replace H:(some (decide (t101 ≥ 0)))=some r:=H;have A3:=aM A30;clear A30;obtain rfl:=Option.some.inj H;go_enter Try.func264,Try.ntmps264;go_wp2_with (first|((with_reducible refine Qj (f:=306) rfl ?_);refine goesL_ (some 7) rfl rfl Try.func306 (by kernel_rfl) rfl #[.slice A0 l0.length c0,.func (.func 265) #[] #[.pointer (some ⟨g1_0,0,none⟩),.pointer (some ⟨g1_1,0,none⟩)]] rfl (by (try simp only [aD,aE,aF]);first|done|rfl|(simp only [aG,aH];rfl)) ?_;(with_reducible refine (sl1_IndexFunc.calls k _ _ l0 g1_0 a1_0_0 g1_1 a1_1_0 t101 _ ?side1 ?side2 ?side3 ?side4 A3.out).mono ?_);(case side1=>repeat first|exact HR0.out|(with_reducible first|refine Kd.Qh ?_ _|refine Kd.Qi ?_ _|refine Kd.C_drew ?_));(case side2=>exact HC0.out);(case side3=>exact (by (with_reducible repeat first|apply Ql|apply Qm|apply Qk);exact BK46.out));(case side4=>exact (by (with_reducible repeat first|apply Ql|apply Qm|apply Qk);exact BK47.out));rintro e w4 ⟨rfl,hb⟩;refine ⟨_,rfl,?_⟩;have n0_:=aM (blk_below (g:=g1_0) (o:= .cells #[.int .i64 a1_0_0] 3 (0,0)) (by (with_reducible repeat first|apply Ql|apply Qm|apply Qk);exact BK46.out) hb);have n1_:=aM (blk_below (g:=g1_1) (o:= .cells #[.int .i64 a1_1_0] 3 (0,0)) (by (with_reducible repeat first|apply Ql|apply Qm|apply Qk);exact BK47.out) hb);have n2_:=aM (Qo (by repeat first|(with_reducible first|exact HB.out|apply Qc|apply Qa|apply Qb|refine Qf ?_ GE46.out|refine Qf ?_ GE47.out)|exact HB.out) hb);clear BK46 BK47 HB;have BK46:=n0_;have BK47:=n1_;have HB:=n2_;clear n0_ n1_ n2_ hb))
  go_ret
  exact ⟨by first|rfl|(simp [errW_none,errW_some] <;> rfl)|(simp [*,errW_none,errW_some] <;> rfl),by repeat (first|(with_reducible first|exact HB.out|apply Qc|apply Qa|apply Qb|refine Qf ?_ GE46.out|refine Qf ?_ GE47.out)|exact HB.out)⟩

def impl_allWithin.f (k:Nat) (l0:List Int) (a1:Int) (a2:Int):Option (Bool):=(sl0_ContainsFunc.f k l0 a1 a2).bind fun t103=>(some (!t103))
set_option maxHeartbeats 8000000 in
set_option maxRecDepth 100000 in
theorem impl_allWithin.calls (k:Nat) (A0:Option Addr) (c0:Nat) (l0:List Int) (a1:Int) (a2:Int) (r:Bool) (w:World) (hr0:Kd.C (Kd.int .i64) w A0 l0.length l0) (hc0:l0.length≤c0) (h:impl_allWithin.f k l0 a1 a2=some r) :
    Calls Try.prog 149 #[.slice A0 l0.length c0,.int .i64 a1,.int .i64 a2] w fun e w'=>e= .returned (.bool r)∧Below w.heap.size w w':=by
  have hmf:∀ (fn:Fn) (first cap:Array Value) (w:World),(Instr.makeFunc fn first cap).run Try.prog w= .ok (.func fn first cap) w:=fun _ _ _ _=>rfl
  have HR0:=aM hr0;have HC0:=aM hc0;clear hr0 hc0;have HB:=aM (Below.refl w.heap.size w);have H:((sl0_ContainsFunc.f k l0 a1 a2).bind fun t103=>(some (!t103)))=some r:=h;clear h;replace H:=Option.bind_eq_some_iff.mp H;obtain ⟨t103,A40,H⟩:=H;replace H:(some (!t103))=some r:=H;have A4:=aM A40;clear A40;obtain rfl:=Option.some.inj H;go_enter Try.func149,Try.ntmps149;go_wp2_with (first|((with_reducible refine gate_dst (N:=4) rfl ?_);refine box_event ?hg (N:=4) ?hd (cs:=#[.int .i64 a1]) (t:=3) ?hr ?_;(case hd=>rfl);(case hg=>rfl);(case hr=>first|(go_simp;done)|(go_simp;rfl));intro gb101 hg w5 hbox hb;have n0_:=aM (Qo (by repeat (with_reducible first|exact HB.out|apply Qc|apply Qa|apply Qb)) hb);have n1_:=aM (hbox);have n2_:=aM ((by rw [hg];exact (Qn (by repeat (with_reducible first|exact HB.out|apply Qc|apply Qa|apply Qb))):w.heap.size≤gb101));have n3_:=aM ((by rw [hg];exact (Qn (by repeat (with_reducible first|exact HB.out|apply Qc|apply Qa|apply Qb))):w.heap.size≤gb101));clear HB;have HB:=n0_;have BK101:=n1_;have GW101:=n2_;have GE101:=n3_;clear n0_ n1_ n2_ n3_ hb hbox hg)|((with_reducible refine gate_dst (N:=5) rfl ?_);refine box_event ?hg (N:=5) ?hd (cs:=#[.int .i64 a2]) (t:=3) ?hr ?_;(case hd=>rfl);(case hg=>rfl);(case hr=>first|(go_simp;done)|(go_simp;rfl));intro gb102 hg w6 hbox hb;have n0_:=aM (blk_below (g:=gb101) (o:= .cells #[.int .i64 a1] 3 (0,0)) (by (with_reducible repeat first|apply Ql|apply Qm|apply Qk);exact BK101.out) hb);have n1_:=aM (Qo (by repeat first|(with_reducible first|exact HB.out|apply Qc|apply Qa|apply Qb|refine Qf ?_ GE101.out)|exact HB.out) hb);have n2_:=aM (hbox);have n3_:=aM ((by rw [hg];exact (Qn (by repeat first|(with_reducible first|exact HB.out|apply Qc|apply Qa|apply Qb|refine Qf ?_ GE101.out)|exact HB.out)):w.heap.size≤gb102));have n4_:=aM ((by rw [hg];exact (Qn (by repeat first|(with_reducible first|exact HB.out|apply Qc|apply Qa|apply Qb|refine Qf ?_ GE101.out)|exact HB.out)):w.heap.size≤gb102));have n5_:=aM ((by rw [hg];exact Nat.ne_of_lt (blk_lt (g:=gb101) (o:= .cells #[.int .i64 a1] 3 (0,0)) (by (with_reducible repeat first|apply Ql|apply Qm|apply Qk);exact BK101.out)):gb101≠gb102));have n6_:=aM ((by rw [hg];exact Nat.ne_of_gt (blk_lt (g:=gb101) (o:= .cells #[.int .i64 a1] 3 (0,0)) (by (with_reducible repeat first|apply Ql|apply Qm|apply Qk);exact BK101.out)):gb102≠gb101));clear BK101 HB;have BK101:=n0_;have HB:=n1_;have BK102:=n2_;have GW102:=n3_;have GE102:=n4_;have NB101_102:=n5_;have NB102_101:=n6_;clear n0_ n1_ n2_ n3_ n4_ n5_ n6_ hb hbox hg)|((with_reducible refine Qj (f:=264) rfl ?_);refine goesL_ (some 9) rfl rfl Try.func264 (by kernel_rfl) rfl #[.slice A0 l0.length c0,.func (.func 265) #[] #[.pointer (some ⟨gb101,0,none⟩),.pointer (some ⟨gb102,0,none⟩)]] rfl (by (try simp only [aD,aE,aF]);first|done|rfl|(simp only [aG,aH];rfl)) ?_;(with_reducible refine (sl0_ContainsFunc.calls k _ _ l0 gb101 a1 gb102 a2 t103 _ ?side1 ?side2 ?side3 ?side4 A4.out).mono ?_);(case side1=>repeat first|exact (Kd.C_below HR0.out HB.out)|(with_reducible first|refine Kd.Qh ?_ _|refine Kd.Qi ?_ _|refine Kd.C_drew ?_));(case side2=>exact HC0.out);(case side3=>exact (by (with_reducible repeat first|apply Ql|apply Qm|apply Qk);exact BK101.out));(case side4=>exact (by (with_reducible repeat first|apply Ql|apply Qm|apply Qk);exact BK102.out));rintro e w7 ⟨rfl,hb⟩;refine ⟨_,rfl,?_⟩;have n0_:=aM (blk_below (g:=gb101) (o:= .cells #[.int .i64 a1] 3 (0,0)) (by (with_reducible repeat first|apply Ql|apply Qm|apply Qk);exact BK101.out) hb);have n1_:=aM (blk_below (g:=gb102) (o:= .cells #[.int .i64 a2] 3 (0,0)) (by (with_reducible repeat first|apply Ql|apply Qm|apply Qk);exact BK102.out) hb);have n2_:=aM (Qo (by repeat first|(with_reducible first|exact HB.out|apply Qc|apply Qa|apply Qb|refine Qf ?_ GE101.out|refine Qf ?_ GE102.out)|exact HB.out) hb);clear BK101 BK102 HB;have BK101:=n0_;have BK102:=n1_;have HB:=n2_;clear n0_ n1_ n2_ hb))
  go_ret
  exact ⟨by first|rfl|(simp [errW_none,errW_some] <;> rfl)|(simp [*,errW_none,errW_some] <;> rfl),by repeat (first|(with_reducible first|exact HB.out|apply Qc|apply Qa|apply Qb|refine Qf ?_ GE101.out|refine Qf ?_ GE102.out)|exact HB.out)⟩

def impl_areUsed.f (k:Nat) (l0:List Int) (l1:List Int):Option (Bool):=if (l0.length:Int)≤10 then (if (l1.length:Int)=(l0.length:Int) then ((impl_allWithin.f k l0 0 1000).bind fun t101=>(if t101=true then ((impl_allWithin.f k l1 0 1000).bind fun t102=>(some t102)) else (some false))) else (some false)) else (some false)
set_option maxHeartbeats 8000000 in
set_option maxRecDepth 100000 in
theorem impl_areUsed.calls (k:Nat) (A0:Option Addr) (c0:Nat) (l0:List Int) (A1:Option Addr) (c1:Nat) (l1:List Int) (r:Bool) (w:World) (hr0:Kd.C (Kd.int .i64) w A0 l0.length l0) (hc0:l0.length≤c0) (hr1:Kd.C (Kd.int .i64) w A1 l1.length l1) (hc1:l1.length≤c1) (h:impl_areUsed.f k l0 l1=some r) :
    Calls Try.prog 205 #[.slice A0 l0.length c0,.slice A1 l1.length c1] w fun e w'=>e= .returned (.bool r)∧Below w.heap.size w w':=by
  have HR0:=aM hr0;have HC0:=aM hc0;clear hr0 hc0;have HR1:=aM hr1;have HC1:=aM hc1;clear hr1 hc1;have HB:=aM (Below.refl w.heap.size w);have H:(if (l0.length:Int)≤10 then (if (l1.length:Int)=(l0.length:Int) then ((impl_allWithin.f k l0 0 1000).bind fun t101=>(if t101=true then ((impl_allWithin.f k l1 0 1000).bind fun t102=>(some t102)) else (some false))) else (some false)) else (some false))=some r:=h;clear h;by_cases c3:(l0.length:Int)≤10
  ·rw [if_pos c3] at H;have c3b0:decide ((l0.length:Int)≤10)=true:=aL c3;have c3b1:decide (l0.length≤10)=true:=aL (by omega);clear c3;by_cases c4:(l1.length:Int)=(l0.length:Int)
   ·rw [if_pos c4] at H;have c4b0:((l1.length:Int) == (l0.length:Int))=true:=beq_iff_eq.mpr c4;have c4b1:((l1.length:Int) != (l0.length:Int))=false:=bne_eq_false_iff_eq.mpr c4;have c4b2:(l1.length == l0.length)=true:=by first|simpa using c4|(simp at c4 ⊢;omega)
    clear c4;replace H:=Option.bind_eq_some_iff.mp H;obtain ⟨t101,A50,H⟩:=H;replace H:(if t101=true then ((impl_allWithin.f k l1 0 1000).bind fun t102=>(some t102)) else (some false))=some r:=H;have A5:=aM A50;clear A50;by_cases c6:t101=true
    ·subst c6;have H1:((impl_allWithin.f k l1 0 1000).bind fun t102=>(some t102))=some r:=by rw [if_pos rfl] at H;exact H
     clear H;have H:=H1;clear H1;replace H:=Option.bind_eq_some_iff.mp H;obtain ⟨t102,A70,H⟩:=H;replace H:(some t102)=some r:=H;have A7:=aM A70;clear A70;obtain rfl:=Option.some.inj H;go_enter Try.func205,Try.ntmps205;go_wp2_with (first|(go_at_call 149;(with_reducible refine (impl_allWithin.calls k _ _ l0 0 1000 true _ ?side1 ?side2 A5.out).mono ?_);(case side1=>repeat first|exact HR0.out|(with_reducible first|refine Kd.Qh ?_ _|refine Kd.Qi ?_ _|refine Kd.C_drew ?_));(case side2=>exact HC0.out);rintro e w8 ⟨rfl,hb⟩;have n0_:=aM (Qo (by repeat (with_reducible first|exact HB.out|apply Qc|apply Qa|apply Qb)) hb);clear HB;have HB:=n0_;clear n0_ hb)|(go_at_call 149;(with_reducible refine (impl_allWithin.calls k _ _ l1 0 1000 t102 _ ?side1 ?side2 A7.out).mono ?_);(case side1=>repeat first|exact (Kd.C_below HR1.out HB.out)|(with_reducible first|refine Kd.Qh ?_ _|refine Kd.Qi ?_ _|refine Kd.C_drew ?_));(case side2=>exact HC1.out);rintro e w9 ⟨rfl,hb⟩;have n0_:=aM (Qo (by repeat (with_reducible first|exact HB.out|apply Qc|apply Qa|apply Qb)) hb);clear HB;have HB:=n0_;clear n0_ hb))
     go_ret
     exact ⟨by first|rfl|(simp [errW_none,errW_some] <;> rfl)|(simp [*,errW_none,errW_some] <;> rfl),by repeat (with_reducible first|exact HB.out|apply Qc|apply Qa|apply Qb)⟩
    ·replace c6:=Bool.eq_false_iff.mpr c6;subst c6;have H1:(some false)=some r:=by rw [if_neg (show ¬ (false=true) by decide)] at H;exact H
     clear H;have H:=H1;clear H1;obtain rfl:=Option.some.inj H;go_enter Try.func205,Try.ntmps205;go_wp2_with (first|(go_at_call 149;(with_reducible refine (impl_allWithin.calls k _ _ l0 0 1000 false _ ?side1 ?side2 A5.out).mono ?_);(case side1=>repeat first|exact HR0.out|(with_reducible first|refine Kd.Qh ?_ _|refine Kd.Qi ?_ _|refine Kd.C_drew ?_));(case side2=>exact HC0.out);rintro e w10 ⟨rfl,hb⟩;have n0_:=aM (Qo (by repeat (with_reducible first|exact HB.out|apply Qc|apply Qa|apply Qb)) hb);clear HB;have HB:=n0_;clear n0_ hb))
     go_ret
     exact ⟨by first|rfl|(simp [errW_none,errW_some] <;> rfl)|(simp [*,errW_none,errW_some] <;> rfl),by repeat (with_reducible first|exact HB.out|apply Qc|apply Qa|apply Qb)⟩
   ·rw [if_neg c4] at H;have c4b0:((l1.length:Int) == (l0.length:Int))=false:=beq_eq_false_iff_ne.mpr c4;have c4b1:((l1.length:Int) != (l0.length:Int))=true:=bne_iff_ne.mpr c4;have c4b2:(l1.length == l0.length)=false:=by first|simpa using c4|(simp at c4 ⊢;omega)
    obtain rfl:=Option.some.inj H;go_enter Try.func205,Try.ntmps205;go_wp2
    go_ret
    exact ⟨by first|rfl|(simp [errW_none,errW_some] <;> rfl)|(simp [*,errW_none,errW_some] <;> rfl),by repeat (with_reducible first|exact HB.out|apply Qc|apply Qa|apply Qb)⟩
  ·rw [if_neg c3] at H;have c3b0:decide ((l0.length:Int)≤10)=false:=aN c3;have c3b1:decide (l0.length≤10)=false:=aN (by omega);clear c3;obtain rfl:=Option.some.inj H;go_enter Try.func205,Try.ntmps205;go_wp2
   go_ret
   exact ⟨by first|rfl|(simp [errW_none,errW_some] <;> rfl)|(simp [*,errW_none,errW_some] <;> rfl),by repeat (with_reducible first|exact HB.out|apply Qc|apply Qa|apply Qb)⟩

def impl_isOrdered.f (k:Nat) (l0:List Int) (l1:List Int) (l2:List Int):Option (Bool):=(impl_areUsed.f k l0 l1).bind fun t101=>(if t101=true then ((impl_isOrder.f l2 (l0.length:Int)).bind fun t102=>(some t102)) else (some false))
set_option maxHeartbeats 8000000 in
set_option maxRecDepth 100000 in
theorem impl_isOrdered.calls (k:Nat) (A0:Option Addr) (c0:Nat) (l0:List Int) (A1:Option Addr) (c1:Nat) (l1:List Int) (A2:Option Addr) (c2:Nat) (l2:List Int) (r:Bool) (w:World) (hr0:Kd.C (Kd.int .i64) w A0 l0.length l0) (hc0:l0.length≤c0) (hr1:Kd.C (Kd.int .i64) w A1 l1.length l1) (hc1:l1.length≤c1) (hr2:Kd.C (Kd.int .i64) w A2 l2.length l2) (hc2:l2.length≤c2) (h:impl_isOrdered.f k l0 l1 l2=some r) :
    Calls Try.prog 201 #[.slice A0 l0.length c0,.slice A1 l1.length c1,.slice A2 l2.length c2] w fun e w'=>e= .returned (.bool r)∧Below w.heap.size w w':=by
  have HR0:=aM hr0;have HC0:=aM hc0;clear hr0 hc0;have HR1:=aM hr1;have HC1:=aM hc1;clear hr1 hc1;have HR2:=aM hr2;have HC2:=aM hc2;clear hr2 hc2;have HB:=aM (Below.refl w.heap.size w);have H:((impl_areUsed.f k l0 l1).bind fun t101=>(if t101=true then ((impl_isOrder.f l2 (l0.length:Int)).bind fun t102=>(some t102)) else (some false)))=some r:=h;clear h;replace H:=Option.bind_eq_some_iff.mp H;obtain ⟨t101,A40,H⟩:=H;replace H:(if t101=true then ((impl_isOrder.f l2 (l0.length:Int)).bind fun t102=>(some t102)) else (some false))=some r:=H;have A4:=aM A40;clear A40;by_cases c5:t101=true
  ·subst c5;have H1:((impl_isOrder.f l2 (l0.length:Int)).bind fun t102=>(some t102))=some r:=by rw [if_pos rfl] at H;exact H
   clear H;have H:=H1;clear H1;replace H:=Option.bind_eq_some_iff.mp H;obtain ⟨t102,A60,H⟩:=H;replace H:(some t102)=some r:=H;have A6:=aM A60;clear A60;obtain rfl:=Option.some.inj H;go_enter Try.func201,Try.ntmps201;go_wp2_with (first|((with_reducible refine Qj (f:=205) rfl ?_);refine goesL_ (some 9) rfl rfl Try.func205 (by kernel_rfl) rfl #[.slice A0 l0.length c0,.slice A1 l1.length c1] rfl (by (try simp only [aD,aE,aF]);first|done|rfl|(simp only [aG,aH];rfl)) ?_;(with_reducible refine (impl_areUsed.calls k _ _ l0 _ _ l1 true _ ?side1 ?side2 ?side3 ?side4 A4.out).mono ?_);(case side1=>repeat first|exact HR0.out|(with_reducible first|refine Kd.Qh ?_ _|refine Kd.Qi ?_ _|refine Kd.C_drew ?_));(case side2=>exact HC0.out);(case side3=>repeat first|exact HR1.out|(with_reducible first|refine Kd.Qh ?_ _|refine Kd.Qi ?_ _|refine Kd.C_drew ?_));(case side4=>exact HC1.out);rintro e w7 ⟨rfl,hb⟩;refine ⟨_,rfl,?_⟩;have n0_:=aM (Qo (by repeat (with_reducible first|exact HB.out|apply Qc|apply Qa|apply Qb)) hb);clear HB;have HB:=n0_;clear n0_ hb)|(go_at_call 193;(with_reducible refine (impl_isOrder.calls _ _ l2 (l0.length:Int) t102 _ ?side1 ?side2 A6.out).mono ?_);(case side1=>repeat first|exact (Kd.C_below HR2.out HB.out)|(with_reducible first|refine Kd.Qh ?_ _|refine Kd.Qi ?_ _|refine Kd.C_drew ?_));(case side2=>exact HC2.out);rintro e w8 ⟨rfl,hb⟩;have n0_:=aM (Qo (by repeat (with_reducible first|exact HB.out|apply Qc|apply Qa|apply Qb)) hb);clear HB;have HB:=n0_;clear n0_ hb))
   go_ret
   exact ⟨by first|rfl|(simp [errW_none,errW_some] <;> rfl)|(simp [*,errW_none,errW_some] <;> rfl),by repeat (with_reducible first|exact HB.out|apply Qc|apply Qa|apply Qb)⟩
  ·replace c5:=Bool.eq_false_iff.mpr c5;subst c5;have H1:(some false)=some r:=by rw [if_neg (show ¬ (false=true) by decide)] at H;exact H
   clear H;have H:=H1;clear H1;obtain rfl:=Option.some.inj H;go_enter Try.func201,Try.ntmps201;go_wp2_with (first|((with_reducible refine Qj (f:=205) rfl ?_);refine goesL_ (some 9) rfl rfl Try.func205 (by kernel_rfl) rfl #[.slice A0 l0.length c0,.slice A1 l1.length c1] rfl (by (try simp only [aD,aE,aF]);first|done|rfl|(simp only [aG,aH];rfl)) ?_;(with_reducible refine (impl_areUsed.calls k _ _ l0 _ _ l1 false _ ?side1 ?side2 ?side3 ?side4 A4.out).mono ?_);(case side1=>repeat first|exact HR0.out|(with_reducible first|refine Kd.Qh ?_ _|refine Kd.Qi ?_ _|refine Kd.C_drew ?_));(case side2=>exact HC0.out);(case side3=>repeat first|exact HR1.out|(with_reducible first|refine Kd.Qh ?_ _|refine Kd.Qi ?_ _|refine Kd.C_drew ?_));(case side4=>exact HC1.out);rintro e w9 ⟨rfl,hb⟩;refine ⟨_,rfl,?_⟩;have n0_:=aM (Qo (by repeat (with_reducible first|exact HB.out|apply Qc|apply Qa|apply Qb)) hb);clear HB;have HB:=n0_;clear n0_ hb))
   go_ret
   exact ⟨by first|rfl|(simp [errW_none,errW_some] <;> rfl)|(simp [*,errW_none,errW_some] <;> rfl),by repeat (with_reducible first|exact HB.out|apply Qc|apply Qa|apply Qb)⟩

def impl_orderCost.l0:Nat→List Int→List Int→Int→List Int→Int→Int→Option (Int)
  |0,_,_,_,_,_,_=>none
  |k+1,x0,x1,x7,x10,x11,x12=>if x12<x11 then (if 0≤x12 then (if x12<(x10.length:Int) then (if 0≤(rd x10 x12) then (if (rd x10 x12)<(x0.length:Int) then (if x12<(x1.length:Int) then (impl_orderCost.l0 k x0 x1 (wrap64 (x7+(wrap64 ((rd x0 (rd x10 x12)) * (rd x1 x12))))) x10 x11 (wrap64 (x12+1))) else (none)) else (none)) else (none)) else (none)) else (none)) else (some x7)
def impl_orderCost.f (k:Nat) (l0:List Int) (l1:List Int) (l2:List Int):Option (Int):=impl_orderCost.l0 k l0 l1 0 l2 (l2.length:Int) 0
set_option maxHeartbeats 8000000 in
set_option maxRecDepth 100000 in
theorem impl_orderCost.calls (k:Nat) (A0:Option Addr) (c0:Nat) (l0:List Int) (A1:Option Addr) (c1:Nat) (l1:List Int) (A2:Option Addr) (c2:Nat) (l2:List Int) (r:Int) (w:World) (hr0:Kd.C (Kd.int .i64) w A0 l0.length l0) (hc0:l0.length≤c0) (hr1:Kd.C (Kd.int .i64) w A1 l1.length l1) (hc1:l1.length≤c1) (hr2:Kd.C (Kd.int .i64) w A2 l2.length l2) (hc2:l2.length≤c2) (h:impl_orderCost.f k l0 l1 l2=some r) :
    Calls Try.prog 202 #[.slice A0 l0.length c0,.slice A1 l1.length c1,.slice A2 l2.length c2] w fun e w'=>e= .returned (.int .i64 r)∧Drawn0 w w':=by
  have HR0:=aM hr0;have HC0:=aM hc0;clear hr0 hc0;have HR1:=aM hr1;have HC1:=aM hc1;clear hr1 hc1;have HR2:=aM hr2;have HC2:=aM hc2;clear hr2 hc2;have H:(impl_orderCost.l0 k l0 l1 0 l2 (l2.length:Int) 0)=some r:=h;clear h;have H':=aM H;clear H;go_enter Try.func202,Try.ntmps202;go_wp2
  repeat (go_quiet (fail);try go_wp2)
  go_loopg [7,12] k (fun kq v7 v12 w'=>∃ (x7_1:Int) (x12_1:Int),v7= .int .i64 x7_1∧v12= .int .i64 x12_1∧Aside0 (impl_orderCost.l0 kq l0 l1 x7_1 l2 (l2.length:Int) x12_1=some r)∧Aside0 (kq≤k)∧Drawn0 w w')
  case atStart=>exact ⟨(0),(0),(by first|rfl|(simp;done)|(simp [*];done)),(by first|rfl|(simp;done)|(simp [*];done)),H',⟨Nat.le_refl _⟩,by repeat (first|exact Drawn0.refl _|apply Drawn0.step)⟩
  case round=>
   clear H';(try clear c1);(try clear c2);(try clear p2);obtain ⟨x7_1,x12_1,rfl,rfl,HA,HK1,⟨m1,rfl⟩⟩:=hrel
   cases gk with
   |zero=>exact absurd HA.out (by simp [impl_orderCost.l0])
   |succ k1=>
    have H:=HA.out;clear HA;simp only [impl_orderCost.l0] at H;by_cases c4:x12_1<(l2.length:Int)
    ·rw [if_pos c4] at H;have c4b0:decide (x12_1<(l2.length:Int))=true:=aL c4;clear c4;by_cases c5:0≤x12_1
     ·rw [if_pos c5] at H;have c5b0:decide (0≤x12_1)=true:=aL c5;clear c5;by_cases c6:x12_1<(l2.length:Int)
      ·rw [if_pos c6] at H;have c6b0:decide (x12_1<(l2.length:Int))=true:=aL c6;clear c6;by_cases c7:0≤(rd l2 x12_1)
       ·rw [if_pos c7] at H;have c7b0:decide (0≤(rd l2 x12_1))=true:=aL c7;clear c7;by_cases c8:(rd l2 x12_1)<(l0.length:Int)
        ·rw [if_pos c8] at H;have c8b0:decide ((rd l2 x12_1)<(l0.length:Int))=true:=aL c8;clear c8;by_cases c9:x12_1<(l1.length:Int)
         ·rw [if_pos c9] at H;have c9b0:decide (x12_1<(l1.length:Int))=true:=aL c9;clear c9;have H':=aM H;clear H;have p101:0≤(x12_1:Int):=aK (by first|(with_reducible assumption)|assumption);have q101:x12_1<(l2.length:Int):=aK (by first|(with_reducible assumption)|assumption);obtain ⟨ad101,e101,hx101_0⟩:=Kd.at_int HR2.out x12_1 p101 q101
          cases e101
          replace p101:=eq_true p101;replace q101:=eq_true q101;have p102:0≤((rd l2 x12_1):Int):=aK (by first|(with_reducible assumption)|assumption);have q102:(rd l2 x12_1)<(l0.length:Int):=aK (by first|(with_reducible assumption)|assumption);obtain ⟨ad102,e102,hx102_0⟩:=Kd.at_int HR0.out (rd l2 x12_1) p102 q102
          cases e102
          replace p102:=eq_true p102;replace q102:=eq_true q102;have p103:0≤(x12_1:Int):=aK (by first|(with_reducible assumption)|assumption);have q103:x12_1<(l1.length:Int):=aK (by first|(with_reducible assumption)|assumption);obtain ⟨ad103,e103,hx103_0⟩:=Kd.at_int HR1.out x12_1 p103 q103
          cases e103
          replace p103:=eq_true p103;replace q103:=eq_true q103;go_wp2
          repeat (go_quiet (fail);try go_wp2)
          go_roundg k1
          case measure=>have:=HK1.out;omega
          case rel=>exact ⟨(wrap64 (x7_1+(wrap64 ((rd l0 (rd l2 x12_1)) * (rd l1 x12_1))))),(wrap64 (x12_1+1)),(by first|rfl|(simp;done)|(simp [*];done)),(by first|rfl|(simp;done)|(simp [*];done)),H',⟨by have:=HK1.out;omega⟩,by repeat (first|exact Drawn0.refl _|apply Drawn0.step)⟩
         ·rw [if_neg c9] at H;exact absurd H (by simp)
        ·rw [if_neg c8] at H;exact absurd H (by simp)
       ·rw [if_neg c7] at H;exact absurd H (by simp)
      ·rw [if_neg c6] at H;exact absurd H (by simp)
     ·rw [if_neg c5] at H;exact absurd H (by simp)
    ·rw [if_neg c4] at H;have c4b0:decide (x12_1<(l2.length:Int))=false:=aN c4;clear c4;obtain rfl:=Option.some.inj H;go_wp2
     repeat (go_quiet (fail);try go_wp2)
     go_ret
     exact ⟨by first|rfl|(simp;done)|(simp [*];done),by repeat (first|exact Drawn0.refl _|apply Drawn0.step)⟩

def impl_OrderCost.f (k:Nat) (l0:List Int) (l1:List Int) (l2:List Int):Option (Int×Bool):=(impl_isOrdered.f k l0 l1 l2).bind fun t101=>(if t101=true then ((impl_orderCost.f k l0 l1 l2).bind fun t102=>(some (t102,true))) else (some (0,false)))
set_option maxHeartbeats 8000000 in
set_option maxRecDepth 100000 in
theorem impl_OrderCost.calls (k:Nat) (A0:Option Addr) (c0:Nat) (l0:List Int) (A1:Option Addr) (c1:Nat) (l1:List Int) (A2:Option Addr) (c2:Nat) (l2:List Int) (r1:Int) (r2:Bool) (w:World) (hr0:Kd.C (Kd.int .i64) w A0 l0.length l0) (hc0:l0.length≤c0) (hr1:Kd.C (Kd.int .i64) w A1 l1.length l1) (hc1:l1.length≤c1) (hr2:Kd.C (Kd.int .i64) w A2 l2.length l2) (hc2:l2.length≤c2) (h:impl_OrderCost.f k l0 l1 l2=some (r1,r2)) :
    Calls Try.prog 66 #[.slice A0 l0.length c0,.slice A1 l1.length c1,.slice A2 l2.length c2] w fun e w'=>e= .returned (.tuple #[.int .i64 r1,.bool r2])∧Below w.heap.size w w':=by
  have HR0:=aM hr0;have HC0:=aM hc0;clear hr0 hc0;have HR1:=aM hr1;have HC1:=aM hc1;clear hr1 hc1;have HR2:=aM hr2;have HC2:=aM hc2;clear hr2 hc2;have HB:=aM (Below.refl w.heap.size w);have H:((impl_isOrdered.f k l0 l1 l2).bind fun t101=>(if t101=true then ((impl_orderCost.f k l0 l1 l2).bind fun t102=>(some (t102,true))) else (some (0,false))))=some (r1,r2):=h;clear h;replace H:=Option.bind_eq_some_iff.mp H;obtain ⟨t101,A40,H⟩:=H;replace H:(if t101=true then ((impl_orderCost.f k l0 l1 l2).bind fun t102=>(some (t102,true))) else (some (0,false)))=some (r1,r2):=H;have A4:=aM A40;clear A40;by_cases c5:t101=true
  ·subst c5;have H1:((impl_orderCost.f k l0 l1 l2).bind fun t102=>(some (t102,true)))=some (r1,r2):=by rw [if_pos rfl] at H;exact H
   clear H;have H:=H1;clear H1;replace H:=Option.bind_eq_some_iff.mp H;obtain ⟨t102,A60,H⟩:=H;replace H:(some (t102,true))=some (r1,r2):=H;have A6:=aM A60;clear A60;simp only [Option.some.injEq,Prod.mk.injEq] at H;obtain ⟨rfl,rfl⟩:=H;go_enter Try.func66,Try.ntmps66;go_wp2_with (first|((with_reducible refine Qj (f:=201) rfl ?_);refine goesL_ (some 11) rfl rfl Try.func201 (by kernel_rfl) rfl #[.slice A0 l0.length c0,.slice A1 l1.length c1,.slice A2 l2.length c2] rfl (by (try simp only [aD,aE,aF]);first|done|rfl|(simp only [aG,aH];rfl)) ?_;(with_reducible refine (impl_isOrdered.calls k _ _ l0 _ _ l1 _ _ l2 true _ ?side1 ?side2 ?side3 ?side4 ?side5 ?side6 A4.out).mono ?_);(case side1=>repeat first|exact HR0.out|(with_reducible first|refine Kd.Qh ?_ _|refine Kd.Qi ?_ _|refine Kd.C_drew ?_));(case side2=>exact HC0.out);(case side3=>repeat first|exact HR1.out|(with_reducible first|refine Kd.Qh ?_ _|refine Kd.Qi ?_ _|refine Kd.C_drew ?_));(case side4=>exact HC1.out);(case side5=>repeat first|exact HR2.out|(with_reducible first|refine Kd.Qh ?_ _|refine Kd.Qi ?_ _|refine Kd.C_drew ?_));(case side6=>exact HC2.out);rintro e w7 ⟨rfl,hb⟩;refine ⟨_,rfl,?_⟩;have n0_:=aM (Qo (by repeat (with_reducible first|exact HB.out|apply Qc|apply Qa|apply Qb)) hb);clear HB;have HB:=n0_;clear n0_ hb)|((with_reducible refine Qj (f:=202) rfl ?_);refine goesL_ (some 16) rfl rfl Try.func202 (by kernel_rfl) rfl #[.slice A0 l0.length c0,.slice A1 l1.length c1,.slice A2 l2.length c2] rfl (by (try simp only [aD,aE,aF]);first|done|rfl|(simp only [aG,aH];rfl)) ?_;(with_reducible refine (impl_orderCost.calls k _ _ l0 _ _ l1 _ _ l2 t102 _ ?side1 ?side2 ?side3 ?side4 ?side5 ?side6 A6.out).mono ?_);(case side1=>repeat first|exact (Kd.C_below HR0.out HB.out)|(with_reducible first|refine Kd.Qh ?_ _|refine Kd.Qi ?_ _|refine Kd.C_drew ?_));(case side2=>exact HC0.out);(case side3=>repeat first|exact (Kd.C_below HR1.out HB.out)|(with_reducible first|refine Kd.Qh ?_ _|refine Kd.Qi ?_ _|refine Kd.C_drew ?_));(case side4=>exact HC1.out);(case side5=>repeat first|exact (Kd.C_below HR2.out HB.out)|(with_reducible first|refine Kd.Qh ?_ _|refine Kd.Qi ?_ _|refine Kd.C_drew ?_));(case side6=>exact HC2.out);rintro e w' ⟨rfl,⟨nd,rfl⟩⟩;refine ⟨_,rfl,?_⟩))
   go_ret2
   exact ⟨by first|rfl|(simp [errW_none,errW_some] <;> rfl)|(simp [*,errW_none,errW_some] <;> rfl),by repeat (with_reducible first|exact HB.out|apply Qc|apply Qa|apply Qb)⟩
  ·replace c5:=Bool.eq_false_iff.mpr c5;subst c5;have H1:(some (0,false))=some (r1,r2):=by rw [if_neg (show ¬ (false=true) by decide)] at H;exact H
   clear H;have H:=H1;clear H1;simp only [Option.some.injEq,Prod.mk.injEq] at H;obtain ⟨rfl,rfl⟩:=H;go_enter Try.func66,Try.ntmps66;go_wp2_with (first|((with_reducible refine Qj (f:=201) rfl ?_);refine goesL_ (some 11) rfl rfl Try.func201 (by kernel_rfl) rfl #[.slice A0 l0.length c0,.slice A1 l1.length c1,.slice A2 l2.length c2] rfl (by (try simp only [aD,aE,aF]);first|done|rfl|(simp only [aG,aH];rfl)) ?_;(with_reducible refine (impl_isOrdered.calls k _ _ l0 _ _ l1 _ _ l2 false _ ?side1 ?side2 ?side3 ?side4 ?side5 ?side6 A4.out).mono ?_);(case side1=>repeat first|exact HR0.out|(with_reducible first|refine Kd.Qh ?_ _|refine Kd.Qi ?_ _|refine Kd.C_drew ?_));(case side2=>exact HC0.out);(case side3=>repeat first|exact HR1.out|(with_reducible first|refine Kd.Qh ?_ _|refine Kd.Qi ?_ _|refine Kd.C_drew ?_));(case side4=>exact HC1.out);(case side5=>repeat first|exact HR2.out|(with_reducible first|refine Kd.Qh ?_ _|refine Kd.Qi ?_ _|refine Kd.C_drew ?_));(case side6=>exact HC2.out);rintro e w8 ⟨rfl,hb⟩;refine ⟨_,rfl,?_⟩;have n0_:=aM (Qo (by repeat (with_reducible first|exact HB.out|apply Qc|apply Qa|apply Qb)) hb);clear HB;have HB:=n0_;clear n0_ hb))
   go_ret2
   exact ⟨by first|rfl|(simp [errW_none,errW_some] <;> rfl)|(simp [*,errW_none,errW_some] <;> rfl),by repeat (with_reducible first|exact HB.out|apply Qc|apply Qa|apply Qb)⟩

def spec_l1In.f (a0:Int) (a1:Int) (a2:Int):Option (Bool):=if a0 ≥ a1 then (some (decide (a0≤a2))) else (some false)
set_option maxHeartbeats 8000000 in
set_option maxRecDepth 100000 in
theorem spec_l1In.calls (a0:Int) (a1:Int) (a2:Int) (r:Bool) (w:World) (h:spec_l1In.f a0 a1 a2=some r) :
    Calls Try.prog 170 #[.int .i64 a0,.int .i64 a1,.int .i64 a2] w fun e w'=>e= .returned (.bool r)∧Drawn0 w w':=by
  have H:(if a0 ≥ a1 then (some (decide (a0≤a2))) else (some false))=some r:=h;clear h;by_cases c4:a0 ≥ a1
  ·rw [if_pos c4] at H;have c4b0:decide (a1≤a0)=true:=aL c4;clear c4;obtain rfl:=Option.some.inj H;go_enter Try.func170,Try.ntmps170;go_wp2
   go_ret
   exact ⟨by first|rfl|(simp;done)|(simp [*];done),by repeat (first|exact Drawn0.refl _|apply Drawn0.step)⟩
  ·rw [if_neg c4] at H;have c4b0:decide (a1≤a0)=false:=aN c4;clear c4;obtain rfl:=Option.some.inj H;go_enter Try.func170,Try.ntmps170;go_wp2
   go_ret
   exact ⟨by first|rfl|(simp;done)|(simp [*];done),by repeat (first|exact Drawn0.refl _|apply Drawn0.step)⟩

def spec_l1Has.l0:Nat→Int→List Int→Int→Int→Option (Bool)
  |0,_,_,_,_=>none
  |k+1,x1,x7,x8,x9=>if x9<x8 then (if 0≤x9 then (if x9<(x7.length:Int) then (if (rd x7 x9)=x1 then (some true) else (spec_l1Has.l0 k x1 x7 x8 (wrap64 (x9+1)))) else (none)) else (none)) else (some false)
def spec_l1Has.f (k:Nat) (l0:List Int) (a1:Int):Option (Bool):=spec_l1Has.l0 k a1 l0 (l0.length:Int) 0
set_option maxHeartbeats 8000000 in
set_option maxRecDepth 100000 in
theorem spec_l1Has.calls (k:Nat) (A0:Option Addr) (c0:Nat) (l0:List Int) (a1:Int) (r:Bool) (w:World) (hr0:Kd.C (Kd.int .i64) w A0 l0.length l0) (hc0:l0.length≤c0) (h:spec_l1Has.f k l0 a1=some r) :
    Calls Try.prog 153 #[.slice A0 l0.length c0,.int .i64 a1] w fun e w'=>e= .returned (.bool r)∧Drawn0 w w':=by
  have HR0:=aM hr0;have HC0:=aM hc0;clear hr0 hc0;have H:(spec_l1Has.l0 k a1 l0 (l0.length:Int) 0)=some r:=h;clear h;have H':=aM H;clear H;go_enter Try.func153,Try.ntmps153;go_wp2;go_loopg [9] k (fun kq v9 w'=>∃ (x9_1:Int),v9= .int .i64 x9_1∧Aside0 (spec_l1Has.l0 kq a1 l0 (l0.length:Int) x9_1=some r)∧Aside0 (kq≤k)∧Drawn0 w w')
  case atStart=>exact ⟨(0),(by first|rfl|(simp;done)|(simp [*];done)),H',⟨Nat.le_refl _⟩,by repeat (first|exact Drawn0.refl _|apply Drawn0.step)⟩
  case round=>
   clear H';(try clear c1);(try clear p2);obtain ⟨x9_1,rfl,HA,HK1,⟨m1,rfl⟩⟩:=hrel
   cases gk with
   |zero=>exact absurd HA.out (by simp [spec_l1Has.l0])
   |succ k1=>
    have H:=HA.out;clear HA;simp only [spec_l1Has.l0] at H;by_cases c3:x9_1<(l0.length:Int)
    ·rw [if_pos c3] at H;have c3b0:decide (x9_1<(l0.length:Int))=true:=aL c3;clear c3;by_cases c4:0≤x9_1
     ·rw [if_pos c4] at H;have c4b0:decide (0≤x9_1)=true:=aL c4;clear c4;by_cases c5:x9_1<(l0.length:Int)
      ·rw [if_pos c5] at H;have c5b0:decide (x9_1<(l0.length:Int))=true:=aL c5;clear c5;by_cases c6:(rd l0 x9_1)=a1
       ·rw [if_pos c6] at H;have c6b0:((rd l0 x9_1) == a1)=true:=beq_iff_eq.mpr c6;have c6b1:((rd l0 x9_1) != a1)=false:=bne_eq_false_iff_eq.mpr c6;clear c6;obtain rfl:=Option.some.inj H;have p101:0≤(x9_1:Int):=aK (by first|(with_reducible assumption)|assumption);have q101:x9_1<(l0.length:Int):=aK (by first|(with_reducible assumption)|assumption);obtain ⟨ad101,e101,hx101_0⟩:=Kd.at_int HR0.out x9_1 p101 q101
        cases e101
        replace p101:=eq_true p101;replace q101:=eq_true q101;go_wp2
        go_ret
        exact ⟨by first|rfl|(simp;done)|(simp [*];done),by repeat (first|exact Drawn0.refl _|apply Drawn0.step)⟩
       ·rw [if_neg c6] at H;have c6b0:((rd l0 x9_1) == a1)=false:=beq_eq_false_iff_ne.mpr c6;have c6b1:((rd l0 x9_1) != a1)=true:=bne_iff_ne.mpr c6;have H':=aM H;clear H;have p101:0≤(x9_1:Int):=aK (by first|(with_reducible assumption)|assumption);have q101:x9_1<(l0.length:Int):=aK (by first|(with_reducible assumption)|assumption);obtain ⟨ad101,e101,hx101_0⟩:=Kd.at_int HR0.out x9_1 p101 q101
        cases e101
        replace p101:=eq_true p101;replace q101:=eq_true q101;go_wp2;go_roundg k1
        case measure=>have:=HK1.out;omega
        case rel=>exact ⟨(wrap64 (x9_1+1)),(by first|rfl|(simp;done)|(simp [*];done)),H',⟨by have:=HK1.out;omega⟩,by repeat (first|exact Drawn0.refl _|apply Drawn0.step)⟩
      ·rw [if_neg c5] at H;exact absurd H (by simp)
     ·rw [if_neg c4] at H;exact absurd H (by simp)
    ·rw [if_neg c3] at H;have c3b0:decide (x9_1<(l0.length:Int))=false:=aN c3;clear c3;obtain rfl:=Option.some.inj H;go_wp2
     go_ret
     exact ⟨by first|rfl|(simp;done)|(simp [*];done),by repeat (first|exact Drawn0.refl _|apply Drawn0.step)⟩

def spec_l7Order.l0:Nat→List Int→Int→List Int→Int→Int→Option (Bool)
  |0,_,_,_,_,_=>none
  |k+1,x0,x1,x11,x12,x13=>if x13<x12 then (if 0≤x13 then (if x13<(x11.length:Int) then ((spec_l1In.f (rd x11 x13) 0 (wrap64 (x1 - 1))).bind fun t102=>(if t102=true then (if x13≤(x0.length:Int) then ((spec_l1Has.f k (x0.take (x13:Int).toNat) (rd x11 x13)).bind fun t104=>(if t104=true then (some false) else (spec_l7Order.l0 k x0 x1 x11 x12 (wrap64 (x13+1))))) else (none)) else (some false))) else (none)) else (none)) else (some true)
def spec_l7Order.f (k:Nat) (l0:List Int) (a1:Int):Option (Bool):=if (l0.length:Int)=a1 then (spec_l7Order.l0 k l0 a1 l0 (l0.length:Int) 0) else (some false)
set_option maxHeartbeats 8000000 in
set_option maxRecDepth 100000 in
theorem spec_l7Order.calls (k:Nat) (A0:Option Addr) (c0:Nat) (l0:List Int) (a1:Int) (r:Bool) (w:World) (hr0:Kd.C (Kd.int .i64) w A0 l0.length l0) (hc0:l0.length≤c0) (h:spec_l7Order.f k l0 a1=some r) :
    Calls Try.prog 195 #[.slice A0 l0.length c0,.int .i64 a1] w fun e w'=>e= .returned (.bool r)∧Drawn0 w w':=by
  have HR0:=aM hr0;have HC0:=aM hc0;clear hr0 hc0;have H:(if (l0.length:Int)=a1 then (spec_l7Order.l0 k l0 a1 l0 (l0.length:Int) 0) else (some false))=some r:=h;clear h;by_cases c3:(l0.length:Int)=a1
  ·rw [if_pos c3] at H;have c3b0:((l0.length:Int) == a1)=true:=beq_iff_eq.mpr c3;have c3b1:((l0.length:Int) != a1)=false:=bne_eq_false_iff_eq.mpr c3;clear c3;have H':=aM H;clear H;go_enter Try.func195,Try.ntmps195;go_wp2;go_loopg [13] k (fun kq v13 w'=>∃ (x13_1:Int),v13= .int .i64 x13_1∧Aside0 (spec_l7Order.l0 kq l0 a1 l0 (l0.length:Int) x13_1=some r)∧Aside0 (kq≤k)∧Drawn0 w w')
   case atStart=>exact ⟨(0),(by first|rfl|(simp;done)|(simp [*];done)),H',⟨Nat.le_refl _⟩,by repeat (first|exact Drawn0.refl _|apply Drawn0.step)⟩
   case round=>
    clear H';(try clear c1);(try clear p2);(try clear c3);(try clear c3b0);(try clear c3b1);obtain ⟨x13_1,rfl,HA,HK1,⟨m1,rfl⟩⟩:=hrel
    cases gk with
    |zero=>exact absurd HA.out (by simp [spec_l7Order.l0])
    |succ k1=>
     have H:=HA.out;clear HA;simp only [spec_l7Order.l0] at H;by_cases c4:x13_1<(l0.length:Int)
     ·rw [if_pos c4] at H;have c4b0:decide (x13_1<(l0.length:Int))=true:=aL c4;clear c4;by_cases c5:0≤x13_1
      ·rw [if_pos c5] at H;have c5b0:decide (0≤x13_1)=true:=aL c5;clear c5;by_cases c6:x13_1<(l0.length:Int)
       ·rw [if_pos c6] at H;have c6b0:decide (x13_1<(l0.length:Int))=true:=aL c6;clear c6;replace H:=Option.bind_eq_some_iff.mp H;obtain ⟨t102,A70,H⟩:=H;replace H:(if t102=true then (if x13_1≤(l0.length:Int) then ((spec_l1Has.f k1 (l0.take (x13_1:Int).toNat) (rd l0 x13_1)).bind fun t104=>(if t104=true then (some false) else (spec_l7Order.l0 k1 l0 a1 l0 (l0.length:Int) (wrap64 (x13_1+1))))) else (none)) else (some false))=some r:=H;have A7:=aM A70;clear A70;by_cases c8:t102=true
        ·subst c8;have H1:(if x13_1≤(l0.length:Int) then ((spec_l1Has.f k1 (l0.take (x13_1:Int).toNat) (rd l0 x13_1)).bind fun t104=>(if t104=true then (some false) else (spec_l7Order.l0 k1 l0 a1 l0 (l0.length:Int) (wrap64 (x13_1+1))))) else (none))=some r:=by rw [if_pos rfl] at H;exact H
         clear H;have H:=H1;clear H1;have c9b0:=eq_true (aK (by first|(with_reducible assumption)|assumption):0≤x13_1);by_cases c10:x13_1≤(l0.length:Int)
         ·rw [if_pos c10] at H;have c10b0:=eq_true c10;have c10b1:decide (x13_1≤(l0.length:Int))=true:=aL c10;clear c10;replace H:=Option.bind_eq_some_iff.mp H;obtain ⟨t104,A110,H⟩:=H;replace H:(if t104=true then (some false) else (spec_l7Order.l0 k1 l0 a1 l0 (l0.length:Int) (wrap64 (x13_1+1))))=some r:=H;have A11:=aM A110;clear A110;by_cases c12:t104=true
          ·subst c12;have H1:(some false)=some r:=by rw [if_pos rfl] at H;exact H
           clear H;have H:=H1;clear H1;obtain rfl:=Option.some.inj H;have p101:0≤(x13_1:Int):=aK (by first|(with_reducible assumption)|assumption);have q101:x13_1<(l0.length:Int):=aK (by first|(with_reducible assumption)|assumption);obtain ⟨ad101,e101,hx101_0⟩:=Kd.at_int HR0.out x13_1 p101 q101
           cases e101
           replace p101:=eq_true p101;replace q101:=eq_true q101;go_wp2_with (first|((with_reducible refine Qj (f:=170) rfl ?_);refine goesL_ (some 21) rfl rfl Try.func170 (by kernel_rfl) rfl #[.int .i64 (rd l0 x13_1),.int .i64 0,.int .i64 (wrap64 (a1 - 1))] rfl (by (try simp only [aD,aE,aF]);first|done|rfl|(simp only [aG,aH];rfl)) ?_;(with_reducible refine (spec_l1In.calls (rd l0 x13_1) 0 (wrap64 (a1 - 1)) true _ A7.out).mono ?_);rintro e w' ⟨rfl,⟨nd,rfl⟩⟩;refine ⟨_,rfl,?_⟩;obtain ⟨i013,hi013,_,hsz13,_⟩:=info_parts info3;obtain ⟨hcut13,hA13,hC13⟩:=print_take_of (P:=Try.prog) (Value.int .i64) 0 34 3 .i64 Try.underlying34 hi013 hsz13 (some ad101) c0 l0 x13_1 (aK (by first|(with_reducible assumption)|assumption)) (aK (by first|(with_reducible assumption)|assumption)) HC0.out;have HR103:=aM (Kd.C_of_reads (h1:=fun _=>rfl) (hA13 _ (Kd.reads_of_C HR0.out)));have HC103:=aM hC13;clear hA13 hC13 hi013 hsz13)|(go_at_call 153;refine calls_of_args (args':=#[.slice (some ad101) (l0.take (x13_1:Int).toNat).length c0,.int .i64 (rd l0 x13_1)]) (by first|(rw [show (l0.take (x13_1:Int).toNat).length=x13_1.toNat from (by rw [aH];have h_:(x13_1:Int)≤(l0.length:Int):=aK (by first|(with_reducible assumption)|assumption);omega)] <;> rfl)|rfl) ?_;(with_reducible refine (spec_l1Has.calls k1 _ _ (l0.take (x13_1:Int).toNat) (rd l0 x13_1) true _ ?side1 ?side2 A11.out).mono ?_);(case side1=>repeat first|exact HR103.out|(with_reducible first|refine Kd.Qh ?_ _|refine Kd.Qi ?_ _|refine Kd.C_drew ?_));(case side2=>exact HC103.out);rintro e w' ⟨rfl,⟨nd,rfl⟩⟩))
           go_ret
           exact ⟨by first|rfl|(simp;done)|(simp [*];done),by repeat (first|exact Drawn0.refl _|apply Drawn0.step)⟩
          ·replace c12:=Bool.eq_false_iff.mpr c12;subst c12;have H1:(spec_l7Order.l0 k1 l0 a1 l0 (l0.length:Int) (wrap64 (x13_1+1)))=some r:=by rw [if_neg (show ¬ (false=true) by decide)] at H;exact H
           clear H;have H:=H1;clear H1;have H':=aM H;clear H;have p101:0≤(x13_1:Int):=aK (by first|(with_reducible assumption)|assumption);have q101:x13_1<(l0.length:Int):=aK (by first|(with_reducible assumption)|assumption);obtain ⟨ad101,e101,hx101_0⟩:=Kd.at_int HR0.out x13_1 p101 q101
           cases e101
           replace p101:=eq_true p101;replace q101:=eq_true q101;go_wp2_with (first|((with_reducible refine Qj (f:=170) rfl ?_);refine goesL_ (some 21) rfl rfl Try.func170 (by kernel_rfl) rfl #[.int .i64 (rd l0 x13_1),.int .i64 0,.int .i64 (wrap64 (a1 - 1))] rfl (by (try simp only [aD,aE,aF]);first|done|rfl|(simp only [aG,aH];rfl)) ?_;(with_reducible refine (spec_l1In.calls (rd l0 x13_1) 0 (wrap64 (a1 - 1)) true _ A7.out).mono ?_);rintro e w' ⟨rfl,⟨nd,rfl⟩⟩;refine ⟨_,rfl,?_⟩;obtain ⟨i014,hi014,_,hsz14,_⟩:=info_parts info3;obtain ⟨hcut14,hA14,hC14⟩:=print_take_of (P:=Try.prog) (Value.int .i64) 0 34 3 .i64 Try.underlying34 hi014 hsz14 (some ad101) c0 l0 x13_1 (aK (by first|(with_reducible assumption)|assumption)) (aK (by first|(with_reducible assumption)|assumption)) HC0.out;have HR103:=aM (Kd.C_of_reads (h1:=fun _=>rfl) (hA14 _ (Kd.reads_of_C HR0.out)));have HC103:=aM hC14;clear hA14 hC14 hi014 hsz14)|(go_at_call 153;refine calls_of_args (args':=#[.slice (some ad101) (l0.take (x13_1:Int).toNat).length c0,.int .i64 (rd l0 x13_1)]) (by first|(rw [show (l0.take (x13_1:Int).toNat).length=x13_1.toNat from (by rw [aH];have h_:(x13_1:Int)≤(l0.length:Int):=aK (by first|(with_reducible assumption)|assumption);omega)] <;> rfl)|rfl) ?_;(with_reducible refine (spec_l1Has.calls k1 _ _ (l0.take (x13_1:Int).toNat) (rd l0 x13_1) false _ ?side1 ?side2 A11.out).mono ?_);(case side1=>repeat first|exact HR103.out|(with_reducible first|refine Kd.Qh ?_ _|refine Kd.Qi ?_ _|refine Kd.C_drew ?_));(case side2=>exact HC103.out);rintro e w' ⟨rfl,⟨nd,rfl⟩⟩))
           go_roundg k1
           case measure=>have:=HK1.out;omega
           case rel=>exact ⟨(wrap64 (x13_1+1)),(by first|rfl|(simp;done)|(simp [*];done)),H',⟨by have:=HK1.out;omega⟩,by repeat (first|exact Drawn0.refl _|apply Drawn0.step)⟩
         ·rw [if_neg c10] at H;exact absurd H (by simp)
        ·replace c8:=Bool.eq_false_iff.mpr c8;subst c8;have H1:(some false)=some r:=by rw [if_neg (show ¬ (false=true) by decide)] at H;exact H
         clear H;have H:=H1;clear H1;obtain rfl:=Option.some.inj H;have p101:0≤(x13_1:Int):=aK (by first|(with_reducible assumption)|assumption);have q101:x13_1<(l0.length:Int):=aK (by first|(with_reducible assumption)|assumption);obtain ⟨ad101,e101,hx101_0⟩:=Kd.at_int HR0.out x13_1 p101 q101
         cases e101
         replace p101:=eq_true p101;replace q101:=eq_true q101;go_wp2_with (first|((with_reducible refine Qj (f:=170) rfl ?_);refine goesL_ (some 21) rfl rfl Try.func170 (by kernel_rfl) rfl #[.int .i64 (rd l0 x13_1),.int .i64 0,.int .i64 (wrap64 (a1 - 1))] rfl (by (try simp only [aD,aE,aF]);first|done|rfl|(simp only [aG,aH];rfl)) ?_;(with_reducible refine (spec_l1In.calls (rd l0 x13_1) 0 (wrap64 (a1 - 1)) false _ A7.out).mono ?_);rintro e w' ⟨rfl,⟨nd,rfl⟩⟩;refine ⟨_,rfl,?_⟩))
         go_ret
         exact ⟨by first|rfl|(simp;done)|(simp [*];done),by repeat (first|exact Drawn0.refl _|apply Drawn0.step)⟩
       ·rw [if_neg c6] at H;exact absurd H (by simp)
      ·rw [if_neg c5] at H;exact absurd H (by simp)
     ·rw [if_neg c4] at H;have c4b0:decide (x13_1<(l0.length:Int))=false:=aN c4;clear c4;obtain rfl:=Option.some.inj H;go_wp2
      go_ret
      exact ⟨by first|rfl|(simp;done)|(simp [*];done),by repeat (first|exact Drawn0.refl _|apply Drawn0.step)⟩
  ·rw [if_neg c3] at H;have c3b0:((l0.length:Int) == a1)=false:=beq_eq_false_iff_ne.mpr c3;have c3b1:((l0.length:Int) != a1)=true:=bne_iff_ne.mpr c3;obtain rfl:=Option.some.inj H;go_enter Try.func195,Try.ntmps195;go_wp2
   go_ret
   exact ⟨by first|rfl|(simp;done)|(simp [*];done),by repeat (first|exact Drawn0.refl _|apply Drawn0.step)⟩

def spec_l1All.l0:Nat→Int→Int→List Int→Int→Int→Option (Bool)
  |0,_,_,_,_,_=>none
  |k+1,x1,x2,x9,x10,x11=>if x11<x10 then (if 0≤x11 then (if x11<(x9.length:Int) then ((spec_l1In.f (rd x9 x11) x1 x2).bind fun t102=>(if t102=true then (spec_l1All.l0 k x1 x2 x9 x10 (wrap64 (x11+1))) else (some false))) else (none)) else (none)) else (some true)
def spec_l1All.f (k:Nat) (l0:List Int) (a1:Int) (a2:Int):Option (Bool):=spec_l1All.l0 k a1 a2 l0 (l0.length:Int) 0
set_option maxHeartbeats 8000000 in
set_option maxRecDepth 100000 in
theorem spec_l1All.calls (k:Nat) (A0:Option Addr) (c0:Nat) (l0:List Int) (a1:Int) (a2:Int) (r:Bool) (w:World) (hr0:Kd.C (Kd.int .i64) w A0 l0.length l0) (hc0:l0.length≤c0) (h:spec_l1All.f k l0 a1 a2=some r) :
    Calls Try.prog 168 #[.slice A0 l0.length c0,.int .i64 a1,.int .i64 a2] w fun e w'=>e= .returned (.bool r)∧Drawn0 w w':=by
  have HR0:=aM hr0;have HC0:=aM hc0;clear hr0 hc0;have H:(spec_l1All.l0 k a1 a2 l0 (l0.length:Int) 0)=some r:=h;clear h;have H':=aM H;clear H;go_enter Try.func168,Try.ntmps168;go_wp2;go_loopg [11] k (fun kq v11 w'=>∃ (x11_1:Int),v11= .int .i64 x11_1∧Aside0 (spec_l1All.l0 kq a1 a2 l0 (l0.length:Int) x11_1=some r)∧Aside0 (kq≤k)∧Drawn0 w w')
  case atStart=>exact ⟨(0),(by first|rfl|(simp;done)|(simp [*];done)),H',⟨Nat.le_refl _⟩,by repeat (first|exact Drawn0.refl _|apply Drawn0.step)⟩
  case round=>
   clear H';(try clear c1);(try clear p2);obtain ⟨x11_1,rfl,HA,HK1,⟨m1,rfl⟩⟩:=hrel
   cases gk with
   |zero=>exact absurd HA.out (by simp [spec_l1All.l0])
   |succ k1=>
    have H:=HA.out;clear HA;simp only [spec_l1All.l0] at H;by_cases c4:x11_1<(l0.length:Int)
    ·rw [if_pos c4] at H;have c4b0:decide (x11_1<(l0.length:Int))=true:=aL c4;clear c4;by_cases c5:0≤x11_1
     ·rw [if_pos c5] at H;have c5b0:decide (0≤x11_1)=true:=aL c5;clear c5;by_cases c6:x11_1<(l0.length:Int)
      ·rw [if_pos c6] at H;have c6b0:decide (x11_1<(l0.length:Int))=true:=aL c6;clear c6;replace H:=Option.bind_eq_some_iff.mp H;obtain ⟨t102,A70,H⟩:=H;replace H:(if t102=true then (spec_l1All.l0 k1 a1 a2 l0 (l0.length:Int) (wrap64 (x11_1+1))) else (some false))=some r:=H;have A7:=aM A70;clear A70;by_cases c8:t102=true
       ·subst c8;have H1:(spec_l1All.l0 k1 a1 a2 l0 (l0.length:Int) (wrap64 (x11_1+1)))=some r:=by rw [if_pos rfl] at H;exact H
        clear H;have H:=H1;clear H1;have H':=aM H;clear H;have p101:0≤(x11_1:Int):=aK (by first|(with_reducible assumption)|assumption);have q101:x11_1<(l0.length:Int):=aK (by first|(with_reducible assumption)|assumption);obtain ⟨ad101,e101,hx101_0⟩:=Kd.at_int HR0.out x11_1 p101 q101
        cases e101
        replace p101:=eq_true p101;replace q101:=eq_true q101;go_wp2_with (first|((with_reducible refine Qj (f:=170) rfl ?_);refine goesL_ (some 18) rfl rfl Try.func170 (by kernel_rfl) rfl #[.int .i64 (rd l0 x11_1),.int .i64 a1,.int .i64 a2] rfl (by (try simp only [aD,aE,aF]);first|done|rfl|(simp only [aG,aH];rfl)) ?_;(with_reducible refine (spec_l1In.calls (rd l0 x11_1) a1 a2 true _ A7.out).mono ?_);rintro e w' ⟨rfl,⟨nd,rfl⟩⟩;refine ⟨_,rfl,?_⟩))
        go_roundg k1
        case measure=>have:=HK1.out;omega
        case rel=>exact ⟨(wrap64 (x11_1+1)),(by first|rfl|(simp;done)|(simp [*];done)),H',⟨by have:=HK1.out;omega⟩,by repeat (first|exact Drawn0.refl _|apply Drawn0.step)⟩
       ·replace c8:=Bool.eq_false_iff.mpr c8;subst c8;have H1:(some false)=some r:=by rw [if_neg (show ¬ (false=true) by decide)] at H;exact H
        clear H;have H:=H1;clear H1;obtain rfl:=Option.some.inj H;have p101:0≤(x11_1:Int):=aK (by first|(with_reducible assumption)|assumption);have q101:x11_1<(l0.length:Int):=aK (by first|(with_reducible assumption)|assumption);obtain ⟨ad101,e101,hx101_0⟩:=Kd.at_int HR0.out x11_1 p101 q101
        cases e101
        replace p101:=eq_true p101;replace q101:=eq_true q101;go_wp2_with (first|((with_reducible refine Qj (f:=170) rfl ?_);refine goesL_ (some 18) rfl rfl Try.func170 (by kernel_rfl) rfl #[.int .i64 (rd l0 x11_1),.int .i64 a1,.int .i64 a2] rfl (by (try simp only [aD,aE,aF]);first|done|rfl|(simp only [aG,aH];rfl)) ?_;(with_reducible refine (spec_l1In.calls (rd l0 x11_1) a1 a2 false _ A7.out).mono ?_);rintro e w' ⟨rfl,⟨nd,rfl⟩⟩;refine ⟨_,rfl,?_⟩))
        go_ret
        exact ⟨by first|rfl|(simp;done)|(simp [*];done),by repeat (first|exact Drawn0.refl _|apply Drawn0.step)⟩
      ·rw [if_neg c6] at H;exact absurd H (by simp)
     ·rw [if_neg c5] at H;exact absurd H (by simp)
    ·rw [if_neg c4] at H;have c4b0:decide (x11_1<(l0.length:Int))=false:=aN c4;clear c4;obtain rfl:=Option.some.inj H;go_wp2
     go_ret
     exact ⟨by first|rfl|(simp;done)|(simp [*];done),by repeat (first|exact Drawn0.refl _|apply Drawn0.step)⟩

def spec_l7Ways.f (k:Nat) (l0:List Int) (l1:List Int):Option (Bool):=if (l0.length:Int)=(l1.length:Int) then (if (l0.length:Int)≤10 then ((spec_l1All.f k l0 0 1000).bind fun t101=>(if t101=true then ((spec_l1All.f k l1 0 1000).bind fun t102=>(some t102)) else (some false))) else (some false)) else (some false)
set_option maxHeartbeats 8000000 in
set_option maxRecDepth 100000 in
theorem spec_l7Ways.calls (k:Nat) (A0:Option Addr) (c0:Nat) (l0:List Int) (A1:Option Addr) (c1:Nat) (l1:List Int) (r:Bool) (w:World) (hr0:Kd.C (Kd.int .i64) w A0 l0.length l0) (hc0:l0.length≤c0) (hr1:Kd.C (Kd.int .i64) w A1 l1.length l1) (hc1:l1.length≤c1) (h:spec_l7Ways.f k l0 l1=some r) :
    Calls Try.prog 203 #[.slice A0 l0.length c0,.slice A1 l1.length c1] w fun e w'=>e= .returned (.bool r)∧Drawn0 w w':=by
  have HR0:=aM hr0;have HC0:=aM hc0;clear hr0 hc0;have HR1:=aM hr1;have HC1:=aM hc1;clear hr1 hc1;have H:(if (l0.length:Int)=(l1.length:Int) then (if (l0.length:Int)≤10 then ((spec_l1All.f k l0 0 1000).bind fun t101=>(if t101=true then ((spec_l1All.f k l1 0 1000).bind fun t102=>(some t102)) else (some false))) else (some false)) else (some false))=some r:=h;clear h;by_cases c3:(l0.length:Int)=(l1.length:Int)
  ·rw [if_pos c3] at H;have c3b0:((l0.length:Int) == (l1.length:Int))=true:=beq_iff_eq.mpr c3;have c3b1:((l0.length:Int) != (l1.length:Int))=false:=bne_eq_false_iff_eq.mpr c3;have c3b2:(l0.length == l1.length)=true:=by first|simpa using c3|(simp at c3 ⊢;omega)
   clear c3;by_cases c4:(l0.length:Int)≤10
   ·rw [if_pos c4] at H;have c4b0:decide ((l0.length:Int)≤10)=true:=aL c4;have c4b1:decide (l0.length≤10)=true:=aL (by omega);clear c4;replace H:=Option.bind_eq_some_iff.mp H;obtain ⟨t101,A50,H⟩:=H;replace H:(if t101=true then ((spec_l1All.f k l1 0 1000).bind fun t102=>(some t102)) else (some false))=some r:=H;have A5:=aM A50;clear A50;by_cases c6:t101=true
    ·subst c6;have H1:((spec_l1All.f k l1 0 1000).bind fun t102=>(some t102))=some r:=by rw [if_pos rfl] at H;exact H
     clear H;have H:=H1;clear H1;replace H:=Option.bind_eq_some_iff.mp H;obtain ⟨t102,A70,H⟩:=H;replace H:(some t102)=some r:=H;have A7:=aM A70;clear A70;obtain rfl:=Option.some.inj H;go_enter Try.func203,Try.ntmps203;go_wp2_with (first|(go_at_call 168;(with_reducible refine (spec_l1All.calls k _ _ l0 0 1000 true _ ?side1 ?side2 A5.out).mono ?_);(case side1=>repeat first|exact HR0.out|(with_reducible first|refine Kd.Qh ?_ _|refine Kd.Qi ?_ _|refine Kd.C_drew ?_));(case side2=>exact HC0.out);rintro e w' ⟨rfl,⟨nd,rfl⟩⟩)|(go_at_call 168;(with_reducible refine (spec_l1All.calls k _ _ l1 0 1000 t102 _ ?side1 ?side2 A7.out).mono ?_);(case side1=>repeat first|exact HR1.out|(with_reducible first|refine Kd.Qh ?_ _|refine Kd.Qi ?_ _|refine Kd.C_drew ?_));(case side2=>exact HC1.out);rintro e w' ⟨rfl,⟨nd,rfl⟩⟩))
     go_ret
     exact ⟨by first|rfl|(simp;done)|(simp [*];done),by repeat (first|exact Drawn0.refl _|apply Drawn0.step)⟩
    ·replace c6:=Bool.eq_false_iff.mpr c6;subst c6;have H1:(some false)=some r:=by rw [if_neg (show ¬ (false=true) by decide)] at H;exact H
     clear H;have H:=H1;clear H1;obtain rfl:=Option.some.inj H;go_enter Try.func203,Try.ntmps203;go_wp2_with (first|(go_at_call 168;(with_reducible refine (spec_l1All.calls k _ _ l0 0 1000 false _ ?side1 ?side2 A5.out).mono ?_);(case side1=>repeat first|exact HR0.out|(with_reducible first|refine Kd.Qh ?_ _|refine Kd.Qi ?_ _|refine Kd.C_drew ?_));(case side2=>exact HC0.out);rintro e w' ⟨rfl,⟨nd,rfl⟩⟩))
     go_ret
     exact ⟨by first|rfl|(simp;done)|(simp [*];done),by repeat (first|exact Drawn0.refl _|apply Drawn0.step)⟩
   ·rw [if_neg c4] at H;have c4b0:decide ((l0.length:Int)≤10)=false:=aN c4;have c4b1:decide (l0.length≤10)=false:=aN (by omega);clear c4;obtain rfl:=Option.some.inj H;go_enter Try.func203,Try.ntmps203;go_wp2
    go_ret
    exact ⟨by first|rfl|(simp;done)|(simp [*];done),by repeat (first|exact Drawn0.refl _|apply Drawn0.step)⟩
  ·rw [if_neg c3] at H;have c3b0:((l0.length:Int) == (l1.length:Int))=false:=beq_eq_false_iff_ne.mpr c3;have c3b1:((l0.length:Int) != (l1.length:Int))=true:=bne_iff_ne.mpr c3;have c3b2:(l0.length == l1.length)=false:=by first|simpa using c3|(simp at c3 ⊢;omega)
   obtain rfl:=Option.some.inj H;go_enter Try.func203,Try.ntmps203;go_wp2
   go_ret
   exact ⟨by first|rfl|(simp;done)|(simp [*];done),by repeat (first|exact Drawn0.refl _|apply Drawn0.step)⟩

def spec_l7Cost.l0:Nat→List Int→List Int→Int→List Int→Int→Int→Option (Int)
  |0,_,_,_,_,_,_=>none
  |k+1,x0,x1,x7,x10,x11,x12=>if x12<x11 then (if 0≤x12 then (if x12<(x10.length:Int) then (if 0≤(rd x10 x12) then (if (rd x10 x12)<(x0.length:Int) then (if x12<(x1.length:Int) then (spec_l7Cost.l0 k x0 x1 (wrap64 (x7+(wrap64 ((rd x0 (rd x10 x12)) * (rd x1 x12))))) x10 x11 (wrap64 (x12+1))) else (none)) else (none)) else (none)) else (none)) else (none)) else (some x7)
def spec_l7Cost.f (k:Nat) (l0:List Int) (l1:List Int) (l2:List Int):Option (Int):=spec_l7Cost.l0 k l0 l1 0 l2 (l2.length:Int) 0
set_option maxHeartbeats 8000000 in
set_option maxRecDepth 100000 in
theorem spec_l7Cost.calls (k:Nat) (A0:Option Addr) (c0:Nat) (l0:List Int) (A1:Option Addr) (c1:Nat) (l1:List Int) (A2:Option Addr) (c2:Nat) (l2:List Int) (r:Int) (w:World) (hr0:Kd.C (Kd.int .i64) w A0 l0.length l0) (hc0:l0.length≤c0) (hr1:Kd.C (Kd.int .i64) w A1 l1.length l1) (hc1:l1.length≤c1) (hr2:Kd.C (Kd.int .i64) w A2 l2.length l2) (hc2:l2.length≤c2) (h:spec_l7Cost.f k l0 l1 l2=some r) :
    Calls Try.prog 204 #[.slice A0 l0.length c0,.slice A1 l1.length c1,.slice A2 l2.length c2] w fun e w'=>e= .returned (.int .i64 r)∧Drawn0 w w':=by
  have HR0:=aM hr0;have HC0:=aM hc0;clear hr0 hc0;have HR1:=aM hr1;have HC1:=aM hc1;clear hr1 hc1;have HR2:=aM hr2;have HC2:=aM hc2;clear hr2 hc2;have H:(spec_l7Cost.l0 k l0 l1 0 l2 (l2.length:Int) 0)=some r:=h;clear h;have H':=aM H;clear H;go_enter Try.func204,Try.ntmps204;go_wp2
  repeat (go_quiet (fail);try go_wp2)
  go_loopg [7,12] k (fun kq v7 v12 w'=>∃ (x7_1:Int) (x12_1:Int),v7= .int .i64 x7_1∧v12= .int .i64 x12_1∧Aside0 (spec_l7Cost.l0 kq l0 l1 x7_1 l2 (l2.length:Int) x12_1=some r)∧Aside0 (kq≤k)∧Drawn0 w w')
  case atStart=>exact ⟨(0),(0),(by first|rfl|(simp;done)|(simp [*];done)),(by first|rfl|(simp;done)|(simp [*];done)),H',⟨Nat.le_refl _⟩,by repeat (first|exact Drawn0.refl _|apply Drawn0.step)⟩
  case round=>
   clear H';(try clear c1);(try clear c2);(try clear p2);obtain ⟨x7_1,x12_1,rfl,rfl,HA,HK1,⟨m1,rfl⟩⟩:=hrel
   cases gk with
   |zero=>exact absurd HA.out (by simp [spec_l7Cost.l0])
   |succ k1=>
    have H:=HA.out;clear HA;simp only [spec_l7Cost.l0] at H;by_cases c4:x12_1<(l2.length:Int)
    ·rw [if_pos c4] at H;have c4b0:decide (x12_1<(l2.length:Int))=true:=aL c4;clear c4;by_cases c5:0≤x12_1
     ·rw [if_pos c5] at H;have c5b0:decide (0≤x12_1)=true:=aL c5;clear c5;by_cases c6:x12_1<(l2.length:Int)
      ·rw [if_pos c6] at H;have c6b0:decide (x12_1<(l2.length:Int))=true:=aL c6;clear c6;by_cases c7:0≤(rd l2 x12_1)
       ·rw [if_pos c7] at H;have c7b0:decide (0≤(rd l2 x12_1))=true:=aL c7;clear c7;by_cases c8:(rd l2 x12_1)<(l0.length:Int)
        ·rw [if_pos c8] at H;have c8b0:decide ((rd l2 x12_1)<(l0.length:Int))=true:=aL c8;clear c8;by_cases c9:x12_1<(l1.length:Int)
         ·rw [if_pos c9] at H;have c9b0:decide (x12_1<(l1.length:Int))=true:=aL c9;clear c9;have H':=aM H;clear H;have p101:0≤(x12_1:Int):=aK (by first|(with_reducible assumption)|assumption);have q101:x12_1<(l2.length:Int):=aK (by first|(with_reducible assumption)|assumption);obtain ⟨ad101,e101,hx101_0⟩:=Kd.at_int HR2.out x12_1 p101 q101
          cases e101
          replace p101:=eq_true p101;replace q101:=eq_true q101;have p102:0≤((rd l2 x12_1):Int):=aK (by first|(with_reducible assumption)|assumption);have q102:(rd l2 x12_1)<(l0.length:Int):=aK (by first|(with_reducible assumption)|assumption);obtain ⟨ad102,e102,hx102_0⟩:=Kd.at_int HR0.out (rd l2 x12_1) p102 q102
          cases e102
          replace p102:=eq_true p102;replace q102:=eq_true q102;have p103:0≤(x12_1:Int):=aK (by first|(with_reducible assumption)|assumption);have q103:x12_1<(l1.length:Int):=aK (by first|(with_reducible assumption)|assumption);obtain ⟨ad103,e103,hx103_0⟩:=Kd.at_int HR1.out x12_1 p103 q103
          cases e103
          replace p103:=eq_true p103;replace q103:=eq_true q103;go_wp2
          repeat (go_quiet (fail);try go_wp2)
          go_roundg k1
          case measure=>have:=HK1.out;omega
          case rel=>exact ⟨(wrap64 (x7_1+(wrap64 ((rd l0 (rd l2 x12_1)) * (rd l1 x12_1))))),(wrap64 (x12_1+1)),(by first|rfl|(simp;done)|(simp [*];done)),(by first|rfl|(simp;done)|(simp [*];done)),H',⟨by have:=HK1.out;omega⟩,by repeat (first|exact Drawn0.refl _|apply Drawn0.step)⟩
         ·rw [if_neg c9] at H;exact absurd H (by simp)
        ·rw [if_neg c8] at H;exact absurd H (by simp)
       ·rw [if_neg c7] at H;exact absurd H (by simp)
      ·rw [if_neg c6] at H;exact absurd H (by simp)
     ·rw [if_neg c5] at H;exact absurd H (by simp)
    ·rw [if_neg c4] at H;have c4b0:decide (x12_1<(l2.length:Int))=false:=aN c4;clear c4;obtain rfl:=Option.some.inj H;go_wp2
     repeat (go_quiet (fail);try go_wp2)
     go_ret
     exact ⟨by first|rfl|(simp;done)|(simp [*];done),by repeat (first|exact Drawn0.refl _|apply Drawn0.step)⟩

def spec_OrderCost.f (k:Nat) (l0:List Int) (l1:List Int) (l2:List Int):Option (Int×Bool):=(spec_l7Ways.f k l0 l1).bind fun t101=>(if t101=true then ((spec_l7Order.f k l2 (l0.length:Int)).bind fun t102=>(if t102=true then ((spec_l7Cost.f k l0 l1 l2).bind fun t103=>(some (t103,true))) else (some (0,false)))) else (some (0,false)))
set_option maxHeartbeats 8000000 in
set_option maxRecDepth 100000 in
theorem spec_OrderCost.calls (k:Nat) (A0:Option Addr) (c0:Nat) (l0:List Int) (A1:Option Addr) (c1:Nat) (l1:List Int) (A2:Option Addr) (c2:Nat) (l2:List Int) (r1:Int) (r2:Bool) (w:World) (hr0:Kd.C (Kd.int .i64) w A0 l0.length l0) (hc0:l0.length≤c0) (hr1:Kd.C (Kd.int .i64) w A1 l1.length l1) (hc1:l1.length≤c1) (hr2:Kd.C (Kd.int .i64) w A2 l2.length l2) (hc2:l2.length≤c2) (h:spec_OrderCost.f k l0 l1 l2=some (r1,r2)) :
    Calls Try.prog 67 #[.slice A0 l0.length c0,.slice A1 l1.length c1,.slice A2 l2.length c2] w fun e w'=>e= .returned (.tuple #[.int .i64 r1,.bool r2])∧Drawn0 w w':=by
  have HR0:=aM hr0;have HC0:=aM hc0;clear hr0 hc0;have HR1:=aM hr1;have HC1:=aM hc1;clear hr1 hc1;have HR2:=aM hr2;have HC2:=aM hc2;clear hr2 hc2;have H:((spec_l7Ways.f k l0 l1).bind fun t101=>(if t101=true then ((spec_l7Order.f k l2 (l0.length:Int)).bind fun t102=>(if t102=true then ((spec_l7Cost.f k l0 l1 l2).bind fun t103=>(some (t103,true))) else (some (0,false)))) else (some (0,false))))=some (r1,r2):=h;clear h;replace H:=Option.bind_eq_some_iff.mp H;obtain ⟨t101,A40,H⟩:=H;replace H:(if t101=true then ((spec_l7Order.f k l2 (l0.length:Int)).bind fun t102=>(if t102=true then ((spec_l7Cost.f k l0 l1 l2).bind fun t103=>(some (t103,true))) else (some (0,false)))) else (some (0,false)))=some (r1,r2):=H;have A4:=aM A40;clear A40;by_cases c5:t101=true
  ·subst c5;have H1:((spec_l7Order.f k l2 (l0.length:Int)).bind fun t102=>(if t102=true then ((spec_l7Cost.f k l0 l1 l2).bind fun t103=>(some (t103,true))) else (some (0,false))))=some (r1,r2):=by rw [if_pos rfl] at H;exact H
   clear H;have H:=H1;clear H1;replace H:=Option.bind_eq_some_iff.mp H;obtain ⟨t102,A60,H⟩:=H;replace H:(if t102=true then ((spec_l7Cost.f k l0 l1 l2).bind fun t103=>(some (t103,true))) else (some (0,false)))=some (r1,r2):=H;have A6:=aM A60;clear A60;by_cases c7:t102=true
   ·subst c7;have H1:((spec_l7Cost.f k l0 l1 l2).bind fun t103=>(some (t103,true)))=some (r1,r2):=by rw [if_pos rfl] at H;exact H
    clear H;have H:=H1;clear H1;replace H:=Option.bind_eq_some_iff.mp H;obtain ⟨t103,A80,H⟩:=H;replace H:(some (t103,true))=some (r1,r2):=H;have A8:=aM A80;clear A80;simp only [Option.some.injEq,Prod.mk.injEq] at H;obtain ⟨rfl,rfl⟩:=H;go_enter Try.func67,Try.ntmps67;go_wp2_with (first|((with_reducible refine Qj (f:=203) rfl ?_);refine goesL_ (some 10) rfl rfl Try.func203 (by kernel_rfl) rfl #[.slice A0 l0.length c0,.slice A1 l1.length c1] rfl (by (try simp only [aD,aE,aF]);first|done|rfl|(simp only [aG,aH];rfl)) ?_;(with_reducible refine (spec_l7Ways.calls k _ _ l0 _ _ l1 true _ ?side1 ?side2 ?side3 ?side4 A4.out).mono ?_);(case side1=>repeat first|exact HR0.out|(with_reducible first|refine Kd.Qh ?_ _|refine Kd.Qi ?_ _|refine Kd.C_drew ?_));(case side2=>exact HC0.out);(case side3=>repeat first|exact HR1.out|(with_reducible first|refine Kd.Qh ?_ _|refine Kd.Qi ?_ _|refine Kd.C_drew ?_));(case side4=>exact HC1.out);rintro e w' ⟨rfl,⟨nd,rfl⟩⟩;refine ⟨_,rfl,?_⟩)|(go_at_call 195;(with_reducible refine (spec_l7Order.calls k _ _ l2 (l0.length:Int) true _ ?side1 ?side2 A6.out).mono ?_);(case side1=>repeat first|exact HR2.out|(with_reducible first|refine Kd.Qh ?_ _|refine Kd.Qi ?_ _|refine Kd.C_drew ?_));(case side2=>exact HC2.out);rintro e w' ⟨rfl,⟨nd,rfl⟩⟩)|((with_reducible refine Qj (f:=204) rfl ?_);refine goesL_ (some 22) rfl rfl Try.func204 (by kernel_rfl) rfl #[.slice A0 l0.length c0,.slice A1 l1.length c1,.slice A2 l2.length c2] rfl (by (try simp only [aD,aE,aF]);first|done|rfl|(simp only [aG,aH];rfl)) ?_;(with_reducible refine (spec_l7Cost.calls k _ _ l0 _ _ l1 _ _ l2 t103 _ ?side1 ?side2 ?side3 ?side4 ?side5 ?side6 A8.out).mono ?_);(case side1=>repeat first|exact HR0.out|(with_reducible first|refine Kd.Qh ?_ _|refine Kd.Qi ?_ _|refine Kd.C_drew ?_));(case side2=>exact HC0.out);(case side3=>repeat first|exact HR1.out|(with_reducible first|refine Kd.Qh ?_ _|refine Kd.Qi ?_ _|refine Kd.C_drew ?_));(case side4=>exact HC1.out);(case side5=>repeat first|exact HR2.out|(with_reducible first|refine Kd.Qh ?_ _|refine Kd.Qi ?_ _|refine Kd.C_drew ?_));(case side6=>exact HC2.out);rintro e w' ⟨rfl,⟨nd,rfl⟩⟩;refine ⟨_,rfl,?_⟩))
    go_ret2
    exact ⟨by first|rfl|(simp;done)|(simp [*];done),by repeat (first|exact Drawn0.refl _|apply Drawn0.step)⟩
   ·replace c7:=Bool.eq_false_iff.mpr c7;subst c7;have H1:(some (0,false))=some (r1,r2):=by rw [if_neg (show ¬ (false=true) by decide)] at H;exact H
    clear H;have H:=H1;clear H1;simp only [Option.some.injEq,Prod.mk.injEq] at H;obtain ⟨rfl,rfl⟩:=H;go_enter Try.func67,Try.ntmps67;go_wp2_with (first|((with_reducible refine Qj (f:=203) rfl ?_);refine goesL_ (some 10) rfl rfl Try.func203 (by kernel_rfl) rfl #[.slice A0 l0.length c0,.slice A1 l1.length c1] rfl (by (try simp only [aD,aE,aF]);first|done|rfl|(simp only [aG,aH];rfl)) ?_;(with_reducible refine (spec_l7Ways.calls k _ _ l0 _ _ l1 true _ ?side1 ?side2 ?side3 ?side4 A4.out).mono ?_);(case side1=>repeat first|exact HR0.out|(with_reducible first|refine Kd.Qh ?_ _|refine Kd.Qi ?_ _|refine Kd.C_drew ?_));(case side2=>exact HC0.out);(case side3=>repeat first|exact HR1.out|(with_reducible first|refine Kd.Qh ?_ _|refine Kd.Qi ?_ _|refine Kd.C_drew ?_));(case side4=>exact HC1.out);rintro e w' ⟨rfl,⟨nd,rfl⟩⟩;refine ⟨_,rfl,?_⟩)|(go_at_call 195;(with_reducible refine (spec_l7Order.calls k _ _ l2 (l0.length:Int) false _ ?side1 ?side2 A6.out).mono ?_);(case side1=>repeat first|exact HR2.out|(with_reducible first|refine Kd.Qh ?_ _|refine Kd.Qi ?_ _|refine Kd.C_drew ?_));(case side2=>exact HC2.out);rintro e w' ⟨rfl,⟨nd,rfl⟩⟩))
    go_ret2
    exact ⟨by first|rfl|(simp;done)|(simp [*];done),by repeat (first|exact Drawn0.refl _|apply Drawn0.step)⟩
  ·replace c5:=Bool.eq_false_iff.mpr c5;subst c5;have H1:(some (0,false))=some (r1,r2):=by rw [if_neg (show ¬ (false=true) by decide)] at H;exact H
   clear H;have H:=H1;clear H1;simp only [Option.some.injEq,Prod.mk.injEq] at H;obtain ⟨rfl,rfl⟩:=H;go_enter Try.func67,Try.ntmps67;go_wp2_with (first|((with_reducible refine Qj (f:=203) rfl ?_);refine goesL_ (some 10) rfl rfl Try.func203 (by kernel_rfl) rfl #[.slice A0 l0.length c0,.slice A1 l1.length c1] rfl (by (try simp only [aD,aE,aF]);first|done|rfl|(simp only [aG,aH];rfl)) ?_;(with_reducible refine (spec_l7Ways.calls k _ _ l0 _ _ l1 false _ ?side1 ?side2 ?side3 ?side4 A4.out).mono ?_);(case side1=>repeat first|exact HR0.out|(with_reducible first|refine Kd.Qh ?_ _|refine Kd.Qi ?_ _|refine Kd.C_drew ?_));(case side2=>exact HC0.out);(case side3=>repeat first|exact HR1.out|(with_reducible first|refine Kd.Qh ?_ _|refine Kd.Qi ?_ _|refine Kd.C_drew ?_));(case side4=>exact HC1.out);rintro e w' ⟨rfl,⟨nd,rfl⟩⟩;refine ⟨_,rfl,?_⟩))
   go_ret2
   exact ⟨by first|rfl|(simp;done)|(simp [*];done),by repeat (first|exact Drawn0.refl _|apply Drawn0.step)⟩

def slices_Clone_int_int.f (l0:List Int):Option (List Int):=(some (([]:List Int):List Int)).bind fun y101=>(if y101.length+l0.length<17592186044416 then (some (y101 ++ l0)) else (none))
set_option maxHeartbeats 8000000 in
set_option maxRecDepth 100000 in
theorem slices_Clone_int_int.calls (A0:Option Addr) (c0:Nat) (l0:List Int) (r:List Int) (w:World) (hr0:Kd.C (Kd.int .i64) w A0 l0.length l0) (hc0:l0.length≤c0) (h:slices_Clone_int_int.f l0=some r) :
    Calls Try.prog 206 #[.slice A0 l0.length c0] w fun e w'=>∃ v0_:Value,e= .returned (v0_)∧Kd.R (Kd.int .i64) 3 w' w.heap.size (fun _=>True) v0_ r∧Below w.heap.size w w':=by
  have HR0:=aM hr0;have HC0:=aM hc0;clear hr0 hc0;have HB:=aM (Below.refl w.heap.size w);have H:((some (([]:List Int):List Int)).bind fun y101=>(if y101.length+l0.length<17592186044416 then (some (y101 ++ l0)) else (none)))=some r:=h;clear h;by_cases hz2:A0=none
  ·have hz2l:l0=[]:=List.length_eq_zero_iff.mp (Nat.eq_zero_of_not_pos fun h_=>by obtain ⟨_,e_,_⟩:=HR0.out.2.2 h_;rw [hz2] at e_;cases e_);have hz2eql:∀ W_:World,(binOp BinOp.eql 34 (.slice A0 l0.length c0) (.slice none 0 0)).run Try.prog W_= .ok (.bool true) W_:=fun W_=>by rw [hz2];rfl
   have hz2neq:∀ W_:World,(binOp BinOp.neq 34 (.slice A0 l0.length c0) (.slice none 0 0)).run Try.prog W_= .ok (.bool false) W_:=fun W_=>by rw [hz2];rfl
   replace H:(some ([]:List Int))=some r:=by rw [hz2l] at H;simpa using H
   have hz2a:=aM hz2l;clear hz2 hz2l;obtain rfl:=Option.some.inj H;go_enter Try.func206,Try.ntmps206;go_wp2
   go_ret
   exact ⟨_,by first|rfl|(simp [errW_none,errW_some] <;> rfl)|(simp [*,errW_none,errW_some] <;> rfl),by first|exact Kd.R_nil _ _ _ _ _|exact Kd.N_nil _ _ _ _ _|exact Kd.V_nil _ _ _ _ _|exact Kd.Q_nil _ _ _ _ _|exact Kd.S_nil _ _ _ _ _,by repeat (with_reducible first|exact HB.out|apply Qc|apply Qa|apply Qb)⟩
  ·skip
   have hz2eql:∀ W_:World,(binOp BinOp.eql 34 (.slice A0 l0.length c0) (.slice none 0 0)).run Try.prog W_= .ok (.bool false) W_:=fun W_=>by cases A0 with|none=>exact absurd rfl hz2|some a_=>rfl
   have hz2neq:∀ W_:World,(binOp BinOp.neq 34 (.slice A0 l0.length c0) (.slice none 0 0)).run Try.prog W_= .ok (.bool true) W_:=fun W_=>by cases A0 with|none=>exact absurd rfl hz2|some a_=>rfl
   clear hz2;obtain ⟨y101,hy101⟩:∃ y_:List Int,y_=(([]:List Int)):=⟨_,rfl⟩;replace H:(if y101.length+l0.length<17592186044416 then (some (y101 ++ l0)) else (none))=some r:=by first|(rw [hy101];with_reducible exact H)|(have H2_:=(Option.bind_some _ _).symm.trans H;rw [hy101];with_reducible exact H2_)|(have H2_:=(Option.bind_some _ _).symm.trans H;with_reducible exact H2_)|with_reducible exact H|(rw [hy101];exact H)|exact H
   have Ny101:=aM hy101;clear hy101;by_cases c3:y101.length+l0.length<17592186044416
   ·rw [if_pos c3] at H;have LMc3:=aM c3;clear c3;obtain ⟨y104,hy104⟩:∃ y_:List Int,y_=(y101 ++ l0):=⟨_,rfl⟩;replace H:(some y104)=some r:=by first|(rw [hy104];with_reducible exact H)|(have H2_:=(Option.bind_some _ _).symm.trans H;rw [hy104];with_reducible exact H2_)|(have H2_:=(Option.bind_some _ _).symm.trans H;with_reducible exact H2_)|with_reducible exact H|(rw [hy104];exact H)|exact H
    have Ny104:=aM hy104;clear hy104;obtain rfl:=Option.some.inj H;go_enter Try.func206,Try.ntmps206;go_wp2_with (first|((with_reducible refine gate_dst (N:=5) rfl ?_);refine Kd.R_lit (Kd.int .i64) _ 3 ?hg (N:=5) ?hd (xs:=([]:List Int)) (inner:=[]) (ok:=fun _=>True) (okp:=fun _=>True) ?hr ?hp (fun _ hk=>hk) trivial (Below.refl _ _) (Nat.le_refl _) (by simp) ?_;(case hd=>rfl);(case hg=>rfl);(case hr=>first|(go_simp;done)|(go_simp;rfl));(case hp=>exact (Reps.none _ _));intro v102 w4 ho5 hb hg_ hnew_;clear hg_ hnew_;(first|rw [←Ny101.out] at ho5|(simp only [Int.reduceToNat] at ho5;rw [←Ny101.out] at ho5));have n0_:=aM (Kd.R_lower ho5 (Qn (by repeat (with_reducible first|exact HB.out|apply Qc|apply Qa|apply Qb))));have n1_:=aM (Qo (by repeat (with_reducible first|exact HB.out|apply Qc|apply Qa|apply Qb)) hb);clear HB;have HO103:=n0_;have HB:=n1_;clear n0_ n1_ hb ho5)|((with_reducible refine gate_builtin (b:= .append) (xs:=#[.tmp 5,.tmp 6]) rfl ?_);at_builtin;refine Kd.R_append_rows (Kd.int .i64) (w0:=w) w.heap.size rfl (.tmp 5) (.tmp 6) 34 3 (.int .i64 0) 8 rfl Try.underlying34 info3 rfl (by decide) (by omega) v102 y101 l0 _ _ _ (fun _=>True) (fun _=>False) rfl rfl ?aO ?aR (fun _ _ h=>h) (fun _ h=>h.elim) ?aF ?aB ?aS ?aL ?_;(case aR=>repeat first|exact (Kd.C_below HR0.out HB.out)|(with_reducible first|refine Kd.Qh ?_ _|refine Kd.Qi ?_ _|refine Kd.C_drew ?_));(case aB=>exact (by repeat (with_reducible first|exact HB.out|apply Qc|apply Qa|apply Qb)));(case aF=>exact (fun _ _=>trivial));(case aO=>exact (by (with_reducible repeat first|apply Kd.Qd|apply Kd.Qe|apply Kd.R_drew);exact HO103.out));(case aS=>exact (Qn (by repeat (with_reducible first|exact HB.out|apply Qc|apply Qa|apply Qb))));(case aL=>have:=LMc3.out;omega);intro v105 w6 ho hb hg hat;rw [←Ny104.out] at ho;have n0_:=aM (hb);have n1_:=aM (ho);clear HB HO103;have HB:=n0_;have HO106:=n1_;clear n0_ n1_ ho hb hg hat))
    go_ret
    exact ⟨_,by first|rfl|(simp [errW_none,errW_some] <;> rfl)|(simp [*,errW_none,errW_some] <;> rfl),by (with_reducible repeat first|apply Kd.Qd|apply Kd.Qe|apply Kd.R_drew);exact HO106.out,by repeat (with_reducible first|exact HB.out|apply Qc|apply Qa|apply Qb)⟩
   ·rw [if_neg c3] at H;exact absurd H (by simp)

def impl_rank_1.f (a0:Int) (a1:Int) (l2_0_0:List Int):Option (Int):=if 0≤a1 then (if a1<(l2_0_0.length:Int) then (if 0≤a0 then (if a0<(l2_0_0.length:Int) then (some (wrap64 ((rd l2_0_0 a1) - (rd l2_0_0 a0)))) else (none)) else (none)) else (none)) else (none)
set_option maxHeartbeats 8000000 in
set_option maxRecDepth 100000 in
theorem impl_rank_1.calls (a0:Int) (a1:Int) (g2_0:Nat) (A2_0_0:Option Addr) (c2_0_0:Nat) (l2_0_0:List Int) (r:Int) (w:World) (hg2_0:w.heap[g2_0]? = some (.cells #[.slice A2_0_0 l2_0_0.length c2_0_0] 34 (0,0))) (hr2_0_0:Kd.C (Kd.int .i64) w A2_0_0 l2_0_0.length l2_0_0) (hc2_0_0:l2_0_0.length≤c2_0_0) (h:impl_rank_1.f a0 a1 l2_0_0=some r) :
    Calls Try.prog 267 #[.int .i64 a0,.int .i64 a1,.pointer (some ⟨g2_0,0,none⟩)] w fun e w'=>e= .returned (.int .i64 r)∧Drawn0 w w':=by
  have HR2_0_0:=aM hr2_0_0;have HC2_0_0:=aM hc2_0_0;clear hr2_0_0 hc2_0_0;have BK52:=aM hg2_0;clear hg2_0;have H:(if 0≤a1 then (if a1<(l2_0_0.length:Int) then (if 0≤a0 then (if a0<(l2_0_0.length:Int) then (some (wrap64 ((rd l2_0_0 a1) - (rd l2_0_0 a0)))) else (none)) else (none)) else (none)) else (none))=some r:=h;clear h;by_cases c4:0≤a1
  ·rw [if_pos c4] at H;have c4b0:decide (0≤a1)=true:=aL c4;clear c4;by_cases c5:a1<(l2_0_0.length:Int)
   ·rw [if_pos c5] at H;have c5b0:decide (a1<(l2_0_0.length:Int))=true:=aL c5;clear c5;by_cases c6:0≤a0
    ·rw [if_pos c6] at H;have c6b0:decide (0≤a0)=true:=aL c6;clear c6;by_cases c7:a0<(l2_0_0.length:Int)
     ·rw [if_pos c7] at H;have c7b0:decide (a0<(l2_0_0.length:Int))=true:=aL c7;clear c7;obtain rfl:=Option.some.inj H;have hcz8_0:w.cell? ⟨g2_0,0,none⟩=some (.slice A2_0_0 l2_0_0.length c2_0_0):=(blk_cell BK52.out 0).trans rfl;have hfz8_0:=blk_frozen BK52.out 0;have p101:0≤(a1:Int):=aK (by first|(with_reducible assumption)|assumption);have q101:a1<(l2_0_0.length:Int):=aK (by first|(with_reducible assumption)|assumption);obtain ⟨ad101,e101,hx101_0⟩:=Kd.at_int HR2_0_0.out a1 p101 q101
      cases e101
      replace p101:=eq_true p101;replace q101:=eq_true q101;have p102:0≤(a0:Int):=aK (by first|(with_reducible assumption)|assumption);have q102:a0<(l2_0_0.length:Int):=aK (by first|(with_reducible assumption)|assumption);obtain ⟨ad102,e102,hx102_0⟩:=Kd.at_int HR2_0_0.out a0 p102 q102;obtain rfl:ad101=ad102:=(by injection e102);replace p102:=eq_true p102;replace q102:=eq_true q102;go_enter Try.func267,Try.ntmps267;go_wp2
      repeat (go_quiet (fail);try go_wp2)
      go_ret
      exact ⟨by first|rfl|(simp;done)|(simp [*];done),by repeat (first|exact Drawn0.refl _|apply Drawn0.step)⟩
     ·rw [if_neg c7] at H;exact absurd H (by simp)
    ·rw [if_neg c6] at H;exact absurd H (by simp)
   ·rw [if_neg c5] at H;exact absurd H (by simp)
  ·rw [if_neg c4] at H;exact absurd H (by simp)
end Go.Proofs.Ytneojimdhnhkeaa.Print
