/- Nothing is needed just where all is as wanted, there as much as back, and by a third as much at least, for drawn spots: no condition but the statement's own. -/
import Derived.Test.YtneojimdhnhkeaaProg
import Derived.Test.YtneojimdhnhkeaaCFnRingsw0
import Derived.Below
import Derived.Deep.Draws
import Derived.Deep.AppendLies
import Derived.Maps.AppendAt
import Derived.OwnWalk
import Derived.Laws.BytesArg
import Derived.Laws.MakeOwn
import Derived.Laws.OwnMore
import Derived.Deep.OwnRows
import Derived.Tactics
import Derived.Lib.ConvBytes
import Derived.Laws.Slices
import Derived.WalkKit
import Derived.KernelRfl
import Derived.RowKit3
import Derived.Deep.LoopGhost
import Derived.Deep.QuietTactic
import Derived.BigQuiet
import Derived.WideLaws
import Derived.Deep.DeepCutAuto
import Derived.Deep.CutBlock
import Derived.Deep.RegionHeld3
import Derived.Laws.Rows
import Derived.Lib.AppendStr
import Derived.ArgAppend
import Derived.Laws.IdiomCopy
import Derived.OrdersHeld
import Derived.Laws.BitsLemmas
import Derived.RowKit
import Derived.Laws.CopyOwn
import Derived.Deep.RegionLaw
import Derived.RangeFuncNested
import Derived.RangeFuncBound
import Derived.RangeFuncCalls
import Derived.RangeFuncLeaves
import Derived.Shelf.Abstract
import Derived.Shelf.RegionOpen
import Derived.OwnWalkIn
import Derived.TacticsInMore
import Derived.LoopNIn
import Derived.LoopIn
import Derived.Lib.SlKeysI
import Derived.Shelf.SortM.Plain
import Derived.Shelf.SortM.SortNone
set_option linter.unusedVariables false
set_option linter.unusedSimpArgs false
namespace Go.Proofs.Ytneojimdhnhkeaa.Print
open Go.RowKit Go.Proofs.YtneojimdhnhkeaaW.PrintWords Go.Proofs.YtneojimdhnhkeaaW.PrintLast Go.Proofs.YtneojimdhnhkeaaW.PrintMore
theorem aM {p : Prop} (h : p) : Aside0 p := ⟨h⟩
theorem aA : type_of% @List.setIfInBounds_toArray.{0} := @List.setIfInBounds_toArray
theorem aB : type_of% @List.set_cons_zero.{0} := @List.set_cons_zero
theorem aC : type_of% @List.set_cons_succ.{0} := @List.set_cons_succ
theorem aD : type_of% @List.map_toArray.{0,0} := @List.map_toArray
theorem aE : type_of% @List.map_cons.{0,0} := @List.map_cons
theorem aF : type_of% @List.map_nil.{0,0} := @List.map_nil
theorem aG : type_of% @List.length_drop.{0} := @List.length_drop
theorem aH : type_of% @List.length_take.{0} := @List.length_take
theorem aI : type_of% @World.block_lt_of_cell? := @World.block_lt_of_cell?
theorem aJ : type_of% @Option.bind_eq_some_iff.{0,0} := @Option.bind_eq_some_iff
end Go.Proofs.Ytneojimdhnhkeaa.Print

namespace Go.Proofs.Ytneojimdhnhkeaa.Print
open Go.RowKit Go.Proofs.YtneojimdhnhkeaaW.PrintWords Go.Proofs.YtneojimdhnhkeaaW.PrintLast Go.Proofs.YtneojimdhnhkeaaW.PrintMore
attribute [local go_sem] max2_int min2_int max_two min_two max_three min_three max_four min_four



def errW:Option Int→Value
  |none=> .nilIface
  |some c=> .iface 0 (.int .i64 c)
theorem errW_none:errW none= .nilIface:=rfl
theorem errW_some (c:Int):errW (some c)= .iface 0 (.int .i64 c):=rfl

theorem info3:(Try.prog.info? 3).map (fun i=>(i.zero,i.size,i.bytes))=some (some (.int .i64 0),1,8):=by kernel_rfl
theorem info4:(Try.prog.info? 4).map (fun i=>(i.zero,i.size,i.bytes))=some (some (.bool false),1,1):=by kernel_rfl
theorem info9:(Try.prog.info? 9).map (fun i=>(i.zero,i.size,i.bytes))=some (some (.string ⟨#[]⟩),1,16):=by kernel_rfl
theorem info34:(Try.prog.info? 34).map (fun i=>(i.zero,i.size,i.bytes))=some (some (.slice none 0 0),1,24):=by kernel_rfl
theorem info50:(Try.prog.info? 50).map (fun i=>(i.zero,i.size,i.bytes))=some (some (.agg #[(.int .i64 0),(.int .i64 0)]),2,16):=by kernel_rfl
theorem info99:(Try.prog.info? 99).map (fun i=>(i.zero,i.size,i.bytes))=some (some (.slice none 0 0),1,24):=by kernel_rfl
theorem info123:(Try.prog.info? 123).map (fun i=>(i.zero,i.size,i.bytes))=some (some (.agg #[(.int .i64 0),(.int .i64 0)]),2,16):=by kernel_rfl
theorem info168:(Try.prog.info? 168).map (fun i=>(i.zero,i.size,i.bytes))=some (some (.agg #[(.int .i64 0),(.int .i64 0)]),2,16):=by kernel_rfl
theorem info189:(Try.prog.info? 189).map (fun i=>(i.zero,i.size,i.bytes))=some (some (.agg #[(.int .i64 0),(.int .i64 0)]),2,16):=by kernel_rfl
theorem info246:(Try.prog.info? 246).map (fun i=>(i.zero,i.size,i.bytes))=some (some (.agg #[(.string ⟨#[]⟩),(.int .i64 0)]),2,24):=by kernel_rfl
theorem info250:(Try.prog.info? 250).map (fun i=>(i.zero,i.size,i.bytes))=some (some (.agg #[(.int .i64 0),(.int .i64 0)]),2,16):=by kernel_rfl
-- the values' own types
def rd_L1 (xs:List (List Int)) (i:Int):(List Int):=xs.getD i.toNat ([]:List Int)
theorem at_L1 {w:World} {A:Option Addr} {n:Nat} {xs:List (List Int)} (h:Kd.C (Kd.slice 3 (Kd.int .i64)) w A n xs) (i:Int) (h0:0≤i) (h1:i<n):∃ ad A0 c0,A=some ad∧w.cell? (ad.add i.toNat)=some (.slice A0 (rd_L1 xs i).length c0)∧(rd_L1 xs i).length≤c0∧(Kd.int .i64).C w A0 (rd_L1 xs i).length (rd_L1 xs i):=by
  obtain ⟨ad,c,e,_,hK,hc0⟩:=Kd.C_get h ([]:List Int) i h0 h1;have hc:∀ j u,c[j]? = some u→w.cell? (ad.add (i.toNat * 1+j))=some u:=hc0;obtain ⟨A0,c0,rfl,l0,g0⟩:=hK;exact ⟨ad,A0,c0,e,by have hq:=hc 0 _ rfl;rwa [Nat.mul_one,Nat.add_zero] at hq,l0,g0⟩

structure S246 where
  f0:ByteArray
  f1:Int
def z246:S246:=⟨(⟨#[]⟩:ByteArray),(0:Int)⟩
def k246:Kd S246:=Kd.iso (Kd.pair Kd.string (Kd.int .i64)) (fun x:S246=>(x.f0,x.f1))
theorem k246_heap:Kd.Heap k246:=Kd.heap_iso _ (Kd.heap_pair Kd.heap_string (Kd.heap_int .i64))
theorem k246_open {w:World} {x:S246} {cs:List Value} (h:k246.K w x cs):cs=[.string x.f0,.int .i64 x.f1]:=by
  obtain ⟨_,_,rfl,rfl,rfl⟩:=h;exact rfl
theorem k246_openM {w:World} {base:Nat} {ok:Nat→Prop} {x:S246} {cs:List Value} (h:k246.M w base ok x cs):cs=[.string x.f0,.int .i64 x.f1]:=by
  obtain ⟨_,_,rfl,rfl,rfl⟩:=h;exact rfl
theorem k246_mk (w:World) (x:S246)  :k246.K w x [.string x.f0,.int .i64 x.f1]:=⟨[.string x.f0],[.int .i64 x.f1],rfl,rfl,rfl⟩
theorem k246_mkM (w:World) (base:Nat) (ok:Nat→Prop) (x:S246)  :k246.M w base ok x [.string x.f0,.int .i64 x.f1]:=⟨[.string x.f0],[.int .i64 x.f1],rfl,rfl,rfl⟩
def rd_T246 (xs:List S246) (i:Int):S246:=xs.getD i.toNat z246
theorem at_T246 {w:World} {A:Option Addr} {n:Nat} {xs:List S246} (h:Kd.C k246 w A n xs) (i:Int) (h0:0≤i) (h1:i<n):∃ ad,A=some ad∧w.cell? (ad.add (i.toNat * 2))=some (.string (rd_T246 xs i).f0)∧w.cell? ⟨(ad.add (i.toNat * 2)).block,(ad.add (i.toNat * 2)).off+1,none⟩=some (.int .i64 (rd_T246 xs i).f1):=by
  obtain ⟨ad,c,e,_,hK,hc0⟩:=Kd.C_get h z246 i h0 h1;have hc:∀ j u,c[j]? = some u→w.cell? (ad.add (i.toNat * 2+j))=some u:=hc0;obtain rfl:=k246_open hK;exact ⟨ad,e,hc 0 _ rfl,by rw [←add_field _ _ 1 (by omega)];exact hc 1 _ rfl⟩

structure S250 where
  f0:Int
  f1:Int
def z250:S250:=⟨(0:Int),(0:Int)⟩
def k250:Kd S250:=Kd.iso (Kd.pair (Kd.int .i64) (Kd.int .i64)) (fun x:S250=>(x.f0,x.f1))
theorem k250_heap:Kd.Heap k250:=Kd.heap_iso _ (Kd.heap_pair (Kd.heap_int .i64) (Kd.heap_int .i64))
theorem k250_open {w:World} {x:S250} {cs:List Value} (h:k250.K w x cs):cs=[.int .i64 x.f0,.int .i64 x.f1]:=by
  obtain ⟨_,_,rfl,rfl,rfl⟩:=h;exact rfl
theorem k250_openM {w:World} {base:Nat} {ok:Nat→Prop} {x:S250} {cs:List Value} (h:k250.M w base ok x cs):cs=[.int .i64 x.f0,.int .i64 x.f1]:=by
  obtain ⟨_,_,rfl,rfl,rfl⟩:=h;exact rfl
theorem k250_mk (w:World) (x:S250)  :k250.K w x [.int .i64 x.f0,.int .i64 x.f1]:=⟨[.int .i64 x.f0],[.int .i64 x.f1],rfl,rfl,rfl⟩
theorem k250_mkM (w:World) (base:Nat) (ok:Nat→Prop) (x:S250)  :k250.M w base ok x [.int .i64 x.f0,.int .i64 x.f1]:=⟨[.int .i64 x.f0],[.int .i64 x.f1],rfl,rfl,rfl⟩
def rd_T250 (xs:List S250) (i:Int):S250:=xs.getD i.toNat z250
theorem at_T250 {w:World} {A:Option Addr} {n:Nat} {xs:List S250} (h:Kd.C k250 w A n xs) (i:Int) (h0:0≤i) (h1:i<n):∃ ad,A=some ad∧w.cell? (ad.add (i.toNat * 2))=some (.int .i64 (rd_T250 xs i).f0)∧w.cell? ⟨(ad.add (i.toNat * 2)).block,(ad.add (i.toNat * 2)).off+1,none⟩=some (.int .i64 (rd_T250 xs i).f1):=by
  obtain ⟨ad,c,e,_,hK,hc0⟩:=Kd.C_get h z250 i h0 h1;have hc:∀ j u,c[j]? = some u→w.cell? (ad.add (i.toNat * 2+j))=some u:=hc0;obtain rfl:=k250_open hK;exact ⟨ad,e,hc 0 _ rfl,by rw [←add_field _ _ 1 (by omega)];exact hc 1 _ rfl⟩

structure S50 where
  f0:Int
  f1:Int
def z50:S50:=⟨(0:Int),(0:Int)⟩
def k50:Kd S50:=Kd.iso (Kd.pair (Kd.int .i64) (Kd.int .i64)) (fun x:S50=>(x.f0,x.f1))
theorem k50_heap:Kd.Heap k50:=Kd.heap_iso _ (Kd.heap_pair (Kd.heap_int .i64) (Kd.heap_int .i64))
theorem k50_open {w:World} {x:S50} {cs:List Value} (h:k50.K w x cs):cs=[.int .i64 x.f0,.int .i64 x.f1]:=by
  obtain ⟨_,_,rfl,rfl,rfl⟩:=h;exact rfl
theorem k50_openM {w:World} {base:Nat} {ok:Nat→Prop} {x:S50} {cs:List Value} (h:k50.M w base ok x cs):cs=[.int .i64 x.f0,.int .i64 x.f1]:=by
  obtain ⟨_,_,rfl,rfl,rfl⟩:=h;exact rfl
theorem k50_mk (w:World) (x:S50)  :k50.K w x [.int .i64 x.f0,.int .i64 x.f1]:=⟨[.int .i64 x.f0],[.int .i64 x.f1],rfl,rfl,rfl⟩
theorem k50_mkM (w:World) (base:Nat) (ok:Nat→Prop) (x:S50)  :k50.M w base ok x [.int .i64 x.f0,.int .i64 x.f1]:=⟨[.int .i64 x.f0],[.int .i64 x.f1],rfl,rfl,rfl⟩
def rd_T50 (xs:List S50) (i:Int):S50:=xs.getD i.toNat z50
theorem at_T50 {w:World} {A:Option Addr} {n:Nat} {xs:List S50} (h:Kd.C k50 w A n xs) (i:Int) (h0:0≤i) (h1:i<n):∃ ad,A=some ad∧w.cell? (ad.add (i.toNat * 2))=some (.int .i64 (rd_T50 xs i).f0)∧w.cell? ⟨(ad.add (i.toNat * 2)).block,(ad.add (i.toNat * 2)).off+1,none⟩=some (.int .i64 (rd_T50 xs i).f1):=by
  obtain ⟨ad,c,e,_,hK,hc0⟩:=Kd.C_get h z50 i h0 h1;have hc:∀ j u,c[j]? = some u→w.cell? (ad.add (i.toNat * 2+j))=some u:=hc0;obtain rfl:=k50_open hK;exact ⟨ad,e,hc 0 _ rfl,by rw [←add_field _ _ 1 (by omega)];exact hc 1 _ rfl⟩

structure S168 where
  f0:Int
  f1:Int
def z168:S168:=⟨(0:Int),(0:Int)⟩
def k168:Kd S168:=Kd.iso (Kd.pair (Kd.int .i64) (Kd.int .i64)) (fun x:S168=>(x.f0,x.f1))
theorem k168_heap:Kd.Heap k168:=Kd.heap_iso _ (Kd.heap_pair (Kd.heap_int .i64) (Kd.heap_int .i64))
theorem k168_open {w:World} {x:S168} {cs:List Value} (h:k168.K w x cs):cs=[.int .i64 x.f0,.int .i64 x.f1]:=by
  obtain ⟨_,_,rfl,rfl,rfl⟩:=h;exact rfl
theorem k168_openM {w:World} {base:Nat} {ok:Nat→Prop} {x:S168} {cs:List Value} (h:k168.M w base ok x cs):cs=[.int .i64 x.f0,.int .i64 x.f1]:=by
  obtain ⟨_,_,rfl,rfl,rfl⟩:=h;exact rfl
theorem k168_mk (w:World) (x:S168)  :k168.K w x [.int .i64 x.f0,.int .i64 x.f1]:=⟨[.int .i64 x.f0],[.int .i64 x.f1],rfl,rfl,rfl⟩
theorem k168_mkM (w:World) (base:Nat) (ok:Nat→Prop) (x:S168)  :k168.M w base ok x [.int .i64 x.f0,.int .i64 x.f1]:=⟨[.int .i64 x.f0],[.int .i64 x.f1],rfl,rfl,rfl⟩
def rd_T168 (xs:List S168) (i:Int):S168:=xs.getD i.toNat z168
theorem at_T168 {w:World} {A:Option Addr} {n:Nat} {xs:List S168} (h:Kd.C k168 w A n xs) (i:Int) (h0:0≤i) (h1:i<n):∃ ad,A=some ad∧w.cell? (ad.add (i.toNat * 2))=some (.int .i64 (rd_T168 xs i).f0)∧w.cell? ⟨(ad.add (i.toNat * 2)).block,(ad.add (i.toNat * 2)).off+1,none⟩=some (.int .i64 (rd_T168 xs i).f1):=by
  obtain ⟨ad,c,e,_,hK,hc0⟩:=Kd.C_get h z168 i h0 h1;have hc:∀ j u,c[j]? = some u→w.cell? (ad.add (i.toNat * 2+j))=some u:=hc0;obtain rfl:=k168_open hK;exact ⟨ad,e,hc 0 _ rfl,by rw [←add_field _ _ 1 (by omega)];exact hc 1 _ rfl⟩

def rd_L9 (xs:List (List Bool)) (i:Int):(List Bool):=xs.getD i.toNat ([]:List Bool)
theorem at_L9 {w:World} {A:Option Addr} {n:Nat} {xs:List (List Bool)} (h:Kd.C (Kd.slice 4 Kd.bool) w A n xs) (i:Int) (h0:0≤i) (h1:i<n):∃ ad A0 c0,A=some ad∧w.cell? (ad.add i.toNat)=some (.slice A0 (rd_L9 xs i).length c0)∧(rd_L9 xs i).length≤c0∧Kd.bool.C w A0 (rd_L9 xs i).length (rd_L9 xs i):=by
  obtain ⟨ad,c,e,_,hK,hc0⟩:=Kd.C_get h ([]:List Bool) i h0 h1;have hc:∀ j u,c[j]? = some u→w.cell? (ad.add (i.toNat * 1+j))=some u:=hc0;obtain ⟨A0,c0,rfl,l0,g0⟩:=hK;exact ⟨ad,A0,c0,e,by have hq:=hc 0 _ rfl;rwa [Nat.mul_one,Nat.add_zero] at hq,l0,g0⟩

structure S189 where
  f0:Int
  f1:Int
def z189:S189:=⟨(0:Int),(0:Int)⟩
def k189:Kd S189:=Kd.iso (Kd.pair (Kd.int .i64) (Kd.int .i64)) (fun x:S189=>(x.f0,x.f1))
theorem k189_heap:Kd.Heap k189:=Kd.heap_iso _ (Kd.heap_pair (Kd.heap_int .i64) (Kd.heap_int .i64))
theorem k189_open {w:World} {x:S189} {cs:List Value} (h:k189.K w x cs):cs=[.int .i64 x.f0,.int .i64 x.f1]:=by
  obtain ⟨_,_,rfl,rfl,rfl⟩:=h;exact rfl
theorem k189_openM {w:World} {base:Nat} {ok:Nat→Prop} {x:S189} {cs:List Value} (h:k189.M w base ok x cs):cs=[.int .i64 x.f0,.int .i64 x.f1]:=by
  obtain ⟨_,_,rfl,rfl,rfl⟩:=h;exact rfl
theorem k189_mk (w:World) (x:S189)  :k189.K w x [.int .i64 x.f0,.int .i64 x.f1]:=⟨[.int .i64 x.f0],[.int .i64 x.f1],rfl,rfl,rfl⟩
theorem k189_mkM (w:World) (base:Nat) (ok:Nat→Prop) (x:S189)  :k189.M w base ok x [.int .i64 x.f0,.int .i64 x.f1]:=⟨[.int .i64 x.f0],[.int .i64 x.f1],rfl,rfl,rfl⟩
def rd_T189 (xs:List S189) (i:Int):S189:=xs.getD i.toNat z189
theorem at_T189 {w:World} {A:Option Addr} {n:Nat} {xs:List S189} (h:Kd.C k189 w A n xs) (i:Int) (h0:0≤i) (h1:i<n):∃ ad,A=some ad∧w.cell? (ad.add (i.toNat * 2))=some (.int .i64 (rd_T189 xs i).f0)∧w.cell? ⟨(ad.add (i.toNat * 2)).block,(ad.add (i.toNat * 2)).off+1,none⟩=some (.int .i64 (rd_T189 xs i).f1):=by
  obtain ⟨ad,c,e,_,hK,hc0⟩:=Kd.C_get h z189 i h0 h1;have hc:∀ j u,c[j]? = some u→w.cell? (ad.add (i.toNat * 2+j))=some u:=hc0;obtain rfl:=k189_open hK;exact ⟨ad,e,hc 0 _ rfl,by rw [←add_field _ _ 1 (by omega)];exact hc 1 _ rfl⟩

structure S123 where
  f0:Int
  f1:Int
def z123:S123:=⟨(0:Int),(0:Int)⟩
def k123:Kd S123:=Kd.iso (Kd.pair (Kd.int .i64) (Kd.int .i64)) (fun x:S123=>(x.f0,x.f1))
theorem k123_heap:Kd.Heap k123:=Kd.heap_iso _ (Kd.heap_pair (Kd.heap_int .i64) (Kd.heap_int .i64))
theorem k123_open {w:World} {x:S123} {cs:List Value} (h:k123.K w x cs):cs=[.int .i64 x.f0,.int .i64 x.f1]:=by
  obtain ⟨_,_,rfl,rfl,rfl⟩:=h;exact rfl
theorem k123_openM {w:World} {base:Nat} {ok:Nat→Prop} {x:S123} {cs:List Value} (h:k123.M w base ok x cs):cs=[.int .i64 x.f0,.int .i64 x.f1]:=by
  obtain ⟨_,_,rfl,rfl,rfl⟩:=h;exact rfl
theorem k123_mk (w:World) (x:S123)  :k123.K w x [.int .i64 x.f0,.int .i64 x.f1]:=⟨[.int .i64 x.f0],[.int .i64 x.f1],rfl,rfl,rfl⟩
theorem k123_mkM (w:World) (base:Nat) (ok:Nat→Prop) (x:S123)  :k123.M w base ok x [.int .i64 x.f0,.int .i64 x.f1]:=⟨[.int .i64 x.f0],[.int .i64 x.f1],rfl,rfl,rfl⟩
def rd_T123 (xs:List S123) (i:Int):S123:=xs.getD i.toNat z123
theorem at_T123 {w:World} {A:Option Addr} {n:Nat} {xs:List S123} (h:Kd.C k123 w A n xs) (i:Int) (h0:0≤i) (h1:i<n):∃ ad,A=some ad∧w.cell? (ad.add (i.toNat * 2))=some (.int .i64 (rd_T123 xs i).f0)∧w.cell? ⟨(ad.add (i.toNat * 2)).block,(ad.add (i.toNat * 2)).off+1,none⟩=some (.int .i64 (rd_T123 xs i).f1):=by
  obtain ⟨ad,c,e,_,hK,hc0⟩:=Kd.C_get h z123 i h0 h1;have hc:∀ j u,c[j]? = some u→w.cell? (ad.add (i.toNat * 2+j))=some u:=hc0;obtain rfl:=k123_open hK;exact ⟨ad,e,hc 0 _ rfl,by rw [←add_field _ _ 1 (by omega)];exact hc 1 _ rfl⟩

def laws_sameInts.l0:Nat→List Int→List Int→Int→Int→Option (Bool)
  |0,_,_,_,_=>none
  |k+1,x0,x1,x12,x13=>if x13<x12 then (if 0≤x13 then (if x13<(x0.length:Int) then (if x13<(x1.length:Int) then (if (rd x0 x13)=(rd x1 x13) then (laws_sameInts.l0 k x0 x1 x12 (wrap64 (x13+1))) else (some false)) else (none)) else (none)) else (none)) else (some true)
def laws_sameInts.f (k:Nat) (l0:List Int) (l1:List Int):Option (Bool):=if (l0.length:Int)=(l1.length:Int) then (laws_sameInts.l0 k l0 l1 (l0.length:Int) 0) else (some false)
set_option maxHeartbeats 8000000 in
set_option maxRecDepth 100000 in
theorem laws_sameInts.calls (k:Nat) (A0:Option Addr) (c0:Nat) (l0:List Int) (A1:Option Addr) (c1:Nat) (l1:List Int) (r:Bool) (w:World) (hr0:Kd.C (Kd.int .i64) w A0 l0.length l0) (hc0:l0.length≤c0) (hr1:Kd.C (Kd.int .i64) w A1 l1.length l1) (hc1:l1.length≤c1) (h:laws_sameInts.f k l0 l1=some r) :
    Calls Try.prog 28 #[.slice A0 l0.length c0,.slice A1 l1.length c1] w fun e w'=>e= .returned (.bool r)∧Drawn0 w w':=by
  have HR0:=aM hr0;have HC0:=aM hc0;clear hr0 hc0;have HR1:=aM hr1;have HC1:=aM hc1;clear hr1 hc1;have H:(if (l0.length:Int)=(l1.length:Int) then (laws_sameInts.l0 k l0 l1 (l0.length:Int) 0) else (some false))=some r:=h;clear h;by_cases c3:(l0.length:Int)=(l1.length:Int)
  ·rw [if_pos c3] at H;have c3b0:((l0.length:Int) == (l1.length:Int))=true:=beq_iff_eq.mpr c3;have c3b1:((l0.length:Int) != (l1.length:Int))=false:=bne_eq_false_iff_eq.mpr c3;have c3b2:(l0.length == l1.length)=true:=by first|simpa using c3|(simp at c3 ⊢;omega)
   clear c3;have H':=aM H;clear H;go_enter Try.func28,Try.ntmps28;go_wp2
   repeat (go_quiet (fail);try go_wp2)
   go_loopg [13] k (fun kq v13 w'=>∃ (x13_1:Int),v13= .int .i64 x13_1∧Aside0 (laws_sameInts.l0 kq l0 l1 (l0.length:Int) x13_1=some r)∧Aside0 (kq≤k)∧Drawn0 w w')
   case atStart=>exact ⟨(0),(by first|rfl|(simp;done)|(simp [*];done)),H',⟨Nat.le_refl _⟩,by repeat (first|exact Drawn0.refl _|apply Drawn0.step)⟩
   case round=>
    clear H';(try clear c1);(try clear c2);(try clear p2);(try clear c3);(try clear c3b0);(try clear c3b1);(try clear c3b2);obtain ⟨x13_1,rfl,HA,HK1,⟨m1,rfl⟩⟩:=hrel
    cases gk with
    |zero=>exact absurd HA.out (by simp [laws_sameInts.l0])
    |succ k1=>
     have H:=HA.out;clear HA;simp only [laws_sameInts.l0] at H;by_cases c4:x13_1<(l0.length:Int)
     ·rw [if_pos c4] at H;have c4b0:decide (x13_1<(l0.length:Int))=true:=decide_eq_true c4;clear c4;by_cases c5:0≤x13_1
      ·rw [if_pos c5] at H;have c5b0:decide (0≤x13_1)=true:=decide_eq_true c5;clear c5;by_cases c6:x13_1<(l0.length:Int)
       ·rw [if_pos c6] at H;have c6b0:decide (x13_1<(l0.length:Int))=true:=decide_eq_true c6;clear c6;by_cases c7:x13_1<(l1.length:Int)
        ·rw [if_pos c7] at H;have c7b0:decide (x13_1<(l1.length:Int))=true:=decide_eq_true c7;clear c7;by_cases c8:(rd l0 x13_1)=(rd l1 x13_1)
         ·rw [if_pos c8] at H;have c8b0:((rd l0 x13_1) == (rd l1 x13_1))=true:=beq_iff_eq.mpr c8;have c8b1:((rd l0 x13_1) != (rd l1 x13_1))=false:=bne_eq_false_iff_eq.mpr c8;clear c8;have H':=aM H;clear H;have p101:0≤(x13_1:Int):=of_decide_eq_true (by first|(with_reducible assumption)|assumption);have q101:x13_1<(l0.length:Int):=of_decide_eq_true (by first|(with_reducible assumption)|assumption);obtain ⟨ad101,e101,hx101_0⟩:=Kd.at_int HR0.out x13_1 p101 q101
          cases e101
          replace p101:=eq_true p101;replace q101:=eq_true q101;have p102:0≤(x13_1:Int):=of_decide_eq_true (by first|(with_reducible assumption)|assumption);have q102:x13_1<(l1.length:Int):=of_decide_eq_true (by first|(with_reducible assumption)|assumption);obtain ⟨ad102,e102,hx102_0⟩:=Kd.at_int HR1.out x13_1 p102 q102
          cases e102
          replace p102:=eq_true p102;replace q102:=eq_true q102;go_wp2
          repeat (go_quiet (fail);try go_wp2)
          go_roundg k1
          case measure=>have:=HK1.out;omega
          case rel=>exact ⟨(wrap64 (x13_1+1)),(by first|rfl|(simp;done)|(simp [*];done)),H',⟨by have:=HK1.out;omega⟩,by repeat (first|exact Drawn0.refl _|apply Drawn0.step)⟩
         ·rw [if_neg c8] at H;have c8b0:((rd l0 x13_1) == (rd l1 x13_1))=false:=beq_eq_false_iff_ne.mpr c8;have c8b1:((rd l0 x13_1) != (rd l1 x13_1))=true:=bne_iff_ne.mpr c8;obtain rfl:=Option.some.inj H;have p101:0≤(x13_1:Int):=of_decide_eq_true (by first|(with_reducible assumption)|assumption);have q101:x13_1<(l0.length:Int):=of_decide_eq_true (by first|(with_reducible assumption)|assumption);obtain ⟨ad101,e101,hx101_0⟩:=Kd.at_int HR0.out x13_1 p101 q101
          cases e101
          replace p101:=eq_true p101;replace q101:=eq_true q101;have p102:0≤(x13_1:Int):=of_decide_eq_true (by first|(with_reducible assumption)|assumption);have q102:x13_1<(l1.length:Int):=of_decide_eq_true (by first|(with_reducible assumption)|assumption);obtain ⟨ad102,e102,hx102_0⟩:=Kd.at_int HR1.out x13_1 p102 q102
          cases e102
          replace p102:=eq_true p102;replace q102:=eq_true q102;go_wp2
          repeat (go_quiet (fail);try go_wp2)
          go_ret
          exact ⟨by first|rfl|(simp;done)|(simp [*];done),by repeat (first|exact Drawn0.refl _|apply Drawn0.step)⟩
        ·rw [if_neg c7] at H;exact absurd H (by simp)
       ·rw [if_neg c6] at H;exact absurd H (by simp)
      ·rw [if_neg c5] at H;exact absurd H (by simp)
     ·rw [if_neg c4] at H;have c4b0:decide (x13_1<(l0.length:Int))=false:=decide_eq_false c4;clear c4;obtain rfl:=Option.some.inj H;go_wp2
      repeat (go_quiet (fail);try go_wp2)
      go_ret
      exact ⟨by first|rfl|(simp;done)|(simp [*];done),by repeat (first|exact Drawn0.refl _|apply Drawn0.step)⟩
  ·rw [if_neg c3] at H;have c3b0:((l0.length:Int) == (l1.length:Int))=false:=beq_eq_false_iff_ne.mpr c3;have c3b1:((l0.length:Int) != (l1.length:Int))=true:=bne_iff_ne.mpr c3;have c3b2:(l0.length == l1.length)=false:=by first|simpa using c3|(simp at c3 ⊢;omega)
   obtain rfl:=Option.some.inj H;go_enter Try.func28,Try.ntmps28;go_wp2
   repeat (go_quiet (fail);try go_wp2)
   go_ret
   exact ⟨by first|rfl|(simp;done)|(simp [*];done),by repeat (first|exact Drawn0.refl _|apply Drawn0.step)⟩

def laws_numberOf.l0:Nat→Int→List Int→Int→Int→Option (Int)
  |0,_,_,_,_=>none
  |k+1,x3,x6,x7,x8=>if x8<x7 then (if 0≤x8 then (if x8<(x6.length:Int) then (laws_numberOf.l0 k (Int.tmod (wrap64 ((wrap64 (31 * x3))+(wrap64 (rd x6 x8)))) 1000003) x6 x7 (wrap64 (x8+1))) else (none)) else (none)) else (some x3)
def laws_numberOf.f (k:Nat) (l0:List Int):Option (Int):=laws_numberOf.l0 k 0 l0 (l0.length:Int) 0
set_option maxHeartbeats 8000000 in
set_option maxRecDepth 100000 in
theorem laws_numberOf.calls (k:Nat) (A0:Option Addr) (c0:Nat) (l0:List Int) (r:Int) (w:World) (hr0:Kd.C (Kd.int .u8) w A0 l0.length l0) (hc0:l0.length≤c0) (h:laws_numberOf.f k l0=some r) :
    Calls Try.prog 32 #[.slice A0 l0.length c0] w fun e w'=>e= .returned (.int .i64 r)∧Drawn0 w w':=by
  have HR0:=aM hr0;have HC0:=aM hc0;clear hr0 hc0;have H:(laws_numberOf.l0 k 0 l0 (l0.length:Int) 0)=some r:=h;clear h;have H':=aM H;clear H;go_enter Try.func32,Try.ntmps32;go_wp2;go_loopg [3,8] k (fun kq v3 v8 w'=>∃ (x3_1:Int) (x8_1:Int),v3= .int .i64 x3_1∧v8= .int .i64 x8_1∧Aside0 (laws_numberOf.l0 kq x3_1 l0 (l0.length:Int) x8_1=some r)∧Aside0 (kq≤k)∧Drawn0 w w')
  case atStart=>exact ⟨(0),(0),(by first|rfl|(simp;done)|(simp [*];done)),(by first|rfl|(simp;done)|(simp [*];done)),H',⟨Nat.le_refl _⟩,by repeat (first|exact Drawn0.refl _|apply Drawn0.step)⟩
  case round=>
   clear H';obtain ⟨x3_1,x8_1,rfl,rfl,HA,HK1,⟨m1,rfl⟩⟩:=hrel
   cases gk with
   |zero=>exact absurd HA.out (by simp [laws_numberOf.l0])
   |succ k1=>
    have H:=HA.out;clear HA;simp only [laws_numberOf.l0] at H;by_cases c2:x8_1<(l0.length:Int)
    ·rw [if_pos c2] at H;have c2b0:decide (x8_1<(l0.length:Int))=true:=decide_eq_true c2;clear c2;by_cases c3:0≤x8_1
     ·rw [if_pos c3] at H;have c3b0:decide (0≤x8_1)=true:=decide_eq_true c3;clear c3;by_cases c4:x8_1<(l0.length:Int)
      ·rw [if_pos c4] at H;have c4b0:decide (x8_1<(l0.length:Int))=true:=decide_eq_true c4;clear c4;have H':=aM H;clear H;have p101:0≤(x8_1:Int):=of_decide_eq_true (by first|(with_reducible assumption)|assumption);have q101:x8_1<(l0.length:Int):=of_decide_eq_true (by first|(with_reducible assumption)|assumption);obtain ⟨ad101,e101,hx101_0⟩:=Kd.at_int HR0.out x8_1 p101 q101
       cases e101
       replace p101:=eq_true p101;replace q101:=eq_true q101;go_wp2;go_roundg k1
       case measure=>have:=HK1.out;omega
       case rel=>exact ⟨(Int.tmod (wrap64 ((wrap64 (31 * x3_1))+(wrap64 (rd l0 x8_1)))) 1000003),(wrap64 (x8_1+1)),(by first|rfl|(simp;done)|(simp [*];done)),(by first|rfl|(simp;done)|(simp [*];done)),H',⟨by have:=HK1.out;omega⟩,by repeat (first|exact Drawn0.refl _|apply Drawn0.step)⟩
      ·rw [if_neg c4] at H;exact absurd H (by simp)
     ·rw [if_neg c3] at H;exact absurd H (by simp)
    ·rw [if_neg c2] at H;have c2b0:decide (x8_1<(l0.length:Int))=false:=decide_eq_false c2;clear c2;obtain rfl:=Option.some.inj H;go_wp2
     go_ret
     exact ⟨by first|rfl|(simp;done)|(simp [*];done),by repeat (first|exact Drawn0.refl _|apply Drawn0.step)⟩

/-- A state of type 135 at block g of W;what its slices lead to came in by w0. -/
def IsS135 (w0 W:World) (g:Nat) (f0:List Int) (f1:Int) (f2:Int):Prop:=∃ A0 c0,W.heap[g]? = some (.cells #[.slice A0 f0.length c0,.int .i64 f1,.int .u64 f2] 135 (0,0))∧w0.heap.size≤g∧Kd.C (Kd.int .u8) w0 A0 f0.length f0
theorem IsS135.grown {w0 W:World} {g:Nat} {f0:List Int} {f1:Int} {f2:Int} {W1:World} {row:Option Nat} (h:IsS135 w0 W g f0 f1 f2) (hw:W.grownBy W1 row) (hne:some g≠row):IsS135 w0 W1 g f0 f1 f2:=by
  obtain ⟨A0,c0,hb,hg,hr0⟩:=h;exact ⟨A0,c0,blk_grown hb hw hne,hg,hr0⟩
theorem IsS135.own_neN {w0 W:World} {g:Nat} {f0:List Int} {f1:Int} {f2:Int} {α:Type} {d:Kd α} {e:Nat} {base:Nat} {ok:Nat→Prop} {v:Value} {xs:List α} (h:IsS135 w0 W g f0 f1 f2) (ho:Kd.N d e W base ok v xs) (ht:e≠135):some g≠v.ownBlock:=by
  obtain ⟨A0,c0,hb,hg,hr0⟩:=h;exact Kd.N_ne ho hb ht
theorem IsS135.fresh {w0 W:World} {g:Nat} {f0:List Int} {f1:Int} {f2:Int} (h:IsS135 w0 W g f0 f1 f2):∀ k,W.heap.size≤k→k≠g:=by
  obtain ⟨A0,c0,hb,hg,hr0⟩:=h;exact Kd.freshB hb
theorem IsS135.kept {w0 W:World} {g:Nat} {f0:List Int} {f1:Int} {f2:Int} {W1:World} {S:Nat→Prop} (h:IsS135 w0 W g f0 f1 f2) (hk:Kept W W1 S) (hne: ¬ S g):IsS135 w0 W1 g f0 f1 f2:=by
  obtain ⟨A0,c0,hb,hg,hr0⟩:=h;exact ⟨A0,c0,blk_kept hb hk hne,hg,hr0⟩
theorem IsS135.below {w0 W:World} {g:Nat} {f0:List Int} {f1:Int} {f2:Int} {W1:World} (h:IsS135 w0 W g f0 f1 f2) (hw:Below W.heap.size W W1):IsS135 w0 W1 g f0 f1 f2:=h.grown (grown_of_below hw none) (by simp)
theorem IsS135.alloc {w0 W:World} {g:Nat} {f0:List Int} {f1:Int} {f2:Int} (h:IsS135 w0 W g f0 f1 f2) (o:Obj):IsS135 w0 (W.alloc o) g f0 f1 f2:=h.below (Qc (Below.refl _ _) o)
theorem IsS135.drewN {w0 W:World} {g:Nat} {f0:List Int} {f1:Int} {f2:Int} (h:IsS135 w0 W g f0 f1 f2) (m:Nat):IsS135 w0 (W.drewN m) g f0 f1 f2:=h
theorem IsS135.drew {w0 W:World} {g:Nat} {f0:List Int} {f1:Int} {f2:Int} (h:IsS135 w0 W g f0 f1 f2):IsS135 w0 W.drew g f0 f1 f2:=h
theorem IsS135.at_ {w0 W:World} {g:Nat} {f0:List Int} {f1:Int} {f2:Int} {w':World} {m:Nat} (hq:W.drewN m=w') (h:IsS135 w0 W g f0 f1 f2):IsS135 w0 w' g f0 f1 f2:=by subst hq;exact IsS135.drewN h m
theorem IsS135.apart {w0 W:World} {g:Nat} {f0:List Int} {f1:Int} {f2:Int} {α:Type} {d:Kd α} {e:Nat} {base:Nat} {ok:Nat→Prop} {v:Value} {xs:List α} (h:IsS135 w0 W g f0 f1 f2) (ho:d.R e W base ok v xs) (ht:∀ q,q ∈ e :: d.E→q≠135):d.R e W base (fun k=>ok k∧k≠g) v xs:=by
  obtain ⟨A0,c0,hb,hg,hr0⟩:=h;exact Kd.R_types ho hb ht
theorem IsS135.own_ne {w0 W:World} {g:Nat} {f0:List Int} {f1:Int} {f2:Int} {α:Type} {d:Kd α} {e:Nat} {base:Nat} {ok:Nat→Prop} {v:Value} {xs:List α} (h:IsS135 w0 W g f0 f1 f2) (ho:d.R e W base ok v xs) (ht:e≠135):some g≠v.ownBlock:=by
  obtain ⟨A0,c0,hb,hg,hr0⟩:=h;exact Kd.R_ne ho hb ht
theorem IsS135.apartQ {w0 W:World} {g:Nat} {f0:List Int} {f1:Int} {f2:Int} {α:Type} {d:Kd α} {e:Nat} {base:Nat} {ok:Nat→Prop} {v:Value} {xs:List α} (h:IsS135 w0 W g f0 f1 f2) (ho:d.Q e W base ok v xs) (ht:∀ q,q ∈ e :: d.E→q≠135):d.Q e W base (fun k=>ok k∧k≠g) v xs:=by
  obtain ⟨A0,c0,hb,hg,hr0⟩:=h;exact Kd.Q_types ho hb ht
theorem IsS135.own_neQ {w0 W:World} {g:Nat} {f0:List Int} {f1:Int} {f2:Int} {α:Type} {d:Kd α} {e:Nat} {base:Nat} {ok:Nat→Prop} {v:Value} {xs:List α} (h:IsS135 w0 W g f0 f1 f2) (ho:d.Q e W base ok v xs) (ht:e≠135):some g≠v.ownBlock:=by
  obtain ⟨A0,c0,hb,hg,hr0⟩:=h;exact Kd.Q_ne ho hb ht
theorem IsS135.apartS {w0 W:World} {g:Nat} {f0:List Int} {f1:Int} {f2:Int} {α:Type} {d:Kd α} {e:Nat} {base:Nat} {ok:Nat→Prop} {v:Value} {xs:List α} (h:IsS135 w0 W g f0 f1 f2) (ho:d.S e W base ok v xs) (ht:∀ q,q ∈ e :: d.E→q≠135):d.S e W base (fun k=>ok k∧k≠g) v xs:=by
  obtain ⟨A0,c0,hb,hg,hr0⟩:=h;exact Kd.S_types ho hb ht
theorem IsS135.own_neS {w0 W:World} {g:Nat} {f0:List Int} {f1:Int} {f2:Int} {α:Type} {d:Kd α} {e:Nat} {base:Nat} {ok:Nat→Prop} {v:Value} {xs:List α} (h:IsS135 w0 W g f0 f1 f2) (ho:d.S e W base ok v xs) (ht:e≠135):some g≠v.ownBlock:=by
  obtain ⟨A0,c0,hb,hg,hr0⟩:=h;exact Kd.S_ne ho hb ht
theorem IsS135.lt {w0 W:World} {g:Nat} {f0:List Int} {f1:Int} {f2:Int} (h:IsS135 w0 W g f0 f1 f2):g<W.heap.size:=by
  obtain ⟨A0,c0,hb,hg,hr0⟩:=h;exact blk_lt hb
theorem IsS135.ge {w0 W:World} {g:Nat} {f0:List Int} {f1:Int} {f2:Int} (h:IsS135 w0 W g f0 f1 f2):w0.heap.size≤g:=by
  obtain ⟨A0,c0,hb,hg,hr0⟩:=h;exact hg
theorem IsS135.ne_blk {w0 W:World} {g:Nat} {f0:List Int} {f1:Int} {f2:Int} {a:Nat} {cs:Array Value} {t:TypeId} {fr:Nat×Nat} (h:IsS135 w0 W g f0 f1 f2) (hb2:W.heap[a]? = some (.cells cs t fr)) (ht:t≠135):g≠a:=by
  obtain ⟨A0,c0,hb,hg,hr0⟩:=h
  rintro rfl
  rw [hb] at hb2
  injection hb2 with hb2
  injection hb2 with _ ht2
  exact ht ht2.symm
theorem IsS135.far {w0 W:World} {g:Nat} {f0:List Int} {f1:Int} {f2:Int} {p:Addr} (h:IsS135 w0 W g f0 f1 f2) (hne:g≠p.block) (u:Value):IsS135 w0 (W.setCell p u) g f0 f1 f2:=by
  obtain ⟨A0,c0,hb,hg,hr0⟩:=h;exact ⟨A0,c0,blk_far hb hne u,hg,hr0⟩
theorem cellS135_0 {W:World} {g:Nat} {A0:Option Addr} {c0:Nat} {f0:List Int} {f1:Int} {f2:Int} (h:W.heap[g]? = some (.cells #[.slice A0 f0.length c0,.int .i64 f1,.int .u64 f2] 135 (0,0))):W.cell? ⟨g,0,none⟩=some (.slice A0 f0.length c0):=(blk_cell h 0).trans rfl
theorem cellS135_1 {W:World} {g:Nat} {A0:Option Addr} {c0:Nat} {f0:List Int} {f1:Int} {f2:Int} (h:W.heap[g]? = some (.cells #[.slice A0 f0.length c0,.int .i64 f1,.int .u64 f2] 135 (0,0))):W.cell? ⟨g,1,none⟩=some (.int .i64 f1):=(blk_cell h 1).trans rfl
theorem IsS135.set_1 {w0 W:World} {g:Nat} {f0:List Int} {f1:Int} {f2:Int} (h:IsS135 w0 W g f0 f1 f2) (x:Int):IsS135 w0 (W.setCell ⟨g,1,none⟩ (.int .i64 x)) g f0 x f2:=by
  obtain ⟨A0,c0,hb,hg,hr0⟩:=h;exact ⟨A0,c0,by simpa using blk_set hb 1 (.int .i64 x),hg,hr0⟩
theorem cellS135_2 {W:World} {g:Nat} {A0:Option Addr} {c0:Nat} {f0:List Int} {f1:Int} {f2:Int} (h:W.heap[g]? = some (.cells #[.slice A0 f0.length c0,.int .i64 f1,.int .u64 f2] 135 (0,0))):W.cell? ⟨g,2,none⟩=some (.int .u64 f2):=(blk_cell h 2).trans rfl
theorem IsS135.set_2 {w0 W:World} {g:Nat} {f0:List Int} {f1:Int} {f2:Int} (h:IsS135 w0 W g f0 f1 f2) (x:Int):IsS135 w0 (W.setCell ⟨g,2,none⟩ (.int .u64 x)) g f0 f1 x:=by
  obtain ⟨A0,c0,hb,hg,hr0⟩:=h;exact ⟨A0,c0,by simpa using blk_set hb 2 (.int .u64 x),hg,hr0⟩
theorem IsS135.new (w0 W:World) (A0:Option Addr) (c0:Nat) (f0:List Int) (f1:Int) (f2:Int) (hB:Below w0.heap.size w0 W) (hr0:Kd.C (Kd.int .u8) w0 A0 f0.length f0):IsS135 w0 (W.alloc (.cells #[.slice A0 f0.length c0,.int .i64 f1,.int .u64 f2] 135)) W.heap.size f0 f1 f2:=⟨A0,c0,by simpa using heap_alloc_new W _,hB.size,hr0⟩

def spec_l1Cur_next.f (s0_0:List Int) (s0_1:Int) (s0_2:Int):Option (Int×Int×Int):=if s0_1<(s0_0.length:Int) then (if 0≤s0_1 then (if (wrap64 (s0_1+1))≤(s0_0.length:Int) then (some (wrap64 (rd s0_0 s0_1),wrap64 (s0_1+1),IntKind.u64.wrap ((IntKind.u64.wrap ((IntKind.u64.wrap (s0_2 * 6364136223846793005))+(IntKind.u64.wrap (wrap64 (rd s0_0 s0_1)))))+1442695040888963407))) else (some (wrap64 (Go.bits .and .u64 ((IntKind.u64.wrap ((IntKind.u64.wrap ((IntKind.u64.wrap (s0_2 * 6364136223846793005))+(IntKind.u64.wrap (wrap64 (rd s0_0 s0_1)))))+1442695040888963407)) / 1099511627776) 255),wrap64 (s0_1+1),IntKind.u64.wrap ((IntKind.u64.wrap ((IntKind.u64.wrap (s0_2 * 6364136223846793005))+(IntKind.u64.wrap (wrap64 (rd s0_0 s0_1)))))+1442695040888963407)))) else (none)) else (if (wrap64 (s0_1+1))≤(s0_0.length:Int) then (some (0,wrap64 (s0_1+1),IntKind.u64.wrap ((IntKind.u64.wrap ((IntKind.u64.wrap (s0_2 * 6364136223846793005))))+1442695040888963407))) else (some (wrap64 (Go.bits .and .u64 ((IntKind.u64.wrap ((IntKind.u64.wrap ((IntKind.u64.wrap (s0_2 * 6364136223846793005))))+1442695040888963407)) / 1099511627776) 255),wrap64 (s0_1+1),IntKind.u64.wrap ((IntKind.u64.wrap ((IntKind.u64.wrap (s0_2 * 6364136223846793005))))+1442695040888963407))))
set_option maxHeartbeats 8000000 in
set_option maxRecDepth 100000 in
theorem spec_l1Cur_next.calls (g:Nat) (s0_0:List Int) (s0_1:Int) (s0_2:Int) (r1:Int) (r2:Int) (r3:Int) (w0 w:World) (hI:IsS135 w0 w g s0_0 s0_1 s0_2) (hB:Below w0.heap.size w0 w) (h:spec_l1Cur_next.f s0_0 s0_1 s0_2=some (r1,r2,r3)) :
    Calls Try.prog 263 #[.pointer (some ⟨g,0,none⟩)] w fun e w'=>e= .returned (.int .i64 r1)∧IsS135 w0 w' g s0_0 r2 r3∧Below w0.heap.size w0 w'∧KeepBut w w' g none:=by
  have HI0:=aM hI;have HK:=aM (KeepBut.refl w g none);have HL:=aM hB.size;clear hI;have HW0:=aM hB.size;have HB:=aM hB;clear hB;have H:(if s0_1<(s0_0.length:Int) then (if 0≤s0_1 then (if (wrap64 (s0_1+1))≤(s0_0.length:Int) then (some (wrap64 (rd s0_0 s0_1),wrap64 (s0_1+1),IntKind.u64.wrap ((IntKind.u64.wrap ((IntKind.u64.wrap (s0_2 * 6364136223846793005))+(IntKind.u64.wrap (wrap64 (rd s0_0 s0_1)))))+1442695040888963407))) else (some (wrap64 (Go.bits .and .u64 ((IntKind.u64.wrap ((IntKind.u64.wrap ((IntKind.u64.wrap (s0_2 * 6364136223846793005))+(IntKind.u64.wrap (wrap64 (rd s0_0 s0_1)))))+1442695040888963407)) / 1099511627776) 255),wrap64 (s0_1+1),IntKind.u64.wrap ((IntKind.u64.wrap ((IntKind.u64.wrap (s0_2 * 6364136223846793005))+(IntKind.u64.wrap (wrap64 (rd s0_0 s0_1)))))+1442695040888963407)))) else (none)) else (if (wrap64 (s0_1+1))≤(s0_0.length:Int) then (some (0,wrap64 (s0_1+1),IntKind.u64.wrap ((IntKind.u64.wrap ((IntKind.u64.wrap (s0_2 * 6364136223846793005))))+1442695040888963407))) else (some (wrap64 (Go.bits .and .u64 ((IntKind.u64.wrap ((IntKind.u64.wrap ((IntKind.u64.wrap (s0_2 * 6364136223846793005))))+1442695040888963407)) / 1099511627776) 255),wrap64 (s0_1+1),IntKind.u64.wrap ((IntKind.u64.wrap ((IntKind.u64.wrap (s0_2 * 6364136223846793005))))+1442695040888963407)))))=some (r1,r2,r3):=h;clear h;by_cases c2:s0_1<(s0_0.length:Int)
  ·rw [if_pos c2] at H;have c2b0:decide (s0_1<(s0_0.length:Int))=true:=decide_eq_true c2;clear c2;by_cases c3:0≤s0_1
   ·rw [if_pos c3] at H;have c3b0:decide (0≤s0_1)=true:=decide_eq_true c3;clear c3;by_cases c4:(wrap64 (s0_1+1))≤(s0_0.length:Int)
    ·rw [if_pos c4] at H;have c4b0:decide ((wrap64 (s0_1+1))≤(s0_0.length:Int))=true:=decide_eq_true c4;clear c4;simp only [Option.some.injEq,Prod.mk.injEq] at H;obtain ⟨rfl,rfl,rfl⟩:=H;obtain ⟨ASz5_0,cSz5_0,HGz5,hgz5,HSz5_0⟩:=HI0.out;have hcz5_0:=cellS135_0 HGz5;have hcz5_1:=cellS135_1 HGz5;have hcz5_2:=cellS135_2 HGz5;have hfz5_1:=blk_frozen HGz5 1;have hfz5_2:=blk_frozen HGz5 2;clear HGz5 hgz5;have p101:0≤(s0_1:Int):=of_decide_eq_true (by first|(with_reducible assumption)|assumption);have q101:s0_1<(s0_0.length:Int):=of_decide_eq_true (by first|(with_reducible assumption)|assumption);obtain ⟨ad101,e101,hx101_0⟩:=Kd.at_int HSz5_0 s0_1 p101 q101
     cases e101
     replace hx101_0:=pw_cell_below HB.out hx101_0;replace p101:=eq_true p101;replace q101:=eq_true q101;go_enter Try.func263,Try.ntmps263;go_wp2
     repeat (go_quiet (fail);try go_wp2)
     go_ret
     exact ⟨by first|rfl|(simp [errW_none,errW_some] <;> rfl)|(simp [*,errW_none,errW_some] <;> rfl),by repeat (first|(with_reducible first|exact HI0.out|apply IsS135.alloc|apply IsS135.drewN|apply IsS135.drew|apply IsS135.set_1|apply IsS135.set_2)|exact HI0.out),by repeat (first|(with_reducible first|exact HB.out|apply Qc|apply Qa|apply Qb|refine Qg ?_ (IsS135.ge HI0.out))|exact HB.out),by repeat (first|(with_reducible first|exact HK.out|apply KeepBut.set_|apply keep_drewN|apply keep_drew|apply keep_alloc)|exact HK.out)⟩
    ·rw [if_neg c4] at H;have c4b0:decide ((wrap64 (s0_1+1))≤(s0_0.length:Int))=false:=decide_eq_false c4;clear c4;simp only [Option.some.injEq,Prod.mk.injEq] at H;obtain ⟨rfl,rfl,rfl⟩:=H;obtain ⟨ASz6_0,cSz6_0,HGz6,hgz6,HSz6_0⟩:=HI0.out;have hcz6_0:=cellS135_0 HGz6;have hcz6_1:=cellS135_1 HGz6;have hcz6_2:=cellS135_2 HGz6;have hfz6_1:=blk_frozen HGz6 1;have hfz6_2:=blk_frozen HGz6 2;clear HGz6 hgz6;have p101:0≤(s0_1:Int):=of_decide_eq_true (by first|(with_reducible assumption)|assumption);have q101:s0_1<(s0_0.length:Int):=of_decide_eq_true (by first|(with_reducible assumption)|assumption);obtain ⟨ad101,e101,hx101_0⟩:=Kd.at_int HSz6_0 s0_1 p101 q101
     cases e101
     replace hx101_0:=pw_cell_below HB.out hx101_0;replace p101:=eq_true p101;replace q101:=eq_true q101;go_enter Try.func263,Try.ntmps263;go_wp2
     repeat (go_quiet (fail);try go_wp2)
     go_ret
     exact ⟨by first|rfl|(simp [errW_none,errW_some] <;> rfl)|(simp [*,errW_none,errW_some] <;> rfl),by repeat (first|(with_reducible first|exact HI0.out|apply IsS135.alloc|apply IsS135.drewN|apply IsS135.drew|apply IsS135.set_1|apply IsS135.set_2)|exact HI0.out),by repeat (first|(with_reducible first|exact HB.out|apply Qc|apply Qa|apply Qb|refine Qg ?_ (IsS135.ge HI0.out))|exact HB.out),by repeat (first|(with_reducible first|exact HK.out|apply KeepBut.set_|apply keep_drewN|apply keep_drew|apply keep_alloc)|exact HK.out)⟩
   ·rw [if_neg c3] at H;exact absurd H (by simp)
  ·rw [if_neg c2] at H;have c2b0:decide (s0_1<(s0_0.length:Int))=false:=decide_eq_false c2;clear c2;by_cases c7:(wrap64 (s0_1+1))≤(s0_0.length:Int)
   ·rw [if_pos c7] at H;have c7b0:decide ((wrap64 (s0_1+1))≤(s0_0.length:Int))=true:=decide_eq_true c7;clear c7;simp only [Option.some.injEq,Prod.mk.injEq] at H;obtain ⟨rfl,rfl,rfl⟩:=H;obtain ⟨ASz8_0,cSz8_0,HGz8,hgz8,HSz8_0⟩:=HI0.out;have hcz8_0:=cellS135_0 HGz8;have hcz8_1:=cellS135_1 HGz8;have hcz8_2:=cellS135_2 HGz8;have hfz8_1:=blk_frozen HGz8 1;have hfz8_2:=blk_frozen HGz8 2;clear HGz8 hgz8;go_enter Try.func263,Try.ntmps263;go_wp2
    repeat (go_quiet (fail);try go_wp2)
    go_ret
    exact ⟨by first|rfl|(simp [errW_none,errW_some] <;> rfl)|(simp [*,errW_none,errW_some] <;> rfl),by repeat (first|(with_reducible first|exact HI0.out|apply IsS135.alloc|apply IsS135.drewN|apply IsS135.drew|apply IsS135.set_1|apply IsS135.set_2)|exact HI0.out),by repeat (first|(with_reducible first|exact HB.out|apply Qc|apply Qa|apply Qb|refine Qg ?_ (IsS135.ge HI0.out))|exact HB.out),by repeat (first|(with_reducible first|exact HK.out|apply KeepBut.set_|apply keep_drewN|apply keep_drew|apply keep_alloc)|exact HK.out)⟩
   ·rw [if_neg c7] at H;have c7b0:decide ((wrap64 (s0_1+1))≤(s0_0.length:Int))=false:=decide_eq_false c7;clear c7;simp only [Option.some.injEq,Prod.mk.injEq] at H;obtain ⟨rfl,rfl,rfl⟩:=H;obtain ⟨ASz9_0,cSz9_0,HGz9,hgz9,HSz9_0⟩:=HI0.out;have hcz9_0:=cellS135_0 HGz9;have hcz9_1:=cellS135_1 HGz9;have hcz9_2:=cellS135_2 HGz9;have hfz9_1:=blk_frozen HGz9 1;have hfz9_2:=blk_frozen HGz9 2;clear HGz9 hgz9;go_enter Try.func263,Try.ntmps263;go_wp2
    repeat (go_quiet (fail);try go_wp2)
    go_ret
    exact ⟨by first|rfl|(simp [errW_none,errW_some] <;> rfl)|(simp [*,errW_none,errW_some] <;> rfl),by repeat (first|(with_reducible first|exact HI0.out|apply IsS135.alloc|apply IsS135.drewN|apply IsS135.drew|apply IsS135.set_1|apply IsS135.set_2)|exact HI0.out),by repeat (first|(with_reducible first|exact HB.out|apply Qc|apply Qa|apply Qb|refine Qg ?_ (IsS135.ge HI0.out))|exact HB.out),by repeat (first|(with_reducible first|exact HK.out|apply KeepBut.set_|apply keep_drewN|apply keep_drew|apply keep_alloc)|exact HK.out)⟩

def spec_l1Cur_pick.f (s0_0:List Int) (s0_1:Int) (s0_2:Int) (a1:Int):Option (Int×Int×Int):=if a1≤1 then (some (0,s0_1,s0_2)) else ((spec_l1Cur_next.f s0_0 s0_1 s0_2).bind fun bt101=>(if a1 > 200 then ((spec_l1Cur_next.f s0_0 bt101.2.1 bt101.2.2).bind fun bt104=>(if a1=0 then (none) else (some (Int.tmod (wrap64 ((wrap64 (bt101.1 * 256))+bt104.1)) a1,bt104.2.1,bt104.2.2)))) else (if a1=0 then (none) else (some (Int.tmod bt101.1 a1,bt101.2.1,bt101.2.2)))))
set_option maxHeartbeats 8000000 in
set_option maxRecDepth 100000 in
theorem spec_l1Cur_pick.calls (g:Nat) (s0_0:List Int) (s0_1:Int) (s0_2:Int) (a1:Int) (r1:Int) (r2:Int) (r3:Int) (w0 w:World) (hI:IsS135 w0 w g s0_0 s0_1 s0_2) (hB:Below w0.heap.size w0 w) (h:spec_l1Cur_pick.f s0_0 s0_1 s0_2 a1=some (r1,r2,r3)) :
    Calls Try.prog 148 #[.pointer (some ⟨g,0,none⟩),.int .i64 a1] w fun e w'=>e= .returned (.int .i64 r1)∧IsS135 w0 w' g s0_0 r2 r3∧Below w0.heap.size w0 w'∧KeepBut w w' g none:=by
  have HI0:=aM hI;have HK:=aM (KeepBut.refl w g none);have HL:=aM hB.size;clear hI;have HW0:=aM hB.size;have HB:=aM hB;clear hB;have H:(if a1≤1 then (some (0,s0_1,s0_2)) else ((spec_l1Cur_next.f s0_0 s0_1 s0_2).bind fun bt101=>(if a1 > 200 then ((spec_l1Cur_next.f s0_0 bt101.2.1 bt101.2.2).bind fun bt104=>(if a1=0 then (none) else (some (Int.tmod (wrap64 ((wrap64 (bt101.1 * 256))+bt104.1)) a1,bt104.2.1,bt104.2.2)))) else (if a1=0 then (none) else (some (Int.tmod bt101.1 a1,bt101.2.1,bt101.2.2))))))=some (r1,r2,r3):=h;clear h;by_cases c3:a1≤1
  ·rw [if_pos c3] at H;have c3b0:decide (a1≤1)=true:=decide_eq_true c3;clear c3;simp only [Option.some.injEq,Prod.mk.injEq] at H;obtain ⟨rfl,rfl,rfl⟩:=H;go_enter Try.func148,Try.ntmps148;go_wp2
   go_ret
   exact ⟨by first|rfl|(simp [errW_none,errW_some] <;> rfl)|(simp [*,errW_none,errW_some] <;> rfl),by repeat (first|(with_reducible first|exact HI0.out|apply IsS135.alloc|apply IsS135.drewN|apply IsS135.drew|apply IsS135.set_1|apply IsS135.set_2)|exact HI0.out),by repeat (first|(with_reducible first|exact HB.out|apply Qc|apply Qa|apply Qb|refine Qg ?_ (IsS135.ge HI0.out))|exact HB.out),by repeat (first|(with_reducible first|exact HK.out|apply KeepBut.set_|apply keep_drewN|apply keep_drew|apply keep_alloc)|exact HK.out)⟩
  ·rw [if_neg c3] at H;have c3b0:decide (a1≤1)=false:=decide_eq_false c3;clear c3;replace H:=Option.bind_eq_some_iff.mp H;obtain ⟨⟨t101,t102,t103⟩,A40,H⟩:=H;replace H:(if a1 > 200 then ((spec_l1Cur_next.f s0_0 t102 t103).bind fun bt104=>(if a1=0 then (none) else (some (Int.tmod (wrap64 ((wrap64 (t101 * 256))+bt104.1)) a1,bt104.2.1,bt104.2.2)))) else (if a1=0 then (none) else (some (Int.tmod t101 a1,t102,t103))))=some (r1,r2,r3):=H;have A4:=aM A40;clear A40;by_cases c5:a1 > 200
   ·rw [if_pos c5] at H;have c5b0:decide (200<a1)=true:=decide_eq_true c5;clear c5;replace H:=Option.bind_eq_some_iff.mp H;obtain ⟨⟨t104,t105,t106⟩,A60,H⟩:=H;replace H:(if a1=0 then (none) else (some (Int.tmod (wrap64 ((wrap64 (t101 * 256))+t104)) a1,t105,t106)))=some (r1,r2,r3):=H;have A6:=aM A60;clear A60;by_cases c7:a1=0
    ·rw [if_pos c7] at H;exact absurd H (by simp)
    ·rw [if_neg c7] at H;have c7b0:(a1 == 0)=false:=beq_eq_false_iff_ne.mpr c7;have c7b1:(a1 != 0)=true:=bne_iff_ne.mpr c7;simp only [Option.some.injEq,Prod.mk.injEq] at H;obtain ⟨rfl,rfl,rfl⟩:=H;go_enter Try.func148,Try.ntmps148;go_wp2_with (first|((with_reducible refine Qh (f:=263) rfl ?_);refine goesL_ (some 9) rfl rfl Try.func263 (by kernel_rfl) rfl #[.pointer (some ⟨g,0,none⟩)] rfl (by (try simp only [aD,aE,aF]);first|done|rfl|(simp only [aG,aH];rfl)) ?_;(with_reducible refine (spec_l1Cur_next.calls g s0_0 s0_1 s0_2 t101 t102 t103 w0 _ ?side1 ?side2 A4.out).mono ?_);(case side1=>repeat (first|(with_reducible first|exact HI0.out|apply IsS135.alloc|apply IsS135.drewN|apply IsS135.drew|apply IsS135.set_1|apply IsS135.set_2)|exact HI0.out));(case side2=>repeat (first|(with_reducible first|exact HB.out|apply Qc|apply Qa|apply Qb|refine Qg ?_ (IsS135.ge HI0.out))|exact HB.out));rintro e w8 ⟨rfl,hi,hb,hk⟩;refine ⟨_,rfl,?_⟩;have n0_:=aM (KeepBut.trans (by repeat (first|(with_reducible first|exact HK.out|apply KeepBut.set_|apply keep_drewN|apply keep_drew|apply keep_alloc)|exact HK.out)) hk (.inl rfl));have n1_:=aM (hb);have n2_:=aM (hi);clear HK;clear HB;clear HI0;have HK:=n0_;have HB:=n1_;have HI0:=n2_;clear n0_ n1_ n2_;(try clear hb);(try clear hb2);(try clear hk);(try clear hi))|((with_reducible refine Qh (f:=263) rfl ?_);refine goesL_ (some 15) rfl rfl Try.func263 (by kernel_rfl) rfl #[.pointer (some ⟨g,0,none⟩)] rfl (by (try simp only [aD,aE,aF]);first|done|rfl|(simp only [aG,aH];rfl)) ?_;(with_reducible refine (spec_l1Cur_next.calls g s0_0 t102 t103 t104 t105 t106 w0 _ ?side1 ?side2 A6.out).mono ?_);(case side1=>repeat (first|(with_reducible first|exact HI0.out|apply IsS135.alloc|apply IsS135.drewN|apply IsS135.drew|apply IsS135.set_1|apply IsS135.set_2)|exact HI0.out));(case side2=>repeat (first|(with_reducible first|exact HB.out|apply Qc|apply Qa|apply Qb|refine Qg ?_ (IsS135.ge HI0.out))|exact HB.out));rintro e w9 ⟨rfl,hi,hb,hk⟩;refine ⟨_,rfl,?_⟩;have n0_:=aM (KeepBut.trans (by repeat (first|(with_reducible first|exact HK.out|apply KeepBut.set_|apply keep_drewN|apply keep_drew|apply keep_alloc)|exact HK.out)) hk (.inl rfl));have n1_:=aM (hb);have n2_:=aM (hi);clear HK;clear HB;clear HI0;have HK:=n0_;have HB:=n1_;have HI0:=n2_;clear n0_ n1_ n2_;(try clear hb);(try clear hb2);(try clear hk);(try clear hi)))
     go_ret
     exact ⟨by first|rfl|(simp [errW_none,errW_some] <;> rfl)|(simp [*,errW_none,errW_some] <;> rfl),by repeat (first|(with_reducible first|exact HI0.out|apply IsS135.alloc|apply IsS135.drewN|apply IsS135.drew|apply IsS135.set_1|apply IsS135.set_2)|exact HI0.out),by repeat (first|(with_reducible first|exact HB.out|apply Qc|apply Qa|apply Qb|refine Qg ?_ (IsS135.ge HI0.out))|exact HB.out),by repeat (first|(with_reducible first|exact HK.out|apply KeepBut.set_|apply keep_drewN|apply keep_drew|apply keep_alloc)|exact HK.out)⟩
   ·rw [if_neg c5] at H;have c5b0:decide (200<a1)=false:=decide_eq_false c5;clear c5;by_cases c10:a1=0
    ·rw [if_pos c10] at H;exact absurd H (by simp)
    ·rw [if_neg c10] at H;have c10b0:(a1 == 0)=false:=beq_eq_false_iff_ne.mpr c10;have c10b1:(a1 != 0)=true:=bne_iff_ne.mpr c10;simp only [Option.some.injEq,Prod.mk.injEq] at H;obtain ⟨rfl,rfl,rfl⟩:=H;go_enter Try.func148,Try.ntmps148;go_wp2_with (first|((with_reducible refine Qh (f:=263) rfl ?_);refine goesL_ (some 9) rfl rfl Try.func263 (by kernel_rfl) rfl #[.pointer (some ⟨g,0,none⟩)] rfl (by (try simp only [aD,aE,aF]);first|done|rfl|(simp only [aG,aH];rfl)) ?_;(with_reducible refine (spec_l1Cur_next.calls g s0_0 s0_1 s0_2 t101 t102 t103 w0 _ ?side1 ?side2 A4.out).mono ?_);(case side1=>repeat (first|(with_reducible first|exact HI0.out|apply IsS135.alloc|apply IsS135.drewN|apply IsS135.drew|apply IsS135.set_1|apply IsS135.set_2)|exact HI0.out));(case side2=>repeat (first|(with_reducible first|exact HB.out|apply Qc|apply Qa|apply Qb|refine Qg ?_ (IsS135.ge HI0.out))|exact HB.out));rintro e w11 ⟨rfl,hi,hb,hk⟩;refine ⟨_,rfl,?_⟩;have n0_:=aM (KeepBut.trans (by repeat (first|(with_reducible first|exact HK.out|apply KeepBut.set_|apply keep_drewN|apply keep_drew|apply keep_alloc)|exact HK.out)) hk (.inl rfl));have n1_:=aM (hb);have n2_:=aM (hi);clear HK;clear HB;clear HI0;have HK:=n0_;have HB:=n1_;have HI0:=n2_;clear n0_ n1_ n2_;(try clear hb);(try clear hb2);(try clear hk);(try clear hi)))
     go_ret
     exact ⟨by first|rfl|(simp [errW_none,errW_some] <;> rfl)|(simp [*,errW_none,errW_some] <;> rfl),by repeat (first|(with_reducible first|exact HI0.out|apply IsS135.alloc|apply IsS135.drewN|apply IsS135.drew|apply IsS135.set_1|apply IsS135.set_2)|exact HI0.out),by repeat (first|(with_reducible first|exact HB.out|apply Qc|apply Qa|apply Qb|refine Qg ?_ (IsS135.ge HI0.out))|exact HB.out),by repeat (first|(with_reducible first|exact HK.out|apply KeepBut.set_|apply keep_drewN|apply keep_drew|apply keep_alloc)|exact HK.out)⟩

def spec_l1Cur_one.f (s0_0:List Int) (s0_1:Int) (s0_2:Int) (a1:Int):Option (Bool×Int×Int):=(spec_l1Cur_pick.f s0_0 s0_1 s0_2 a1).bind fun bt101=>(some ((bt101.1 == 0),bt101.2.1,bt101.2.2))
set_option maxHeartbeats 8000000 in
set_option maxRecDepth 100000 in
theorem spec_l1Cur_one.calls (g:Nat) (s0_0:List Int) (s0_1:Int) (s0_2:Int) (a1:Int) (r1:Bool) (r2:Int) (r3:Int) (w0 w:World) (hI:IsS135 w0 w g s0_0 s0_1 s0_2) (hB:Below w0.heap.size w0 w) (h:spec_l1Cur_one.f s0_0 s0_1 s0_2 a1=some (r1,r2,r3)) :
    Calls Try.prog 147 #[.pointer (some ⟨g,0,none⟩),.int .i64 a1] w fun e w'=>e= .returned (.bool r1)∧IsS135 w0 w' g s0_0 r2 r3∧Below w0.heap.size w0 w'∧KeepBut w w' g none:=by
  have HI0:=aM hI;have HK:=aM (KeepBut.refl w g none);have HL:=aM hB.size;clear hI;have HW0:=aM hB.size;have HB:=aM hB;clear hB;have H:((spec_l1Cur_pick.f s0_0 s0_1 s0_2 a1).bind fun bt101=>(some ((bt101.1 == 0),bt101.2.1,bt101.2.2)))=some (r1,r2,r3):=h;clear h;replace H:=Option.bind_eq_some_iff.mp H;obtain ⟨⟨t101,t102,t103⟩,A30,H⟩:=H;replace H:(some ((t101 == 0),t102,t103))=some (r1,r2,r3):=H;have A3:=aM A30;clear A30;simp only [Option.some.injEq,Prod.mk.injEq] at H;obtain ⟨rfl,rfl,rfl⟩:=H;go_enter Try.func147,Try.ntmps147;go_wp2_with (first|((with_reducible refine Qh (f:=148) rfl ?_);refine goesL_ (some 7) rfl rfl Try.func148 (by kernel_rfl) rfl #[.pointer (some ⟨g,0,none⟩),.int .i64 a1] rfl (by (try simp only [aD,aE,aF]);first|done|rfl|(simp only [aG,aH];rfl)) ?_;(with_reducible refine (spec_l1Cur_pick.calls g s0_0 s0_1 s0_2 a1 t101 t102 t103 w0 _ ?side1 ?side2 A3.out).mono ?_);(case side1=>repeat (first|(with_reducible first|exact HI0.out|apply IsS135.alloc|apply IsS135.drewN|apply IsS135.drew|apply IsS135.set_1|apply IsS135.set_2)|exact HI0.out));(case side2=>repeat (first|(with_reducible first|exact HB.out|apply Qc|apply Qa|apply Qb|refine Qg ?_ (IsS135.ge HI0.out))|exact HB.out));rintro e w4 ⟨rfl,hi,hb,hk⟩;refine ⟨_,rfl,?_⟩;have n0_:=aM (KeepBut.trans (by repeat (first|(with_reducible first|exact HK.out|apply KeepBut.set_|apply keep_drewN|apply keep_drew|apply keep_alloc)|exact HK.out)) hk (.inl rfl));have n1_:=aM (hb);have n2_:=aM (hi);clear HK;clear HB;clear HI0;have HK:=n0_;have HB:=n1_;have HI0:=n2_;clear n0_ n1_ n2_;(try clear hb);(try clear hb2);(try clear hk);(try clear hi)))
  go_ret
  exact ⟨by first|rfl|(simp [errW_none,errW_some] <;> rfl)|(simp [*,errW_none,errW_some] <;> rfl),by repeat (first|(with_reducible first|exact HI0.out|apply IsS135.alloc|apply IsS135.drewN|apply IsS135.drew|apply IsS135.set_1|apply IsS135.set_2)|exact HI0.out),by repeat (first|(with_reducible first|exact HB.out|apply Qc|apply Qa|apply Qb|refine Qg ?_ (IsS135.ge HI0.out))|exact HB.out),by repeat (first|(with_reducible first|exact HK.out|apply KeepBut.set_|apply keep_drewN|apply keep_drew|apply keep_alloc)|exact HK.out)⟩

def spec_l1Cur_among.f (s0_0:List Int) (s0_1:Int) (s0_2:Int) (l1:List Int):Option (Int×Int×Int):=(spec_l1Cur_pick.f s0_0 s0_1 s0_2 (l1.length:Int)).bind fun bt101=>(if 0≤bt101.1 then (if bt101.1<(l1.length:Int) then (some (rd l1 bt101.1,bt101.2.1,bt101.2.2)) else (none)) else (none))
set_option maxHeartbeats 8000000 in
set_option maxRecDepth 100000 in
theorem spec_l1Cur_among.calls (g:Nat) (s0_0:List Int) (s0_1:Int) (s0_2:Int) (A1:Option Addr) (c1:Nat) (l1:List Int) (r1:Int) (r2:Int) (r3:Int) (w0 w:World) (hI:IsS135 w0 w g s0_0 s0_1 s0_2) (hB:Below w0.heap.size w0 w) (hr1:Kd.C (Kd.int .i64) w A1 l1.length l1) (hc1:l1.length≤c1) (hf1:∀ ad,A1=some ad→0<l1.length→ad.block≠g) (h:spec_l1Cur_among.f s0_0 s0_1 s0_2 l1=some (r1,r2,r3)) :
    Calls Try.prog 167 #[.pointer (some ⟨g,0,none⟩),.slice A1 l1.length c1] w fun e w'=>e= .returned (.int .i64 r1)∧IsS135 w0 w' g s0_0 r2 r3∧Below w0.heap.size w0 w'∧KeepBut w w' g none:=by
  have HR1:=aM hr1;have HC1:=aM hc1;clear hr1 hc1;have HI0:=aM hI;have HK:=aM (KeepBut.refl w g none);have HL:=aM hB.size;clear hI;have HW0:=aM hB.size;have HB:=aM hB;clear hB;have H:((spec_l1Cur_pick.f s0_0 s0_1 s0_2 (l1.length:Int)).bind fun bt101=>(if 0≤bt101.1 then (if bt101.1<(l1.length:Int) then (some (rd l1 bt101.1,bt101.2.1,bt101.2.2)) else (none)) else (none)))=some (r1,r2,r3):=h;clear h;replace H:=Option.bind_eq_some_iff.mp H;obtain ⟨⟨t101,t102,t103⟩,A30,H⟩:=H;replace H:(if 0≤t101 then (if t101<(l1.length:Int) then (some (rd l1 t101,t102,t103)) else (none)) else (none))=some (r1,r2,r3):=H;have A3:=aM A30;clear A30;by_cases c4:0≤t101
  ·rw [if_pos c4] at H;have c4b0:decide (0≤t101)=true:=decide_eq_true c4;clear c4;by_cases c5:t101<(l1.length:Int)
   ·rw [if_pos c5] at H;have c5b0:decide (t101<(l1.length:Int))=true:=decide_eq_true c5;clear c5;simp only [Option.some.injEq,Prod.mk.injEq] at H;obtain ⟨rfl,rfl,rfl⟩:=H;go_enter Try.func167,Try.ntmps167;go_wp2_with (first|((with_reducible refine Qh (f:=148) rfl ?_);refine goesL_ (some 9) rfl rfl Try.func148 (by kernel_rfl) rfl #[.pointer (some ⟨g,0,none⟩),.int .i64 (l1.length:Int)] rfl (by (try simp only [aD,aE,aF]);first|done|rfl|(simp only [aG,aH];rfl)) ?_;(with_reducible refine (spec_l1Cur_pick.calls g s0_0 s0_1 s0_2 (l1.length:Int) t101 t102 t103 w0 _ ?side1 ?side2 A3.out).mono ?_);(case side1=>repeat (first|(with_reducible first|exact HI0.out|apply IsS135.alloc|apply IsS135.drewN|apply IsS135.drew|apply IsS135.set_1|apply IsS135.set_2)|exact HI0.out));(case side2=>repeat (first|(with_reducible first|exact HB.out|apply Qc|apply Qa|apply Qb|refine Qg ?_ (IsS135.ge HI0.out))|exact HB.out));rintro e w6 ⟨rfl,hi,hb,hk⟩;refine ⟨_,rfl,?_⟩;have n0_:=aM (KeepBut.trans (by repeat (first|(with_reducible first|exact HK.out|apply KeepBut.set_|apply keep_drewN|apply keep_drew|apply keep_alloc)|exact HK.out)) hk (.inl rfl));have n1_:=aM (hb);have n2_:=aM (hi);clear HK;clear HB;clear HI0;have HK:=n0_;have HB:=n1_;have HI0:=n2_;clear n0_ n1_ n2_;(try clear hb);(try clear hb2);(try clear hk);(try clear hi);have p104:0≤(t101:Int):=of_decide_eq_true (by first|(with_reducible assumption)|assumption);have q104:t101<(l1.length:Int):=of_decide_eq_true (by first|(with_reducible assumption)|assumption);obtain ⟨ad104,e104,hx104_0⟩:=Kd.at_int HR1.out t101 p104 q104;cases e104;replace hx104_0:=keep_cell HK.out hx104_0 (by first|(rw [add_block];exact hf1 _ rfl (by omega))|exact hf1 _ rfl (by omega)|exact hf1 ad104 rfl (by omega));replace p104:=eq_true p104;replace q104:=eq_true q104))
    go_ret
    exact ⟨by first|rfl|(simp [errW_none,errW_some] <;> rfl)|(simp [*,errW_none,errW_some] <;> rfl),by repeat (first|(with_reducible first|exact HI0.out|apply IsS135.alloc|apply IsS135.drewN|apply IsS135.drew|apply IsS135.set_1|apply IsS135.set_2)|exact HI0.out),by repeat (first|(with_reducible first|exact HB.out|apply Qc|apply Qa|apply Qb|refine Qg ?_ (IsS135.ge HI0.out))|exact HB.out),by repeat (first|(with_reducible first|exact HK.out|apply KeepBut.set_|apply keep_drewN|apply keep_drew|apply keep_alloc)|exact HK.out)⟩
   ·rw [if_neg c5] at H;exact absurd H (by simp)
  ·rw [if_neg c4] at H;exact absurd H (by simp)

mutual
def spec_l1Cur_spots.j0:Nat→Int→List Int→Int→Int→Option (List Int×List Int×Int×Int)
  |0,_,_,_,_=>none
  |k+1,x4,x1000,x1001,x1002=>spec_l1Cur_spots.l0 k x4 ([]:List Int) 0 x1000 x1001 x1002
def spec_l1Cur_spots.l0:Nat→Int→List Int→Int→List Int→Int→Int→Option (List Int×List Int×Int×Int)
  |0,_,_,_,_,_,_=>none
  |k+1,x4,x5,x6,x1000,x1001,x1002=>if x6<x4 then (if x5.length<17592186044416 then (spec_l1Cur_spots.l0 k x4 (x5 ++ [wrap64 (x6+1)]) (wrap64 (x6+1)) x1000 x1001 x1002) else (none)) else ((spec_l1Cur_pick.f x1000 x1001 x1002 2).bind fun bt116=>(spec_l1Cur_spots.l1 k x4 x5 (wrap64 (1+bt116.1)) x1000 bt116.2.1 bt116.2.2))
def spec_l1Cur_spots.l1:Nat→Int→List Int→Int→List Int→Int→Int→Option (List Int×List Int×Int×Int)
  |0,_,_,_,_,_,_=>none
  |k+1,x4,x5,x7,x1000,x1001,x1002=>if x7 > 0 then ((spec_l1Cur_pick.f x1000 x1001 x1002 x4).bind fun bt119=>(if 0≤bt119.1 then (if bt119.1<(x5.length:Int) then (spec_l1Cur_spots.l1 k x4 (x5.set (bt119.1:Int).toNat 0) (wrap64 (x7 - 1)) x1000 bt119.2.1 bt119.2.2) else (none)) else (none))) else ((some (([]:List Int):List Int)).bind fun y123=>(if y123.length+x5.length<17592186044416 then ((spec_l1Cur_pick.f x1000 x1001 x1002 6).bind fun bt129=>(spec_l1Cur_spots.l2 k x4 x5 (y123 ++ x5) bt129.1 x1000 bt129.2.1 bt129.2.2)) else (none)))
def spec_l1Cur_spots.l2:Nat→Int→List Int→List Int→Int→List Int→Int→Int→Option (List Int×List Int×Int×Int)
  |0,_,_,_,_,_,_,_=>none
  |k+1,x4,x5,x8,x9,x1000,x1001,x1002=>if x9 > 0 then ((spec_l1Cur_pick.f x1000 x1001 x1002 x4).bind fun bt132=>((spec_l1Cur_pick.f x1000 bt132.2.1 bt132.2.2 x4).bind fun bt135=>(if 0≤bt132.1 then (if bt132.1<(x8.length:Int) then (if 0≤bt135.1 then (if bt135.1<(x8.length:Int) then (spec_l1Cur_spots.l2 k x4 x5 ((x8.set (bt132.1:Int).toNat (rd x8 bt135.1)).set (bt135.1:Int).toNat (rd x8 bt132.1)) (wrap64 (x9 - 1)) x1000 bt135.2.1 bt135.2.2) else (none)) else (none)) else (none)) else (none)))) else ((spec_l1Cur_one.f x1000 x1001 x1002 30).bind fun bt142=>(if bt142.1=true then ((spec_l1Cur_among.f x1000 bt142.2.1 bt142.2.2 (([0,20,21]:List Int))).bind fun bt148=>(if 0<(x8.length:Int) then (some (x5,(x8.set (0:Int).toNat bt148.1),bt148.2.1,bt148.2.2)) else (none))) else (some (x5,x8,bt142.2.1,bt142.2.2))))
end
def spec_l1Cur_spots.f (k:Nat) (s0_0:List Int) (s0_1:Int) (s0_2:Int):Option (List Int×List Int×Int×Int):=(spec_l1Cur_pick.f s0_0 s0_1 s0_2 6).bind fun bt101=>((spec_l1Cur_one.f s0_0 bt101.2.1 bt101.2.2 20).bind fun bt104=>(if bt104.1=true then ((spec_l1Cur_among.f s0_0 bt104.2.1 bt104.2.2 (([1,9,10]:List Int))).bind fun bt110=>(spec_l1Cur_spots.j0 k bt110.1 s0_0 bt110.2.1 bt110.2.2)) else (spec_l1Cur_spots.j0 k (wrap64 (2+bt101.1)) s0_0 bt104.2.1 bt104.2.2)))
set_option maxHeartbeats 8000000 in
set_option maxRecDepth 100000 in
theorem spec_l1Cur_spots.calls (k:Nat) (g:Nat) (s0_0:List Int) (s0_1:Int) (s0_2:Int) (r1:List Int) (r2:List Int) (r3:Int) (r4:Int) (w0 w:World) (hI:IsS135 w0 w g s0_0 s0_1 s0_2) (hB:Below w0.heap.size w0 w) (h:spec_l1Cur_spots.f k s0_0 s0_1 s0_2=some (r1,r2,r3,r4)) :
    Calls Try.prog 240 #[.pointer (some ⟨g,0,none⟩)] w fun e w'=>∃ v0_ v1_:Value,e= .returned (.tuple #[v0_,v1_])∧Kd.R (Kd.int .i64) 3 w' w.heap.size (fun k_=>some k_≠(v1_:Value).ownBlock) v0_ r1∧Kd.R (Kd.int .i64) 3 w' w.heap.size (fun k_=>some k_≠(v0_:Value).ownBlock) v1_ r2∧IsS135 w0 w' g s0_0 r3 r4∧Below w0.heap.size w0 w'∧KeepBut w w' g none:=by
  have HI0:=aM hI;have HK:=aM (KeepBut.refl w g none);have HL:=aM hB.size;clear hI;have HW0:=aM hB.size;have HB:=aM hB;clear hB;have H:((spec_l1Cur_pick.f s0_0 s0_1 s0_2 6).bind fun bt101=>((spec_l1Cur_one.f s0_0 bt101.2.1 bt101.2.2 20).bind fun bt104=>(if bt104.1=true then ((spec_l1Cur_among.f s0_0 bt104.2.1 bt104.2.2 (([1,9,10]:List Int))).bind fun bt110=>(spec_l1Cur_spots.j0 k bt110.1 s0_0 bt110.2.1 bt110.2.2)) else (spec_l1Cur_spots.j0 k (wrap64 (2+bt101.1)) s0_0 bt104.2.1 bt104.2.2))))=some (r1,r2,r3,r4):=h;clear h;replace H:=Option.bind_eq_some_iff.mp H;obtain ⟨⟨t101,t102,t103⟩,A20,H⟩:=H;replace H:((spec_l1Cur_one.f s0_0 t102 t103 20).bind fun bt104=>(if bt104.1=true then ((spec_l1Cur_among.f s0_0 bt104.2.1 bt104.2.2 (([1,9,10]:List Int))).bind fun bt110=>(spec_l1Cur_spots.j0 k bt110.1 s0_0 bt110.2.1 bt110.2.2)) else (spec_l1Cur_spots.j0 k (wrap64 (2+t101)) s0_0 bt104.2.1 bt104.2.2)))=some (r1,r2,r3,r4):=H;have A2:=aM A20;clear A20;replace H:=Option.bind_eq_some_iff.mp H;obtain ⟨⟨t104,t105,t106⟩,A30,H⟩:=H;replace H:(if t104=true then ((spec_l1Cur_among.f s0_0 t105 t106 (([1,9,10]:List Int))).bind fun bt110=>(spec_l1Cur_spots.j0 k bt110.1 s0_0 bt110.2.1 bt110.2.2)) else (spec_l1Cur_spots.j0 k (wrap64 (2+t101)) s0_0 t105 t106))=some (r1,r2,r3,r4):=H;have A3:=aM A30;clear A30;have HC4:=aM H;clear H;go_enter Try.func240,Try.ntmps240
  go_upto_if 17 with (first|((with_reducible refine Qh (f:=148) rfl ?_);refine goesL_ (some 14) rfl rfl Try.func148 (by kernel_rfl) rfl #[.pointer (some ⟨g,0,none⟩),.int .i64 6] rfl (by (try simp only [aD,aE,aF]);first|done|rfl|(simp only [aG,aH];rfl)) ?_;(with_reducible refine (spec_l1Cur_pick.calls g s0_0 s0_1 s0_2 6 t101 t102 t103 w0 _ ?side1 ?side2 A2.out).mono ?_);(case side1=>repeat (first|(with_reducible first|exact HI0.out|apply IsS135.alloc|apply IsS135.drewN|apply IsS135.drew|apply IsS135.set_1|apply IsS135.set_2)|exact HI0.out));(case side2=>repeat (first|(with_reducible first|exact HB.out|apply Qc|apply Qa|apply Qb|refine Qg ?_ (IsS135.ge HI0.out))|exact HB.out));rintro e w5 ⟨rfl,hi,hb,hk⟩;refine ⟨_,rfl,?_⟩;have n0_:=aM (KeepBut.trans (by repeat (first|(with_reducible first|exact HK.out|apply KeepBut.set_|apply keep_drewN|apply keep_drew|apply keep_alloc)|exact HK.out)) hk (.inl rfl));have n1_:=aM (hb);have n2_:=aM (hi);clear HK;clear HB;clear HI0;have HK:=n0_;have HB:=n1_;have HI0:=n2_;clear n0_ n1_ n2_;(try clear hb);(try clear hb2);(try clear hk);(try clear hi))|((with_reducible refine Qh (f:=147) rfl ?_);refine goesL_ (some 17) rfl rfl Try.func147 (by kernel_rfl) rfl #[.pointer (some ⟨g,0,none⟩),.int .i64 20] rfl (by (try simp only [aD,aE,aF]);first|done|rfl|(simp only [aG,aH];rfl)) ?_;(with_reducible refine (spec_l1Cur_one.calls g s0_0 t102 t103 20 t104 t105 t106 w0 _ ?side1 ?side2 A3.out).mono ?_);(case side1=>repeat (first|(with_reducible first|exact HI0.out|apply IsS135.alloc|apply IsS135.drewN|apply IsS135.drew|apply IsS135.set_1|apply IsS135.set_2)|exact HI0.out));(case side2=>repeat (first|(with_reducible first|exact HB.out|apply Qc|apply Qa|apply Qb|refine Qg ?_ (IsS135.ge HI0.out))|exact HB.out));rintro e w6 ⟨rfl,hi,hb,hk⟩;refine ⟨_,rfl,?_⟩;have n0_:=aM (KeepBut.trans (by repeat (first|(with_reducible first|exact HK.out|apply KeepBut.set_|apply keep_drewN|apply keep_drew|apply keep_alloc)|exact HK.out)) hk (.inl rfl));have n1_:=aM (hb);have n2_:=aM (hi);clear HK;clear HB;clear HI0;have HK:=n0_;have HB:=n1_;have HI0:=n2_;clear n0_ n1_ n2_;(try clear hb);(try clear hb2);(try clear hk);(try clear hi)))
  (try simp only [Act.put,aA,aB,aC])
  go_cut [4] (fun v4 wc=>∃ (kq:Nat) (x4_3:Int) (x1001_3:Int) (x1002_3:Int),v4= .int .i64 x4_3∧Aside0 (spec_l1Cur_spots.j0 kq x4_3 s0_0 x1001_3 x1002_3=some (r1,r2,r3,r4))∧Aside0 (kq≤k)∧Aside0 (IsS135 w0 wc g s0_0 x1001_3 x1002_3)∧Aside0 (KeepBut w wc g none)∧Aside0 (Below w0.heap.size w0 wc))
  case first=>
   have H:=HC4.out;clear HC4;by_cases c7:t104=true
   ·subst c7;have H1:((spec_l1Cur_among.f s0_0 t105 t106 (([1,9,10]:List Int))).bind fun bt110=>(spec_l1Cur_spots.j0 k bt110.1 s0_0 bt110.2.1 bt110.2.2))=some (r1,r2,r3,r4):=by rw [if_pos rfl] at H;exact H
    clear H;have H:=H1;clear H1;obtain ⟨y107,hy107⟩:∃ y_:List Int,y_=(([1,9,10]:List Int)):=⟨_,rfl⟩;replace H:((spec_l1Cur_among.f s0_0 t105 t106 y107).bind fun bt110=>(spec_l1Cur_spots.j0 k bt110.1 s0_0 bt110.2.1 bt110.2.2))=some (r1,r2,r3,r4):=by first|(rw [hy107];with_reducible exact H)|(have H2_:=(Option.bind_some _ _).symm.trans H;rw [hy107];with_reducible exact H2_)|(have H2_:=(Option.bind_some _ _).symm.trans H;with_reducible exact H2_)|with_reducible exact H|(rw [hy107];exact H)|exact H
    have Ny107:=aM hy107;clear hy107;replace H:=Option.bind_eq_some_iff.mp H;obtain ⟨⟨t110,t111,t112⟩,A80,H⟩:=H;replace H:(spec_l1Cur_spots.j0 k t110 s0_0 t111 t112)=some (r1,r2,r3,r4):=H;have A8:=aM A80;clear A80;have H':=aM H;clear H;go_wp2_with (first|((with_reducible refine gate_dst (N:=19) rfl ?_);refine Kd.R_lit (Kd.int .i64) _ 3 ?hg (N:=19) ?hd (xs:=([1,9,10]:List Int)) (inner:=[.int .i64 1,.int .i64 9,.int .i64 10]) (ok:=fun _=>True) (okp:=fun _=>True) ?hr ?hp (fun _ hk=>hk) trivial (Below.refl _ _) (Nat.le_refl _) (by simp) ?_;(case hd=>rfl);(case hg=>rfl);(case hr=>first|(go_simp;done)|(go_simp;rfl));(case hp=>exact (Reps.one (show Kd.M (Kd.int .i64) _ _ _ 1 [.int .i64 1] from rfl) (Reps.one (show Kd.M (Kd.int .i64) _ _ _ 9 [.int .i64 9] from rfl) (Reps.one (show Kd.M (Kd.int .i64) _ _ _ 10 [.int .i64 10] from rfl) (Reps.none _ _)))));intro v108 w9 ho10 hb hg_ hnew_;clear hg_ hnew_;(first|rw [←Ny107.out] at ho10|(simp only [Int.reduceToNat] at ho10;rw [←Ny107.out] at ho10));have n0_:=aM (Kd.R_lower ho10 (keep_size (w:=w) (g:=g) (row:=none) (by repeat (first|(with_reducible first|exact HK.out|apply KeepBut.set_|apply keep_drewN|apply keep_drew|apply keep_alloc)|exact HK.out))));have n1_:=aM (IsS135.below (by repeat (first|(with_reducible first|exact HI0.out|apply IsS135.alloc|apply IsS135.drewN|apply IsS135.drew|apply IsS135.set_1|apply IsS135.set_2)|exact HI0.out)) hb);have n2_:=aM (KeepBut.trans (by repeat (first|(with_reducible first|exact HK.out|apply KeepBut.set_|apply keep_drewN|apply keep_drew|apply keep_alloc)|exact HK.out)) (KeepBut.of_below hb g none) (.inl rfl));have n3_:=aM (below_step (by repeat (first|(with_reducible first|exact HB.out|apply Qc|apply Qa|apply Qb|refine Qg ?_ (IsS135.ge HI0.out))|exact HB.out)) hb);clear HI0;clear HK;clear HB;have HO109:=n0_;have HI0:=n1_;have HK:=n2_;have HB:=n3_;clear n0_ n1_ n2_ n3_;clear hb ho10;obtain ⟨Ao11,co11,eo11⟩:=Kd.R_slice HO109.out;subst eo11)|((with_reducible refine Qh (f:=167) rfl ?_);refine goesL_ (some 20) rfl rfl Try.func167 (by kernel_rfl) rfl #[.pointer (some ⟨g,0,none⟩),.slice Ao11 y107.length co11] rfl (by (try simp only [aD,aE,aF]);first|done|rfl|(simp only [aG,aH];rfl)) ?_;(with_reducible refine (spec_l1Cur_among.calls g s0_0 t105 t106 _ _ y107 t110 t111 t112 w0 _ ?side1 ?side2 ?side3 ?side4 ?side5 A8.out).mono ?_);(case side1=>repeat (first|(with_reducible first|exact HI0.out|apply IsS135.alloc|apply IsS135.drewN|apply IsS135.drew|apply IsS135.set_1|apply IsS135.set_2)|exact HI0.out));(case side2=>repeat (first|(with_reducible first|exact HB.out|apply Qc|apply Qa|apply Qb|refine Qg ?_ (IsS135.ge HI0.out))|exact HB.out));(case side3=>repeat (first|exact (Kd.Qf HO109.out).2.2|(with_reducible refine Kd.C_alloc ?_ _)|(with_reducible refine Kd.C_drewN ?_ _)|(with_reducible refine Kd.C_drew ?_)));(case side4=>exact (Kd.Qf HO109.out).2.1);(case side5=>exact far_slice (IsS135.own_ne HI0.out HO109.out (by decide)));rintro e w12 ⟨rfl,hi,hb,hk⟩;refine ⟨_,rfl,?_⟩;have n0_:=aM (Kd.R_mono (Kd.R_keep (IsS135.apart (show IsS135 w0 _ g s0_0 t105 t106 from by repeat (first|(with_reducible first|exact HI0.out|apply IsS135.alloc|apply IsS135.drewN|apply IsS135.drew|apply IsS135.set_1|apply IsS135.set_2)|exact HI0.out)) (by (with_reducible repeat (first|apply Kd.Qe|apply Kd.Qd|apply Kd.R_drew));exact HO109.out) (by decide)) hk (fun _ h=>h.2)) (fun _ h=>h.1));have n1_:=aM (KeepBut.trans (by repeat (first|(with_reducible first|exact HK.out|apply KeepBut.set_|apply keep_drewN|apply keep_drew|apply keep_alloc)|exact HK.out)) hk (.inl rfl));have n2_:=aM (hb);have n3_:=aM (hi);clear HO109;clear HK;clear HB;clear HI0;have HO109:=n0_;have HK:=n1_;have HB:=n2_;have HI0:=n3_;clear n0_ n1_ n2_ n3_;(try clear hb);(try clear hb2);(try clear hk);(try clear hi)))
    go_meet
    case rel=>exact ⟨_,(t110),(t111),(t112),(by first|rfl|(simp;done)|(simp [*];done)),H',⟨by first|omega|exact Nat.le_refl _⟩,⟨by repeat (first|(with_reducible first|exact HI0.out|apply IsS135.alloc|apply IsS135.drewN|apply IsS135.drew|apply IsS135.set_1|apply IsS135.set_2)|exact HI0.out)⟩,⟨by repeat (first|(with_reducible first|exact HK.out|apply KeepBut.set_|apply keep_drewN|apply keep_drew|apply keep_alloc)|exact HK.out)⟩,⟨by repeat (first|(with_reducible first|exact HB.out|apply Qc|apply Qa|apply Qb|refine Qg ?_ (IsS135.ge HI0.out))|exact HB.out)⟩⟩
   ·replace c7:=Bool.eq_false_iff.mpr c7;subst c7;have H1:(spec_l1Cur_spots.j0 k (wrap64 (2+t101)) s0_0 t105 t106)=some (r1,r2,r3,r4):=by rw [if_neg (show ¬ (false=true) by decide)] at H;exact H
    clear H;have H:=H1;clear H1;have H':=aM H;clear H;go_wp2
    go_meet
    case rel=>exact ⟨_,(wrap64 (2+t101)),(t105),(t106),(by first|rfl|(simp;done)|(simp [*];done)),H',⟨by first|omega|exact Nat.le_refl _⟩,⟨by repeat (first|(with_reducible first|exact HI0.out|apply IsS135.alloc|apply IsS135.drewN|apply IsS135.drew|apply IsS135.set_1|apply IsS135.set_2)|exact HI0.out)⟩,⟨by repeat (first|(with_reducible first|exact HK.out|apply KeepBut.set_|apply keep_drewN|apply keep_drew|apply keep_alloc)|exact HK.out)⟩,⟨by repeat (first|(with_reducible first|exact HB.out|apply Qc|apply Qa|apply Qb|refine Qg ?_ (IsS135.ge HI0.out))|exact HB.out)⟩⟩
  case rest=>
   clear HC4;(try clear c1);(try clear c2);(try clear p2);(try clear p6);(try clear c7);obtain ⟨kq,x4_3,x1001_3,x1002_3,rfl,HA,HJ3,HI0,HK,HB⟩:=hcut
   cases kq with
   |zero=>exact absurd HA.out (by simp [spec_l1Cur_spots.j0])
   |succ kj3=>
    have H:=HA.out;clear HA;simp only [spec_l1Cur_spots.j0] at H;have H':=aM H;clear H;go_wp2;go_loopg [5,6] kj3 (fun kq v5 v6 w'=>∃ (x5_2:List Int) (x6_2:Int),v6= .int .i64 x6_2∧Aside0 (spec_l1Cur_spots.l0 kq x4_3 x5_2 x6_2 s0_0 x1001_3 x1002_3=some (r1,r2,r3,r4))∧Aside0 (kq≤kj3)∧Aside0 (Kd.R (Kd.int .i64) 3 w' w.heap.size (fun _=>True) v5 x5_2)∧Aside0 (IsS135 w0 w' g s0_0 x1001_3 x1002_3)∧Aside0 (KeepBut w w' g none)∧Aside0 (Below w0.heap.size w0 w'))
    case atStart=>exact ⟨(([]:List Int)),(0),(by first|rfl|(simp;done)|(simp [*];done)),H',⟨Nat.le_refl _⟩,⟨by first|exact Kd.R_nil _ _ _ _ _|exact Kd.N_nil _ _ _ _ _|exact Kd.V_nil _ _ _ _ _|exact Kd.Q_nil _ _ _ _ _|exact Kd.S_nil _ _ _ _ _⟩,⟨by repeat (first|(with_reducible first|exact HI0.out|apply IsS135.alloc|apply IsS135.drewN|apply IsS135.drew|apply IsS135.set_1|apply IsS135.set_2)|exact HI0.out)⟩,⟨by repeat (first|(with_reducible first|exact HK.out|apply KeepBut.set_|apply keep_drewN|apply keep_drew|apply keep_alloc)|exact HK.out)⟩,⟨by repeat (first|(with_reducible first|exact HB.out|apply Qc|apply Qa|apply Qb|refine Qg ?_ (IsS135.ge HI0.out))|exact HB.out)⟩⟩
    case round=>
     clear H';(try clear c1);(try clear c2);(try clear p2);(try clear p6);(try clear c7);(try clear p2);(try clear p6);obtain ⟨x5_2,x6_2,rfl,HA,HK2,HO_5,HI0,HK,HB⟩:=hrel
     cases gk with
     |zero=>exact absurd HA.out (by simp [spec_l1Cur_spots.l0])
     |succ k2=>
      have H:=HA.out;clear HA;simp only [spec_l1Cur_spots.l0] at H;by_cases c13:x6_2<x4_3
      ·rw [if_pos c13] at H;have c13b0:decide (x6_2<x4_3)=true:=decide_eq_true c13;clear c13;by_cases c14:x5_2.length<17592186044416
       ·rw [if_pos c14] at H;have LMc14:=aM c14;clear c14;obtain ⟨y113,hy113⟩:∃ y_:List Int,y_=(x5_2 ++ [wrap64 (x6_2+1)]):=⟨_,rfl⟩;replace H:(spec_l1Cur_spots.l0 k2 x4_3 y113 (wrap64 (x6_2+1)) s0_0 x1001_3 x1002_3)=some (r1,r2,r3,r4):=by first|(rw [hy113];with_reducible exact H)|(have H2_:=(Option.bind_some _ _).symm.trans H;rw [hy113];with_reducible exact H2_)|(have H2_:=(Option.bind_some _ _).symm.trans H;with_reducible exact H2_)|with_reducible exact H|(rw [hy113];exact H)|exact H
        have Ny113:=aM hy113;clear hy113;have H':=aM H;clear H;go_wp2_with (first|((with_reducible refine gate_builtin (b:= .append) (xs:=#[.tmp 26,.tmp 29]) rfl ?_);at_builtin;refine Kd.R_append (Kd.int .i64) w.heap.size rfl (.tmp 26) (.tmp 29) 34 3 (.int .i64 0) 8 rfl Try.underlying34 info3 rfl (by decide) (by omega) u5 x5_2 (wrap64 (x6_2+1)) [.int .i64 (wrap64 (x6_2+1))] (fun _=>True) (fun _=>False) rfl rfl ?aP (fun _ hk=>hk.elim) ?aF ?aO (Below.refl _ _) ?aS ?aL ?_;(case aP=>exact rfl);(case aF=>exact (fun _ _=>trivial));(case aO=>exact (by (with_reducible repeat (first|apply Kd.Qe|apply Kd.Qd|apply Kd.R_drew));exact HO_5.out));(case aS=>exact (keep_size (w:=w) (g:=g) (row:=none) (by repeat (first|(with_reducible first|exact HK.out|apply KeepBut.set_|apply keep_drewN|apply keep_drew|apply keep_alloc)|exact HK.out))));(case aL=>have:=LMc14.out;omega);intro v114 w15 ho hb hg hat;rw [←Ny113.out] at ho;have n0_:=aM (IsS135.grown (by repeat (first|(with_reducible first|exact HI0.out|apply IsS135.alloc|apply IsS135.drewN|apply IsS135.drew|apply IsS135.set_1|apply IsS135.set_2)|exact HI0.out)) hg (IsS135.own_ne HI0.out HO_5.out (by decide)));have n1_:=aM (below_weaken (by repeat (first|(with_reducible first|exact HB.out|apply Qc|apply Qa|apply Qb|refine Qg ?_ (IsS135.ge HI0.out))|exact HB.out)) HL.out hb);have n2_:=aM (KeepBut.trans (by repeat (first|(with_reducible first|exact HK.out|apply KeepBut.set_|apply keep_drewN|apply keep_drew|apply keep_alloc)|exact HK.out)) (KeepBut.of_grown hg g) (Kd.R_base2 HO_5.out));have n3_:=aM (ho);clear HI0;clear HB;clear HK;clear HO_5;have HI0:=n0_;have HB:=n1_;have HK:=n2_;have HO115:=n3_;clear n0_ n1_ n2_ n3_;clear ho hb hg hat))
        go_roundg k2
        case measure=>have:=HJ3.out;have:=HK2.out;omega
        case rel=>exact ⟨(y113),(wrap64 (x6_2+1)),(by first|rfl|(simp;done)|(simp [*];done)),H',⟨by have:=HJ3.out;have:=HK2.out;omega⟩,⟨by (with_reducible repeat (first|apply Kd.Qe|apply Kd.Qd|apply Kd.R_drew));exact HO115.out⟩,⟨by repeat (first|(with_reducible first|exact HI0.out|apply IsS135.alloc|apply IsS135.drewN|apply IsS135.drew|apply IsS135.set_1|apply IsS135.set_2)|exact HI0.out)⟩,⟨by repeat (first|(with_reducible first|exact HK.out|apply KeepBut.set_|apply keep_drewN|apply keep_drew|apply keep_alloc)|exact HK.out)⟩,⟨by repeat (first|(with_reducible first|exact HB.out|apply Qc|apply Qa|apply Qb|refine Qg ?_ (IsS135.ge HI0.out))|exact HB.out)⟩⟩
       ·rw [if_neg c14] at H;exact absurd H (by simp)
      ·rw [if_neg c13] at H;have c13b0:decide (x6_2<x4_3)=false:=decide_eq_false c13;clear c13;replace H:=Option.bind_eq_some_iff.mp H;obtain ⟨⟨t116,t117,t118⟩,A160,H⟩:=H;replace H:(spec_l1Cur_spots.l1 k2 x4_3 x5_2 (wrap64 (1+t116)) s0_0 t117 t118)=some (r1,r2,r3,r4):=H;have A16:=aM A160;clear A160;have H':=aM H;clear H;go_wp2_with (first|((with_reducible refine Qh (f:=148) rfl ?_);refine goesL_ (some 32) rfl rfl Try.func148 (by kernel_rfl) rfl #[.pointer (some ⟨g,0,none⟩),.int .i64 2] rfl (by (try simp only [aD,aE,aF]);first|done|rfl|(simp only [aG,aH];rfl)) ?_;(with_reducible refine (spec_l1Cur_pick.calls g s0_0 x1001_3 x1002_3 2 t116 t117 t118 w0 _ ?side1 ?side2 A16.out).mono ?_);(case side1=>repeat (first|(with_reducible first|exact HI0.out|apply IsS135.alloc|apply IsS135.drewN|apply IsS135.drew|apply IsS135.set_1|apply IsS135.set_2)|exact HI0.out));(case side2=>repeat (first|(with_reducible first|exact HB.out|apply Qc|apply Qa|apply Qb|refine Qg ?_ (IsS135.ge HI0.out))|exact HB.out));rintro e w17 ⟨rfl,hi,hb,hk⟩;refine ⟨_,rfl,?_⟩;have n0_:=aM (Kd.R_mono (Kd.R_keep (IsS135.apart (show IsS135 w0 _ g s0_0 x1001_3 x1002_3 from by repeat (first|(with_reducible first|exact HI0.out|apply IsS135.alloc|apply IsS135.drewN|apply IsS135.drew|apply IsS135.set_1|apply IsS135.set_2)|exact HI0.out)) (by (with_reducible repeat (first|apply Kd.Qe|apply Kd.Qd|apply Kd.R_drew));exact HO_5.out) (by decide)) hk (fun _ h=>h.2)) (fun _ h=>h.1));have n1_:=aM (KeepBut.trans (by repeat (first|(with_reducible first|exact HK.out|apply KeepBut.set_|apply keep_drewN|apply keep_drew|apply keep_alloc)|exact HK.out)) hk (.inl rfl));have n2_:=aM (hb);have n3_:=aM (hi);clear HO_5;clear HK;clear HB;clear HI0;have HO_5:=n0_;have HK:=n1_;have HB:=n2_;have HI0:=n3_;clear n0_ n1_ n2_ n3_;(try clear hb);(try clear hb2);(try clear hk);(try clear hi)))
       go_loopg [7] k2 (fun kq v7 w'=>∃ (x5_3:List Int) (x7_3:Int) (x1001_3:Int) (x1002_3:Int),v7= .int .i64 x7_3∧Aside0 (spec_l1Cur_spots.l1 kq x4_3 x5_3 x7_3 s0_0 x1001_3 x1002_3=some (r1,r2,r3,r4))∧Aside0 (kq≤k2)∧Aside0 (Kd.R (Kd.int .i64) 3 w' w.heap.size (fun _=>True) u5 x5_3)∧Aside0 (IsS135 w0 w' g s0_0 x1001_3 x1002_3)∧Aside0 (KeepBut w w' g none)∧Aside0 (Below w0.heap.size w0 w'))
       case atStart=>exact ⟨(x5_2),(wrap64 (1+t116)),(t117),(t118),(by first|rfl|(simp;done)|(simp [*];done)),H',⟨Nat.le_refl _⟩,⟨by (with_reducible repeat (first|apply Kd.Qe|apply Kd.Qd|apply Kd.R_drew));exact HO_5.out⟩,⟨by repeat (first|(with_reducible first|exact HI0.out|apply IsS135.alloc|apply IsS135.drewN|apply IsS135.drew|apply IsS135.set_1|apply IsS135.set_2)|exact HI0.out)⟩,⟨by repeat (first|(with_reducible first|exact HK.out|apply KeepBut.set_|apply keep_drewN|apply keep_drew|apply keep_alloc)|exact HK.out)⟩,⟨by repeat (first|(with_reducible first|exact HB.out|apply Qc|apply Qa|apply Qb|refine Qg ?_ (IsS135.ge HI0.out))|exact HB.out)⟩⟩
       case round=>
        clear H';(try clear c1);(try clear c2);(try clear p2);(try clear p6);(try clear c7);(try clear c13);(try clear c13b0);(try clear c14);(try clear c16);(try clear p2);(try clear p6);obtain ⟨x5_3,x7_3,x1001_3,x1002_3,rfl,HA,HK3,HO_5,HI0,HK,HB⟩:=hrel
        cases gk with
        |zero=>exact absurd HA.out (by simp [spec_l1Cur_spots.l1])
        |succ k3=>
         have H:=HA.out;clear HA;simp only [spec_l1Cur_spots.l1] at H;by_cases c18:x7_3 > 0
         ·rw [if_pos c18] at H;have c18b0:decide (0<x7_3)=true:=decide_eq_true c18;clear c18;replace H:=Option.bind_eq_some_iff.mp H;obtain ⟨⟨t119,t120,t121⟩,A190,H⟩:=H;replace H:(if 0≤t119 then (if t119<(x5_3.length:Int) then (spec_l1Cur_spots.l1 k3 x4_3 (x5_3.set (t119:Int).toNat 0) (wrap64 (x7_3 - 1)) s0_0 t120 t121) else (none)) else (none))=some (r1,r2,r3,r4):=H;have A19:=aM A190;clear A190;by_cases c20:0≤t119
          ·rw [if_pos c20] at H;have c20b0:decide (0≤t119)=true:=decide_eq_true c20;clear c20;by_cases c21:t119<(x5_3.length:Int)
           ·rw [if_pos c21] at H;have c21b0:decide (t119<(x5_3.length:Int))=true:=decide_eq_true c21;clear c21;obtain ⟨y122,hy122⟩:∃ y_:List Int,y_=(x5_3.set (t119:Int).toNat 0):=⟨_,rfl⟩;replace H:(spec_l1Cur_spots.l1 k3 x4_3 y122 (wrap64 (x7_3 - 1)) s0_0 t120 t121)=some (r1,r2,r3,r4):=by first|(rw [hy122];with_reducible exact H)|(have H2_:=(Option.bind_some _ _).symm.trans H;rw [hy122];with_reducible exact H2_)|(have H2_:=(Option.bind_some _ _).symm.trans H;with_reducible exact H2_)|with_reducible exact H|(rw [hy122];exact H)|exact H
            have Ny122:=aM hy122;clear hy122;have H':=aM H;clear H;go_wp2_with (first|((with_reducible refine Qh (f:=148) rfl ?_);refine goesL_ (some 41) rfl rfl Try.func148 (by kernel_rfl) rfl #[.pointer (some ⟨g,0,none⟩),.int .i64 x4_3] rfl (by (try simp only [aD,aE,aF]);first|done|rfl|(simp only [aG,aH];rfl)) ?_;(with_reducible refine (spec_l1Cur_pick.calls g s0_0 x1001_3 x1002_3 x4_3 t119 t120 t121 w0 _ ?side1 ?side2 A19.out).mono ?_);(case side1=>repeat (first|(with_reducible first|exact HI0.out|apply IsS135.alloc|apply IsS135.drewN|apply IsS135.drew|apply IsS135.set_1|apply IsS135.set_2)|exact HI0.out));(case side2=>repeat (first|(with_reducible first|exact HB.out|apply Qc|apply Qa|apply Qb|refine Qg ?_ (IsS135.ge HI0.out))|exact HB.out));rintro e w23 ⟨rfl,hi,hb,hk⟩;refine ⟨_,rfl,?_⟩;have n0_:=aM (Kd.R_mono (Kd.R_keep (IsS135.apart (show IsS135 w0 _ g s0_0 x1001_3 x1002_3 from by repeat (first|(with_reducible first|exact HI0.out|apply IsS135.alloc|apply IsS135.drewN|apply IsS135.drew|apply IsS135.set_1|apply IsS135.set_2)|exact HI0.out)) (by (with_reducible repeat (first|apply Kd.Qe|apply Kd.Qd|apply Kd.R_drew));exact HO_5.out) (by decide)) hk (fun _ h=>h.2)) (fun _ h=>h.1));have n1_:=aM (KeepBut.trans (by repeat (first|(with_reducible first|exact HK.out|apply KeepBut.set_|apply keep_drewN|apply keep_drew|apply keep_alloc)|exact HK.out)) hk (.inl rfl));have n2_:=aM (hb);have n3_:=aM (hi);clear HO_5;clear HK;clear HB;clear HI0;have HO_5:=n0_;have HK:=n1_;have HB:=n2_;have HI0:=n3_;clear n0_ n1_ n2_ n3_;(try clear hb);(try clear hb2);(try clear hk);(try clear hi);have p22:0≤(t119:Int):=of_decide_eq_true (by first|(with_reducible assumption)|assumption);have q22:(t119:Int)<((x5_3.length:Int):Int):=of_decide_eq_true (by first|(with_reducible assumption)|assumption);obtain ⟨go22,co22,eo22,gb22,gl22,cl22,HG22⟩:=Kd.R_form HO_5.out (by omega);(first|cases eo22|(injection eo22 with ea_ en_ ec_;(first|subst ea_|(injection ea_ with ea_;subst ea_));subst ec_;clear en_));have GB22:=aM gb22;have GG22:=aM HG22;clear gb22 gl22 HG22;obtain ⟨hx22_0,hf22_0⟩:=Kd.R_celln 0 HO_5.out (t119:Int) p22 q22;replace p22:=eq_true p22;replace q22:=eq_true q22;obtain ⟨hy24_,hz24_⟩:=Kd.R_celln 0 HO_5.out (t119:Int) (of_decide_eq_true (by first|(with_reducible assumption)|assumption)) (of_decide_eq_true (by first|(with_reducible assumption)|assumption));have HP24:=Kd.R_putg HO_5.out (t119:Int) 0)|((with_reducible refine gate_store (t:=3) (p:=42) rfl ?_);refine store_event (t:=3) (p:=42) (v:=?vo_w25) (w1:=(w23.setCell ⟨go22,(t119:Int).toNat,none⟩ (.int .i64 0))) ?hg ?ho ?hn ?hr ?_;(case ho=>rfl);(case hg=>rfl);(case hn=>rfl);(case hr=>first|(go_simp;done)|(go_simp;rfl));intro w25 hw;have hg:w23.grownBy w25 (some go22):=(by rw [hw];exact HP24.2);have hp_:Kd.R (Kd.int .i64) 3 w25 w.heap.size (fun _=>True) (.slice (some ⟨go22,0,none⟩) x5_3.length co22) y122:=(by rw [hw,Ny122.out];exact HP24.1);clear HP24;have n0_:=aM (hp_);have n1_:=aM (IsS135.grown (by repeat (first|(with_reducible first|exact HI0.out|apply IsS135.alloc|apply IsS135.drewN|apply IsS135.drew|apply IsS135.set_1|apply IsS135.set_2)|exact HI0.out)) hg (IsS135.own_ne HI0.out HO_5.out (by decide)));have n2_:=aM ((by rw [hw];exact Qg (HB.out) (Nat.le_trans HL.out GB22.out):Below w0.heap.size w0 w25));have n3_:=aM (KeepBut.trans (by repeat (first|(with_reducible first|exact HK.out|apply KeepBut.set_|apply keep_drewN|apply keep_drew|apply keep_alloc)|exact HK.out)) (KeepBut.of_grown hg g) (Kd.R_base2 HO_5.out));clear HO_5;clear HI0;clear HB;clear HK;have HO_5:=n0_;have HI0:=n1_;have HB:=n2_;have HK:=n3_;clear n0_ n1_ n2_ n3_;clear hg hw hp_))
            go_roundg k3
            case measure=>have:=HJ3.out;have:=HK2.out;have:=HK3.out;omega
            case rel=>exact ⟨(y122),(wrap64 (x7_3 - 1)),(t120),(t121),(by first|rfl|(simp;done)|(simp [*];done)),H',⟨by have:=HJ3.out;have:=HK2.out;have:=HK3.out;omega⟩,⟨by (with_reducible repeat (first|apply Kd.Qe|apply Kd.Qd|apply Kd.R_drew));exact HO_5.out⟩,⟨by repeat (first|(with_reducible first|exact HI0.out|apply IsS135.alloc|apply IsS135.drewN|apply IsS135.drew|apply IsS135.set_1|apply IsS135.set_2)|exact HI0.out)⟩,⟨by repeat (first|(with_reducible first|exact HK.out|apply KeepBut.set_|apply keep_drewN|apply keep_drew|apply keep_alloc)|exact HK.out)⟩,⟨by repeat (first|(with_reducible first|exact HB.out|apply Qc|apply Qa|apply Qb|refine Qg ?_ (IsS135.ge HI0.out))|exact HB.out)⟩⟩
           ·rw [if_neg c21] at H;exact absurd H (by simp)
          ·rw [if_neg c20] at H;exact absurd H (by simp)
         ·rw [if_neg c18] at H;have c18b0:decide (0<x7_3)=false:=decide_eq_false c18;clear c18;obtain ⟨y123,hy123⟩:∃ y_:List Int,y_=(([]:List Int)):=⟨_,rfl⟩;replace H:(if y123.length+x5_3.length<17592186044416 then ((spec_l1Cur_pick.f s0_0 x1001_3 x1002_3 6).bind fun bt129=>(spec_l1Cur_spots.l2 k3 x4_3 x5_3 (y123 ++ x5_3) bt129.1 s0_0 bt129.2.1 bt129.2.2)) else (none))=some (r1,r2,r3,r4):=by first|(rw [hy123];with_reducible exact H)|(have H2_:=(Option.bind_some _ _).symm.trans H;rw [hy123];with_reducible exact H2_)|(have H2_:=(Option.bind_some _ _).symm.trans H;with_reducible exact H2_)|with_reducible exact H|(rw [hy123];exact H)|exact H
          have Ny123:=aM hy123;clear hy123;by_cases c26:y123.length+x5_3.length<17592186044416
          ·rw [if_pos c26] at H;have LMc26:=aM c26;clear c26;obtain ⟨y126,hy126⟩:∃ y_:List Int,y_=(y123 ++ x5_3):=⟨_,rfl⟩;replace H:((spec_l1Cur_pick.f s0_0 x1001_3 x1002_3 6).bind fun bt129=>(spec_l1Cur_spots.l2 k3 x4_3 x5_3 y126 bt129.1 s0_0 bt129.2.1 bt129.2.2))=some (r1,r2,r3,r4):=by first|(rw [hy126];with_reducible exact H)|(have H2_:=(Option.bind_some _ _).symm.trans H;rw [hy126];with_reducible exact H2_)|(have H2_:=(Option.bind_some _ _).symm.trans H;with_reducible exact H2_)|with_reducible exact H|(rw [hy126];exact H)|exact H
           have Ny126:=aM hy126;clear hy126;replace H:=Option.bind_eq_some_iff.mp H;obtain ⟨⟨t129,t130,t131⟩,A270,H⟩:=H;replace H:(spec_l1Cur_spots.l2 k3 x4_3 x5_3 y126 t129 s0_0 t130 t131)=some (r1,r2,r3,r4):=H;have A27:=aM A270;clear A270;have H':=aM H;clear H;go_wp2_with (first|((with_reducible refine gate_dst (N:=43) rfl ?_);refine Kd.R_lit (Kd.int .i64) _ 3 ?hg (N:=43) ?hd (xs:=([]:List Int)) (inner:=[]) (ok:=fun _=>True) (okp:=fun _=>True) ?hr ?hp (fun _ hk=>hk) trivial (Below.refl _ _) (Nat.le_refl _) (by simp) ?_;(case hd=>rfl);(case hg=>rfl);(case hr=>first|(go_simp;done)|(go_simp;rfl));(case hp=>exact (Reps.none _ _));intro v124 w28 ho29 hb hg_ hnew_;clear hg_ hnew_;(first|rw [←Ny123.out] at ho29|(simp only [Int.reduceToNat] at ho29;rw [←Ny123.out] at ho29));have n0_:=aM (Kd.R_elder' (by (with_reducible repeat (first|apply Kd.Qe|apply Kd.Qd|apply Kd.R_drew));exact HO_5.out) (Kd.R_base ho29) hb);have n1_:=aM (Kd.R_lower (Kd.R_new' ho29 (Kd.R_lt (by (with_reducible repeat (first|apply Kd.Qe|apply Kd.Qd|apply Kd.R_drew));exact HO_5.out))) (keep_size (w:=w) (g:=g) (row:=none) (by repeat (first|(with_reducible first|exact HK.out|apply KeepBut.set_|apply keep_drewN|apply keep_drew|apply keep_alloc)|exact HK.out))));have n2_:=aM (IsS135.below (by repeat (first|(with_reducible first|exact HI0.out|apply IsS135.alloc|apply IsS135.drewN|apply IsS135.drew|apply IsS135.set_1|apply IsS135.set_2)|exact HI0.out)) hb);have n3_:=aM (KeepBut.trans (by repeat (first|(with_reducible first|exact HK.out|apply KeepBut.set_|apply keep_drewN|apply keep_drew|apply keep_alloc)|exact HK.out)) (KeepBut.of_below hb g none) (.inl rfl));have n4_:=aM (below_step (by repeat (first|(with_reducible first|exact HB.out|apply Qc|apply Qa|apply Qb|refine Qg ?_ (IsS135.ge HI0.out))|exact HB.out)) hb);clear HO_5;clear HI0;clear HK;clear HB;have HO_5:=n0_;have HO125:=n1_;have HI0:=n2_;have HK:=n3_;have HB:=n4_;clear n0_ n1_ n2_ n3_ n4_;clear hb ho29;obtain ⟨Ao31,co31,eo31⟩:=Kd.R_slice HO_5.out;subst eo31)|((with_reducible refine gate_builtin (b:= .append) (xs:=#[.tmp 43,.tmp 44]) rfl ?_);at_builtin;refine Kd.R_append_rows (Kd.int .i64) w.heap.size rfl (.tmp 43) (.tmp 44) 34 3 (.int .i64 0) 8 rfl Try.underlying34 info3 rfl (by decide) (by omega) v124 y123 x5_3 _ _ _ (fun k_=>some k_≠(.slice Ao31 x5_3.length co31:Value).ownBlock) (fun _=>False) rfl rfl ?aO ?aR (fun _ _ h=>h) (fun _ h=>h.elim) ?aF (Below.refl _ _) ?aS ?aL ?_;(case aR=>repeat (first|exact (Kd.Qf HO_5.out).2.2|(with_reducible refine Kd.C_alloc ?_ _)|(with_reducible refine Kd.C_drewN ?_ _)|(with_reducible refine Kd.C_drew ?_)));(case aF=>exact (fun k_ hk=>Kd.fresh' (Kd.R_lt (by (with_reducible repeat (first|apply Kd.Qe|apply Kd.Qd|apply Kd.R_drew));exact HO_5.out)) k_ hk));(case aO=>exact (by (with_reducible repeat (first|apply Kd.Qe|apply Kd.Qd|apply Kd.R_drew));exact Kd.R_mono HO125.out (fun _ hk=>hk.2)));(case aS=>exact (keep_size (w:=w) (g:=g) (row:=none) (by repeat (first|(with_reducible first|exact HK.out|apply KeepBut.set_|apply keep_drewN|apply keep_drew|apply keep_alloc)|exact HK.out))));(case aL=>have:=LMc26.out;omega);intro v127 w30 ho hb hg hat;rw [←Ny126.out] at ho;have n0_:=aM (Kd.R_after (ok:=(fun _=>True)) (by (with_reducible repeat (first|apply Kd.Qe|apply Kd.Qd|apply Kd.R_drew));exact HO_5.out) hg hat);have n1_:=aM (IsS135.grown (by repeat (first|(with_reducible first|exact HI0.out|apply IsS135.alloc|apply IsS135.drewN|apply IsS135.drew|apply IsS135.set_1|apply IsS135.set_2)|exact HI0.out)) hg (IsS135.own_ne HI0.out HO125.out (by decide)));have n2_:=aM (below_weaken (by repeat (first|(with_reducible first|exact HB.out|apply Qc|apply Qa|apply Qb|refine Qg ?_ (IsS135.ge HI0.out))|exact HB.out)) HL.out hb);have n3_:=aM (KeepBut.trans (by repeat (first|(with_reducible first|exact HK.out|apply KeepBut.set_|apply keep_drewN|apply keep_drew|apply keep_alloc)|exact HK.out)) (KeepBut.of_grown hg g) (Kd.R_base2 HO125.out));have n4_:=aM (ho);clear HO_5;clear HI0;clear HB;clear HK;clear HO125;have HO_5:=n0_;have HI0:=n1_;have HB:=n2_;have HK:=n3_;have HO128:=n4_;clear n0_ n1_ n2_ n3_ n4_;clear ho hb hg hat)|((with_reducible refine Qh (f:=148) rfl ?_);refine goesL_ (some 47) rfl rfl Try.func148 (by kernel_rfl) rfl #[.pointer (some ⟨g,0,none⟩),.int .i64 6] rfl (by (try simp only [aD,aE,aF]);first|done|rfl|(simp only [aG,aH];rfl)) ?_;(with_reducible refine (spec_l1Cur_pick.calls g s0_0 x1001_3 x1002_3 6 t129 t130 t131 w0 _ ?side1 ?side2 A27.out).mono ?_);(case side1=>repeat (first|(with_reducible first|exact HI0.out|apply IsS135.alloc|apply IsS135.drewN|apply IsS135.drew|apply IsS135.set_1|apply IsS135.set_2)|exact HI0.out));(case side2=>repeat (first|(with_reducible first|exact HB.out|apply Qc|apply Qa|apply Qb|refine Qg ?_ (IsS135.ge HI0.out))|exact HB.out));rintro e w32 ⟨rfl,hi,hb,hk⟩;refine ⟨_,rfl,?_⟩;have n0_:=aM (Kd.R_mono (Kd.R_keep (IsS135.apart (show IsS135 w0 _ g s0_0 x1001_3 x1002_3 from by repeat (first|(with_reducible first|exact HI0.out|apply IsS135.alloc|apply IsS135.drewN|apply IsS135.drew|apply IsS135.set_1|apply IsS135.set_2)|exact HI0.out)) (by (with_reducible repeat (first|apply Kd.Qe|apply Kd.Qd|apply Kd.R_drew));exact HO_5.out) (by decide)) hk (fun _ h=>h.2)) (fun _ h=>h.1));have n1_:=aM (Kd.R_mono (Kd.R_keep (IsS135.apart (show IsS135 w0 _ g s0_0 x1001_3 x1002_3 from by repeat (first|(with_reducible first|exact HI0.out|apply IsS135.alloc|apply IsS135.drewN|apply IsS135.drew|apply IsS135.set_1|apply IsS135.set_2)|exact HI0.out)) (by (with_reducible repeat (first|apply Kd.Qe|apply Kd.Qd|apply Kd.R_drew));exact HO128.out) (by decide)) hk (fun _ h=>h.2)) (fun _ h=>h.1));have n2_:=aM (KeepBut.trans (by repeat (first|(with_reducible first|exact HK.out|apply KeepBut.set_|apply keep_drewN|apply keep_drew|apply keep_alloc)|exact HK.out)) hk (.inl rfl));have n3_:=aM (hb);have n4_:=aM (hi);clear HO_5;clear HO128;clear HK;clear HB;clear HI0;have HO_5:=n0_;have HO128:=n1_;have HK:=n2_;have HB:=n3_;have HI0:=n4_;clear n0_ n1_ n2_ n3_ n4_;(try clear hb);(try clear hb2);(try clear hk);(try clear hi)))
           go_loopg [9] k3 (fun kq v9 w'=>∃ (x8_4:List Int) (x9_4:Int) (x1001_4:Int) (x1002_4:Int),v9= .int .i64 x9_4∧Aside0 (spec_l1Cur_spots.l2 kq x4_3 x5_3 x8_4 x9_4 s0_0 x1001_4 x1002_4=some (r1,r2,r3,r4))∧Aside0 (kq≤k3)∧Aside0 (Kd.R (Kd.int .i64) 3 w' w.heap.size (fun k_=>some k_≠(v127:Value).ownBlock) (.slice Ao31 x5_3.length co31) x5_3)∧Aside0 (Kd.R (Kd.int .i64) 3 w' w.heap.size (fun k_=>some k_≠((.slice Ao31 x5_3.length co31):Value).ownBlock) v127 x8_4)∧Aside0 (IsS135 w0 w' g s0_0 x1001_4 x1002_4)∧Aside0 (KeepBut w w' g none)∧Aside0 (Below w0.heap.size w0 w'))
           case atStart=>exact ⟨(y126),(t129),(t130),(t131),(by first|rfl|(simp;done)|(simp [*];done)),H',⟨Nat.le_refl _⟩,⟨by (with_reducible repeat (first|apply Kd.Qe|apply Kd.Qd|apply Kd.R_drew));exact Kd.R_mono HO_5.out (fun _ hk=>hk.2)⟩,⟨by (with_reducible repeat (first|apply Kd.Qe|apply Kd.Qd|apply Kd.R_drew));exact HO128.out⟩,⟨by repeat (first|(with_reducible first|exact HI0.out|apply IsS135.alloc|apply IsS135.drewN|apply IsS135.drew|apply IsS135.set_1|apply IsS135.set_2)|exact HI0.out)⟩,⟨by repeat (first|(with_reducible first|exact HK.out|apply KeepBut.set_|apply keep_drewN|apply keep_drew|apply keep_alloc)|exact HK.out)⟩,⟨by repeat (first|(with_reducible first|exact HB.out|apply Qc|apply Qa|apply Qb|refine Qg ?_ (IsS135.ge HI0.out))|exact HB.out)⟩⟩
           case round=>
            clear H';(try clear c1);(try clear c2);(try clear p2);(try clear q2);(try clear hx2);(try clear hf2);(try clear p6);(try clear c7);(try clear c13);(try clear c13b0);(try clear c14);(try clear c16);(try clear c18);(try clear c18b0);(try clear c20);(try clear c20b0);(try clear c21);(try clear c21b0);(try clear p22);(try clear q22);(try clear hx22);(try clear hf22);(try clear c24);(try clear c26);(try clear hx22_0);(try clear p2);(try clear p22);(try clear p6);(try clear q22);obtain ⟨x8_4,x9_4,x1001_4,x1002_4,rfl,HA,HK4,HO_5,HO_8,HI0,HK,HB⟩:=hrel
            cases gk with
            |zero=>exact absurd HA.out (by simp [spec_l1Cur_spots.l2])
            |succ k4=>
             have H:=HA.out;clear HA;simp only [spec_l1Cur_spots.l2] at H;by_cases c33:x9_4 > 0
             ·rw [if_pos c33] at H;have c33b0:decide (0<x9_4)=true:=decide_eq_true c33;clear c33;replace H:=Option.bind_eq_some_iff.mp H;obtain ⟨⟨t132,t133,t134⟩,A340,H⟩:=H;replace H:((spec_l1Cur_pick.f s0_0 t133 t134 x4_3).bind fun bt135=>(if 0≤t132 then (if t132<(x8_4.length:Int) then (if 0≤bt135.1 then (if bt135.1<(x8_4.length:Int) then (spec_l1Cur_spots.l2 k4 x4_3 x5_3 ((x8_4.set (t132:Int).toNat (rd x8_4 bt135.1)).set (bt135.1:Int).toNat (rd x8_4 t132)) (wrap64 (x9_4 - 1)) s0_0 bt135.2.1 bt135.2.2) else (none)) else (none)) else (none)) else (none)))=some (r1,r2,r3,r4):=H;have A34:=aM A340;clear A340;replace H:=Option.bind_eq_some_iff.mp H;obtain ⟨⟨t135,t136,t137⟩,A350,H⟩:=H;replace H:(if 0≤t132 then (if t132<(x8_4.length:Int) then (if 0≤t135 then (if t135<(x8_4.length:Int) then (spec_l1Cur_spots.l2 k4 x4_3 x5_3 ((x8_4.set (t132:Int).toNat (rd x8_4 t135)).set (t135:Int).toNat (rd x8_4 t132)) (wrap64 (x9_4 - 1)) s0_0 t136 t137) else (none)) else (none)) else (none)) else (none))=some (r1,r2,r3,r4):=H;have A35:=aM A350;clear A350;by_cases c36:0≤t132
              ·rw [if_pos c36] at H;have c36b0:decide (0≤t132)=true:=decide_eq_true c36;clear c36;by_cases c37:t132<(x8_4.length:Int)
               ·rw [if_pos c37] at H;have c37b0:decide (t132<(x8_4.length:Int))=true:=decide_eq_true c37;clear c37;by_cases c38:0≤t135
                ·rw [if_pos c38] at H;have c38b0:decide (0≤t135)=true:=decide_eq_true c38;clear c38;by_cases c39:t135<(x8_4.length:Int)
                 ·rw [if_pos c39] at H;have c39b0:decide (t135<(x8_4.length:Int))=true:=decide_eq_true c39;clear c39;obtain ⟨y140,hy140⟩:∃ y_:List Int,y_=(x8_4.set (t132:Int).toNat (rd x8_4 t135)):=⟨_,rfl⟩;replace H:(spec_l1Cur_spots.l2 k4 x4_3 x5_3 (y140.set (t135:Int).toNat (rd x8_4 t132)) (wrap64 (x9_4 - 1)) s0_0 t136 t137)=some (r1,r2,r3,r4):=by first|(rw [hy140];with_reducible exact H)|(have H2_:=(Option.bind_some _ _).symm.trans H;rw [hy140];with_reducible exact H2_)|(have H2_:=(Option.bind_some _ _).symm.trans H;with_reducible exact H2_)|with_reducible exact H|(rw [hy140];exact H)|exact H
                  have Ny140:=aM hy140;clear hy140;obtain ⟨y141,hy141⟩:∃ y_:List Int,y_=(y140.set (t135:Int).toNat (rd x8_4 t132)):=⟨_,rfl⟩;replace H:(spec_l1Cur_spots.l2 k4 x4_3 x5_3 y141 (wrap64 (x9_4 - 1)) s0_0 t136 t137)=some (r1,r2,r3,r4):=by first|(rw [hy141];with_reducible exact H)|(have H2_:=(Option.bind_some _ _).symm.trans H;rw [hy141];with_reducible exact H2_)|(have H2_:=(Option.bind_some _ _).symm.trans H;with_reducible exact H2_)|with_reducible exact H|(rw [hy141];exact H)|exact H
                  have Ny141:=aM hy141;clear hy141;have H':=aM H;clear H;go_wp2_with (first|((with_reducible refine Qh (f:=148) rfl ?_);refine goesL_ (some 54) rfl rfl Try.func148 (by kernel_rfl) rfl #[.pointer (some ⟨g,0,none⟩),.int .i64 x4_3] rfl (by (try simp only [aD,aE,aF]);first|done|rfl|(simp only [aG,aH];rfl)) ?_;(with_reducible refine (spec_l1Cur_pick.calls g s0_0 x1001_4 x1002_4 x4_3 t132 t133 t134 w0 _ ?side1 ?side2 A34.out).mono ?_);(case side1=>repeat (first|(with_reducible first|exact HI0.out|apply IsS135.alloc|apply IsS135.drewN|apply IsS135.drew|apply IsS135.set_1|apply IsS135.set_2)|exact HI0.out));(case side2=>repeat (first|(with_reducible first|exact HB.out|apply Qc|apply Qa|apply Qb|refine Qg ?_ (IsS135.ge HI0.out))|exact HB.out));rintro e w42 ⟨rfl,hi,hb,hk⟩;refine ⟨_,rfl,?_⟩;have n0_:=aM (Kd.R_mono (Kd.R_keep (IsS135.apart (show IsS135 w0 _ g s0_0 x1001_4 x1002_4 from by repeat (first|(with_reducible first|exact HI0.out|apply IsS135.alloc|apply IsS135.drewN|apply IsS135.drew|apply IsS135.set_1|apply IsS135.set_2)|exact HI0.out)) (by (with_reducible repeat (first|apply Kd.Qe|apply Kd.Qd|apply Kd.R_drew));exact HO_5.out) (by decide)) hk (fun _ h=>h.2)) (fun _ h=>h.1));have n1_:=aM (Kd.R_mono (Kd.R_keep (IsS135.apart (show IsS135 w0 _ g s0_0 x1001_4 x1002_4 from by repeat (first|(with_reducible first|exact HI0.out|apply IsS135.alloc|apply IsS135.drewN|apply IsS135.drew|apply IsS135.set_1|apply IsS135.set_2)|exact HI0.out)) (by (with_reducible repeat (first|apply Kd.Qe|apply Kd.Qd|apply Kd.R_drew));exact HO_8.out) (by decide)) hk (fun _ h=>h.2)) (fun _ h=>h.1));have n2_:=aM (KeepBut.trans (by repeat (first|(with_reducible first|exact HK.out|apply KeepBut.set_|apply keep_drewN|apply keep_drew|apply keep_alloc)|exact HK.out)) hk (.inl rfl));have n3_:=aM (hb);have n4_:=aM (hi);clear HO_5;clear HO_8;clear HK;clear HB;clear HI0;have HO_5:=n0_;have HO_8:=n1_;have HK:=n2_;have HB:=n3_;have HI0:=n4_;clear n0_ n1_ n2_ n3_ n4_;(try clear hb);(try clear hb2);(try clear hk);(try clear hi))|((with_reducible refine Qh (f:=148) rfl ?_);refine goesL_ (some 57) rfl rfl Try.func148 (by kernel_rfl) rfl #[.pointer (some ⟨g,0,none⟩),.int .i64 x4_3] rfl (by (try simp only [aD,aE,aF]);first|done|rfl|(simp only [aG,aH];rfl)) ?_;(with_reducible refine (spec_l1Cur_pick.calls g s0_0 t133 t134 x4_3 t135 t136 t137 w0 _ ?side1 ?side2 A35.out).mono ?_);(case side1=>repeat (first|(with_reducible first|exact HI0.out|apply IsS135.alloc|apply IsS135.drewN|apply IsS135.drew|apply IsS135.set_1|apply IsS135.set_2)|exact HI0.out));(case side2=>repeat (first|(with_reducible first|exact HB.out|apply Qc|apply Qa|apply Qb|refine Qg ?_ (IsS135.ge HI0.out))|exact HB.out));rintro e w43 ⟨rfl,hi,hb,hk⟩;refine ⟨_,rfl,?_⟩;have n0_:=aM (Kd.R_mono (Kd.R_keep (IsS135.apart (show IsS135 w0 _ g s0_0 t133 t134 from by repeat (first|(with_reducible first|exact HI0.out|apply IsS135.alloc|apply IsS135.drewN|apply IsS135.drew|apply IsS135.set_1|apply IsS135.set_2)|exact HI0.out)) (by (with_reducible repeat (first|apply Kd.Qe|apply Kd.Qd|apply Kd.R_drew));exact HO_5.out) (by decide)) hk (fun _ h=>h.2)) (fun _ h=>h.1));have n1_:=aM (Kd.R_mono (Kd.R_keep (IsS135.apart (show IsS135 w0 _ g s0_0 t133 t134 from by repeat (first|(with_reducible first|exact HI0.out|apply IsS135.alloc|apply IsS135.drewN|apply IsS135.drew|apply IsS135.set_1|apply IsS135.set_2)|exact HI0.out)) (by (with_reducible repeat (first|apply Kd.Qe|apply Kd.Qd|apply Kd.R_drew));exact HO_8.out) (by decide)) hk (fun _ h=>h.2)) (fun _ h=>h.1));have n2_:=aM (KeepBut.trans (by repeat (first|(with_reducible first|exact HK.out|apply KeepBut.set_|apply keep_drewN|apply keep_drew|apply keep_alloc)|exact HK.out)) hk (.inl rfl));have n3_:=aM (hb);have n4_:=aM (hi);clear HO_5;clear HO_8;clear HK;clear HB;clear HI0;have HO_5:=n0_;have HO_8:=n1_;have HK:=n2_;have HB:=n3_;have HI0:=n4_;clear n0_ n1_ n2_ n3_ n4_;(try clear hb);(try clear hb2);(try clear hk);(try clear hi);obtain ⟨Ao44,co44,eo44⟩:=Kd.R_slice HO_8.out;subst eo44;have p138:0≤(t132:Int):=of_decide_eq_true (by first|(with_reducible assumption)|assumption);have q138:t132<(x8_4.length:Int):=of_decide_eq_true (by first|(with_reducible assumption)|assumption);obtain ⟨ad138,e138,hx138_0⟩:=Kd.at_int (Kd.Qf HO_8.out).2.2 t132 p138 q138;cases e138;replace p138:=eq_true p138;replace q138:=eq_true q138;have p139:0≤(t135:Int):=of_decide_eq_true (by first|(with_reducible assumption)|assumption);have q139:t135<(x8_4.length:Int):=of_decide_eq_true (by first|(with_reducible assumption)|assumption);obtain ⟨ad139,e139,hx139_0⟩:=Kd.at_int (Kd.Qf HO_8.out).2.2 t135 p139 q139;obtain rfl:ad138=ad139:=(by injection e139);replace p139:=eq_true p139;replace q139:=eq_true q139;have p40:0≤(t132:Int):=of_decide_eq_true (by first|(with_reducible assumption)|assumption);have q40:(t132:Int)<((x8_4.length:Int):Int):=of_decide_eq_true (by first|(with_reducible assumption)|assumption);obtain ⟨go40,co40,eo40,gb40,gl40,cl40,HG40⟩:=Kd.R_form HO_8.out (by omega);(first|cases eo40|(injection eo40 with ea_ en_ ec_;(first|subst ea_|(injection ea_ with ea_;subst ea_));subst ec_;clear en_));have GB40:=aM gb40;have GG40:=aM HG40;clear gb40 gl40 HG40;(first|simp only [add_plain] at hx138_0|skip);(first|simp only [add_plain] at hx139_0|skip);obtain ⟨hx40_0,hf40_0⟩:=Kd.R_celln 0 HO_8.out (t132:Int) p40 q40;replace p40:=eq_true p40;replace q40:=eq_true q40;obtain ⟨hy45_,hz45_⟩:=Kd.R_celln 0 HO_8.out (t132:Int) (of_decide_eq_true (by first|(with_reducible assumption)|assumption)) (of_decide_eq_true (by first|(with_reducible assumption)|assumption));have HP45:=Kd.R_putg HO_8.out (t132:Int) (rd x8_4 t135))|((with_reducible refine gate_store (t:=3) (p:=68) rfl ?_);refine store_event (t:=3) (p:=68) (v:=?vo_w46) (w1:=(w43.setCell ⟨go40,(t132:Int).toNat,none⟩ (.int .i64 (rd x8_4 t135)))) ?hg ?ho ?hn ?hr ?_;(case ho=>rfl);(case hg=>rfl);(case hn=>rfl);(case hr=>first|(go_simp;done)|(go_simp;rfl));intro w46 hw;have hg:w43.grownBy w46 (some go40):=(by rw [hw];exact HP45.2);have hp_:Kd.R (Kd.int .i64) 3 w46 w.heap.size (fun k_=>some k_≠(.slice Ao31 x5_3.length co31:Value).ownBlock) (.slice (some ⟨go40,0,none⟩) x8_4.length co44) y140:=(by rw [hw,Ny140.out];exact HP45.1);clear HP45;have n0_:=aM (Kd.R_after (v:=(.slice (some ⟨go40,0,none⟩) x8_4.length co44)) (v1:=(.slice (some ⟨go40,0,none⟩) x8_4.length co44)) (ok:=(fun _=>True)) (by (with_reducible repeat (first|apply Kd.Qe|apply Kd.Qd|apply Kd.R_drew));exact Kd.R_mono HO_5.out (fun _ hk=>⟨trivial,hk⟩)) hg (.inl rfl));have n1_:=aM (hp_);have n2_:=aM (IsS135.grown (by repeat (first|(with_reducible first|exact HI0.out|apply IsS135.alloc|apply IsS135.drewN|apply IsS135.drew|apply IsS135.set_1|apply IsS135.set_2)|exact HI0.out)) hg (IsS135.own_ne HI0.out HO_8.out (by decide)));have n3_:=aM ((by rw [hw];exact Qg (HB.out) (Nat.le_trans HL.out GB40.out):Below w0.heap.size w0 w46));have n4_:=aM (KeepBut.trans (by repeat (first|(with_reducible first|exact HK.out|apply KeepBut.set_|apply keep_drewN|apply keep_drew|apply keep_alloc)|exact HK.out)) (KeepBut.of_grown hg g) (Kd.R_base2 HO_8.out));clear HO_5;clear HO_8;clear HI0;clear HB;clear HK;have HO_5:=n0_;have HO_8:=n1_;have HI0:=n2_;have HB:=n3_;have HK:=n4_;clear n0_ n1_ n2_ n3_ n4_;clear hg hw hp_;have p41:0≤(t135:Int):=of_decide_eq_true (by first|(with_reducible assumption)|assumption);have q41:(t135:Int)<((x8_4.length:Int):Int):=of_decide_eq_true (by first|(with_reducible assumption)|assumption);obtain ⟨hx41_0,hf41_0⟩:=Kd.R_celln 0 HO_8.out (t135:Int) p41 q41;replace p41:=eq_true p41;replace q41:=eq_true q41;obtain ⟨hy47_,hz47_⟩:=Kd.R_celln 0 HO_8.out (t135:Int) (of_decide_eq_true (by first|(with_reducible assumption)|assumption)) (of_decide_eq_true (by first|(with_reducible assumption)|assumption));have HP47:=Kd.R_putg HO_8.out (t135:Int) (rd x8_4 t132))|((with_reducible refine gate_store (t:=3) (p:=72) rfl ?_);refine store_event (t:=3) (p:=72) (v:=?vo_w48) (w1:=(w46.setCell ⟨go40,(t135:Int).toNat,none⟩ (.int .i64 (rd x8_4 t132)))) ?hg ?ho ?hn ?hr ?_;(case ho=>rfl);(case hg=>rfl);(case hn=>rfl);(case hr=>first|(go_simp;done)|(go_simp;rfl));intro w48 hw;have hg:w46.grownBy w48 (some go40):=(by rw [hw];exact HP47.2);have hp_:Kd.R (Kd.int .i64) 3 w48 w.heap.size (fun k_=>some k_≠(.slice Ao31 x5_3.length co31:Value).ownBlock) (.slice (some ⟨go40,0,none⟩) x8_4.length co44) y141:=(by rw [hw,Ny141.out];exact HP47.1);clear HP47;have n0_:=aM (Kd.R_after (v:=(.slice (some ⟨go40,0,none⟩) x8_4.length co44)) (v1:=(.slice (some ⟨go40,0,none⟩) x8_4.length co44)) (ok:=(fun _=>True)) (by (with_reducible repeat (first|apply Kd.Qe|apply Kd.Qd|apply Kd.R_drew));exact HO_5.out) hg (.inl rfl));have n1_:=aM (hp_);have n2_:=aM (IsS135.grown (by repeat (first|(with_reducible first|exact HI0.out|apply IsS135.alloc|apply IsS135.drewN|apply IsS135.drew|apply IsS135.set_1|apply IsS135.set_2)|exact HI0.out)) hg (IsS135.own_ne HI0.out HO_8.out (by decide)));have n3_:=aM ((by rw [hw];exact Qg (HB.out) (Nat.le_trans HL.out GB40.out):Below w0.heap.size w0 w48));have n4_:=aM (KeepBut.trans (by repeat (first|(with_reducible first|exact HK.out|apply KeepBut.set_|apply keep_drewN|apply keep_drew|apply keep_alloc)|exact HK.out)) (KeepBut.of_grown hg g) (Kd.R_base2 HO_8.out));clear HO_5;clear HO_8;clear HI0;clear HB;clear HK;have HO_5:=n0_;have HO_8:=n1_;have HI0:=n2_;have HB:=n3_;have HK:=n4_;clear n0_ n1_ n2_ n3_ n4_;clear hg hw hp_))
                  go_roundg k4
                  case measure=>have:=HJ3.out;have:=HK2.out;have:=HK3.out;have:=HK4.out;omega
                  case rel=>exact ⟨(y141),(wrap64 (x9_4 - 1)),(t136),(t137),(by first|rfl|(simp;done)|(simp [*];done)),H',⟨by have:=HJ3.out;have:=HK2.out;have:=HK3.out;have:=HK4.out;omega⟩,⟨by (with_reducible repeat (first|apply Kd.Qe|apply Kd.Qd|apply Kd.R_drew));exact Kd.R_mono HO_5.out (fun _ hk=>hk.2)⟩,⟨by (with_reducible repeat (first|apply Kd.Qe|apply Kd.Qd|apply Kd.R_drew));exact HO_8.out⟩,⟨by repeat (first|(with_reducible first|exact HI0.out|apply IsS135.alloc|apply IsS135.drewN|apply IsS135.drew|apply IsS135.set_1|apply IsS135.set_2)|exact HI0.out)⟩,⟨by repeat (first|(with_reducible first|exact HK.out|apply KeepBut.set_|apply keep_drewN|apply keep_drew|apply keep_alloc)|exact HK.out)⟩,⟨by repeat (first|(with_reducible first|exact HB.out|apply Qc|apply Qa|apply Qb|refine Qg ?_ (IsS135.ge HI0.out))|exact HB.out)⟩⟩
                 ·rw [if_neg c39] at H;exact absurd H (by simp)
                ·rw [if_neg c38] at H;exact absurd H (by simp)
               ·rw [if_neg c37] at H;exact absurd H (by simp)
              ·rw [if_neg c36] at H;exact absurd H (by simp)
             ·rw [if_neg c33] at H;have c33b0:decide (0<x9_4)=false:=decide_eq_false c33;clear c33;replace H:=Option.bind_eq_some_iff.mp H;obtain ⟨⟨t142,t143,t144⟩,A490,H⟩:=H;replace H:(if t142=true then ((spec_l1Cur_among.f s0_0 t143 t144 (([0,20,21]:List Int))).bind fun bt148=>(if 0<(x8_4.length:Int) then (some (x5_3,(x8_4.set (0:Int).toNat bt148.1),bt148.2.1,bt148.2.2)) else (none))) else (some (x5_3,x8_4,t143,t144)))=some (r1,r2,r3,r4):=H;have A49:=aM A490;clear A490;by_cases c50:t142=true
              ·subst c50;have H1:((spec_l1Cur_among.f s0_0 t143 t144 (([0,20,21]:List Int))).bind fun bt148=>(if 0<(x8_4.length:Int) then (some (x5_3,(x8_4.set (0:Int).toNat bt148.1),bt148.2.1,bt148.2.2)) else (none)))=some (r1,r2,r3,r4):=by rw [if_pos rfl] at H;exact H
               clear H;have H:=H1;clear H1;obtain ⟨y145,hy145⟩:∃ y_:List Int,y_=(([0,20,21]:List Int)):=⟨_,rfl⟩;replace H:((spec_l1Cur_among.f s0_0 t143 t144 y145).bind fun bt148=>(if 0<(x8_4.length:Int) then (some (x5_3,(x8_4.set (0:Int).toNat bt148.1),bt148.2.1,bt148.2.2)) else (none)))=some (r1,r2,r3,r4):=by first|(rw [hy145];with_reducible exact H)|(have H2_:=(Option.bind_some _ _).symm.trans H;rw [hy145];with_reducible exact H2_)|(have H2_:=(Option.bind_some _ _).symm.trans H;with_reducible exact H2_)|with_reducible exact H|(rw [hy145];exact H)|exact H
               have Ny145:=aM hy145;clear hy145;replace H:=Option.bind_eq_some_iff.mp H;obtain ⟨⟨t148,t149,t150⟩,A510,H⟩:=H;replace H:(if 0<(x8_4.length:Int) then (some (x5_3,(x8_4.set (0:Int).toNat t148),t149,t150)) else (none))=some (r1,r2,r3,r4):=H;have A51:=aM A510;clear A510;by_cases c52:0<(x8_4.length:Int)
               ·rw [if_pos c52] at H;have c52b0:decide (0<(x8_4.length:Int))=true:=decide_eq_true c52;have c52b1:decide (0<x8_4.length)=true:=decide_eq_true (by omega);clear c52;obtain ⟨y151,hy151⟩:∃ y_:List Int,y_=(x8_4.set (0:Int).toNat t148):=⟨_,rfl⟩;replace H:(some (x5_3,y151,t149,t150))=some (r1,r2,r3,r4):=by first|(rw [hy151];with_reducible exact H)|(have H2_:=(Option.bind_some _ _).symm.trans H;rw [hy151];with_reducible exact H2_)|(have H2_:=(Option.bind_some _ _).symm.trans H;with_reducible exact H2_)|with_reducible exact H|(rw [hy151];exact H)|exact H
                have Ny151:=aM hy151;clear hy151;simp only [Option.some.injEq,Prod.mk.injEq] at H;obtain ⟨rfl,rfl,rfl,rfl⟩:=H;go_wp2_with (first|((with_reducible refine Qh (f:=147) rfl ?_);refine goesL_ (some 74) rfl rfl Try.func147 (by kernel_rfl) rfl #[.pointer (some ⟨g,0,none⟩),.int .i64 30] rfl (by (try simp only [aD,aE,aF]);first|done|rfl|(simp only [aG,aH];rfl)) ?_;(with_reducible refine (spec_l1Cur_one.calls g s0_0 x1001_4 x1002_4 30 true t143 t144 w0 _ ?side1 ?side2 A49.out).mono ?_);(case side1=>repeat (first|(with_reducible first|exact HI0.out|apply IsS135.alloc|apply IsS135.drewN|apply IsS135.drew|apply IsS135.set_1|apply IsS135.set_2)|exact HI0.out));(case side2=>repeat (first|(with_reducible first|exact HB.out|apply Qc|apply Qa|apply Qb|refine Qg ?_ (IsS135.ge HI0.out))|exact HB.out));rintro e w54 ⟨rfl,hi,hb,hk⟩;refine ⟨_,rfl,?_⟩;have n0_:=aM (Kd.R_mono (Kd.R_keep (IsS135.apart (show IsS135 w0 _ g s0_0 x1001_4 x1002_4 from by repeat (first|(with_reducible first|exact HI0.out|apply IsS135.alloc|apply IsS135.drewN|apply IsS135.drew|apply IsS135.set_1|apply IsS135.set_2)|exact HI0.out)) (by (with_reducible repeat (first|apply Kd.Qe|apply Kd.Qd|apply Kd.R_drew));exact HO_5.out) (by decide)) hk (fun _ h=>h.2)) (fun _ h=>h.1));have n1_:=aM (Kd.R_mono (Kd.R_keep (IsS135.apart (show IsS135 w0 _ g s0_0 x1001_4 x1002_4 from by repeat (first|(with_reducible first|exact HI0.out|apply IsS135.alloc|apply IsS135.drewN|apply IsS135.drew|apply IsS135.set_1|apply IsS135.set_2)|exact HI0.out)) (by (with_reducible repeat (first|apply Kd.Qe|apply Kd.Qd|apply Kd.R_drew));exact HO_8.out) (by decide)) hk (fun _ h=>h.2)) (fun _ h=>h.1));have n2_:=aM (KeepBut.trans (by repeat (first|(with_reducible first|exact HK.out|apply KeepBut.set_|apply keep_drewN|apply keep_drew|apply keep_alloc)|exact HK.out)) hk (.inl rfl));have n3_:=aM (hb);have n4_:=aM (hi);clear HO_5;clear HO_8;clear HK;clear HB;clear HI0;have HO_5:=n0_;have HO_8:=n1_;have HK:=n2_;have HB:=n3_;have HI0:=n4_;clear n0_ n1_ n2_ n3_ n4_;(try clear hb);(try clear hb2);(try clear hk);(try clear hi))|((with_reducible refine gate_dst (N:=77) rfl ?_);refine Kd.R_lit (Kd.int .i64) _ 3 ?hg (N:=77) ?hd (xs:=([0,20,21]:List Int)) (inner:=[.int .i64 0,.int .i64 20,.int .i64 21]) (ok:=fun _=>True) (okp:=fun _=>True) ?hr ?hp (fun _ hk=>hk) trivial (Below.refl _ _) (Nat.le_refl _) (by simp) ?_;(case hd=>rfl);(case hg=>rfl);(case hr=>first|(go_simp;done)|(go_simp;rfl));(case hp=>exact (Reps.one (show Kd.M (Kd.int .i64) _ _ _ 0 [.int .i64 0] from rfl) (Reps.one (show Kd.M (Kd.int .i64) _ _ _ 20 [.int .i64 20] from rfl) (Reps.one (show Kd.M (Kd.int .i64) _ _ _ 21 [.int .i64 21] from rfl) (Reps.none _ _)))));intro v146 w55 ho56 hb hg_ hnew_;clear hg_ hnew_;(first|rw [←Ny145.out] at ho56|(simp only [Int.reduceToNat] at ho56;rw [←Ny145.out] at ho56));have n0_:=aM (Kd.R_elder' (by (with_reducible repeat (first|apply Kd.Qe|apply Kd.Qd|apply Kd.R_drew));exact HO_5.out) (Kd.R_base ho56) hb);have n1_:=aM (Kd.R_elder' (by (with_reducible repeat (first|apply Kd.Qe|apply Kd.Qd|apply Kd.R_drew));exact HO_8.out) (Kd.R_base ho56) hb);have n2_:=aM (Kd.R_lower (Kd.R_new' (Kd.R_new' ho56 (Kd.R_lt (by (with_reducible repeat (first|apply Kd.Qe|apply Kd.Qd|apply Kd.R_drew));exact HO_5.out))) (Kd.R_lt (by (with_reducible repeat (first|apply Kd.Qe|apply Kd.Qd|apply Kd.R_drew));exact HO_8.out))) (keep_size (w:=w) (g:=g) (row:=none) (by repeat (first|(with_reducible first|exact HK.out|apply KeepBut.set_|apply keep_drewN|apply keep_drew|apply keep_alloc)|exact HK.out))));have n3_:=aM (IsS135.below (by repeat (first|(with_reducible first|exact HI0.out|apply IsS135.alloc|apply IsS135.drewN|apply IsS135.drew|apply IsS135.set_1|apply IsS135.set_2)|exact HI0.out)) hb);have n4_:=aM (KeepBut.trans (by repeat (first|(with_reducible first|exact HK.out|apply KeepBut.set_|apply keep_drewN|apply keep_drew|apply keep_alloc)|exact HK.out)) (KeepBut.of_below hb g none) (.inl rfl));have n5_:=aM (below_step (by repeat (first|(with_reducible first|exact HB.out|apply Qc|apply Qa|apply Qb|refine Qg ?_ (IsS135.ge HI0.out))|exact HB.out)) hb);clear HO_5;clear HO_8;clear HI0;clear HK;clear HB;have HO_5:=n0_;have HO_8:=n1_;have HO147:=n2_;have HI0:=n3_;have HK:=n4_;have HB:=n5_;clear n0_ n1_ n2_ n3_ n4_ n5_;clear hb ho56;obtain ⟨Ao57,co57,eo57⟩:=Kd.R_slice HO147.out;subst eo57)|((with_reducible refine Qh (f:=167) rfl ?_);refine goesL_ (some 78) rfl rfl Try.func167 (by kernel_rfl) rfl #[.pointer (some ⟨g,0,none⟩),.slice Ao57 y145.length co57] rfl (by (try simp only [aD,aE,aF]);first|done|rfl|(simp only [aG,aH];rfl)) ?_;(with_reducible refine (spec_l1Cur_among.calls g s0_0 t143 t144 _ _ y145 t148 t149 t150 w0 _ ?side1 ?side2 ?side3 ?side4 ?side5 A51.out).mono ?_);(case side1=>repeat (first|(with_reducible first|exact HI0.out|apply IsS135.alloc|apply IsS135.drewN|apply IsS135.drew|apply IsS135.set_1|apply IsS135.set_2)|exact HI0.out));(case side2=>repeat (first|(with_reducible first|exact HB.out|apply Qc|apply Qa|apply Qb|refine Qg ?_ (IsS135.ge HI0.out))|exact HB.out));(case side3=>repeat (first|exact (Kd.Qf HO147.out).2.2|(with_reducible refine Kd.C_alloc ?_ _)|(with_reducible refine Kd.C_drewN ?_ _)|(with_reducible refine Kd.C_drew ?_)));(case side4=>exact (Kd.Qf HO147.out).2.1);(case side5=>exact far_slice (IsS135.own_ne HI0.out HO147.out (by decide)));rintro e w58 ⟨rfl,hi,hb,hk⟩;refine ⟨_,rfl,?_⟩;have n0_:=aM (Kd.R_mono (Kd.R_keep (IsS135.apart (show IsS135 w0 _ g s0_0 t143 t144 from by repeat (first|(with_reducible first|exact HI0.out|apply IsS135.alloc|apply IsS135.drewN|apply IsS135.drew|apply IsS135.set_1|apply IsS135.set_2)|exact HI0.out)) (by (with_reducible repeat (first|apply Kd.Qe|apply Kd.Qd|apply Kd.R_drew));exact HO_5.out) (by decide)) hk (fun _ h=>h.2)) (fun _ h=>h.1));have n1_:=aM (Kd.R_mono (Kd.R_keep (IsS135.apart (show IsS135 w0 _ g s0_0 t143 t144 from by repeat (first|(with_reducible first|exact HI0.out|apply IsS135.alloc|apply IsS135.drewN|apply IsS135.drew|apply IsS135.set_1|apply IsS135.set_2)|exact HI0.out)) (by (with_reducible repeat (first|apply Kd.Qe|apply Kd.Qd|apply Kd.R_drew));exact HO_8.out) (by decide)) hk (fun _ h=>h.2)) (fun _ h=>h.1));have n2_:=aM (Kd.R_mono (Kd.R_keep (IsS135.apart (show IsS135 w0 _ g s0_0 t143 t144 from by repeat (first|(with_reducible first|exact HI0.out|apply IsS135.alloc|apply IsS135.drewN|apply IsS135.drew|apply IsS135.set_1|apply IsS135.set_2)|exact HI0.out)) (by (with_reducible repeat (first|apply Kd.Qe|apply Kd.Qd|apply Kd.R_drew));exact HO147.out) (by decide)) hk (fun _ h=>h.2)) (fun _ h=>h.1));have n3_:=aM (KeepBut.trans (by repeat (first|(with_reducible first|exact HK.out|apply KeepBut.set_|apply keep_drewN|apply keep_drew|apply keep_alloc)|exact HK.out)) hk (.inl rfl));have n4_:=aM (hb);have n5_:=aM (hi);clear HO_5;clear HO_8;clear HO147;clear HK;clear HB;clear HI0;have HO_5:=n0_;have HO_8:=n1_;have HO147:=n2_;have HK:=n3_;have HB:=n4_;have HI0:=n5_;clear n0_ n1_ n2_ n3_ n4_ n5_;(try clear hb);(try clear hb2);(try clear hk);(try clear hi);have p53:0≤(0:Int):=(by omega);have q53:(0:Int)<((x8_4.length:Int):Int):=of_decide_eq_true (by first|(with_reducible assumption)|assumption);have qi53:(0<x8_4.length)=True:=eq_true (by omega);obtain ⟨go53,co53,eo53,gb53,gl53,cl53,HG53⟩:=Kd.R_form HO_8.out (by omega);(first|cases eo53|(injection eo53 with ea_ en_ ec_;(first|subst ea_|(injection ea_ with ea_;subst ea_));subst ec_;clear en_));have GB53:=aM gb53;have GG53:=aM HG53;clear gb53 gl53 HG53;obtain ⟨hx53_0,hf53_0⟩:=Kd.R_celln 0 HO_8.out (0:Int) p53 q53;(try rw [show ((0:Int)).toNat=0 from rfl] at hx53_0);(try simp only [Nat.reduceMul,Nat.zero_mul,Nat.zero_add,Nat.reduceAdd] at hx53_0);(try rw [show ((0:Int)).toNat=0 from rfl] at hf53_0);(try simp only [Nat.reduceMul,Nat.zero_mul,Nat.zero_add,Nat.reduceAdd] at hf53_0);replace p53:=eq_true p53;replace q53:=eq_true q53;obtain ⟨hy59_,hz59_⟩:=Kd.R_celln 0 HO_8.out (0:Int) (by omega) (of_decide_eq_true (by first|(with_reducible assumption)|assumption));(try simp only [Int.reduceToNat,Int.toNat_zero,Int.toNat_ofNat,Nat.reduceMul,Nat.zero_mul,Nat.zero_add] at hy59_ hz59_);(try rw [show ((0:Int)).toNat=0 from rfl] at hy59_);(try rw [show ((0:Int)).toNat=0 from rfl] at hz59_);have HP59:=Kd.R_putg HO_8.out (0:Int) t148)|((with_reducible refine gate_store (t:=3) (p:=79) rfl ?_);refine store_event (t:=3) (p:=79) (v:=?vo_w60) (w1:=(w58.setCell ⟨go53,(0:Int).toNat,none⟩ (.int .i64 t148))) ?hg ?ho ?hn ?hr ?_;(case ho=>rfl);(case hg=>rfl);(case hn=>rfl);(case hr=>first|(go_simp;done)|(go_simp;rfl));intro w60 hw;have hg:w58.grownBy w60 (some go53):=(by rw [hw];exact HP59.2);have hp_:Kd.R (Kd.int .i64) 3 w60 w.heap.size (fun k_=>some k_≠(.slice Ao31 x5_3.length co31:Value).ownBlock∧some k_≠(.slice Ao57 y145.length co57:Value).ownBlock) (.slice (some ⟨go53,0,none⟩) x8_4.length co53) y151:=(by rw [hw,Ny151.out];exact HP59.1);clear HP59;have n0_:=aM (Kd.R_after (v:=(.slice (some ⟨go53,0,none⟩) x8_4.length co53)) (v1:=(.slice (some ⟨go53,0,none⟩) x8_4.length co53)) (ok:=(fun k_=>some k_≠(.slice Ao57 y145.length co57:Value).ownBlock)) (by (with_reducible repeat (first|apply Kd.Qe|apply Kd.Qd|apply Kd.R_drew));exact Kd.R_mono HO_5.out (fun _ hk=>⟨hk.2,hk.1⟩)) hg (.inl rfl));have n1_:=aM (hp_);have n2_:=aM (IsS135.grown (by repeat (first|(with_reducible first|exact HI0.out|apply IsS135.alloc|apply IsS135.drewN|apply IsS135.drew|apply IsS135.set_1|apply IsS135.set_2)|exact HI0.out)) hg (IsS135.own_ne HI0.out HO_8.out (by decide)));have n3_:=aM (Kd.R_after (v:=(.slice (some ⟨go53,0,none⟩) x8_4.length co53)) (v1:=(.slice (some ⟨go53,0,none⟩) x8_4.length co53)) (ok:=(fun k_=>some k_≠(.slice Ao31 x5_3.length co31:Value).ownBlock)) (by (with_reducible repeat (first|apply Kd.Qe|apply Kd.Qd|apply Kd.R_drew));exact Kd.R_mono HO147.out (fun _ hk=>⟨hk.1.2,hk.2⟩)) hg (.inl rfl));have n4_:=aM ((by rw [hw];exact Qg (HB.out) (Nat.le_trans HL.out GB53.out):Below w0.heap.size w0 w60));have n5_:=aM (KeepBut.trans (by repeat (first|(with_reducible first|exact HK.out|apply KeepBut.set_|apply keep_drewN|apply keep_drew|apply keep_alloc)|exact HK.out)) (KeepBut.of_grown hg g) (Kd.R_base2 HO_8.out));clear HO_5;clear HO_8;clear HI0;clear HO147;clear HB;clear HK;have HO_5:=n0_;have HO_8:=n1_;have HI0:=n2_;have HO147:=n3_;have HB:=n4_;have HK:=n5_;clear n0_ n1_ n2_ n3_ n4_ n5_;clear hg hw hp_))
                go_ret2
                exact ⟨_,_,by first|rfl|(simp [errW_none,errW_some] <;> rfl)|(simp [*,errW_none,errW_some] <;> rfl),by (with_reducible repeat (first|apply Kd.Qe|apply Kd.Qd|apply Kd.R_drew));exact Kd.R_mono HO_5.out (fun _ hk=>hk.2),by (with_reducible repeat (first|apply Kd.Qe|apply Kd.Qd|apply Kd.R_drew));exact Kd.R_mono HO_8.out (fun _ hk=>hk.1),by repeat (first|(with_reducible first|exact HI0.out|apply IsS135.alloc|apply IsS135.drewN|apply IsS135.drew|apply IsS135.set_1|apply IsS135.set_2)|exact HI0.out),by repeat (first|(with_reducible first|exact HB.out|apply Qc|apply Qa|apply Qb|refine Qg ?_ (IsS135.ge HI0.out))|exact HB.out),by repeat (first|(with_reducible first|exact HK.out|apply KeepBut.set_|apply keep_drewN|apply keep_drew|apply keep_alloc)|exact HK.out)⟩
               ·rw [if_neg c52] at H;exact absurd H (by simp)
              ·replace c50:=Bool.eq_false_iff.mpr c50;subst c50;have H1:(some (x5_3,x8_4,t143,t144))=some (r1,r2,r3,r4):=by rw [if_neg (show ¬ (false=true) by decide)] at H;exact H
               clear H;have H:=H1;clear H1;simp only [Option.some.injEq,Prod.mk.injEq] at H;obtain ⟨rfl,rfl,rfl,rfl⟩:=H;go_wp2_with (first|((with_reducible refine Qh (f:=147) rfl ?_);refine goesL_ (some 74) rfl rfl Try.func147 (by kernel_rfl) rfl #[.pointer (some ⟨g,0,none⟩),.int .i64 30] rfl (by (try simp only [aD,aE,aF]);first|done|rfl|(simp only [aG,aH];rfl)) ?_;(with_reducible refine (spec_l1Cur_one.calls g s0_0 x1001_4 x1002_4 30 false t143 t144 w0 _ ?side1 ?side2 A49.out).mono ?_);(case side1=>repeat (first|(with_reducible first|exact HI0.out|apply IsS135.alloc|apply IsS135.drewN|apply IsS135.drew|apply IsS135.set_1|apply IsS135.set_2)|exact HI0.out));(case side2=>repeat (first|(with_reducible first|exact HB.out|apply Qc|apply Qa|apply Qb|refine Qg ?_ (IsS135.ge HI0.out))|exact HB.out));rintro e w61 ⟨rfl,hi,hb,hk⟩;refine ⟨_,rfl,?_⟩;have n0_:=aM (Kd.R_mono (Kd.R_keep (IsS135.apart (show IsS135 w0 _ g s0_0 x1001_4 x1002_4 from by repeat (first|(with_reducible first|exact HI0.out|apply IsS135.alloc|apply IsS135.drewN|apply IsS135.drew|apply IsS135.set_1|apply IsS135.set_2)|exact HI0.out)) (by (with_reducible repeat (first|apply Kd.Qe|apply Kd.Qd|apply Kd.R_drew));exact HO_5.out) (by decide)) hk (fun _ h=>h.2)) (fun _ h=>h.1));have n1_:=aM (Kd.R_mono (Kd.R_keep (IsS135.apart (show IsS135 w0 _ g s0_0 x1001_4 x1002_4 from by repeat (first|(with_reducible first|exact HI0.out|apply IsS135.alloc|apply IsS135.drewN|apply IsS135.drew|apply IsS135.set_1|apply IsS135.set_2)|exact HI0.out)) (by (with_reducible repeat (first|apply Kd.Qe|apply Kd.Qd|apply Kd.R_drew));exact HO_8.out) (by decide)) hk (fun _ h=>h.2)) (fun _ h=>h.1));have n2_:=aM (KeepBut.trans (by repeat (first|(with_reducible first|exact HK.out|apply KeepBut.set_|apply keep_drewN|apply keep_drew|apply keep_alloc)|exact HK.out)) hk (.inl rfl));have n3_:=aM (hb);have n4_:=aM (hi);clear HO_5;clear HO_8;clear HK;clear HB;clear HI0;have HO_5:=n0_;have HO_8:=n1_;have HK:=n2_;have HB:=n3_;have HI0:=n4_;clear n0_ n1_ n2_ n3_ n4_;(try clear hb);(try clear hb2);(try clear hk);(try clear hi)))
               go_ret2
               exact ⟨_,_,by first|rfl|(simp [errW_none,errW_some] <;> rfl)|(simp [*,errW_none,errW_some] <;> rfl),by (with_reducible repeat (first|apply Kd.Qe|apply Kd.Qd|apply Kd.R_drew));exact HO_5.out,by (with_reducible repeat (first|apply Kd.Qe|apply Kd.Qd|apply Kd.R_drew));exact HO_8.out,by repeat (first|(with_reducible first|exact HI0.out|apply IsS135.alloc|apply IsS135.drewN|apply IsS135.drew|apply IsS135.set_1|apply IsS135.set_2)|exact HI0.out),by repeat (first|(with_reducible first|exact HB.out|apply Qc|apply Qa|apply Qb|refine Qg ?_ (IsS135.ge HI0.out))|exact HB.out),by repeat (first|(with_reducible first|exact HK.out|apply KeepBut.set_|apply keep_drewN|apply keep_drew|apply keep_alloc)|exact HK.out)⟩
          ·rw [if_neg c26] at H;exact absurd H (by simp)

def spec_DrawPlanMoves.f (k:Nat) (l0:List Int):Option (List Int×List Int):=(spec_l1Cur_spots.f k l0 0 0).bind fun bt102=>(some (bt102.1,bt102.2.1))
set_option maxHeartbeats 8000000 in
set_option maxRecDepth 100000 in
theorem spec_DrawPlanMoves.calls (k:Nat) (A0:Option Addr) (c0:Nat) (l0:List Int) (r1:List Int) (r2:List Int) (w:World) (hr0:Kd.C (Kd.int .u8) w A0 l0.length l0) (hc0:l0.length≤c0) (h:spec_DrawPlanMoves.f k l0=some (r1,r2)) :
    Calls Try.prog 108 #[.slice A0 l0.length c0] w fun e w'=>∃ v0_ v1_:Value,e= .returned (.tuple #[v0_,v1_])∧Kd.R (Kd.int .i64) 3 w' w.heap.size (fun k_=>some k_≠(v1_:Value).ownBlock) v0_ r1∧Kd.R (Kd.int .i64) 3 w' w.heap.size (fun k_=>some k_≠(v0_:Value).ownBlock) v1_ r2∧Below w.heap.size w w':=by
  have hu135:=Try.underlying135;have HR0:=aM hr0;have HC0:=aM hc0;clear hr0 hc0;have HB:=aM (Below.refl w.heap.size w);have H:((spec_l1Cur_spots.f k l0 0 0).bind fun bt102=>(some (bt102.1,bt102.2.1)))=some (r1,r2):=h;clear h;replace H:=Option.bind_eq_some_iff.mp H;obtain ⟨⟨t102,t105,t108,t109⟩,A20,H⟩:=H;replace H:(some (t102,t105))=some (r1,r2):=H;have A2:=aM A20;clear A20;simp only [Option.some.injEq,Prod.mk.injEq] at H;obtain ⟨rfl,rfl⟩:=H;go_enter Try.func108,Try.ntmps108;go_wp2_with (first|((with_reducible refine gate_dst (N:=7) rfl ?_);refine box_event ?hg (N:=7) ?hd (cs:=#[.slice A0 l0.length c0,.int .i64 0,.int .u64 0]) (t:=135) ?hr ?_;(case hd=>rfl);(case hg=>rfl);(case hr=>first|(go_simp;done)|(go_simp;rfl));intro gb101 hg w3 hbox hb;have n0_:=aM (below_step (by repeat (first|(with_reducible first|exact HB.out|apply Qc|apply Qa|apply Qb)|exact HB.out)) hb);have n1_:=aM ((show IsS135 w w3 gb101 l0 0 0 from ⟨A0,c0,hbox,(by rw [hg];exact (below_size (by repeat (first|(with_reducible first|exact HB.out|apply Qc|apply Qa|apply Qb)|exact HB.out)))),HR0.out⟩));have n2_:=aM ((by rw [hg];exact (below_size (by repeat (first|(with_reducible first|exact HB.out|apply Qc|apply Qa|apply Qb)|exact HB.out))):w.heap.size≤gb101));have n3_:=aM ((by rw [hg];exact (below_size (by repeat (first|(with_reducible first|exact HB.out|apply Qc|apply Qa|apply Qb)|exact HB.out))):w.heap.size≤gb101));clear HB;have HB:=n0_;have HI101:=n1_;have GW101:=n2_;have GE101:=n3_;clear n0_ n1_ n2_ n3_;clear hb hbox hg)|((with_reducible refine Qh (f:=240) rfl ?_);refine goesL_ (some 9) rfl rfl Try.func240 (by kernel_rfl) rfl #[.pointer (some ⟨gb101,0,none⟩)] rfl (by (try simp only [aD,aE,aF]);first|done|rfl|(simp only [aG,aH];rfl)) ?_;(with_reducible refine (spec_l1Cur_spots.calls k gb101 l0 0 0 t102 t105 t108 t109 w _ ?side1 ?side2 A2.out).mono ?_);(case side1=>repeat (first|(with_reducible first|exact HI101.out|apply IsS135.alloc|apply IsS135.drewN|apply IsS135.drew|apply IsS135.set_1|apply IsS135.set_2)|exact HI101.out));(case side2=>repeat (first|(with_reducible first|exact HB.out|apply Qc|apply Qa|apply Qb|refine Qg ?_ (IsS135.ge HI101.out))|exact HB.out));rintro e w4 ⟨v103,v106,rfl,ho0,ho1,hi,hb,hk⟩;refine ⟨_,rfl,?_⟩;have n0_:=aM (Kd.R_lower ho0 (below_size (by repeat (first|(with_reducible first|exact HB.out|apply Qc|apply Qa|apply Qb|refine Qg ?_ (IsS135.ge HI101.out))|exact HB.out))));have n1_:=aM (Kd.R_lower ho1 (below_size (by repeat (first|(with_reducible first|exact HB.out|apply Qc|apply Qa|apply Qb|refine Qg ?_ (IsS135.ge HI101.out))|exact HB.out))));have n2_:=aM (hb);have n3_:=aM (hi);clear HB;clear HI101;have HO104:=n0_;have HO107:=n1_;have HB:=n2_;have HI101:=n3_;clear n0_ n1_ n2_ n3_;(try clear hb);(try clear hb2);(try clear hk);(try clear hi);(try clear ho0);(try clear ho1)))
  go_ret2
  exact ⟨_,_,by first|rfl|(simp [errW_none,errW_some] <;> rfl)|(simp [*,errW_none,errW_some] <;> rfl),by (with_reducible repeat (first|apply Kd.Qe|apply Kd.Qd|apply Kd.R_drew));exact HO104.out,by (with_reducible repeat (first|apply Kd.Qe|apply Kd.Qd|apply Kd.R_drew));exact HO107.out,by repeat (first|(with_reducible first|exact HB.out|apply Qc|apply Qa|apply Qb|refine Qg ?_ (IsS135.ge HI101.out))|exact HB.out)⟩

def spec_DrawRingsOf.f (k:Nat) (l0:List Int):Option (List Int×List Int):=(spec_DrawPlanMoves.f k l0).bind fun bt101=>(some (bt101.1,bt101.2))
set_option maxHeartbeats 8000000 in
set_option maxRecDepth 100000 in
theorem spec_DrawRingsOf.calls (k:Nat) (A0:Option Addr) (c0:Nat) (l0:List Int) (r1:List Int) (r2:List Int) (w:World) (hr0:Kd.C (Kd.int .u8) w A0 l0.length l0) (hc0:l0.length≤c0) (h:spec_DrawRingsOf.f k l0=some (r1,r2)) :
    Calls Try.prog 50 #[.slice A0 l0.length c0] w fun e w'=>∃ v0_ v1_:Value,e= .returned (.tuple #[v0_,v1_])∧Kd.R (Kd.int .i64) 3 w' w.heap.size (fun k_=>some k_≠(v1_:Value).ownBlock) v0_ r1∧Kd.R (Kd.int .i64) 3 w' w.heap.size (fun k_=>some k_≠(v0_:Value).ownBlock) v1_ r2∧Below w.heap.size w w':=by
  have HR0:=aM hr0;have HC0:=aM hc0;clear hr0 hc0;have HB:=aM (Below.refl w.heap.size w);have H:((spec_DrawPlanMoves.f k l0).bind fun bt101=>(some (bt101.1,bt101.2)))=some (r1,r2):=h;clear h;replace H:=Option.bind_eq_some_iff.mp H;obtain ⟨⟨t101,t102⟩,A20,H⟩:=H;replace H:(some (t101,t102))=some (r1,r2):=H;have A2:=aM A20;clear A20;simp only [Option.some.injEq,Prod.mk.injEq] at H;obtain ⟨rfl,rfl⟩:=H;go_enter Try.func50,Try.ntmps50;go_wp2_with (first|((with_reducible refine Qh (f:=108) rfl ?_);refine goesL_ (some 5) rfl rfl Try.func108 (by kernel_rfl) rfl #[.slice A0 l0.length c0] rfl (by (try simp only [aD,aE,aF]);first|done|rfl|(simp only [aG,aH];rfl)) ?_;(with_reducible refine (spec_DrawPlanMoves.calls k _ _ l0 t101 t102 _ ?side1 ?side2 A2.out).mono ?_);(case side1=>repeat (first|exact HR0.out|(with_reducible refine Kd.C_alloc ?_ _)|(with_reducible refine Kd.C_drewN ?_ _)|(with_reducible refine Kd.C_drew ?_)));(case side2=>exact HC0.out);rintro e w3 ⟨v103,v105,rfl,ho0,ho1,hb⟩;refine ⟨_,rfl,?_⟩;have n0_:=aM (Kd.R_lower ho0 (below_size (by repeat (first|(with_reducible first|exact HB.out|apply Qc|apply Qa|apply Qb)|exact HB.out))));have n1_:=aM (Kd.R_lower ho1 (below_size (by repeat (first|(with_reducible first|exact HB.out|apply Qc|apply Qa|apply Qb)|exact HB.out))));have n2_:=aM (below_step (by repeat (first|(with_reducible first|exact HB.out|apply Qc|apply Qa|apply Qb)|exact HB.out)) hb);clear HB;have HO104:=n0_;have HO106:=n1_;have HB:=n2_;clear n0_ n1_ n2_;(try clear hb);(try clear hb2);(try clear hk);(try clear hi);(try clear ho0);(try clear ho1)))
  go_ret2
  exact ⟨_,_,by first|rfl|(simp [errW_none,errW_some] <;> rfl)|(simp [*,errW_none,errW_some] <;> rfl),by (with_reducible repeat (first|apply Kd.Qe|apply Kd.Qd|apply Kd.R_drew));exact HO104.out,by (with_reducible repeat (first|apply Kd.Qe|apply Kd.Qd|apply Kd.R_drew));exact HO106.out,by repeat (first|(with_reducible first|exact HB.out|apply Qc|apply Qa|apply Qb)|exact HB.out)⟩

def slices_Index_int_int.l0:Nat→List Int→Int→Int→Int→Option (Int)
  |0,_,_,_,_=>none
  |k+1,x0,x1,x7,x8=>if x8<x7 then (if 0≤x8 then (if x8<(x0.length:Int) then (if x1=(rd x0 x8) then (some x8) else (slices_Index_int_int.l0 k x0 x1 x7 (wrap64 (x8+1)))) else (none)) else (none)) else (some (-1))
def slices_Index_int_int.f (k:Nat) (l0:List Int) (a1:Int):Option (Int):=slices_Index_int_int.l0 k l0 a1 (l0.length:Int) 0
set_option maxHeartbeats 8000000 in
set_option maxRecDepth 100000 in
theorem slices_Index_int_int.calls (k:Nat) (A0:Option Addr) (c0:Nat) (l0:List Int) (a1:Int) (r:Int) (w:World) (hr0:Kd.C (Kd.int .i64) w A0 l0.length l0) (hc0:l0.length≤c0) (h:slices_Index_int_int.f k l0 a1=some r) :
    Calls Try.prog 187 #[.slice A0 l0.length c0,.int .i64 a1] w fun e w'=>e= .returned (.int .i64 r)∧Drawn0 w w':=by
  have HR0:=aM hr0;have HC0:=aM hc0;clear hr0 hc0;have H:(slices_Index_int_int.l0 k l0 a1 (l0.length:Int) 0)=some r:=h;clear h;have H':=aM H;clear H;go_enter Try.func187,Try.ntmps187;go_wp2;go_loopg [8] k (fun kq v8 w'=>∃ (x8_1:Int),v8= .int .i64 x8_1∧Aside0 (slices_Index_int_int.l0 kq l0 a1 (l0.length:Int) x8_1=some r)∧Aside0 (kq≤k)∧Drawn0 w w')
  case atStart=>exact ⟨(0),(by first|rfl|(simp;done)|(simp [*];done)),H',⟨Nat.le_refl _⟩,by repeat (first|exact Drawn0.refl _|apply Drawn0.step)⟩
  case round=>
   clear H';(try clear c1);(try clear p2);obtain ⟨x8_1,rfl,HA,HK1,⟨m1,rfl⟩⟩:=hrel
   cases gk with
   |zero=>exact absurd HA.out (by simp [slices_Index_int_int.l0])
   |succ k1=>
    have H:=HA.out;clear HA;simp only [slices_Index_int_int.l0] at H;by_cases c3:x8_1<(l0.length:Int)
    ·rw [if_pos c3] at H;have c3b0:decide (x8_1<(l0.length:Int))=true:=decide_eq_true c3;clear c3;by_cases c4:0≤x8_1
     ·rw [if_pos c4] at H;have c4b0:decide (0≤x8_1)=true:=decide_eq_true c4;clear c4;by_cases c5:x8_1<(l0.length:Int)
      ·rw [if_pos c5] at H;have c5b0:decide (x8_1<(l0.length:Int))=true:=decide_eq_true c5;clear c5;by_cases c6:a1=(rd l0 x8_1)
       ·rw [if_pos c6] at H;have c6b0:(a1 == (rd l0 x8_1))=true:=beq_iff_eq.mpr c6;have c6b1:(a1 != (rd l0 x8_1))=false:=bne_eq_false_iff_eq.mpr c6;clear c6;obtain rfl:=Option.some.inj H;have p101:0≤(x8_1:Int):=of_decide_eq_true (by first|(with_reducible assumption)|assumption);have q101:x8_1<(l0.length:Int):=of_decide_eq_true (by first|(with_reducible assumption)|assumption);obtain ⟨ad101,e101,hx101_0⟩:=Kd.at_int HR0.out x8_1 p101 q101
        cases e101
        replace p101:=eq_true p101;replace q101:=eq_true q101;go_wp2
        go_ret
        exact ⟨by first|rfl|(simp;done)|(simp [*];done),by repeat (first|exact Drawn0.refl _|apply Drawn0.step)⟩
       ·rw [if_neg c6] at H;have c6b0:(a1 == (rd l0 x8_1))=false:=beq_eq_false_iff_ne.mpr c6;have c6b1:(a1 != (rd l0 x8_1))=true:=bne_iff_ne.mpr c6;have H':=aM H;clear H;have p101:0≤(x8_1:Int):=of_decide_eq_true (by first|(with_reducible assumption)|assumption);have q101:x8_1<(l0.length:Int):=of_decide_eq_true (by first|(with_reducible assumption)|assumption);obtain ⟨ad101,e101,hx101_0⟩:=Kd.at_int HR0.out x8_1 p101 q101
        cases e101
        replace p101:=eq_true p101;replace q101:=eq_true q101;go_wp2;go_roundg k1
        case measure=>have:=HK1.out;omega
        case rel=>exact ⟨(wrap64 (x8_1+1)),(by first|rfl|(simp;done)|(simp [*];done)),H',⟨by have:=HK1.out;omega⟩,by repeat (first|exact Drawn0.refl _|apply Drawn0.step)⟩
      ·rw [if_neg c5] at H;exact absurd H (by simp)
     ·rw [if_neg c4] at H;exact absurd H (by simp)
    ·rw [if_neg c3] at H;have c3b0:decide (x8_1<(l0.length:Int))=false:=decide_eq_false c3;clear c3;obtain rfl:=Option.some.inj H;go_wp2
     go_ret
     exact ⟨by first|rfl|(simp;done)|(simp [*];done),by repeat (first|exact Drawn0.refl _|apply Drawn0.step)⟩

def slices_Equal_int_int.l0:Nat→List Int→List Int→Int→Int→Option (Bool)
  |0,_,_,_,_=>none
  |k+1,x0,x1,x12,x13=>if x13<x12 then (if 0≤x13 then (if x13<(x0.length:Int) then (if x13<(x1.length:Int) then (if (rd x0 x13)=(rd x1 x13) then (slices_Equal_int_int.l0 k x0 x1 x12 (wrap64 (x13+1))) else (some false)) else (none)) else (none)) else (none)) else (some true)
def slices_Equal_int_int.f (k:Nat) (l0:List Int) (l1:List Int):Option (Bool):=if (l0.length:Int)=(l1.length:Int) then (slices_Equal_int_int.l0 k l0 l1 (l0.length:Int) 0) else (some false)
set_option maxHeartbeats 8000000 in
set_option maxRecDepth 100000 in
theorem slices_Equal_int_int.calls (k:Nat) (A0:Option Addr) (c0:Nat) (l0:List Int) (A1:Option Addr) (c1:Nat) (l1:List Int) (r:Bool) (w:World) (hr0:Kd.C (Kd.int .i64) w A0 l0.length l0) (hc0:l0.length≤c0) (hr1:Kd.C (Kd.int .i64) w A1 l1.length l1) (hc1:l1.length≤c1) (h:slices_Equal_int_int.f k l0 l1=some r) :
    Calls Try.prog 241 #[.slice A0 l0.length c0,.slice A1 l1.length c1] w fun e w'=>e= .returned (.bool r)∧Drawn0 w w':=by
  have HR0:=aM hr0;have HC0:=aM hc0;clear hr0 hc0;have HR1:=aM hr1;have HC1:=aM hc1;clear hr1 hc1;have H:(if (l0.length:Int)=(l1.length:Int) then (slices_Equal_int_int.l0 k l0 l1 (l0.length:Int) 0) else (some false))=some r:=h;clear h;by_cases c3:(l0.length:Int)=(l1.length:Int)
  ·rw [if_pos c3] at H;have c3b0:((l0.length:Int) == (l1.length:Int))=true:=beq_iff_eq.mpr c3;have c3b1:((l0.length:Int) != (l1.length:Int))=false:=bne_eq_false_iff_eq.mpr c3;have c3b2:(l0.length == l1.length)=true:=by first|simpa using c3|(simp at c3 ⊢;omega)
   clear c3;have H':=aM H;clear H;go_enter Try.func241,Try.ntmps241;go_wp2
   repeat (go_quiet (fail);try go_wp2)
   go_loopg [13] k (fun kq v13 w'=>∃ (x13_1:Int),v13= .int .i64 x13_1∧Aside0 (slices_Equal_int_int.l0 kq l0 l1 (l0.length:Int) x13_1=some r)∧Aside0 (kq≤k)∧Drawn0 w w')
   case atStart=>exact ⟨(0),(by first|rfl|(simp;done)|(simp [*];done)),H',⟨Nat.le_refl _⟩,by repeat (first|exact Drawn0.refl _|apply Drawn0.step)⟩
   case round=>
    clear H';(try clear c1);(try clear c2);(try clear p2);(try clear c3);(try clear c3b0);(try clear c3b1);(try clear c3b2);obtain ⟨x13_1,rfl,HA,HK1,⟨m1,rfl⟩⟩:=hrel
    cases gk with
    |zero=>exact absurd HA.out (by simp [slices_Equal_int_int.l0])
    |succ k1=>
     have H:=HA.out;clear HA;simp only [slices_Equal_int_int.l0] at H;by_cases c4:x13_1<(l0.length:Int)
     ·rw [if_pos c4] at H;have c4b0:decide (x13_1<(l0.length:Int))=true:=decide_eq_true c4;clear c4;by_cases c5:0≤x13_1
      ·rw [if_pos c5] at H;have c5b0:decide (0≤x13_1)=true:=decide_eq_true c5;clear c5;by_cases c6:x13_1<(l0.length:Int)
       ·rw [if_pos c6] at H;have c6b0:decide (x13_1<(l0.length:Int))=true:=decide_eq_true c6;clear c6;by_cases c7:x13_1<(l1.length:Int)
        ·rw [if_pos c7] at H;have c7b0:decide (x13_1<(l1.length:Int))=true:=decide_eq_true c7;clear c7;by_cases c8:(rd l0 x13_1)=(rd l1 x13_1)
         ·rw [if_pos c8] at H;have c8b0:((rd l0 x13_1) == (rd l1 x13_1))=true:=beq_iff_eq.mpr c8;have c8b1:((rd l0 x13_1) != (rd l1 x13_1))=false:=bne_eq_false_iff_eq.mpr c8;clear c8;have H':=aM H;clear H;have p101:0≤(x13_1:Int):=of_decide_eq_true (by first|(with_reducible assumption)|assumption);have q101:x13_1<(l0.length:Int):=of_decide_eq_true (by first|(with_reducible assumption)|assumption);obtain ⟨ad101,e101,hx101_0⟩:=Kd.at_int HR0.out x13_1 p101 q101
          cases e101
          replace p101:=eq_true p101;replace q101:=eq_true q101;have p102:0≤(x13_1:Int):=of_decide_eq_true (by first|(with_reducible assumption)|assumption);have q102:x13_1<(l1.length:Int):=of_decide_eq_true (by first|(with_reducible assumption)|assumption);obtain ⟨ad102,e102,hx102_0⟩:=Kd.at_int HR1.out x13_1 p102 q102
          cases e102
          replace p102:=eq_true p102;replace q102:=eq_true q102;go_wp2
          repeat (go_quiet (fail);try go_wp2)
          go_roundg k1
          case measure=>have:=HK1.out;omega
          case rel=>exact ⟨(wrap64 (x13_1+1)),(by first|rfl|(simp;done)|(simp [*];done)),H',⟨by have:=HK1.out;omega⟩,by repeat (first|exact Drawn0.refl _|apply Drawn0.step)⟩
         ·rw [if_neg c8] at H;have c8b0:((rd l0 x13_1) == (rd l1 x13_1))=false:=beq_eq_false_iff_ne.mpr c8;have c8b1:((rd l0 x13_1) != (rd l1 x13_1))=true:=bne_iff_ne.mpr c8;obtain rfl:=Option.some.inj H;have p101:0≤(x13_1:Int):=of_decide_eq_true (by first|(with_reducible assumption)|assumption);have q101:x13_1<(l0.length:Int):=of_decide_eq_true (by first|(with_reducible assumption)|assumption);obtain ⟨ad101,e101,hx101_0⟩:=Kd.at_int HR0.out x13_1 p101 q101
          cases e101
          replace p101:=eq_true p101;replace q101:=eq_true q101;have p102:0≤(x13_1:Int):=of_decide_eq_true (by first|(with_reducible assumption)|assumption);have q102:x13_1<(l1.length:Int):=of_decide_eq_true (by first|(with_reducible assumption)|assumption);obtain ⟨ad102,e102,hx102_0⟩:=Kd.at_int HR1.out x13_1 p102 q102
          cases e102
          replace p102:=eq_true p102;replace q102:=eq_true q102;go_wp2
          repeat (go_quiet (fail);try go_wp2)
          go_ret
          exact ⟨by first|rfl|(simp;done)|(simp [*];done),by repeat (first|exact Drawn0.refl _|apply Drawn0.step)⟩
        ·rw [if_neg c7] at H;exact absurd H (by simp)
       ·rw [if_neg c6] at H;exact absurd H (by simp)
      ·rw [if_neg c5] at H;exact absurd H (by simp)
     ·rw [if_neg c4] at H;have c4b0:decide (x13_1<(l0.length:Int))=false:=decide_eq_false c4;clear c4;obtain rfl:=Option.some.inj H;go_wp2
      repeat (go_quiet (fail);try go_wp2)
      go_ret
      exact ⟨by first|rfl|(simp;done)|(simp [*];done),by repeat (first|exact Drawn0.refl _|apply Drawn0.step)⟩
  ·rw [if_neg c3] at H;have c3b0:((l0.length:Int) == (l1.length:Int))=false:=beq_eq_false_iff_ne.mpr c3;have c3b1:((l0.length:Int) != (l1.length:Int))=true:=bne_iff_ne.mpr c3;have c3b2:(l0.length == l1.length)=false:=by first|simpa using c3|(simp at c3 ⊢;omega)
   obtain rfl:=Option.some.inj H;go_enter Try.func241,Try.ntmps241;go_wp2
   repeat (go_quiet (fail);try go_wp2)
   go_ret
   exact ⟨by first|rfl|(simp;done)|(simp [*];done),by repeat (first|exact Drawn0.refl _|apply Drawn0.step)⟩

def impl_within.f (a0:Int) (a1:Int) (a2:Int):Option (Bool):=if a0 ≥ a1 then (some (decide (a0≤a2))) else (some false)
set_option maxHeartbeats 8000000 in
set_option maxRecDepth 100000 in
theorem impl_within.calls (a0:Int) (a1:Int) (a2:Int) (r:Bool) (w:World) (h:impl_within.f a0 a1 a2=some r) :
    Calls Try.prog 165 #[.int .i64 a0,.int .i64 a1,.int .i64 a2] w fun e w'=>e= .returned (.bool r)∧Drawn0 w w':=by
  have H:(if a0 ≥ a1 then (some (decide (a0≤a2))) else (some false))=some r:=h;clear h;by_cases c4:a0 ≥ a1
  ·rw [if_pos c4] at H;have c4b0:decide (a1≤a0)=true:=decide_eq_true c4;clear c4;obtain rfl:=Option.some.inj H;go_enter Try.func165,Try.ntmps165;go_wp2
   go_ret
   exact ⟨by first|rfl|(simp;done)|(simp [*];done),by repeat (first|exact Drawn0.refl _|apply Drawn0.step)⟩
  ·rw [if_neg c4] at H;have c4b0:decide (a1≤a0)=false:=decide_eq_false c4;clear c4;obtain rfl:=Option.some.inj H;go_enter Try.func165,Try.ntmps165;go_wp2
   go_ret
   exact ⟨by first|rfl|(simp;done)|(simp [*];done),by repeat (first|exact Drawn0.refl _|apply Drawn0.step)⟩

def impl_allWithin_1.f (a0:Int) (a1_0_0:Int) (a2_0_0:Int):Option (Bool):=(impl_within.f a0 a1_0_0 a2_0_0).bind fun t101=>(some (!t101))
set_option maxHeartbeats 8000000 in
set_option maxRecDepth 100000 in
theorem impl_allWithin_1.calls (a0:Int) (g1_0:Nat) (a1_0_0:Int) (g2_0:Nat) (a2_0_0:Int) (r:Bool) (w:World) (hg1_0:w.heap[g1_0]? = some (.cells #[.int .i64 a1_0_0] 3 (0,0))) (hg2_0:w.heap[g2_0]? = some (.cells #[.int .i64 a2_0_0] 3 (0,0))) (h:impl_allWithin_1.f a0 a1_0_0 a2_0_0=some r) :
    Calls Try.prog 265 #[.int .i64 a0,.pointer (some ⟨g1_0,0,none⟩),.pointer (some ⟨g2_0,0,none⟩)] w fun e w'=>e= .returned (.bool r)∧Drawn0 w w':=by
  have BK46:=aM hg1_0;clear hg1_0;have BK52:=aM hg2_0;clear hg2_0;have H:((impl_within.f a0 a1_0_0 a2_0_0).bind fun t101=>(some (!t101)))=some r:=h;clear h;replace H:=Option.bind_eq_some_iff.mp H;obtain ⟨t101,A40,H⟩:=H;replace H:(some (!t101))=some r:=H;have A4:=aM A40;clear A40;obtain rfl:=Option.some.inj H;have hcz5_0:w.cell? ⟨g1_0,0,none⟩=some (.int .i64 a1_0_0):=(blk_cell BK46.out 0).trans rfl;have hfz5_0:=blk_frozen BK46.out 0;have hcz6_0:w.cell? ⟨g2_0,0,none⟩=some (.int .i64 a2_0_0):=(blk_cell BK52.out 0).trans rfl;have hfz6_0:=blk_frozen BK52.out 0;go_enter Try.func265,Try.ntmps265;go_wp2_with (first|((with_reducible refine Qh (f:=165) rfl ?_);refine goesL_ (some 8) rfl rfl Try.func165 (by kernel_rfl) rfl #[.int .i64 a0,.int .i64 a1_0_0,.int .i64 a2_0_0] rfl (by (try simp only [aD,aE,aF]);first|done|rfl|(simp only [aG,aH];rfl)) ?_;(with_reducible refine (impl_within.calls a0 a1_0_0 a2_0_0 t101 _ A4.out).mono ?_);rintro e w' ⟨rfl,⟨nd,rfl⟩⟩;refine ⟨_,rfl,?_⟩))
  go_ret
  exact ⟨by first|rfl|(simp;done)|(simp [*];done),by repeat (first|exact Drawn0.refl _|apply Drawn0.step)⟩

def sl1_IndexFunc.l0:Nat→List Int→Int→Int→Int→Int→Option (Int)
  |0,_,_,_,_,_=>none
  |k+1,x0,x7,x8,x47000,x48000=>if x8<x7 then (if 0≤x8 then (if x8<(x0.length:Int) then ((impl_allWithin_1.f (rd x0 x8) x47000 x48000).bind fun t102=>(if t102=true then (some x8) else (sl1_IndexFunc.l0 k x0 x7 (wrap64 (x8+1)) x47000 x48000))) else (none)) else (none)) else (some (-1))
def sl1_IndexFunc.f (k:Nat) (l0:List Int) (a1_0_0:Int) (a1_1_0:Int):Option (Int):=sl1_IndexFunc.l0 k l0 (l0.length:Int) 0 a1_0_0 a1_1_0
set_option maxHeartbeats 8000000 in
set_option maxRecDepth 100000 in
theorem sl1_IndexFunc.calls (k:Nat) (A0:Option Addr) (c0:Nat) (l0:List Int) (g1_0:Nat) (a1_0_0:Int) (g1_1:Nat) (a1_1_0:Int) (r:Int) (w:World) (hr0:Kd.C (Kd.int .i64) w A0 l0.length l0) (hc0:l0.length≤c0) (hg1_0:w.heap[g1_0]? = some (.cells #[.int .i64 a1_0_0] 3 (0,0))) (hg1_1:w.heap[g1_1]? = some (.cells #[.int .i64 a1_1_0] 3 (0,0))) (h:sl1_IndexFunc.f k l0 a1_0_0 a1_1_0=some r) :
    Calls Try.prog 306 #[.slice A0 l0.length c0,.func (.func 265) #[] #[.pointer (some ⟨g1_0,0,none⟩),.pointer (some ⟨g1_1,0,none⟩)]] w fun e w'=>e= .returned (.int .i64 r)∧Below w.heap.size w w':=by
  have HR0:=aM hr0;have HC0:=aM hc0;clear hr0 hc0;have BK46:=aM hg1_0;clear hg1_0;have BK47:=aM hg1_1;clear hg1_1;have HB:=aM (Below.refl w.heap.size w);have H:(sl1_IndexFunc.l0 k l0 (l0.length:Int) 0 a1_0_0 a1_1_0)=some r:=h;clear h;have H':=aM H;clear H;go_enter Try.func306,Try.ntmps306;go_wp2;go_loopg [8] k (fun kq v8 w'=>∃ (x8_1:Int),v8= .int .i64 x8_1∧Aside0 (sl1_IndexFunc.l0 kq l0 (l0.length:Int) x8_1 a1_0_0 a1_1_0=some r)∧Aside0 (kq≤k)∧Aside0 (w'.heap[g1_0]? = some (.cells #[.int .i64 a1_0_0] 3 (0,0)))∧Aside0 (w'.heap[g1_1]? = some (.cells #[.int .i64 a1_1_0] 3 (0,0)))∧Aside0 (Below w.heap.size w w'))
  case atStart=>exact ⟨(0),(by first|rfl|(simp;done)|(simp [*];done)),H',⟨Nat.le_refl _⟩,⟨by (with_reducible repeat (first|apply blk_drewN|apply blk_drew|apply blk_alloc));exact BK46.out⟩,⟨by (with_reducible repeat (first|apply blk_drewN|apply blk_drew|apply blk_alloc));exact BK47.out⟩,⟨by repeat (first|(with_reducible first|exact HB.out|apply Qc|apply Qa|apply Qb|refine Qg ?_ GE46.out|refine Qg ?_ GE47.out)|exact HB.out)⟩⟩
  case round=>
   clear H';(try clear p2);obtain ⟨x8_1,rfl,HA,HK1,BK46,BK47,HB⟩:=hrel
   cases gk with
   |zero=>exact absurd HA.out (by simp [sl1_IndexFunc.l0])
   |succ k1=>
    have H:=HA.out;clear HA;simp only [sl1_IndexFunc.l0] at H;by_cases c3:x8_1<(l0.length:Int)
    ·rw [if_pos c3] at H;have c3b0:decide (x8_1<(l0.length:Int))=true:=decide_eq_true c3;clear c3;by_cases c4:0≤x8_1
     ·rw [if_pos c4] at H;have c4b0:decide (0≤x8_1)=true:=decide_eq_true c4;clear c4;by_cases c5:x8_1<(l0.length:Int)
      ·rw [if_pos c5] at H;have c5b0:decide (x8_1<(l0.length:Int))=true:=decide_eq_true c5;clear c5;replace H:=Option.bind_eq_some_iff.mp H;obtain ⟨t102,A60,H⟩:=H;replace H:(if t102=true then (some x8_1) else (sl1_IndexFunc.l0 k1 l0 (l0.length:Int) (wrap64 (x8_1+1)) a1_0_0 a1_1_0))=some r:=H;have A6:=aM A60;clear A60;by_cases c7:t102=true
       ·subst c7;have H1:(some x8_1)=some r:=by rw [if_pos rfl] at H;exact H
        clear H;have H:=H1;clear H1;obtain rfl:=Option.some.inj H;have p101:0≤(x8_1:Int):=of_decide_eq_true (by first|(with_reducible assumption)|assumption);have q101:x8_1<(l0.length:Int):=of_decide_eq_true (by first|(with_reducible assumption)|assumption);obtain ⟨ad101,e101,hx101_0⟩:=Kd.at_int HR0.out x8_1 p101 q101
        cases e101
        replace hx101_0:=(HB.out.cell (aI w _ hx101_0)).trans hx101_0;replace p101:=eq_true p101;replace q101:=eq_true q101;go_wp2_with (first|(go_at_call 265;(with_reducible refine (impl_allWithin_1.calls (rd l0 x8_1) g1_0 a1_0_0 g1_1 a1_1_0 true _ ?side1 ?side2 A6.out).mono ?_);(case side1=>exact (by (with_reducible repeat (first|apply blk_drewN|apply blk_drew|apply blk_alloc));exact BK46.out));(case side2=>exact (by (with_reducible repeat (first|apply blk_drewN|apply blk_drew|apply blk_alloc));exact BK47.out));rintro e w' ⟨rfl,⟨nd,rfl⟩⟩))
        go_ret
        exact ⟨by first|rfl|(simp [errW_none,errW_some] <;> rfl)|(simp [*,errW_none,errW_some] <;> rfl),by repeat (first|(with_reducible first|exact HB.out|apply Qc|apply Qa|apply Qb|refine Qg ?_ GE46.out|refine Qg ?_ GE47.out)|exact HB.out)⟩
       ·replace c7:=Bool.eq_false_iff.mpr c7;subst c7;have H1:(sl1_IndexFunc.l0 k1 l0 (l0.length:Int) (wrap64 (x8_1+1)) a1_0_0 a1_1_0)=some r:=by rw [if_neg (show ¬ (false=true) by decide)] at H;exact H
        clear H;have H:=H1;clear H1;have H':=aM H;clear H;have p101:0≤(x8_1:Int):=of_decide_eq_true (by first|(with_reducible assumption)|assumption);have q101:x8_1<(l0.length:Int):=of_decide_eq_true (by first|(with_reducible assumption)|assumption);obtain ⟨ad101,e101,hx101_0⟩:=Kd.at_int HR0.out x8_1 p101 q101
        cases e101
        replace hx101_0:=(HB.out.cell (aI w _ hx101_0)).trans hx101_0;replace p101:=eq_true p101;replace q101:=eq_true q101;go_wp2_with (first|(go_at_call 265;(with_reducible refine (impl_allWithin_1.calls (rd l0 x8_1) g1_0 a1_0_0 g1_1 a1_1_0 false _ ?side1 ?side2 A6.out).mono ?_);(case side1=>exact (by (with_reducible repeat (first|apply blk_drewN|apply blk_drew|apply blk_alloc));exact BK46.out));(case side2=>exact (by (with_reducible repeat (first|apply blk_drewN|apply blk_drew|apply blk_alloc));exact BK47.out));rintro e w' ⟨rfl,⟨nd,rfl⟩⟩))
        go_roundg k1
        case measure=>have:=HK1.out;omega
        case rel=>exact ⟨(wrap64 (x8_1+1)),(by first|rfl|(simp;done)|(simp [*];done)),H',⟨by have:=HK1.out;omega⟩,⟨by (with_reducible repeat (first|apply blk_drewN|apply blk_drew|apply blk_alloc));exact BK46.out⟩,⟨by (with_reducible repeat (first|apply blk_drewN|apply blk_drew|apply blk_alloc));exact BK47.out⟩,⟨by repeat (first|(with_reducible first|exact HB.out|apply Qc|apply Qa|apply Qb|refine Qg ?_ GE46.out|refine Qg ?_ GE47.out)|exact HB.out)⟩⟩
      ·rw [if_neg c5] at H;exact absurd H (by simp)
     ·rw [if_neg c4] at H;exact absurd H (by simp)
    ·rw [if_neg c3] at H;have c3b0:decide (x8_1<(l0.length:Int))=false:=decide_eq_false c3;clear c3;obtain rfl:=Option.some.inj H;go_wp2
     go_ret
     exact ⟨by first|rfl|(simp [errW_none,errW_some] <;> rfl)|(simp [*,errW_none,errW_some] <;> rfl),by repeat (first|(with_reducible first|exact HB.out|apply Qc|apply Qa|apply Qb|refine Qg ?_ GE46.out|refine Qg ?_ GE47.out)|exact HB.out)⟩

def sl0_ContainsFunc.f (k:Nat) (l0:List Int) (a1_0_0:Int) (a1_1_0:Int):Option (Bool):=(sl1_IndexFunc.f k l0 a1_0_0 a1_1_0).bind fun t101=>(some (decide (t101 ≥ 0)))
set_option maxHeartbeats 8000000 in
set_option maxRecDepth 100000 in
theorem sl0_ContainsFunc.calls (k:Nat) (A0:Option Addr) (c0:Nat) (l0:List Int) (g1_0:Nat) (a1_0_0:Int) (g1_1:Nat) (a1_1_0:Int) (r:Bool) (w:World) (hr0:Kd.C (Kd.int .i64) w A0 l0.length l0) (hc0:l0.length≤c0) (hg1_0:w.heap[g1_0]? = some (.cells #[.int .i64 a1_0_0] 3 (0,0))) (hg1_1:w.heap[g1_1]? = some (.cells #[.int .i64 a1_1_0] 3 (0,0))) (h:sl0_ContainsFunc.f k l0 a1_0_0 a1_1_0=some r) :
    Calls Try.prog 264 #[.slice A0 l0.length c0,.func (.func 265) #[] #[.pointer (some ⟨g1_0,0,none⟩),.pointer (some ⟨g1_1,0,none⟩)]] w fun e w'=>e= .returned (.bool r)∧Below w.heap.size w w':=by
  have HR0:=aM hr0;have HC0:=aM hc0;clear hr0 hc0;have BK46:=aM hg1_0;clear hg1_0;have BK47:=aM hg1_1;clear hg1_1;have HB:=aM (Below.refl w.heap.size w);have H:((sl1_IndexFunc.f k l0 a1_0_0 a1_1_0).bind fun t101=>(some (decide (t101 ≥ 0))))=some r:=h;clear h;replace H:=Option.bind_eq_some_iff.mp H;obtain ⟨t101,A30,H⟩:=H;replace H:(some (decide (t101 ≥ 0)))=some r:=H;have A3:=aM A30;clear A30;obtain rfl:=Option.some.inj H;go_enter Try.func264,Try.ntmps264;go_wp2_with (first|((with_reducible refine Qh (f:=306) rfl ?_);refine goesL_ (some 7) rfl rfl Try.func306 (by kernel_rfl) rfl #[.slice A0 l0.length c0,.func (.func 265) #[] #[.pointer (some ⟨g1_0,0,none⟩),.pointer (some ⟨g1_1,0,none⟩)]] rfl (by (try simp only [aD,aE,aF]);first|done|rfl|(simp only [aG,aH];rfl)) ?_;(with_reducible refine (sl1_IndexFunc.calls k _ _ l0 g1_0 a1_0_0 g1_1 a1_1_0 t101 _ ?side1 ?side2 ?side3 ?side4 A3.out).mono ?_);(case side1=>repeat (first|exact HR0.out|(with_reducible refine Kd.C_alloc ?_ _)|(with_reducible refine Kd.C_drewN ?_ _)|(with_reducible refine Kd.C_drew ?_)));(case side2=>exact HC0.out);(case side3=>exact (by (with_reducible repeat (first|apply blk_drewN|apply blk_drew|apply blk_alloc));exact BK46.out));(case side4=>exact (by (with_reducible repeat (first|apply blk_drewN|apply blk_drew|apply blk_alloc));exact BK47.out));rintro e w4 ⟨rfl,hb⟩;refine ⟨_,rfl,?_⟩;have n0_:=aM (blk_below (g:=g1_0) (o:= .cells #[.int .i64 a1_0_0] 3 (0,0)) (by (with_reducible repeat (first|apply blk_drewN|apply blk_drew|apply blk_alloc));exact BK46.out) hb);have n1_:=aM (blk_below (g:=g1_1) (o:= .cells #[.int .i64 a1_1_0] 3 (0,0)) (by (with_reducible repeat (first|apply blk_drewN|apply blk_drew|apply blk_alloc));exact BK47.out) hb);have n2_:=aM (below_step (by repeat (first|(with_reducible first|exact HB.out|apply Qc|apply Qa|apply Qb|refine Qg ?_ GE46.out|refine Qg ?_ GE47.out)|exact HB.out)) hb);clear BK46;clear BK47;clear HB;have BK46:=n0_;have BK47:=n1_;have HB:=n2_;clear n0_ n1_ n2_;(try clear hb);(try clear hb2);(try clear hk);(try clear hi)))
  go_ret
  exact ⟨by first|rfl|(simp [errW_none,errW_some] <;> rfl)|(simp [*,errW_none,errW_some] <;> rfl),by repeat (first|(with_reducible first|exact HB.out|apply Qc|apply Qa|apply Qb|refine Qg ?_ GE46.out|refine Qg ?_ GE47.out)|exact HB.out)⟩

def impl_allWithin.f (k:Nat) (l0:List Int) (a1:Int) (a2:Int):Option (Bool):=(sl0_ContainsFunc.f k l0 a1 a2).bind fun t103=>(some (!t103))
set_option maxHeartbeats 8000000 in
set_option maxRecDepth 100000 in
theorem impl_allWithin.calls (k:Nat) (A0:Option Addr) (c0:Nat) (l0:List Int) (a1:Int) (a2:Int) (r:Bool) (w:World) (hr0:Kd.C (Kd.int .i64) w A0 l0.length l0) (hc0:l0.length≤c0) (h:impl_allWithin.f k l0 a1 a2=some r) :
    Calls Try.prog 149 #[.slice A0 l0.length c0,.int .i64 a1,.int .i64 a2] w fun e w'=>e= .returned (.bool r)∧Below w.heap.size w w':=by
  have hmf:∀ (fn:Fn) (first cap:Array Value) (w:World),(Instr.makeFunc fn first cap).run Try.prog w= .ok (.func fn first cap) w:=fun _ _ _ _=>rfl
  have HR0:=aM hr0;have HC0:=aM hc0;clear hr0 hc0;have HB:=aM (Below.refl w.heap.size w);have H:((sl0_ContainsFunc.f k l0 a1 a2).bind fun t103=>(some (!t103)))=some r:=h;clear h;replace H:=Option.bind_eq_some_iff.mp H;obtain ⟨t103,A40,H⟩:=H;replace H:(some (!t103))=some r:=H;have A4:=aM A40;clear A40;obtain rfl:=Option.some.inj H;go_enter Try.func149,Try.ntmps149;go_wp2_with (first|((with_reducible refine gate_dst (N:=4) rfl ?_);refine box_event ?hg (N:=4) ?hd (cs:=#[.int .i64 a1]) (t:=3) ?hr ?_;(case hd=>rfl);(case hg=>rfl);(case hr=>first|(go_simp;done)|(go_simp;rfl));intro gb101 hg w5 hbox hb;have n0_:=aM (below_step (by repeat (first|(with_reducible first|exact HB.out|apply Qc|apply Qa|apply Qb)|exact HB.out)) hb);have n1_:=aM (hbox);have n2_:=aM ((by rw [hg];exact (below_size (by repeat (first|(with_reducible first|exact HB.out|apply Qc|apply Qa|apply Qb)|exact HB.out))):w.heap.size≤gb101));have n3_:=aM ((by rw [hg];exact (below_size (by repeat (first|(with_reducible first|exact HB.out|apply Qc|apply Qa|apply Qb)|exact HB.out))):w.heap.size≤gb101));clear HB;have HB:=n0_;have BK101:=n1_;have GW101:=n2_;have GE101:=n3_;clear n0_ n1_ n2_ n3_;clear hb hbox hg)|((with_reducible refine gate_dst (N:=5) rfl ?_);refine box_event ?hg (N:=5) ?hd (cs:=#[.int .i64 a2]) (t:=3) ?hr ?_;(case hd=>rfl);(case hg=>rfl);(case hr=>first|(go_simp;done)|(go_simp;rfl));intro gb102 hg w6 hbox hb;have n0_:=aM (blk_below (g:=gb101) (o:= .cells #[.int .i64 a1] 3 (0,0)) (by (with_reducible repeat (first|apply blk_drewN|apply blk_drew|apply blk_alloc));exact BK101.out) hb);have n1_:=aM (below_step (by repeat (first|(with_reducible first|exact HB.out|apply Qc|apply Qa|apply Qb|refine Qg ?_ GE101.out)|exact HB.out)) hb);have n2_:=aM (hbox);have n3_:=aM ((by rw [hg];exact (below_size (by repeat (first|(with_reducible first|exact HB.out|apply Qc|apply Qa|apply Qb|refine Qg ?_ GE101.out)|exact HB.out))):w.heap.size≤gb102));have n4_:=aM ((by rw [hg];exact (below_size (by repeat (first|(with_reducible first|exact HB.out|apply Qc|apply Qa|apply Qb|refine Qg ?_ GE101.out)|exact HB.out))):w.heap.size≤gb102));have n5_:=aM ((by rw [hg];exact Nat.ne_of_lt (blk_lt (g:=gb101) (o:= .cells #[.int .i64 a1] 3 (0,0)) (by (with_reducible repeat (first|apply blk_drewN|apply blk_drew|apply blk_alloc));exact BK101.out)):gb101≠gb102));have n6_:=aM ((by rw [hg];exact Nat.ne_of_gt (blk_lt (g:=gb101) (o:= .cells #[.int .i64 a1] 3 (0,0)) (by (with_reducible repeat (first|apply blk_drewN|apply blk_drew|apply blk_alloc));exact BK101.out)):gb102≠gb101));clear BK101;clear HB;have BK101:=n0_;have HB:=n1_;have BK102:=n2_;have GW102:=n3_;have GE102:=n4_;have NB101_102:=n5_;have NB102_101:=n6_;clear n0_ n1_ n2_ n3_ n4_ n5_ n6_;clear hb hbox hg)|((with_reducible refine Qh (f:=264) rfl ?_);refine goesL_ (some 9) rfl rfl Try.func264 (by kernel_rfl) rfl #[.slice A0 l0.length c0,.func (.func 265) #[] #[.pointer (some ⟨gb101,0,none⟩),.pointer (some ⟨gb102,0,none⟩)]] rfl (by (try simp only [aD,aE,aF]);first|done|rfl|(simp only [aG,aH];rfl)) ?_;(with_reducible refine (sl0_ContainsFunc.calls k _ _ l0 gb101 a1 gb102 a2 t103 _ ?side1 ?side2 ?side3 ?side4 A4.out).mono ?_);(case side1=>repeat (first|exact (Kd.C_below HR0.out HB.out)|(with_reducible refine Kd.C_alloc ?_ _)|(with_reducible refine Kd.C_drewN ?_ _)|(with_reducible refine Kd.C_drew ?_)));(case side2=>exact HC0.out);(case side3=>exact (by (with_reducible repeat (first|apply blk_drewN|apply blk_drew|apply blk_alloc));exact BK101.out));(case side4=>exact (by (with_reducible repeat (first|apply blk_drewN|apply blk_drew|apply blk_alloc));exact BK102.out));rintro e w7 ⟨rfl,hb⟩;refine ⟨_,rfl,?_⟩;have n0_:=aM (blk_below (g:=gb101) (o:= .cells #[.int .i64 a1] 3 (0,0)) (by (with_reducible repeat (first|apply blk_drewN|apply blk_drew|apply blk_alloc));exact BK101.out) hb);have n1_:=aM (blk_below (g:=gb102) (o:= .cells #[.int .i64 a2] 3 (0,0)) (by (with_reducible repeat (first|apply blk_drewN|apply blk_drew|apply blk_alloc));exact BK102.out) hb);have n2_:=aM (below_step (by repeat (first|(with_reducible first|exact HB.out|apply Qc|apply Qa|apply Qb|refine Qg ?_ GE101.out|refine Qg ?_ GE102.out)|exact HB.out)) hb);clear BK101;clear BK102;clear HB;have BK101:=n0_;have BK102:=n1_;have HB:=n2_;clear n0_ n1_ n2_;(try clear hb);(try clear hb2);(try clear hk);(try clear hi)))
  go_ret
  exact ⟨by first|rfl|(simp [errW_none,errW_some] <;> rfl)|(simp [*,errW_none,errW_some] <;> rfl),by repeat (first|(with_reducible first|exact HB.out|apply Qc|apply Qa|apply Qb|refine Qg ?_ GE101.out|refine Qg ?_ GE102.out)|exact HB.out)⟩

def slices_Contains_int_int.f (k:Nat) (l0:List Int) (a1:Int):Option (Bool):=(slices_Index_int_int.f k l0 a1).bind fun t101=>(some (decide (t101 ≥ 0)))
set_option maxHeartbeats 8000000 in
set_option maxRecDepth 100000 in
theorem slices_Contains_int_int.calls (k:Nat) (A0:Option Addr) (c0:Nat) (l0:List Int) (a1:Int) (r:Bool) (w:World) (hr0:Kd.C (Kd.int .i64) w A0 l0.length l0) (hc0:l0.length≤c0) (h:slices_Contains_int_int.f k l0 a1=some r) :
    Calls Try.prog 150 #[.slice A0 l0.length c0,.int .i64 a1] w fun e w'=>e= .returned (.bool r)∧Drawn0 w w':=by
  have HR0:=aM hr0;have HC0:=aM hc0;clear hr0 hc0;have H:((slices_Index_int_int.f k l0 a1).bind fun t101=>(some (decide (t101 ≥ 0))))=some r:=h;clear h;replace H:=Option.bind_eq_some_iff.mp H;obtain ⟨t101,A30,H⟩:=H;replace H:(some (decide (t101 ≥ 0)))=some r:=H;have A3:=aM A30;clear A30;obtain rfl:=Option.some.inj H;go_enter Try.func150,Try.ntmps150;go_wp2_with (first|((with_reducible refine Qh (f:=187) rfl ?_);refine goesL_ (some 7) rfl rfl Try.func187 (by kernel_rfl) rfl #[.slice A0 l0.length c0,.int .i64 a1] rfl (by (try simp only [aD,aE,aF]);first|done|rfl|(simp only [aG,aH];rfl)) ?_;(with_reducible refine (slices_Index_int_int.calls k _ _ l0 a1 t101 _ ?side1 ?side2 A3.out).mono ?_);(case side1=>repeat (first|exact HR0.out|(with_reducible refine Kd.C_alloc ?_ _)|(with_reducible refine Kd.C_drewN ?_ _)|(with_reducible refine Kd.C_drew ?_)));(case side2=>exact HC0.out);rintro e w' ⟨rfl,⟨nd,rfl⟩⟩;refine ⟨_,rfl,?_⟩))
  go_ret
  exact ⟨by first|rfl|(simp;done)|(simp [*];done),by repeat (first|exact Drawn0.refl _|apply Drawn0.step)⟩

def impl_GoodSpots.l0:Nat→List Int→List Int→Int→Int→Option (Bool)
  |0,_,_,_,_=>none
  |k+1,x0,x5,x6,x7=>if x7<x6 then (if 0≤x7 then (if x7<(x5.length:Int) then (if (rd x5 x7)=0 then (impl_GoodSpots.l0 k x0 x5 x6 (wrap64 (x7+1))) else (if x7≤(x0.length:Int) then ((slices_Contains_int_int.f k (x0.take (x7:Int).toNat) (rd x5 x7)).bind fun t103=>(if t103=true then (some false) else (impl_GoodSpots.l0 k x0 x5 x6 (wrap64 (x7+1))))) else (none))) else (none)) else (none)) else ((impl_within.f (x0.length:Int) 2 9).bind fun t104=>(if t104=true then ((impl_allWithin.f k x0 0 20).bind fun t105=>(if t105=true then ((slices_Contains_int_int.f k x0 0).bind fun t106=>(some t106)) else (some false))) else (some false)))
def impl_GoodSpots.f (k:Nat) (l0:List Int):Option (Bool):=impl_GoodSpots.l0 k l0 l0 (l0.length:Int) 0
set_option maxHeartbeats 8000000 in
set_option maxRecDepth 100000 in
theorem impl_GoodSpots.calls (k:Nat) (A0:Option Addr) (c0:Nat) (l0:List Int) (r:Bool) (w:World) (hr0:Kd.C (Kd.int .i64) w A0 l0.length l0) (hc0:l0.length≤c0) (h:impl_GoodSpots.f k l0=some r) :
    Calls Try.prog 113 #[.slice A0 l0.length c0] w fun e w'=>e= .returned (.bool r)∧Below w.heap.size w w':=by
  have HR0:=aM hr0;have HC0:=aM hc0;clear hr0 hc0;have HB:=aM (Below.refl w.heap.size w);have H:(impl_GoodSpots.l0 k l0 l0 (l0.length:Int) 0)=some r:=h;clear h;have H':=aM H;clear H;go_enter Try.func113,Try.ntmps113;go_wp2;go_loopg [7] k (fun kq v7 w'=>∃ (x7_1:Int),v7= .int .i64 x7_1∧Aside0 (impl_GoodSpots.l0 kq l0 l0 (l0.length:Int) x7_1=some r)∧Aside0 (kq≤k)∧Aside0 (Below w.heap.size w w'))
  case atStart=>exact ⟨(0),(by first|rfl|(simp;done)|(simp [*];done)),H',⟨Nat.le_refl _⟩,⟨by repeat (first|(with_reducible first|exact HB.out|apply Qc|apply Qa|apply Qb)|exact HB.out)⟩⟩
  case round=>
   clear H';(try clear c1);obtain ⟨x7_1,rfl,HA,HK1,HB⟩:=hrel
   cases gk with
   |zero=>exact absurd HA.out (by simp [impl_GoodSpots.l0])
   |succ k1=>
    have H:=HA.out;clear HA;simp only [impl_GoodSpots.l0] at H;by_cases c2:x7_1<(l0.length:Int)
    ·rw [if_pos c2] at H;have c2b0:decide (x7_1<(l0.length:Int))=true:=decide_eq_true c2;clear c2;by_cases c3:0≤x7_1
     ·rw [if_pos c3] at H;have c3b0:decide (0≤x7_1)=true:=decide_eq_true c3;clear c3;by_cases c4:x7_1<(l0.length:Int)
      ·rw [if_pos c4] at H;have c4b0:decide (x7_1<(l0.length:Int))=true:=decide_eq_true c4;clear c4;by_cases c5:(rd l0 x7_1)=0
       ·rw [if_pos c5] at H;have c5b0:((rd l0 x7_1) == 0)=true:=beq_iff_eq.mpr c5;have c5b1:((rd l0 x7_1) != 0)=false:=bne_eq_false_iff_eq.mpr c5;clear c5;have H':=aM H;clear H;have p101:0≤(x7_1:Int):=of_decide_eq_true (by first|(with_reducible assumption)|assumption);have q101:x7_1<(l0.length:Int):=of_decide_eq_true (by first|(with_reducible assumption)|assumption);obtain ⟨ad101,e101,hx101_0⟩:=Kd.at_int HR0.out x7_1 p101 q101
        cases e101
        replace hx101_0:=(HB.out.cell (aI w _ hx101_0)).trans hx101_0;replace p101:=eq_true p101;replace q101:=eq_true q101;go_wp2;go_roundg k1
        case measure=>have:=HK1.out;omega
        case rel=>exact ⟨(wrap64 (x7_1+1)),(by first|rfl|(simp;done)|(simp [*];done)),H',⟨by have:=HK1.out;omega⟩,⟨by repeat (first|(with_reducible first|exact HB.out|apply Qc|apply Qa|apply Qb)|exact HB.out)⟩⟩
       ·rw [if_neg c5] at H;have c5b0:((rd l0 x7_1) == 0)=false:=beq_eq_false_iff_ne.mpr c5;have c5b1:((rd l0 x7_1) != 0)=true:=bne_iff_ne.mpr c5;have c6b0:=eq_true (of_decide_eq_true (by first|(with_reducible assumption)|assumption):0≤x7_1);by_cases c7:x7_1≤(l0.length:Int)
        ·rw [if_pos c7] at H;have c7b0:=eq_true c7;have c7b1:decide (x7_1≤(l0.length:Int))=true:=decide_eq_true c7;clear c7;replace H:=Option.bind_eq_some_iff.mp H;obtain ⟨t103,A80,H⟩:=H;replace H:(if t103=true then (some false) else (impl_GoodSpots.l0 k1 l0 l0 (l0.length:Int) (wrap64 (x7_1+1))))=some r:=H;have A8:=aM A80;clear A80;by_cases c9:t103=true
         ·subst c9;have H1:(some false)=some r:=by rw [if_pos rfl] at H;exact H
          clear H;have H:=H1;clear H1;obtain rfl:=Option.some.inj H;have p101:0≤(x7_1:Int):=of_decide_eq_true (by first|(with_reducible assumption)|assumption);have q101:x7_1<(l0.length:Int):=of_decide_eq_true (by first|(with_reducible assumption)|assumption);obtain ⟨ad101,e101,hx101_0⟩:=Kd.at_int HR0.out x7_1 p101 q101
          cases e101
          replace hx101_0:=(HB.out.cell (aI w _ hx101_0)).trans hx101_0;replace p101:=eq_true p101;replace q101:=eq_true q101;obtain ⟨i010,hi010,_,hsz10,_⟩:=info_parts info3;obtain ⟨hcut10,hA10,hC10⟩:=print_take_of (P:=Try.prog) (Value.int .i64) 0 34 3 .i64 Try.underlying34 hi010 hsz10 (some ad101) c0 l0 x7_1 (of_decide_eq_true (by first|(with_reducible assumption)|assumption)) (of_decide_eq_true (by first|(with_reducible assumption)|assumption)) HC0.out;have HR102:=aM (Kd.C_of_reads (h1:=fun _=>rfl) (hA10 _ (Kd.reads_of_C HR0.out)));have HC102:=aM hC10;clear hA10 hC10 hi010 hsz10;go_wp2_with (first|(go_at_call 150;refine calls_of_args (args':=#[.slice (some ad101) (l0.take (x7_1:Int).toNat).length c0,.int .i64 (rd l0 x7_1)]) (by first|(rw [show (l0.take (x7_1:Int).toNat).length=x7_1.toNat from (by rw [aH];have h_:(x7_1:Int)≤(l0.length:Int):=of_decide_eq_true (by first|(with_reducible assumption)|assumption);omega)] <;> rfl)|rfl) ?_;(with_reducible refine (slices_Contains_int_int.calls k1 _ _ (l0.take (x7_1:Int).toNat) (rd l0 x7_1) true _ ?side1 ?side2 A8.out).mono ?_);(case side1=>repeat (first|exact (Kd.C_below HR102.out HB.out)|(with_reducible refine Kd.C_alloc ?_ _)|(with_reducible refine Kd.C_drewN ?_ _)|(with_reducible refine Kd.C_drew ?_)));(case side2=>exact HC102.out);rintro e w' ⟨rfl,⟨nd,rfl⟩⟩))
          go_ret
          exact ⟨by first|rfl|(simp [errW_none,errW_some] <;> rfl)|(simp [*,errW_none,errW_some] <;> rfl),by repeat (first|(with_reducible first|exact HB.out|apply Qc|apply Qa|apply Qb)|exact HB.out)⟩
         ·replace c9:=Bool.eq_false_iff.mpr c9;subst c9;have H1:(impl_GoodSpots.l0 k1 l0 l0 (l0.length:Int) (wrap64 (x7_1+1)))=some r:=by rw [if_neg (show ¬ (false=true) by decide)] at H;exact H
          clear H;have H:=H1;clear H1;have H':=aM H;clear H;have p101:0≤(x7_1:Int):=of_decide_eq_true (by first|(with_reducible assumption)|assumption);have q101:x7_1<(l0.length:Int):=of_decide_eq_true (by first|(with_reducible assumption)|assumption);obtain ⟨ad101,e101,hx101_0⟩:=Kd.at_int HR0.out x7_1 p101 q101
          cases e101
          replace hx101_0:=(HB.out.cell (aI w _ hx101_0)).trans hx101_0;replace p101:=eq_true p101;replace q101:=eq_true q101;obtain ⟨i011,hi011,_,hsz11,_⟩:=info_parts info3;obtain ⟨hcut11,hA11,hC11⟩:=print_take_of (P:=Try.prog) (Value.int .i64) 0 34 3 .i64 Try.underlying34 hi011 hsz11 (some ad101) c0 l0 x7_1 (of_decide_eq_true (by first|(with_reducible assumption)|assumption)) (of_decide_eq_true (by first|(with_reducible assumption)|assumption)) HC0.out;have HR102:=aM (Kd.C_of_reads (h1:=fun _=>rfl) (hA11 _ (Kd.reads_of_C HR0.out)));have HC102:=aM hC11;clear hA11 hC11 hi011 hsz11;go_wp2_with (first|(go_at_call 150;refine calls_of_args (args':=#[.slice (some ad101) (l0.take (x7_1:Int).toNat).length c0,.int .i64 (rd l0 x7_1)]) (by first|(rw [show (l0.take (x7_1:Int).toNat).length=x7_1.toNat from (by rw [aH];have h_:(x7_1:Int)≤(l0.length:Int):=of_decide_eq_true (by first|(with_reducible assumption)|assumption);omega)] <;> rfl)|rfl) ?_;(with_reducible refine (slices_Contains_int_int.calls k1 _ _ (l0.take (x7_1:Int).toNat) (rd l0 x7_1) false _ ?side1 ?side2 A8.out).mono ?_);(case side1=>repeat (first|exact (Kd.C_below HR102.out HB.out)|(with_reducible refine Kd.C_alloc ?_ _)|(with_reducible refine Kd.C_drewN ?_ _)|(with_reducible refine Kd.C_drew ?_)));(case side2=>exact HC102.out);rintro e w' ⟨rfl,⟨nd,rfl⟩⟩))
          go_roundg k1
          case measure=>have:=HK1.out;omega
          case rel=>exact ⟨(wrap64 (x7_1+1)),(by first|rfl|(simp;done)|(simp [*];done)),H',⟨by have:=HK1.out;omega⟩,⟨by repeat (first|(with_reducible first|exact HB.out|apply Qc|apply Qa|apply Qb)|exact HB.out)⟩⟩
        ·rw [if_neg c7] at H;exact absurd H (by simp)
      ·rw [if_neg c4] at H;exact absurd H (by simp)
     ·rw [if_neg c3] at H;exact absurd H (by simp)
    ·rw [if_neg c2] at H;have c2b0:decide (x7_1<(l0.length:Int))=false:=decide_eq_false c2;clear c2;replace H:=Option.bind_eq_some_iff.mp H;obtain ⟨t104,A120,H⟩:=H;replace H:(if t104=true then ((impl_allWithin.f k1 l0 0 20).bind fun t105=>(if t105=true then ((slices_Contains_int_int.f k1 l0 0).bind fun t106=>(some t106)) else (some false))) else (some false))=some r:=H;have A12:=aM A120;clear A120;by_cases c13:t104=true
     ·subst c13;have H1:((impl_allWithin.f k1 l0 0 20).bind fun t105=>(if t105=true then ((slices_Contains_int_int.f k1 l0 0).bind fun t106=>(some t106)) else (some false)))=some r:=by rw [if_pos rfl] at H;exact H
      clear H;have H:=H1;clear H1;replace H:=Option.bind_eq_some_iff.mp H;obtain ⟨t105,A140,H⟩:=H;replace H:(if t105=true then ((slices_Contains_int_int.f k1 l0 0).bind fun t106=>(some t106)) else (some false))=some r:=H;have A14:=aM A140;clear A140;by_cases c15:t105=true
      ·subst c15;have H1:((slices_Contains_int_int.f k1 l0 0).bind fun t106=>(some t106))=some r:=by rw [if_pos rfl] at H;exact H
       clear H;have H:=H1;clear H1;replace H:=Option.bind_eq_some_iff.mp H;obtain ⟨t106,A160,H⟩:=H;replace H:(some t106)=some r:=H;have A16:=aM A160;clear A160;obtain rfl:=Option.some.inj H;go_wp2_with (first|((with_reducible refine Qh (f:=165) rfl ?_);refine goesL_ (some 24) rfl rfl Try.func165 (by kernel_rfl) rfl #[.int .i64 (l0.length:Int),.int .i64 2,.int .i64 9] rfl (by (try simp only [aD,aE,aF]);first|done|rfl|(simp only [aG,aH];rfl)) ?_;(with_reducible refine (impl_within.calls (l0.length:Int) 2 9 true _ A12.out).mono ?_);rintro e w' ⟨rfl,⟨nd,rfl⟩⟩;refine ⟨_,rfl,?_⟩)|(go_at_call 149;(with_reducible refine (impl_allWithin.calls k1 _ _ l0 0 20 true _ ?side1 ?side2 A14.out).mono ?_);(case side1=>repeat (first|exact (Kd.C_below HR0.out (by repeat (first|(with_reducible first|exact HB.out|apply Qc|apply Qa|apply Qb)|exact HB.out)))|(with_reducible refine Kd.C_alloc ?_ _)|(with_reducible refine Kd.C_drewN ?_ _)|(with_reducible refine Kd.C_drew ?_)));(case side2=>exact HC0.out);rintro e w17 ⟨rfl,hb⟩;have n0_:=aM (below_step (by repeat (first|(with_reducible first|exact HB.out|apply Qc|apply Qa|apply Qb)|exact HB.out)) hb);clear HB;have HB:=n0_;clear n0_;(try clear hb);(try clear hb2);(try clear hk);(try clear hi))|(go_at_call 150;(with_reducible refine (slices_Contains_int_int.calls k1 _ _ l0 0 t106 _ ?side1 ?side2 A16.out).mono ?_);(case side1=>repeat (first|exact (Kd.C_below HR0.out HB.out)|(with_reducible refine Kd.C_alloc ?_ _)|(with_reducible refine Kd.C_drewN ?_ _)|(with_reducible refine Kd.C_drew ?_)));(case side2=>exact HC0.out);rintro e w' ⟨rfl,⟨nd,rfl⟩⟩))
       go_ret
       exact ⟨by first|rfl|(simp [errW_none,errW_some] <;> rfl)|(simp [*,errW_none,errW_some] <;> rfl),by repeat (first|(with_reducible first|exact HB.out|apply Qc|apply Qa|apply Qb)|exact HB.out)⟩
      ·replace c15:=Bool.eq_false_iff.mpr c15;subst c15;have H1:(some false)=some r:=by rw [if_neg (show ¬ (false=true) by decide)] at H;exact H
       clear H;have H:=H1;clear H1;obtain rfl:=Option.some.inj H;go_wp2_with (first|((with_reducible refine Qh (f:=165) rfl ?_);refine goesL_ (some 24) rfl rfl Try.func165 (by kernel_rfl) rfl #[.int .i64 (l0.length:Int),.int .i64 2,.int .i64 9] rfl (by (try simp only [aD,aE,aF]);first|done|rfl|(simp only [aG,aH];rfl)) ?_;(with_reducible refine (impl_within.calls (l0.length:Int) 2 9 true _ A12.out).mono ?_);rintro e w' ⟨rfl,⟨nd,rfl⟩⟩;refine ⟨_,rfl,?_⟩)|(go_at_call 149;(with_reducible refine (impl_allWithin.calls k1 _ _ l0 0 20 false _ ?side1 ?side2 A14.out).mono ?_);(case side1=>repeat (first|exact (Kd.C_below HR0.out (by repeat (first|(with_reducible first|exact HB.out|apply Qc|apply Qa|apply Qb)|exact HB.out)))|(with_reducible refine Kd.C_alloc ?_ _)|(with_reducible refine Kd.C_drewN ?_ _)|(with_reducible refine Kd.C_drew ?_)));(case side2=>exact HC0.out);rintro e w18 ⟨rfl,hb⟩;have n0_:=aM (below_step (by repeat (first|(with_reducible first|exact HB.out|apply Qc|apply Qa|apply Qb)|exact HB.out)) hb);clear HB;have HB:=n0_;clear n0_;(try clear hb);(try clear hb2);(try clear hk);(try clear hi)))
       go_ret
       exact ⟨by first|rfl|(simp [errW_none,errW_some] <;> rfl)|(simp [*,errW_none,errW_some] <;> rfl),by repeat (first|(with_reducible first|exact HB.out|apply Qc|apply Qa|apply Qb)|exact HB.out)⟩
     ·replace c13:=Bool.eq_false_iff.mpr c13;subst c13;have H1:(some false)=some r:=by rw [if_neg (show ¬ (false=true) by decide)] at H;exact H
      clear H;have H:=H1;clear H1;obtain rfl:=Option.some.inj H;go_wp2_with (first|((with_reducible refine Qh (f:=165) rfl ?_);refine goesL_ (some 24) rfl rfl Try.func165 (by kernel_rfl) rfl #[.int .i64 (l0.length:Int),.int .i64 2,.int .i64 9] rfl (by (try simp only [aD,aE,aF]);first|done|rfl|(simp only [aG,aH];rfl)) ?_;(with_reducible refine (impl_within.calls (l0.length:Int) 2 9 false _ A12.out).mono ?_);rintro e w' ⟨rfl,⟨nd,rfl⟩⟩;refine ⟨_,rfl,?_⟩))
      go_ret
      exact ⟨by first|rfl|(simp [errW_none,errW_some] <;> rfl)|(simp [*,errW_none,errW_some] <;> rfl),by repeat (first|(with_reducible first|exact HB.out|apply Qc|apply Qa|apply Qb)|exact HB.out)⟩

section srt
open Go.Shelf
attribute [local go_sem] Oper.semAt_some
def srt.sortInt_ren:Go.Shelf.Ren:=⟨fun|5=>207|8=>291|7=>290|19=>329|20=>330|10=>320|11=>321|12=>322|13=>323|14=>324|15=>325|16=>326|17=>327|18=>328|30=>338|31=>339|32=>340|33=>341|34=>342|35=>343|40=>345|n=>n,fun|23=>34|25=>3|3=>3|32=>48|22=>34|0=>0|44=>266|46=>133|4=>4|36=>260|35=>259|41=>32|5=>5|9=>9|53=>274|57=>278|63=>280|64=>162|n=>n,fun|n=>n⟩
theorem srt.sortInt:Go.Proofs.SlLaysM.n5 Try.prog srt.sortInt_ren:={
  mixed:=by kernel_rfl
  f5:=⟨Try.f207.name,by decide,Try.func207.trans (congrArg some (by kernel_rfl))⟩
  f7:=⟨Try.f290.name,by decide,Try.func290.trans (congrArg some (by kernel_rfl))⟩
  f8:=Try.func291.trans (congrArg some (by kernel_rfl))
  f10:=⟨Try.f320.name,by decide,Try.func320.trans (congrArg some (by kernel_rfl))⟩
  f11:=⟨Try.f321.name,by decide,Try.func321.trans (congrArg some (by kernel_rfl))⟩
  f12:=⟨Try.f322.name,by decide,Try.func322.trans (congrArg some (by kernel_rfl))⟩
  f13:=⟨Try.f323.name,by decide,Try.func323.trans (congrArg some (by kernel_rfl))⟩
  f14:=⟨Try.f324.name,by decide,Try.func324.trans (congrArg some (by kernel_rfl))⟩
  f15:=⟨Try.f325.name,by decide,Try.func325.trans (congrArg some (by kernel_rfl))⟩
  f16:=⟨Try.f326.name,by decide,Try.func326.trans (congrArg some (by kernel_rfl))⟩
  f17:=⟨Try.f327.name,by decide,Try.func327.trans (congrArg some (by kernel_rfl))⟩
  f18:=⟨Try.f328.name,by decide,Try.func328.trans (congrArg some (by kernel_rfl))⟩
  f19:=Try.func329.trans (congrArg some (by kernel_rfl))
  f20:=Try.func330.trans (congrArg some (by kernel_rfl))
  f30:=⟨Try.f338.name,by decide,Try.func338.trans (congrArg some (by kernel_rfl))⟩
  f31:=Try.func339.trans (congrArg some (by kernel_rfl))
  f32:=Try.func340.trans (congrArg some (by kernel_rfl))
  f33:=⟨Try.f341.name,by decide,Try.func341.trans (congrArg some (by kernel_rfl))⟩
  f34:=⟨Try.f342.name,by decide,Try.func342.trans (congrArg some (by kernel_rfl))⟩
  f35:=⟨Try.f343.name,by decide,Try.func343.trans (congrArg some (by kernel_rfl))⟩
  f40:=⟨Try.f345.name,by decide,Try.func345.trans (congrArg some (by kernel_rfl))⟩
  t0:=Try.underlying0
  a0:=Try.isAgg0
  z0:=Try.sizeOf0
  v0:=Try.zeroValue0
  t3:=Try.underlying3
  a3:=Try.isAgg3
  z3:=Try.sizeOf3
  v3:=Try.zeroValue3
  t4:=Try.underlying4
  a4:=Try.isAgg4
  z4:=Try.sizeOf4
  v4:=Try.zeroValue4
  t5:=Try.underlying5
  a5:=Try.isAgg5
  z5:=Try.sizeOf5
  v5:=Try.zeroValue5
  t9:=Try.underlying9
  a9:=Try.isAgg9
  z9:=Try.sizeOf9
  v9:=Try.zeroValue9
  t22:=Try.underlying34
  a22:=Try.isAgg34
  z22:=Try.sizeOf34
  v22:=Try.zeroValue34
  t23:=Try.underlying34
  a23:=Try.isAgg34
  z23:=Try.sizeOf34
  v23:=Try.zeroValue34
  t25:=Try.underlying3
  a25:=Try.isAgg3
  z25:=Try.sizeOf3
  v25:=Try.zeroValue3
  t32:=Try.underlying48
  a32:=Try.isAgg48
  z32:=Try.sizeOf48
  v32:=Try.zeroValue48
  t35:=Try.underlying259
  a35:=Try.isAgg259
  z35:=Try.sizeOf259
  v35:=Try.zeroValue259
  t36:=Try.underlying260
  a36:=Try.isAgg260
  z36:=Try.sizeOf260
  v36:=Try.zeroValue260
  t41:=Try.underlying32
  a41:=Try.isAgg32
  z41:=Try.sizeOf32
  v41:=Try.zeroValue32
  t44:=Try.underlying266
  a44:=Try.isAgg266
  z44:=Try.sizeOf266
  v44:=Try.zeroValue266
  t46:=Try.underlying133
  a46:=Try.isAgg133
  z46:=Try.sizeOf133
  v46:=Try.zeroValue133
  t53:=Try.underlying274
  a53:=Try.isAgg274
  z53:=Try.sizeOf274
  v53:=Try.zeroValue274
  t57:=Try.underlying278
  a57:=Try.isAgg278
  z57:=Try.sizeOf278
  v57:=Try.zeroValue278
  t63:=Try.underlying280
  a63:=Try.isAgg280
  z63:=Try.sizeOf280
  v63:=Try.zeroValue280
  t64:=Try.underlying162
  a64:=Try.isAgg162
  z64:=Try.sizeOf162
  v64:=Try.zeroValue162}
theorem srt.add_block (ad:Addr) (j:Nat):(ad.add j).block=ad.block:=by
  unfold Addr.add
  split <;> rfl
def srt.upto {α:Type} (f:Nat→α) (k:Nat):List α:=(List.range k).map f
theorem srt.upto_succ {α:Type} (f:Nat→α) (k:Nat):srt.upto f (k+1)=srt.upto f k ++ [f k]:=by simp [srt.upto,List.range_succ]
theorem srt.upto_length {α:Type} (f:Nat→α) (k:Nat):(srt.upto f k).length=k:=by simp [srt.upto]
theorem srt.upto_all (zs:List Int):srt.upto (fun j=>zs[j]?.getD 0) zs.length=zs:=by
  apply List.ext_getElem
  · simp [srt.upto]
  · intro i h1 h2
    simp [srt.upto,h2]
theorem srt.upto_take (zs:List Int) {k:Nat} (hk:k≤zs.length):srt.upto (fun j=>zs[j]?.getD 0) k=zs.take k:=by
  apply List.ext_getElem
  · simp [srt.upto,hk]
  · intro i h1 h2
    have:i<zs.length:=by simp [srt.upto] at h1;omega
    simp [srt.upto,this]
set_option maxRecDepth 100000 in
set_option maxHeartbeats 2000000 in
theorem srt.values1_in (F:Fence) (n:Nat) (h7:F.fn 316) (hro:F.round=none) (hn:1≤n) (l Bs n₀ len cap:Nat) (ad:Addr) (zs:List Int) (hreach:len * 8≤140737488351232) (hb:ad.block<n₀) (J Jx:List Int→World→Prop)
    (hY:∀ pre x W,J pre W→pre.length<len→YieldAt F (n - 1) Try.prog l #[.int .i64 x] W fun e W'=>
      (e= .returned (.bool true)∧J (pre ++ [x]) W'∧Below n₀ W W')∨(e= .returned (.bool false)∧Jx (pre ++ [x]) W'))
    (W:World) (hBs:W.cell? ⟨Bs,0,none⟩=some (.slice (some ad) len cap)) (hc:∀ j,j<len→W.cell? (ad.add j)=some (.int .i64 (zs[j]?.getD 0))) (h0:J [] W) :
    CallsIn F n Try.prog 316 #[.func (.yield l) #[] #[],.pointer (some ⟨Bs,0,none⟩)] W fun e W'=>(∃ v,e= .returned v) ∧
      ((∃ ys,ys=srt.upto (fun j=>zs[j]?.getD 0) len∧J ys W')∨(∃ pre,(∃ k,k≤len∧pre=srt.upto (fun j=>zs[j]?.getD 0) k)∧Jx pre W')):=by
  refine callsIn_of_wp Try.func316 rfl h7 ?_ hro;simp only [Try.ntmps316,List.size_toArray,List.length_cons,List.length_nil,Nat.reduceAdd,Nat.reduceSub,Array.replicate_succ,Array.replicate_zero,List.push_toArray,List.append_toArray,List.nil_append,List.cons_append]
  gi_wp2
  gi_loopw [7] (fun i wr=>∃ k:Nat,k≤len∧i= .int .i64 k∧J (srt.upto (fun j=>zs[j]?.getD 0) k) wr∧Below n₀ W wr)
    (fun i _=>len - (intOf i).toNat)
  case atStart=>exact ⟨0,Nat.zero_le _,rfl,h0,Below.refl _ _⟩
  case round=>
    obtain ⟨k,hk,rfl,hJs,hnx⟩:=hrel;have hcx:k<len→wr.cell? (ad.add k)=some (.int .i64 (zs[k]?.getD 0)):=fun h=>(hnx.cell (p:=ad.add k) (by rw [srt.add_block];exact hb)).trans (hc k h)
    by_cases hlt:k<len
    · obtain ⟨fn,tmps,assign,body,hy,hR⟩:=hY _ (zs[k]?.getD 0) wr hJs (by rw [srt.upto_length];exact hlt)
      have hcx':=hcx hlt
      gi_wp2
      refine hR.mono ?_
      rintro e W3 (⟨rfl,hJ3,hk3⟩|⟨rfl,hJx3⟩)
      · gi_wp2
        go_roundw
        case rel=>exact ⟨k+1,by omega,by simp,by rw [srt.upto_succ];exact hJ3,hnx.trans hk3⟩
        case measure=>simp [intOf];omega
      · gi_wp2
        refine bodyPost_ret (results_none rfl _ _ _) rfl ?_;exact ⟨⟨_,rfl⟩,.inr ⟨_,⟨k+1,by omega,(srt.upto_succ _ _).symm⟩,hJx3⟩⟩
    · obtain rfl:k=len:=by omega
      gi_wp2
      go_end0
      exact ⟨⟨_,rfl⟩,.inl ⟨_,rfl,hJs⟩⟩
/-- The slice value holds these numbers,in a block below n₀;or there are none. -/
def srt.Ints (n₀:Nat) (W:World) (sv:Value) (zs:List Int):Prop:=
  (∃ a cap,sv= .slice a 0 cap∧zs=[])∨∃ ad cap,sv= .slice (some ad) zs.length cap∧ad.block<n₀∧∀ j,j<zs.length→W.cell? (ad.add j)=some (.int .i64 (zs[j]?.getD 0))
theorem srt.ints_of {w:World} {A:Option Addr} {zs:List Int} {c:Nat} (h:Kd.C (Kd.int .i64) w A zs.length zs):srt.Ints w.heap.size w (.slice A zs.length c) zs:=by
  rcases Nat.eq_zero_or_pos zs.length with h0|h0
  · have:zs=[]:=List.length_eq_zero_iff.mp h0
    subst this;exact .inl ⟨A,c,rfl,rfl⟩
  · obtain ⟨ad,rfl,hc⟩:=h.2.2 h0
    have hcell:∀ j,j<zs.length→w.cell? (ad.add j)=some (.int .i64 (zs[j]?.getD 0)):=fun j hj=>by
      obtain ⟨cs,_,e,h2⟩:=hc j _ (List.getElem?_eq_getElem hj);have e':cs=[.int .i64 zs[j]]:=e;subst e';have h3:w.cell? (ad.add (j * 1+0))=some (.int .i64 zs[j]):=h2 0 _ rfl;rw [Nat.mul_one,Nat.add_zero] at h3;rw [h3,List.getElem?_eq_getElem hj];rfl
    refine .inr ⟨ad,c,rfl,?_,hcell⟩;obtain ⟨o,ho,_⟩:=not_walk_of_cell (hcell 0 h0);rw [srt.add_block] at ho;exact (Array.getElem?_eq_some_iff.1 ho).1
theorem srt.Ints.below {n₀:Nat} {A B:World} (h:Below n₀ A B) {sv:Value} {zs:List Int}:srt.Ints n₀ A sv zs→srt.Ints n₀ B sv zs
  | .inl e=> .inl e
  | .inr ⟨ad,cap,e,hb,hc⟩=> .inr ⟨ad,cap,e,hb,fun j hj=>(h.cell (p:=ad.add j) (by rw [srt.add_block];exact hb)).trans (hc j hj)⟩
set_option maxRecDepth 100000 in
set_option maxHeartbeats 1000000 in
theorem srt.values1_nil_in (F:Fence) (n:Nat) (h7:F.fn 316) (hro:F.round=none) (l Bs:Nat) (a:Option Addr) (cap:Nat) (J:List Int→World→Prop) (W:World) (hBs:W.cell? ⟨Bs,0,none⟩=some (.slice a 0 cap)) (h0:J [] W) :
    CallsIn F n Try.prog 316 #[.func (.yield l) #[] #[],.pointer (some ⟨Bs,0,none⟩)] W fun e W'=>(∃ v,e= .returned v)∧J [] W':=by
  refine callsIn_of_wp Try.func316 rfl h7 ?_ hro;simp only [Try.ntmps316,List.size_toArray,List.length_cons,List.length_nil,Nat.reduceAdd,Nat.reduceSub,Array.replicate_succ,Array.replicate_zero,List.push_toArray,List.append_toArray,List.nil_append,List.cons_append]
  gi_wp2
  gi_loopw [7] (fun i wr=>i= .int .i64 0∧J [] wr) (fun _ _=>0)
  case atStart=>exact ⟨rfl,h0⟩
  case round=>
    obtain ⟨rfl,hJs⟩:=hrel
    gi_wp2
    go_end0
    exact ⟨⟨_,rfl⟩,hJs⟩
set_option maxHeartbeats 1000000 in
theorem srt.values_in (F:Fence) (n:Nat) (h5:F.fn 286) (hro:F.round=none) (a:Option Addr) (len cap:Nat) (w:World) :
    CallsIn F n Try.prog 286 #[.slice a len cap] w fun e w'=>e= .returned (.func (.func 316) #[] #[.pointer (some ⟨w.heap.size,0,none⟩)])∧w'=w.alloc (.cells #[.slice a len cap] 34):=by
  refine callsIn_of_wp Try.func286 rfl h5 ?_ hro;simp only [Try.ntmps286,List.size_toArray,List.length_cons,List.length_nil,Nat.reduceAdd,Nat.reduceSub,Array.replicate_succ,Array.replicate_zero,List.push_toArray,List.append_toArray,List.nil_append,List.cons_append]
  gi_wp2
  go_ret
  exact ⟨rfl,rfl⟩
theorem srt.values_stops (F:Fence) (n:Nat) (h7:F.fn 316) (hro:F.round=none) (hn:1≤n) (Bs n₀:Nat) (sv:Value) (zs:List Int) (hreach:zs.length * 8≤140737488351232) (w:World) (hBs:Bs<w.heap.size) (hn₀:n₀≤w.heap.size)
    (hc:w.cell? ⟨Bs,0,none⟩=some sv) (hI:srt.Ints n₀ w sv zs) :
    SeqStopsK F n Try.prog 316 #[.pointer (some ⟨Bs,0,none⟩)] (fun x:Int=>#[Value.int .i64 x]) (Below n₀) (fun ys=>ys=zs) (fun pre=>pre <+:zs) zs.length w:=fun l J Jx W hW _ _ hY h0=>by
  have hc':=(hW.cell (p:=⟨Bs,0,none⟩) hBs).trans hc
  rcases hI.below (hW.mono hn₀) with ⟨a,cap,rfl,rfl⟩|⟨ad,cap,rfl,hb,hcs⟩
  · exact (srt.values1_nil_in F n h7 hro l Bs a cap J W hc' h0).mono fun e W' ⟨he,hj⟩=>⟨he,.inl ⟨_,rfl,hj⟩⟩
  · refine (srt.values1_in F n h7 hro hn l Bs n₀ zs.length cap ad zs hreach hb J Jx hY W hc' hcs h0).mono ?_
    rintro e W' ⟨he,⟨ys,rfl,hj⟩|⟨pre,⟨k,hk,rfl⟩,hj⟩⟩
    · exact ⟨he,.inl ⟨_,srt.upto_all zs,hj⟩⟩
    · exact ⟨he,.inr ⟨_,by rw [srt.upto_take zs hk];exact List.take_prefix _ _,hj⟩⟩
theorem srt.info:(Try.prog.info? 3).map (fun i=>(i.zero,i.size,i.bytes))=some (some (.int .i64 0),1,8):=by kernel_rfl
set_option maxRecDepth 100000 in
set_option maxHeartbeats 2000000 in
theorem srt.append_in (F:Fence) (n:Nat) (h3:F.fn 336) (h7:F.fn 316) (hro:F.round=none) (hn:3≤n) (Bs:Nat) (sv:Value) (zs:List Int) (hreach:zs.length * 8≤140737488351232) (w:World) (hBs:Bs<w.heap.size) (hc:w.cell? ⟨Bs,0,none⟩=some sv) (hI:srt.Ints w.heap.size w sv zs) :
    CallsIn F n Try.prog 336 #[.slice none 0 0,.func (.func 316) #[] #[.pointer (some ⟨Bs,0,none⟩)]] w fun e w'=>∃ v,e= .returned v∧w'.ownsRow w.heap.size 3 1 v zs.length (zs.map (Value.int .i64))∧(v= .slice none 0 0 ↔ zs=[])∧Below w.heap.size w w':=by
  have h1:1≤n:=by omega
  have hN:zs.length≤maxLen:=by show _≤9223372036854775807;omega
  obtain ⟨i0,hi,hz0,hz1,hz2⟩:=info_parts srt.info;refine callsIn_of_wp_marks Try.func336 rfl h3 ?_ hro;simp only [Try.ntmps336,List.size_toArray,List.length_cons,List.length_nil,Nat.reduceAdd,Nat.reduceSub,Array.replicate_succ,Array.replicate_zero,List.push_toArray,List.append_toArray,List.nil_append,List.cons_append]
  gi_wp2
  have bS:=Boxed.new w 34 (.slice none 0 0);have hB0:Below w.heap.size w (w.alloc (.cells #[.slice none 0 0] 34)):=(Below.refl _ w).alloc (Nat.le_refl _) _
  refine wpIn_rangeFunc_ownF hro h1 (gf:=316) (lb:=#[.pointer (some ⟨Bs,0,none⟩)]) rfl h7 (enters_of Try.func316 (by kernel_rfl) rfl)
    (srt.values_stops F (n - 1) h7 hro (by omega) Bs w.heap.size sv zs hreach _ (by simp;omega) (by simp) ((hB0.cell (p:=⟨Bs,0,none⟩) hBs).trans hc) (hI.below hB0)) belowK_t (belowK_b (by simp)) (Below.refl _ _) (fun _=>rfl)
    (fun pre W=>(∃ v,Boxed W w.heap.size 34 v∧W.ownsRow w.heap.size 3 1 v pre.length (pre.map (Value.int .i64))∧(v= .slice none 0 0 ↔ pre=[]))∧Below w.heap.size w W)
    (fun _ _ _=>False)
    (OwnFrom.and (Own.from (holdsRow_own w.heap.size w.heap.size 34 3 1 (fun pre:List Int=>pre.length) (fun pre=>pre.map (Value.int .i64)) (fun pre v=>(v= .slice none 0 0 ↔ pre=[]))) _) (ownFrom_below (Nat.le_refl _) (by simp)))
    (fun _ _ _ _ _ hs _ _=>hs)
    ⟨⟨_,bS,own_nil _ _ _ _,by simp⟩,hB0⟩
    (fun x=>{tmps:=#[.slice none 0 0,.func (.func 316) #[] #[.pointer (some ⟨Bs,0,none⟩)],.pointer (some ⟨w.heap.size,0,none⟩),undef,.slice none 0 0,.int .i64 x,.func (.func 316) #[] #[.pointer (some ⟨Bs,0,none⟩)],.int .i64 x,undef,undef,undef,undef,undef],defers:=[]}) ?assign ?body ?done ?stop
  case assign=>
    intro l x W K hK
    gi_wp2
    exact hK
  case body=>
    rintro l pre x W ⟨⟨v,hv,hrow,hnil⟩,hB⟩ hlt
    have hvc:=hv.cell
    gi_wp2_with (first
      |(gi_at_builtin;refine wpListIn_append_own _ rfl _ _ 34 rfl w.heap.size 3 i0 (.int .i64 0) 1 8 Try.underlying34 hi hz0 hz1 hz2 rfl (by decide) _ _ _ rfl (hrow.alloc _) ⟨W.heap.size,0,none⟩ 1 1 [.int .i64 x] rfl rfl (cell_one_new _ _ _) (by simp [Value.oneCell']) (by omega) (by omega) (by have:=hB.size;simp;omega) ?_;intro v' w1 hown' hgrow _;obtain ⟨g',cap',rfl⟩:=ownsRow_succ hown';obtain ⟨hv1,hv2,hr2,hk2,hb2⟩:=hv.appended (by decide) hrow hB.size (Nat.le_refl _) hown' hgrow;have hc1:=hv1.cell;have hf1:=hv1.frozen)
      |gi_in)
    exact ⟨hk2,hb2,⟨_,hv2,by simpa using hr2,by simp⟩,hB.trans hb2⟩
  case done=>
    rintro D ys W hD rfl ⟨⟨v,hv,hrow,hnil⟩,hB⟩ hK
    have hvc:=hv.cell
    gi_wp2
    refine ⟨by simp,.inl ⟨_,_,rfl,run_takeDeferred hK,?_⟩⟩;exact ⟨_,results_tmp rfl _ _ _,v,rfl,ownsRow_putObj hrow _ hK rfl,hnil,hB.trans (belowK_b (w:=w) (Nat.le_refl _) W D _ _ (by simp at hD;omega) hK rfl rfl)⟩
  case stop=>
    rintro D c pre W _ _ h _
    exact h.elim
set_option maxHeartbeats 1000000 in
theorem srt.collect_in (F:Fence) (n:Nat) (h8:F.fn 315) (h3:F.fn 336) (h7:F.fn 316) (hro:F.round=none) (hn:4≤n) (Bs:Nat) (sv:Value) (zs:List Int) (hreach:zs.length * 8≤140737488351232) (w:World) (hBs:Bs<w.heap.size) (hc:w.cell? ⟨Bs,0,none⟩=some sv) (hI:srt.Ints w.heap.size w sv zs) :
    CallsIn F n Try.prog 315 #[.func (.func 316) #[] #[.pointer (some ⟨Bs,0,none⟩)]] w fun e w'=>∃ v,e= .returned v∧w'.ownsRow w.heap.size 3 1 v zs.length (zs.map (Value.int .i64))∧(v= .slice none 0 0 ↔ zs=[])∧Below w.heap.size w w':=by
  have h1:1≤n:=by omega
  refine callsIn_of_wp Try.func315 rfl h8 ?_ hro;simp only [Try.ntmps315,List.size_toArray,List.length_cons,List.length_nil,Nat.reduceAdd,Nat.reduceSub,Array.replicate_succ,Array.replicate_zero,List.push_toArray,List.append_toArray,List.nil_append,List.cons_append]
  gi_wp2_with (gi_at_call 336;refine (srt.append_in F (n - 1) h3 h7 hro (by omega) Bs sv zs hreach _ hBs hc hI).mono ?_;rintro e w' ⟨v,rfl,hrow,hnil,hb⟩)
  go_ret
  exact ⟨v,rfl,hrow,hnil,hb⟩
/-- The numbers,sorted. -/
def srt.sorted (zs:List Int):List Int:=zs.mergeSort fun x y=>decide (x≤y)
theorem srt.sorted_length (zs:List Int):(srt.sorted zs).length=zs.length:=List.length_mergeSort _
set_option maxRecDepth 100000 in
set_option maxHeartbeats 2000000 in
/-- slices.Sorted(slices.Values(s)):a new row that holds what s holds,sorted. -/
theorem srt.sorted_in (n:Nat) (hn:5≤n) (Bs:Nat) (sv:Value) (zs:List Int) (hreach:zs.length * 8≤140737488351232) (w:World) (hBs:Bs<w.heap.size) (hc:w.cell? ⟨Bs,0,none⟩=some sv) (hI:srt.Ints w.heap.size w sv zs) :
    CallsIn Fence.wide n Try.prog 285 #[.func (.func 316) #[] #[.pointer (some ⟨Bs,0,none⟩)]] w fun e w'=>∃ v,e= .returned v∧w'.ownsRow w.heap.size 3 1 v (srt.sorted zs).length ((srt.sorted zs).map (Value.int .i64))∧Below w.heap.size w w':=by
  have e315:∀ args w,(callFunc 315 args).run Try.prog w= .ok (.enter 315 args) w:=enters_of Try.func315 (by kernel_rfl) rfl;have e207:∀ args w,(callFunc 207 args).run Try.prog w= .ok (.enter 207 args) w:=enters_of Try.func207 (by kernel_rfl) rfl;have h1:1≤n:=by omega
  have f315:Fence.wide.fn 315:=trivial;have f207:Fence.wide.fn 207:=trivial;refine callsIn_of_wp Try.func285 rfl trivial ?_ rfl;simp only [Try.ntmps285,List.size_toArray,List.length_cons,List.length_nil,Nat.reduceAdd,Nat.reduceSub,Array.replicate_succ,Array.replicate_zero,List.push_toArray,List.append_toArray,List.nil_append,List.cons_append]
  gi_wp2_with (gi_at_call 315;refine (srt.collect_in Fence.wide (n - 1) trivial trivial trivial rfl (by omega) Bs sv zs hreach _ hBs hc hI).mono ?_;rintro e W ⟨v,rfl,hrow,hnil,hb⟩)
  rcases hrow.2 with ⟨rfl,hz⟩|⟨gb,cap,cur,rfl,hbase,hgb,r1,r2,r3,r4⟩
  · have hss:zs=[]:=List.eq_nil_of_length_eq_zero hz
    subst hss;have cS:CallsIn Fence.wide (n - 1) Try.prog 207 #[.slice none 0 0] W fun e w'=>e= .returned (.tuple #[])∧w'=W:=callsIn_wide.2 (AnyM.slices_Sort_int_none srt.sortInt none 0 W)
    gi_wp2_with (gi_at_call 207;refine cS.mono ?_;rintro e w' ⟨rfl,rfl⟩)
    go_ret
    exact ⟨.slice none 0 0,rfl,by simpa [srt.sorted] using hrow,hb⟩
  · have hH:Sort.Holds (Value.int .i64) W gb 0 zs.toArray:=holds_of_block_i hgb (by simpa using r4)
    have hgl:gb<W.heap.size:=(Array.getElem?_eq_some_iff.1 hgb).1;have hsz:zs.length<4611686018427387904:=by omega
    have cS:CallsIn Fence.wide (n - 1) Try.prog 207 #[.slice (some ⟨gb,0,none⟩) zs.length cap] W fun e w'=>e= .returned (.tuple #[])∧∃ k os,w'=Sort.grow (Sort.putRow (Value.int .i64) (Sort.ahead W k) gb 0 (srt.sorted zs).toArray) os:=callsIn_wide.2 (AnyM.slices_Sort_int srt.sortInt gb 0 cap zs W hH hgl hsz)
    gi_wp2_with (gi_at_call 207;refine cS.mono ?_;rintro e w' ⟨rfl,nn,os,rfl⟩)
    go_ret
    refine ⟨_,rfl,?_,hb.grown (grownBy_sorted_i _) hb.size (fun j hj=>by cases hj;exact hbase)⟩;have:=ownsRow_sorted_i (ts:=srt.sorted zs) (n:=nn) (os:=os) (srt.sorted_length zs) hbase hgb r1 r2 r3;rw [srt.sorted_length];exact this
theorem srt.values_calls (A:Option Addr) (n c:Nat) (W:World):Calls Try.prog 286 #[.slice A n c] W fun e w'=>∃ B,e= .returned (.func (.func 316) #[] #[.pointer (some ⟨B,0,none⟩)])∧B<w'.heap.size∧w'.cell? ⟨B,0,none⟩=some (.slice A n c)∧Below W.heap.size W w':=by
  refine ((callsIn_wide (n:=6)).1 (srt.values_in Fence.wide 6 trivial rfl A n c W)).mono ?_
  rintro e w' ⟨rfl,rfl⟩
  exact ⟨W.heap.size,rfl,by simp,by simp,(Below.refl _ W).alloc (Nat.le_refl _) _⟩
theorem srt.sorted_calls (l:List Int) (hl:l.length≤1048576) (A:Option Addr) (c B:Nat) (W:World) (hB:B<W.heap.size) (hc:W.cell? ⟨B,0,none⟩=some (.slice A l.length c)) (hC:Kd.C (Kd.int .i64) W A l.length l) :
    Calls Try.prog 285 #[.func (.func 316) #[] #[.pointer (some ⟨B,0,none⟩)]] W fun e w'=>∃ Av cv,e= .returned (.slice Av (srt.sorted l).length cv)∧(srt.sorted l).length≤cv∧Kd.C (Kd.int .i64) w' Av (srt.sorted l).length (srt.sorted l)∧Below W.heap.size W w':=by
  refine ((callsIn_wide (n:=6)).1 (srt.sorted_in 6 (by omega) B (.slice A l.length c) l (by omega) W hB hc (srt.ints_of hC))).mono ?_
  rintro e w' ⟨v,rfl,hrow,hb⟩
  have hR:(Kd.int .i64).R 3 w' W.heap.size (fun _=>True) v (srt.sorted l):=Kd.R_of_own hrow (fun _ _=>trivial);obtain ⟨Av,cv,rfl,hcv,hC⟩:=Kd.R_reads hR;exact ⟨Av,cv,rfl,hcv,hC,hb⟩
end srt

-- NEEDS slices.Sorted[int]
-- NEEDS loop.example/g00451/impl.GoodSpots
-- NEEDS slices.Equal[[]int,int]
def impl_areAlike.f (k:Nat) (l0 l1:List Int):Option Bool:=(impl_GoodSpots.f k l0).bind fun t=>if t=true then ((impl_GoodSpots.f k l1).bind fun u=>if u=true then (if l0.length≤1048576 then (if l1.length≤1048576 then slices_Equal_int_int.f k (srt.sorted l0) (srt.sorted l1) else none) else none) else some false) else some false
set_option maxHeartbeats 4000000 in
set_option maxRecDepth 100000 in
theorem impl_areAlike.calls (k:Nat) (A0:Option Addr) (c0:Nat) (l0:List Int) (A1:Option Addr) (c1:Nat) (l1:List Int) (r:Bool) (w:World) (hr0:Kd.C (Kd.int .i64) w A0 l0.length l0) (hc0:l0.length≤c0) (hr1:Kd.C (Kd.int .i64) w A1 l1.length l1) (hc1:l1.length≤c1) (h:impl_areAlike.f k l0 l1=some r) :
    Calls Try.prog 186 #[.slice A0 l0.length c0,.slice A1 l1.length c1] w fun e w'=>e= .returned (.bool r)∧Below w.heap.size w w':=by
  unfold impl_areAlike.f at h
  obtain ⟨t,ht,h⟩:=Option.bind_eq_some_iff.mp h;have g0:Calls Try.prog 113 #[.slice A0 l0.length c0] w fun e w'=>e= .returned (.bool t)∧Below w.heap.size w w':=impl_GoodSpots.calls k A0 c0 l0 t w hr0 hc0 ht
  cases t with
  |false=>
    rw [if_neg (by simp)] at h;obtain rfl:=Option.some.inj h;clear h ht;go_enter Try.func186,Try.ntmps186
    go_wp2_with (first
      |(go_at_call 113;with_reducible refine g0.mono ?_;rintro e w1 ⟨rfl,hb1⟩))
    go_ret
    exact ⟨rfl,hb1⟩
  |true=>
    rw [if_pos rfl] at h;obtain ⟨u,hu,h⟩:=Option.bind_eq_some_iff.mp h;have g1:∀ W,Below w.heap.size w W→Calls Try.prog 113 #[.slice A1 l1.length c1] W fun e w'=>e= .returned (.bool u)∧Below W.heap.size W w':=fun W hb=>impl_GoodSpots.calls k A1 c1 l1 u W (Kd.C_below hr1 hb) hc1 hu
    cases u with
    |false=>
      rw [if_neg (by simp)] at h;obtain rfl:=Option.some.inj h;clear h ht hu;go_enter Try.func186,Try.ntmps186
      go_wp2_with (first
        |(go_at_call 113;with_reducible refine g0.mono ?_;rintro e w1 ⟨rfl,hb1⟩)
        |(go_at_call 113;with_reducible refine (g1 _ hb1).mono ?_;rintro e w2 ⟨rfl,hb2⟩))
      go_ret
      exact ⟨rfl,hb1.trans (hb2.mono hb1.size)⟩
    |true=>
      rw [if_pos rfl] at h;by_cases hl0:l0.length≤1048576
      case neg=>rw [if_neg hl0] at h;cases h
      by_cases hl1:l1.length≤1048576
      case neg=>rw [if_pos hl0,if_neg hl1] at h;cases h
      rw [if_pos hl0,if_pos hl1] at h;clear ht hu;go_enter Try.func186,Try.ntmps186
      go_wp2_with (first
        |(go_at_call 113;with_reducible refine g0.mono ?_;rintro e w1 ⟨rfl,hb1⟩)
        |(go_at_call 113;with_reducible refine (g1 _ hb1).mono ?_;rintro e w2 ⟨rfl,hb2⟩;have hb12:=hb1.trans (hb2.mono hb1.size))
        |(go_at_call 286;with_reducible refine (srt.values_calls A0 l0.length c0 _).mono ?_;rintro e w3 ⟨B3,rfl,hB3,hx3,hb3⟩;have hb13:=hb12.trans (hb3.mono hb12.size))
        |(go_at_call 285;with_reducible refine (srt.sorted_calls l0 hl0 A0 c0 B3 _ hB3 hx3 (Kd.C_below hr0 hb13)).mono ?_;rintro e w4 ⟨Av4,cv4,rfl,hcv4,hC4,hb4⟩;have hb14:=hb13.trans (hb4.mono hb13.size))
        |(go_at_call 286;with_reducible refine (srt.values_calls A1 l1.length c1 _).mono ?_;rintro e w5 ⟨B5,rfl,hB5,hx5,hb5⟩;have hb15:=hb14.trans (hb5.mono hb14.size);have hC5:=Kd.C_below hC4 hb5)
        |(go_at_call 285;with_reducible refine (srt.sorted_calls l1 hl1 A1 c1 B5 _ hB5 hx5 (Kd.C_below hr1 hb15)).mono ?_;rintro e w6 ⟨Av6,cv6,rfl,hcv6,hC6,hb6⟩;have hb16:=hb15.trans (hb6.mono hb15.size);have hC7:=Kd.C_below hC5 hb6)
        |(go_at_call 241;with_reducible refine (slices_Equal_int_int.calls k Av4 cv4 (srt.sorted l0) Av6 cv6 (srt.sorted l1) r _ hC7 hcv4 hC6 hcv6 h).mono ?_;rintro e w8 ⟨rfl,hd⟩))
      go_ret
      obtain ⟨m,rfl⟩:=hd;exact ⟨rfl,Qa hb16 _⟩
end Go.Proofs.Ytneojimdhnhkeaa.Print
