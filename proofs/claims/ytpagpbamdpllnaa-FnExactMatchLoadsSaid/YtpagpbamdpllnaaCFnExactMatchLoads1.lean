/- At every argument MatchLoads of the program answers as MatchLoads of the reference, before and after its arguments and its answer are written over: no condition but the statement's own. -/
import Derived.Test.YtpagpbamdpllnaaCFnExactMatchLoads0
import Derived.Deep.Slices
import Derived.ChangeArms
import Derived.ChangeSame
import Derived.Below
set_option linter.unusedVariables false
set_option linter.unusedSimpArgs false
namespace Go.Proofs.Ytpagpbamdpllnaa.Print
open Go.RowKit Go.Proofs.YtpagpbamdpllnaaW.PrintWords Go.Proofs.YtpagpbamdpllnaaW.PrintLast Go.Proofs.YtpagpbamdpllnaaW.PrintMore
attribute [local go_sem] max2_int min2_int max_two min_two max_three min_three max_four min_four

-- NEEDS loop.example/g00451/laws.markBoolS
def laws_markBoolSS.l0:Nat→List (List Bool)→Int→Int→Option (Int×List (List Bool))
  |0,_,_,_=>none
  |k+1,x0,x1,x5=>if x5<(x0.length:Int) then (if 0≤x5 then ((laws_markBoolS.f k (rd_L7 x0 x5) x1).bind fun b=>(laws_markBoolSS.l0 k (x0.set (x5:Int).toNat b.2) b.1 (wrap64 (x5+1)))) else (none)) else (some (x1,x0))
def laws_markBoolSS.f (k:Nat) (l0:List (List Bool)) (a1:Int):Option (Int×List (List Bool)):=laws_markBoolSS.l0 k l0 a1 0
set_option maxHeartbeats 8000000 in
set_option maxRecDepth 100000 in
theorem laws_markBoolSS.calls (k:Nat) (P0_:Nat→Prop) (u9000_:Value) (l0:List (List Bool)) (a1:Int) (r1:Int) (r2:List (List Bool)) (w0 w:World) (hB:Below w0.heap.size w0 w) (ho0:Kd.S (Kd.slice 4 Kd.bool) 88 w w0.heap.size P0_ u9000_ l0) (h:laws_markBoolSS.f k l0 a1=some (r1,r2)) :
    Calls Try.prog 63 #[u9000_,.int .i64 a1] w fun e w'=>e= .returned (.int .i64 r1)∧Kd.S (Kd.slice 4 Kd.bool) 88 w' w0.heap.size (fun k_=>(P0_ k_∨w.heap.size≤k_)) u9000_ r2∧Below w0.heap.size w0 w'∧Kept w w' (fun k_=>P0_ k_):=by
  have HO0:=aM ho0;have HK:=aM (Kept.refl w (fun k_=>P0_ k_));have HB:=aM hB;clear hB ho0;have H:(laws_markBoolSS.l0 k l0 a1 0)=some (r1,r2):=h;clear h;have H':=aM H;clear H;go_enter Try.func63,Try.ntmps63;go_wp2;go_loopg [1,5] k (fun kq v1 v5 w'=>∃ (x0_1:List (List Bool)) (x1_1:Int) (x5_1:Int),v1= .int .i64 x1_1∧v5= .int .i64 x5_1∧Aside0 (laws_markBoolSS.l0 kq x0_1 x1_1 x5_1=some (r1,r2))∧Aside0 (kq≤k)∧Aside0 (Kd.S (Kd.slice 4 Kd.bool) 88 w' w0.heap.size P0_ u9000_ x0_1)∧Aside0 (Kept w w' (fun k_=>P0_ k_))∧Aside0 (Below w0.heap.size w0 w'))
  case atStart=>exact ⟨l0,a1,0,(by first|rfl|(simp;done)|(simp [*];done)),(by first|rfl|(simp;done)|(simp [*];done)),H',⟨Nat.le_refl _⟩,HO0,HK,HB⟩
  case round=>
   clear H';obtain ⟨x0_1,x1_1,x5_1,rfl,rfl,HA,HK1,HO_0,HK,HB⟩:=hrel
   cases gk with
   |zero=>exact absurd HA.out (by simp [laws_markBoolSS.l0])
   |succ k1=>
    have H:=HA.out;clear HA;simp only [laws_markBoolSS.l0] at H;by_cases c3:x5_1<(x0_1.length:Int)
    · rw [if_pos c3] at H
      have c3b0:decide (x5_1<(x0_1.length:Int))=true:=decide_eq_true c3;by_cases c4:0≤x5_1
      · rw [if_pos c4] at H
        have c4b0:decide (0≤x5_1)=true:=decide_eq_true c4;replace H:=Option.bind_eq_some_iff.mp H;obtain ⟨⟨t1,t2⟩,A60,H⟩:=H;replace H:(laws_markBoolSS.l0 k1 (x0_1.set (x5_1:Int).toNat t2) t1 (wrap64 (x5_1+1)))=some (r1,r2):=H;have A6:=aM A60;have H':=aM H;clear A60 H;obtain ⟨go5,co5,eo5,gb5,gl5,cl5,HG5⟩:=Kd.S_form HO_0.out (by omega);subst eo5;clear gb5 gl5 HG5;obtain ⟨u5,oki5,hR5,hc5,ho5,hb5⟩:=Kd.S_lendRow HO_0.out x5_1 c4 c3;obtain ⟨A5,c5,eu5⟩:=Kd.R_slice hR5;subst eu5;have HR5:=aM (show Kd.R Kd.bool 4 _ w0.heap.size oki5 (.slice A5 (rd_L7 x0_1 x5_1).length c5) (rd_L7 x0_1 x5_1) from hR5);have hx5:_=some (Value.slice A5 (rd_L7 x0_1 x5_1).length c5):=hc5;have HF5:=aM ho5;have HX5:=aM hb5;clear hR5 hc5 ho5 hb5;replace c3:=eq_true c3;replace c4:=eq_true c4;go_wp2_with (first|((with_reducible refine gate_callee (f:=160) rfl ?_);refine goesL_ (some 17) rfl rfl Try.func160 (by kernel_rfl) rfl #[.slice A5 (rd_L7 x0_1 x5_1).length c5,.int .i64 x1_1] rfl (by (try simp only [aD,aE,aF]);first|done|rfl|(simp only [aG,aH];rfl)) ?_;(with_reducible refine (laws_markBoolS.calls _ (fun k_=>some k_=(Value.slice A5 (rd_L7 x0_1 x5_1).length c5).ownBlock) (.slice A5 (rd_L7 x0_1 x5_1).length c5) (rd_L7 x0_1 x5_1) x1_1 t1 t2 w0 _ ?side1 ?side2 A6.out).mono ?_);(case side1=>exact HB.out);(case side2=>exact Kd.R_tight rfl HR5.out);rintro e w' ⟨rfl,hy,hb,hkp⟩;refine ⟨_,rfl,?_⟩;have n0_:=aM (HX5.out w' _ _ t2 hkp (fun k hk=>HR5.out.1 k hk.symm) (Kd.R_reok rfl hy (fun k hk=>HR5.out.1 k hk)) (fun _ h=>h));have n1_:=aM (Kept.then_ HK.out hkp (fun k hk=> .inl (HF5.out k (HR5.out.1 k hk.symm))));have n2_:=aM hb;clear hy hb hkp HX5 HF5 HR5 HO_0 HB HK;have HO_0:=n0_;have HK:=n1_;have HB:=n2_;clear n0_ n1_ n2_))
        go_roundg k1
        case measure=>have:=HK1.out;omega
        case rel=>exact ⟨_,t1,(wrap64 (x5_1+1)),(by first|rfl|(simp;done)|(simp [*];done)),(by first|rfl|(simp;done)|(simp [*];done)),H',⟨by have:=HK1.out;omega⟩,HO_0,HK,HB⟩
      · rw [if_neg c4] at H
        exact absurd H (by simp)
    · rw [if_neg c3] at H
      have c3b0:decide (x5_1<(x0_1.length:Int))=false:=decide_eq_false c3;clear c3;simp only [Option.some.injEq,Prod.mk.injEq] at H;obtain ⟨rfl,rfl⟩:=H;obtain ⟨Ao9,co9,eo9⟩:=Kd.R_slice (Kd.S_R HO_0.out);subst eo9;go_wp2
      go_ret
      exact ⟨by first|rfl|(simp;done)|(simp [*];done),Kd.S_mono HO_0.out (fun _ h=> .inl h),HB.out,HK.out⟩

def laws_markIntS.l0:Nat→List Int→Int→Int→Option (Int×List Int)
  |0,_,_,_=>none
  |k+1,x0,x1,x5=>if x5<(x0.length:Int) then (if 0≤x5 then (laws_markIntS.l0 k (x0.set (x5:Int).toNat x1) (wrap64 (x1+1)) (wrap64 (x5+1))) else (none)) else (some (x1,x0))
def laws_markIntS.f (k:Nat) (l0:List Int) (a1:Int):Option (Int×List Int):=laws_markIntS.l0 k l0 a1 0
set_option maxHeartbeats 8000000 in
set_option maxRecDepth 100000 in
theorem laws_markIntS.calls (k:Nat) (P0_:Nat→Prop) (u9000_:Value) (l0:List Int) (a1:Int) (r1:Int) (r2:List Int) (w0 w:World) (hB:Below w0.heap.size w0 w) (ho0:Kd.R (Kd.int .i64) 3 w w0.heap.size P0_ u9000_ l0) (h:laws_markIntS.f k l0 a1=some (r1,r2)) :
    Calls Try.prog 64 #[u9000_,.int .i64 a1] w fun e w'=>e= .returned (.int .i64 r1)∧Kd.R (Kd.int .i64) 3 w' w0.heap.size (fun k_=>(P0_ k_∨w.heap.size≤k_)) u9000_ r2∧Below w0.heap.size w0 w'∧Kept w w' (fun k_=>P0_ k_):=by
  have HO0:=aM (show Kd.R (Kd.int .i64) 3 w w0.heap.size (fun k_=>(P0_ k_∨w.heap.size≤k_)) u9000_ l0 from Kd.R_mono ho0 (fun k_ hk=>(.inl hk)));have HK:=aM (Kept.refl w (fun k_=>P0_ k_));have HW0:=aM hB.size;have HB:=aM hB;clear hB;have H:(laws_markIntS.l0 k l0 a1 0)=some (r1,r2):=h;clear h;have H':=aM H;clear H;go_enter Try.func64,Try.ntmps64;go_wp2;go_loopg [1,5] k (fun kq v1 v5 w'=>∃ (x0_1:List Int) (x1_1:Int) (x5_1:Int),v1= .int .i64 x1_1∧v5= .int .i64 x5_1∧Aside0 (laws_markIntS.l0 kq x0_1 x1_1 x5_1=some (r1,r2))∧Aside0 (kq≤k)∧Aside0 (Kd.R (Kd.int .i64) 3 w' w0.heap.size (fun k_=>(P0_ k_∨w.heap.size≤k_)) u9000_ x0_1)∧Aside0 (Kept w w' (fun k_=>P0_ k_))∧Aside0 (Below w0.heap.size w0 w'))
  case atStart=>exact ⟨(l0),(a1),(0),(by first|rfl|(simp;done)|(simp [*];done)),(by first|rfl|(simp;done)|(simp [*];done)),H',⟨Nat.le_refl _⟩,⟨by (with_reducible repeat (first|apply Kd.Qd|apply Kd.Qe|apply Kd.R_drew));exact HO0.out⟩,⟨by repeat (first|(with_reducible first|exact HK.out|apply Kept.alloc|apply Kept.drewN|apply Kept.drew)|exact HK.out)⟩,⟨by repeat (first|(with_reducible first|exact HB.out|apply Qb|apply Qa|apply Qc)|exact HB.out)⟩⟩
  case round=>
   clear H';(try clear p2);obtain ⟨x0_1,x1_1,x5_1,rfl,rfl,HA,HK1,HO_0,HK,HB⟩:=hrel
   cases gk with
   |zero=>exact absurd HA.out (by simp [laws_markIntS.l0])
   |succ k1=>
    have H:=HA.out;clear HA;simp only [laws_markIntS.l0] at H;by_cases c3:x5_1<(x0_1.length:Int)
    ·rw [if_pos c3] at H;have c3b0:decide (x5_1<(x0_1.length:Int))=true:=decide_eq_true c3;clear c3;by_cases c4:0≤x5_1
     ·rw [if_pos c4] at H;have c4b0:decide (0≤x5_1)=true:=decide_eq_true c4;clear c4;obtain ⟨y101,hy101⟩:∃ y_:List Int,y_=(x0_1.set (x5_1:Int).toNat x1_1):=⟨_,rfl⟩;replace H:(laws_markIntS.l0 k1 y101 (wrap64 (x1_1+1)) (wrap64 (x5_1+1)))=some (r1,r2):=by first|(rw [hy101];with_reducible exact H)|(have H2_:=(Option.bind_some _ _).symm.trans H;rw [hy101];with_reducible exact H2_)|(have H2_:=(Option.bind_some _ _).symm.trans H;with_reducible exact H2_)|with_reducible exact H|(rw [hy101];exact H)|exact H
      have Ny101:=aM hy101;clear hy101;have H':=aM H;clear H;obtain ⟨Ao6,co6,eo6⟩:=Kd.R_slice HO_0.out;subst eo6;have p5:0≤(x5_1:Int):=of_decide_eq_true (by first|(with_reducible assumption)|assumption);have q5:(x5_1:Int)<((x0_1.length:Int):Int):=of_decide_eq_true (by first|(with_reducible assumption)|assumption);obtain ⟨go5,co5,eo5,gb5,gl5,cl5,HG5⟩:=Kd.R_form HO_0.out (by omega)
      (first|cases eo5|(injection eo5 with ea_ en_ ec_;(first|subst ea_|(injection ea_ with ea_;subst ea_));subst ec_;clear en_))
      have GB5:=aM gb5;have GG5:=aM HG5;clear gb5 gl5 HG5;have HMgo5:=aM (show (P0_ go5∨w.heap.size≤go5) from (HO_0.out.1 _ rfl));obtain ⟨hx5_0,hf5_0⟩:=Kd.R_celln 0 HO_0.out (x5_1:Int) p5 q5;replace p5:=eq_true p5;replace q5:=eq_true q5;have HP7:=Kd.R_putg HO_0.out (x5_1:Int) x1_1;go_wp2_with (first|((with_reducible refine gate_store (t:=3) (p:=15) rfl ?_);refine store_event (t:=3) (p:=15) (v:=?vo_w8) (w1:=(wr.setCell ⟨go5,(x5_1:Int).toNat,none⟩ (.int .i64 x1_1))) ?hg ?ho ?hn ?hr ?_;(case ho=>rfl);(case hg=>rfl);(case hn=>rfl);(case hr=>first|(go_simp;done)|(go_simp;rfl));intro w8 hw;have hg:wr.grownBy w8 (some go5):=(by rw [hw];exact HP7.2);have hp_:Kd.R (Kd.int .i64) 3 w8 w0.heap.size (fun k_=>(P0_ k_∨w.heap.size≤k_)) (.slice (some ⟨go5,0,none⟩) x0_1.length co6) y101:=(by rw [hw,Ny101.out];exact HP7.1);clear HP7;have n0_:=aM (hp_);have n1_:=aM ((by rw [hw];exact below_set (HB.out) GB5.out:Below w0.heap.size w0 w8));have n2_:=aM (Kept.of_grown (S:=(fun k_=>P0_ k_)) hg (by repeat (first|(with_reducible first|exact HK.out|apply Kept.alloc|apply Kept.drewN|apply Kept.drew)|exact HK.out)) (fun k_ e_=>(HO_0.out.1 k_ e_)));clear HO_0;clear HB;clear HK;have HO_0:=n0_;have HB:=n1_;have HK:=n2_;clear n0_ n1_ n2_;clear hg hw hp_))
      go_roundg k1
      case measure=>have:=HK1.out;omega
      case rel=>exact ⟨(y101),(wrap64 (x1_1+1)),(wrap64 (x5_1+1)),(by first|rfl|(simp;done)|(simp [*];done)),(by first|rfl|(simp;done)|(simp [*];done)),H',⟨by have:=HK1.out;omega⟩,⟨by (with_reducible repeat (first|apply Kd.Qd|apply Kd.Qe|apply Kd.R_drew));exact HO_0.out⟩,⟨by repeat (first|(with_reducible first|exact HK.out|apply Kept.alloc|apply Kept.drewN|apply Kept.drew)|exact HK.out)⟩,⟨by repeat (first|(with_reducible first|exact HB.out|apply Qb|apply Qa|apply Qc)|exact HB.out)⟩⟩
     ·rw [if_neg c4] at H;exact absurd H (by simp)
    ·rw [if_neg c3] at H;have c3b0:decide (x5_1<(x0_1.length:Int))=false:=decide_eq_false c3;clear c3;simp only [Option.some.injEq,Prod.mk.injEq] at H;obtain ⟨rfl,rfl⟩:=H;obtain ⟨Ao9,co9,eo9⟩:=Kd.R_slice HO_0.out;subst eo9;go_wp2
     go_ret
     exact ⟨by first|rfl|(simp [errW_none,errW_some] <;> rfl)|(simp [*,errW_none,errW_some] <;> rfl),by (with_reducible repeat (first|apply Kd.Qd|apply Kd.Qe|apply Kd.R_drew));exact HO_0.out,by repeat (first|(with_reducible first|exact HB.out|apply Qb|apply Qa|apply Qc)|exact HB.out),by repeat (first|(with_reducible first|exact HK.out|apply Kept.alloc|apply Kept.drewN|apply Kept.drew)|exact HK.out)⟩

def laws_heldIntS.l0:Nat→List Int→Int→Int→Option (Int)
  |0,_,_,_=>none
  |k+1,x0,x1,x5=>if x5<(x0.length:Int) then (if 0≤x5 then (if (rd x0 x5)=x1 then (laws_heldIntS.l0 k x0 (wrap64 (x1+1)) (wrap64 (x5+1))) else (some (-1))) else (none)) else (some x1)
def laws_heldIntS.f (k:Nat) (l0:List Int) (a1:Int):Option (Int):=laws_heldIntS.l0 k l0 a1 0
set_option maxHeartbeats 8000000 in
set_option maxRecDepth 100000 in
theorem laws_heldIntS.calls (k:Nat) (A0:Option Addr) (c0:Nat) (l0:List Int) (a1:Int) (r:Int) (w:World) (hr0:Kd.C (Kd.int .i64) w A0 l0.length l0) (hc0:l0.length≤c0) (h:laws_heldIntS.f k l0 a1=some r) :
    Calls Try.prog 65 #[.slice A0 l0.length c0,.int .i64 a1] w fun e w'=>e= .returned (.int .i64 r)∧Drawn0 w w':=by
  have HR0:=aM hr0;have HC0:=aM hc0;clear hr0 hc0;have H:(laws_heldIntS.l0 k l0 a1 0)=some r:=h;clear h;have H':=aM H;clear H;go_enter Try.func65,Try.ntmps65;go_wp2;go_loopg [1,5] k (fun kq v1 v5 w'=>∃ (x1_1:Int) (x5_1:Int),v1= .int .i64 x1_1∧v5= .int .i64 x5_1∧Aside0 (laws_heldIntS.l0 kq l0 x1_1 x5_1=some r)∧Aside0 (kq≤k)∧Drawn0 w w')
  case atStart=>exact ⟨(a1),(0),(by first|rfl|(simp;done)|(simp [*];done)),(by first|rfl|(simp;done)|(simp [*];done)),H',⟨Nat.le_refl _⟩,by repeat (first|exact Drawn0.refl _|apply Drawn0.step)⟩
  case round=>
   clear H';(try clear p2);obtain ⟨x1_1,x5_1,rfl,rfl,HA,HK1,⟨m1,rfl⟩⟩:=hrel
   cases gk with
   |zero=>exact absurd HA.out (by simp [laws_heldIntS.l0])
   |succ k1=>
    have H:=HA.out;clear HA;simp only [laws_heldIntS.l0] at H;by_cases c3:x5_1<(l0.length:Int)
    ·rw [if_pos c3] at H;have c3b0:decide (x5_1<(l0.length:Int))=true:=decide_eq_true c3;clear c3;by_cases c4:0≤x5_1
     ·rw [if_pos c4] at H;have c4b0:decide (0≤x5_1)=true:=decide_eq_true c4;clear c4;by_cases c5:(rd l0 x5_1)=x1_1
      ·rw [if_pos c5] at H;have c5b0:((rd l0 x5_1) == x1_1)=true:=beq_iff_eq.mpr c5;have c5b1:((rd l0 x5_1) != x1_1)=false:=bne_eq_false_iff_eq.mpr c5;clear c5;have H':=aM H;clear H;have p101:0≤(x5_1:Int):=of_decide_eq_true (by first|(with_reducible assumption)|assumption);have q101:x5_1<(l0.length:Int):=of_decide_eq_true (by first|(with_reducible assumption)|assumption);obtain ⟨ad101,e101,hx101_0⟩:=Kd.at_int HR0.out x5_1 p101 q101
       cases e101
       replace p101:=eq_true p101;replace q101:=eq_true q101;go_wp2;go_roundg k1
       case measure=>have:=HK1.out;omega
       case rel=>exact ⟨(wrap64 (x1_1+1)),(wrap64 (x5_1+1)),(by first|rfl|(simp;done)|(simp [*];done)),(by first|rfl|(simp;done)|(simp [*];done)),H',⟨by have:=HK1.out;omega⟩,by repeat (first|exact Drawn0.refl _|apply Drawn0.step)⟩
      ·rw [if_neg c5] at H;have c5b0:((rd l0 x5_1) == x1_1)=false:=beq_eq_false_iff_ne.mpr c5;have c5b1:((rd l0 x5_1) != x1_1)=true:=bne_iff_ne.mpr c5;obtain rfl:=Option.some.inj H;have p101:0≤(x5_1:Int):=of_decide_eq_true (by first|(with_reducible assumption)|assumption);have q101:x5_1<(l0.length:Int):=of_decide_eq_true (by first|(with_reducible assumption)|assumption);obtain ⟨ad101,e101,hx101_0⟩:=Kd.at_int HR0.out x5_1 p101 q101
       cases e101
       replace p101:=eq_true p101;replace q101:=eq_true q101;go_wp2
       go_ret
       exact ⟨by first|rfl|(simp;done)|(simp [*];done),by repeat (first|exact Drawn0.refl _|apply Drawn0.step)⟩
     ·rw [if_neg c4] at H;exact absurd H (by simp)
    ·rw [if_neg c3] at H;have c3b0:decide (x5_1<(l0.length:Int))=false:=decide_eq_false c3;clear c3;obtain rfl:=Option.some.inj H;go_wp2
     go_ret
     exact ⟨by first|rfl|(simp;done)|(simp [*];done),by repeat (first|exact Drawn0.refl _|apply Drawn0.step)⟩

mutual
def laws_FnExactMatchLoads.j0:Nat→List (List Bool)→List Int→Bool→List (List Bool)→List Int→Bool→Bool→Option (Bool)
  |0,_,_,_,_,_,_,_=>none
  |k+1,x0,x4,x5,x6,x7,x8,x40=>if x40=true then (some false) else ((laws_toBoolSS.f k x0).bind fun t117=>((laws_eqBoolSS.f k x6 t117).bind fun t120=>(if t120=true then ((laws_markBoolSS.f k x6 1).bind fun bt121=>(if bt121.1<0 then (laws_FnExactMatchLoads.j1 k x0 x4 x5 x7 true) else ((laws_eqIntS.f k x7 x4).bind fun t123=>(if t123=true then (laws_FnExactMatchLoads.j1 k x0 x4 x5 x7 (x8 != x5)) else (laws_FnExactMatchLoads.j1 k x0 x4 x5 x7 true))))) else (some false))))
def laws_FnExactMatchLoads.j1:Nat→List (List Bool)→List Int→Bool→List Int→Bool→Option (Bool)
  |0,_,_,_,_,_=>none
  |k+1,x0,x4,x5,x7,x61=>if x61=true then (some false) else ((laws_markIntS.f k x7 1).bind fun bt124=>((laws_heldIntS.f k bt124.2 1).bind fun t126=>(if t126<0 then (some false) else (if t126=bt124.1 then ((laws_toBoolSS.f k x0).bind fun t127=>((impl_MatchLoads.f k t127).bind fun bt130=>((laws_eqIntS.f k bt130.1 x4).bind fun t134=>(if t134=true then (laws_FnExactMatchLoads.j2 k bt124.2 bt124.1 (bt130.2 != x5)) else (laws_FnExactMatchLoads.j2 k bt124.2 bt124.1 true))))) else (some false)))))
def laws_FnExactMatchLoads.j2:Nat→List Int→Int→Bool→Option (Bool)
  |0,_,_,_=>none
  |k+1,x7,x10,x87=>if x87=true then (some false) else ((laws_heldIntS.f k x7 1).bind fun t135=>(if t135<0 then (some false) else (if t135=x10 then (some true) else (some false))))
end
def laws_FnExactMatchLoads.f (k:Nat) (l0:List (List Bool)):Option (Bool):=(laws_szBoolSS.f k l0 1048576).bind fun t101=>(if t101<0 then (some true) else ((laws_toBoolSS.f k l0).bind fun t102=>((spec_MatchLoads.f k t102).bind fun bt105=>((laws_toBoolSS.f k l0).bind fun t109=>((impl_MatchLoads.f k t109).bind fun bt112=>((laws_eqIntS.f k bt112.1 bt105.1).bind fun t116=>(if t116=true then (laws_FnExactMatchLoads.j0 k l0 bt105.1 bt105.2 t109 bt112.1 bt112.2 (bt112.2 != bt105.2)) else (laws_FnExactMatchLoads.j0 k l0 bt105.1 bt105.2 t109 bt112.1 bt112.2 true))))))))
set_option maxHeartbeats 8000000 in
set_option maxRecDepth 100000 in
theorem laws_FnExactMatchLoads.calls (k:Nat) (A0:Option Addr) (c0:Nat) (l0:List (List Bool)) (r:Bool) (w:World) (hr0:Kd.C (Kd.slice 4 Kd.bool) w A0 l0.length l0) (hc0:l0.length≤c0) (h:laws_FnExactMatchLoads.f k l0=some r) :
    Calls Try.prog 7 #[.slice A0 l0.length c0] w fun e w'=>e= .returned (.bool r)∧Below w.heap.size w w':=by
  have HR0:=aM hr0;have HC0:=aM hc0;clear hr0 hc0;have HB:=aM (Below.refl w.heap.size w);have H:((laws_szBoolSS.f k l0 1048576).bind fun t101=>(if t101<0 then (some true) else ((laws_toBoolSS.f k l0).bind fun t102=>((spec_MatchLoads.f k t102).bind fun bt105=>((laws_toBoolSS.f k l0).bind fun t109=>((impl_MatchLoads.f k t109).bind fun bt112=>((laws_eqIntS.f k bt112.1 bt105.1).bind fun t116=>(if t116=true then (laws_FnExactMatchLoads.j0 k l0 bt105.1 bt105.2 t109 bt112.1 bt112.2 (bt112.2 != bt105.2)) else (laws_FnExactMatchLoads.j0 k l0 bt105.1 bt105.2 t109 bt112.1 bt112.2 true)))))))))=some r:=h;clear h;replace H:=Option.bind_eq_some_iff.mp H;obtain ⟨t101,A20,H⟩:=H;replace H:(if t101<0 then (some true) else ((laws_toBoolSS.f k l0).bind fun t102=>((spec_MatchLoads.f k t102).bind fun bt105=>((laws_toBoolSS.f k l0).bind fun t109=>((impl_MatchLoads.f k t109).bind fun bt112=>((laws_eqIntS.f k bt112.1 bt105.1).bind fun t116=>(if t116=true then (laws_FnExactMatchLoads.j0 k l0 bt105.1 bt105.2 t109 bt112.1 bt112.2 (bt112.2 != bt105.2)) else (laws_FnExactMatchLoads.j0 k l0 bt105.1 bt105.2 t109 bt112.1 bt112.2 true))))))))=some r:=H;have A2:=aM A20;clear A20;by_cases c3:t101<0
  ·rw [if_pos c3] at H;have c3b0:decide (t101<0)=true:=decide_eq_true c3;clear c3;obtain rfl:=Option.some.inj H;go_enter Try.func7,Try.ntmps7;go_wp2_with (first|((with_reducible refine gate_callee (f:=57) rfl ?_);refine goesL_ (some 16) rfl rfl Try.func57 (by kernel_rfl) rfl #[.slice A0 l0.length c0,.int .i64 1048576] rfl (by (try simp only [aD,aE,aF]);first|done|rfl|(simp only [aG,aH];rfl)) ?_;(with_reducible refine (laws_szBoolSS.calls k _ _ l0 1048576 t101 _ ?side1 ?side2 A2.out).mono ?_);(case side1=>repeat (first|exact HR0.out|(with_reducible refine Kd.C_alloc ?_ _)|(with_reducible refine Kd.C_drewN ?_ _)|(with_reducible refine Kd.C_drew ?_)));(case side2=>exact HC0.out);rintro e w' ⟨rfl,⟨nd,rfl⟩⟩;refine ⟨_,rfl,?_⟩))
   go_ret
   exact ⟨by first|rfl|(simp [errW_none,errW_some] <;> rfl)|(simp [*,errW_none,errW_some] <;> rfl),by repeat (first|(with_reducible first|exact HB.out|apply Qb|apply Qa|apply Qc)|exact HB.out)⟩
  ·rw [if_neg c3] at H;have c3b0:decide (t101<0)=false:=decide_eq_false c3;clear c3;replace H:=Option.bind_eq_some_iff.mp H;obtain ⟨t102,A40,H⟩:=H;replace H:((spec_MatchLoads.f k t102).bind fun bt105=>((laws_toBoolSS.f k l0).bind fun t109=>((impl_MatchLoads.f k t109).bind fun bt112=>((laws_eqIntS.f k bt112.1 bt105.1).bind fun t116=>(if t116=true then (laws_FnExactMatchLoads.j0 k l0 bt105.1 bt105.2 t109 bt112.1 bt112.2 (bt112.2 != bt105.2)) else (laws_FnExactMatchLoads.j0 k l0 bt105.1 bt105.2 t109 bt112.1 bt112.2 true))))))=some r:=H;have A4:=aM A40;clear A40;replace H:=Option.bind_eq_some_iff.mp H;obtain ⟨⟨t105,t106⟩,A50,H⟩:=H;replace H:((laws_toBoolSS.f k l0).bind fun t109=>((impl_MatchLoads.f k t109).bind fun bt112=>((laws_eqIntS.f k bt112.1 t105).bind fun t116=>(if t116=true then (laws_FnExactMatchLoads.j0 k l0 t105 t106 t109 bt112.1 bt112.2 (bt112.2 != t106)) else (laws_FnExactMatchLoads.j0 k l0 t105 t106 t109 bt112.1 bt112.2 true)))))=some r:=H;have A5:=aM A50;clear A50;replace H:=Option.bind_eq_some_iff.mp H;obtain ⟨t109,A60,H⟩:=H;replace H:((impl_MatchLoads.f k t109).bind fun bt112=>((laws_eqIntS.f k bt112.1 t105).bind fun t116=>(if t116=true then (laws_FnExactMatchLoads.j0 k l0 t105 t106 t109 bt112.1 bt112.2 (bt112.2 != t106)) else (laws_FnExactMatchLoads.j0 k l0 t105 t106 t109 bt112.1 bt112.2 true))))=some r:=H;have A6:=aM A60;clear A60;replace H:=Option.bind_eq_some_iff.mp H;obtain ⟨⟨t112,t113⟩,A70,H⟩:=H;replace H:((laws_eqIntS.f k t112 t105).bind fun t116=>(if t116=true then (laws_FnExactMatchLoads.j0 k l0 t105 t106 t109 t112 t113 (t113 != t106)) else (laws_FnExactMatchLoads.j0 k l0 t105 t106 t109 t112 t113 true)))=some r:=H;have A7:=aM A70;clear A70;have HC8:=aM H;clear H;go_enter Try.func7,Try.ntmps7
   go_upto_region 8 with (first|((with_reducible refine gate_callee (f:=57) rfl ?_);refine goesL_ (some 16) rfl rfl Try.func57 (by kernel_rfl) rfl #[.slice A0 l0.length c0,.int .i64 1048576] rfl (by (try simp only [aD,aE,aF]);first|done|rfl|(simp only [aG,aH];rfl)) ?_;(with_reducible refine (laws_szBoolSS.calls k _ _ l0 1048576 t101 _ ?side1 ?side2 A2.out).mono ?_);(case side1=>repeat (first|exact HR0.out|(with_reducible refine Kd.C_alloc ?_ _)|(with_reducible refine Kd.C_drewN ?_ _)|(with_reducible refine Kd.C_drew ?_)));(case side2=>exact HC0.out);rintro e w' ⟨rfl,⟨nd,rfl⟩⟩;refine ⟨_,rfl,?_⟩)|((with_reducible refine gate_callee (f:=59) rfl ?_);refine goesL_ (some 21) rfl rfl Try.func59 (by kernel_rfl) rfl #[.slice A0 l0.length c0] rfl (by (try simp only [aD,aE,aF]);first|done|rfl|(simp only [aG,aH];rfl)) ?_;(with_reducible refine (laws_toBoolSS.calls k _ _ l0 t102 _ ?side1 ?side2 A4.out).mono ?_);(case side1=>repeat (first|exact HR0.out|(with_reducible refine Kd.C_alloc ?_ _)|(with_reducible refine Kd.C_drewN ?_ _)|(with_reducible refine Kd.C_drew ?_)));(case side2=>exact HC0.out);rintro e w9 ⟨v103,rfl,ho0,hb⟩;refine ⟨_,rfl,?_⟩;have n0_:=aM (Kd.S_lower ho0 (below_size (by repeat (first|(with_reducible first|exact HB.out|apply Qb|apply Qa|apply Qc)|exact HB.out))));have n1_:=aM (below_step (by repeat (first|(with_reducible first|exact HB.out|apply Qb|apply Qa|apply Qc)|exact HB.out)) hb);clear HB;have HO104:=n0_;have HB:=n1_;clear n0_ n1_;(try clear hb);(try clear hb2);(try clear hk);(try clear hi);(try clear ho0);obtain ⟨Ao10,co10,eo10⟩:=Kd.S_slice HO104.out;subst eo10)|((with_reducible refine gate_callee (f:=58) rfl ?_);refine goesL_ (some 22) rfl rfl Try.func58 (by kernel_rfl) rfl #[.slice Ao10 t102.length co10] rfl (by (try simp only [aD,aE,aF]);first|done|rfl|(simp only [aG,aH];rfl)) ?_;(with_reducible refine (spec_MatchLoads.calls k _ _ t102 t105 t106 _ ?side1 ?side2 A5.out).mono ?_);(case side1=>repeat (first|exact (Kd.S_reads' HO104.out).2.2|(with_reducible refine Kd.C_alloc ?_ _)|(with_reducible refine Kd.C_drewN ?_ _)|(with_reducible refine Kd.C_drew ?_)));(case side2=>exact (Kd.S_reads' HO104.out).2.1);rintro e w11 ⟨v107,rfl,ho0,hb⟩;refine ⟨_,rfl,?_⟩;have n0_:=aM (Kd.S_below (by (with_reducible repeat (first|apply Kd.S_alloc|apply Kd.S_drewN|apply Kd.S_drew));exact HO104.out) hb);have n1_:=aM (Kd.R_lower ho0 (below_size (by repeat (first|(with_reducible first|exact HB.out|apply Qb|apply Qa|apply Qc)|exact HB.out))));have n2_:=aM (below_step (by repeat (first|(with_reducible first|exact HB.out|apply Qb|apply Qa|apply Qc)|exact HB.out)) hb);clear HO104;clear HB;have HO104:=n0_;have HO108:=n1_;have HB:=n2_;clear n0_ n1_ n2_;(try clear hb);(try clear hb2);(try clear hk);(try clear hi);(try clear ho0))|((with_reducible refine gate_callee (f:=59) rfl ?_);refine goesL_ (some 26) rfl rfl Try.func59 (by kernel_rfl) rfl #[.slice A0 l0.length c0] rfl (by (try simp only [aD,aE,aF]);first|done|rfl|(simp only [aG,aH];rfl)) ?_;(with_reducible refine (laws_toBoolSS.calls k _ _ l0 t109 _ ?side1 ?side2 A6.out).mono ?_);(case side1=>repeat (first|exact (Kd.C_below HR0.out HB.out)|(with_reducible refine Kd.C_alloc ?_ _)|(with_reducible refine Kd.C_drewN ?_ _)|(with_reducible refine Kd.C_drew ?_)));(case side2=>exact HC0.out);rintro e w12 ⟨v110,rfl,ho0,hb⟩;refine ⟨_,rfl,?_⟩;have n0_:=aM (Kd.S_elder' (by (with_reducible repeat (first|apply Kd.S_alloc|apply Kd.S_drewN|apply Kd.S_drew));exact HO104.out) (Kd.S_base ho0) hb);have n1_:=aM (Kd.R_below (by (with_reducible repeat (first|apply Kd.Qd|apply Kd.Qe|apply Kd.R_drew));exact HO108.out) hb);have n2_:=aM (Kd.S_lower (Kd.S_new' ho0 (Kd.S_lt (by (with_reducible repeat (first|apply Kd.S_alloc|apply Kd.S_drewN|apply Kd.S_drew));exact HO104.out))) (below_size (by repeat (first|(with_reducible first|exact HB.out|apply Qb|apply Qa|apply Qc)|exact HB.out))));have n3_:=aM (below_step (by repeat (first|(with_reducible first|exact HB.out|apply Qb|apply Qa|apply Qc)|exact HB.out)) hb);clear HO104;clear HO108;clear HB;have HO104:=n0_;have HO108:=n1_;have HO111:=n2_;have HB:=n3_;clear n0_ n1_ n2_ n3_;(try clear hb);(try clear hb2);(try clear hk);(try clear hi);(try clear ho0);obtain ⟨Ao13,co13,eo13⟩:=Kd.S_slice HO111.out;subst eo13)|((with_reducible refine gate_callee (f:=60) rfl ?_);refine goesL_ (some 29) rfl rfl Try.func60 (by kernel_rfl) rfl #[.slice Ao13 t109.length co13] rfl (by (try simp only [aD,aE,aF]);first|done|rfl|(simp only [aG,aH];rfl)) ?_;(with_reducible refine (impl_MatchLoads.calls k _ _ t109 t112 t113 _ ?side1 ?side2 A7.out).mono ?_);(case side1=>repeat (first|exact (Kd.S_reads' HO111.out).2.2|(with_reducible refine Kd.C_alloc ?_ _)|(with_reducible refine Kd.C_drewN ?_ _)|(with_reducible refine Kd.C_drew ?_)));(case side2=>exact (Kd.S_reads' HO111.out).2.1);rintro e w14 ⟨v114,rfl,ho0,hb⟩;refine ⟨_,rfl,?_⟩;have n0_:=aM (Kd.S_below (by (with_reducible repeat (first|apply Kd.S_alloc|apply Kd.S_drewN|apply Kd.S_drew));exact HO104.out) hb);have n1_:=aM (Kd.R_elder' (by (with_reducible repeat (first|apply Kd.Qd|apply Kd.Qe|apply Kd.R_drew));exact HO108.out) (Kd.R_base ho0) hb);have n2_:=aM (Kd.S_below (by (with_reducible repeat (first|apply Kd.S_alloc|apply Kd.S_drewN|apply Kd.S_drew));exact HO111.out) hb);have n3_:=aM (Kd.R_lower (Kd.R_new' ho0 (Kd.R_lt (by (with_reducible repeat (first|apply Kd.Qd|apply Kd.Qe|apply Kd.R_drew));exact HO108.out))) (below_size (by repeat (first|(with_reducible first|exact HB.out|apply Qb|apply Qa|apply Qc)|exact HB.out))));have n4_:=aM (below_step (by repeat (first|(with_reducible first|exact HB.out|apply Qb|apply Qa|apply Qc)|exact HB.out)) hb);clear HO104;clear HO108;clear HO111;clear HB;have HO104:=n0_;have HO108:=n1_;have HO111:=n2_;have HO115:=n3_;have HB:=n4_;clear n0_ n1_ n2_ n3_ n4_;(try clear hb);(try clear hb2);(try clear hk);(try clear hi);(try clear ho0)))
   (try simp only [Act.put,aA,aB,aC])
   go_cut [40] (fun v40 wc=>∃ (kq:Nat) (x40_7:Bool),v40= .bool x40_7∧Aside0 (laws_FnExactMatchLoads.j0 kq l0 t105 t106 t109 t112 t113 x40_7=some r)∧Aside0 (kq≤k)∧Aside0 (Kd.R (Kd.int .i64) 3 wc w.heap.size (fun k_=>some k_≠(v114:Value).ownBlock) v107 t105)∧Aside0 (Kd.S (Kd.slice 4 Kd.bool) 88 wc w.heap.size (fun _=>True) (.slice Ao13 t109.length co13) t109)∧Aside0 (Kd.R (Kd.int .i64) 3 wc w.heap.size (fun k_=>some k_≠(v107:Value).ownBlock) v114 t112)∧Aside0 (Below w.heap.size w wc))
   case first=>
    have H:=HC8.out;clear HC8;replace H:=Option.bind_eq_some_iff.mp H;obtain ⟨t116,A150,H⟩:=H;replace H:(if t116=true then (laws_FnExactMatchLoads.j0 k l0 t105 t106 t109 t112 t113 (t113 != t106)) else (laws_FnExactMatchLoads.j0 k l0 t105 t106 t109 t112 t113 true))=some r:=H;have A15:=aM A150;clear A150;by_cases c16:t116=true
    ·subst c16;have H1:(laws_FnExactMatchLoads.j0 k l0 t105 t106 t109 t112 t113 (t113 != t106))=some r:=by rw [if_pos rfl] at H;exact H
     clear H;have H:=H1;clear H1;have H':=aM H;clear H;obtain ⟨Ao17,co17,eo17⟩:=Kd.R_slice HO115.out;subst eo17;obtain ⟨Ao18,co18,eo18⟩:=Kd.R_slice HO108.out;subst eo18;go_wp2_with (first|((with_reducible refine gate_callee (f:=61) rfl ?_);refine goesL_ (some 34) rfl rfl Try.func61 (by kernel_rfl) rfl #[.slice Ao17 t112.length co17,.slice Ao18 t105.length co18] rfl (by (try simp only [aD,aE,aF]);first|done|rfl|(simp only [aG,aH];rfl)) ?_;(with_reducible refine (laws_eqIntS.calls k _ _ t112 _ _ t105 true _ ?side1 ?side2 ?side3 ?side4 A15.out).mono ?_);(case side1=>repeat (first|exact (Kd.Qf HO115.out).2.2|(with_reducible refine Kd.C_alloc ?_ _)|(with_reducible refine Kd.C_drewN ?_ _)|(with_reducible refine Kd.C_drew ?_)));(case side2=>exact (Kd.Qf HO115.out).2.1);(case side3=>repeat (first|exact (Kd.Qf HO108.out).2.2|(with_reducible refine Kd.C_alloc ?_ _)|(with_reducible refine Kd.C_drewN ?_ _)|(with_reducible refine Kd.C_drew ?_)));(case side4=>exact (Kd.Qf HO108.out).2.1);rintro e w' ⟨rfl,⟨nd,rfl⟩⟩;refine ⟨_,rfl,?_⟩))
     go_meet
     case rel=>exact ⟨_,((t113 != t106)),(by first|rfl|(simp;done)|(simp [*];done)),H',⟨by first|omega|exact Nat.le_refl _⟩,⟨by (with_reducible repeat (first|apply Kd.Qd|apply Kd.Qe|apply Kd.R_drew));exact Kd.R_mono HO108.out (fun _ hk=>hk.2)⟩,⟨by (with_reducible repeat (first|apply Kd.S_alloc|apply Kd.S_drewN|apply Kd.S_drew));exact Kd.S_mono HO111.out (fun _ hk=>trivial)⟩,⟨by (with_reducible repeat (first|apply Kd.Qd|apply Kd.Qe|apply Kd.R_drew));exact Kd.R_mono HO115.out (fun _ hk=>hk.2)⟩,⟨by repeat (first|(with_reducible first|exact HB.out|apply Qb|apply Qa|apply Qc)|exact HB.out)⟩⟩
    ·replace c16:=Bool.eq_false_iff.mpr c16;subst c16;have H1:(laws_FnExactMatchLoads.j0 k l0 t105 t106 t109 t112 t113 true)=some r:=by rw [if_neg (show ¬ (false=true) by decide)] at H;exact H
     clear H;have H:=H1;clear H1;have H':=aM H;clear H;obtain ⟨Ao19,co19,eo19⟩:=Kd.R_slice HO115.out;subst eo19;obtain ⟨Ao20,co20,eo20⟩:=Kd.R_slice HO108.out;subst eo20;go_wp2_with (first|((with_reducible refine gate_callee (f:=61) rfl ?_);refine goesL_ (some 34) rfl rfl Try.func61 (by kernel_rfl) rfl #[.slice Ao19 t112.length co19,.slice Ao20 t105.length co20] rfl (by (try simp only [aD,aE,aF]);first|done|rfl|(simp only [aG,aH];rfl)) ?_;(with_reducible refine (laws_eqIntS.calls k _ _ t112 _ _ t105 false _ ?side1 ?side2 ?side3 ?side4 A15.out).mono ?_);(case side1=>repeat (first|exact (Kd.Qf HO115.out).2.2|(with_reducible refine Kd.C_alloc ?_ _)|(with_reducible refine Kd.C_drewN ?_ _)|(with_reducible refine Kd.C_drew ?_)));(case side2=>exact (Kd.Qf HO115.out).2.1);(case side3=>repeat (first|exact (Kd.Qf HO108.out).2.2|(with_reducible refine Kd.C_alloc ?_ _)|(with_reducible refine Kd.C_drewN ?_ _)|(with_reducible refine Kd.C_drew ?_)));(case side4=>exact (Kd.Qf HO108.out).2.1);rintro e w' ⟨rfl,⟨nd,rfl⟩⟩;refine ⟨_,rfl,?_⟩))
     go_meet
     case rel=>exact ⟨_,(true),(by first|rfl|(simp;done)|(simp [*];done)),H',⟨by first|omega|exact Nat.le_refl _⟩,⟨by (with_reducible repeat (first|apply Kd.Qd|apply Kd.Qe|apply Kd.R_drew));exact Kd.R_mono HO108.out (fun _ hk=>hk.2)⟩,⟨by (with_reducible repeat (first|apply Kd.S_alloc|apply Kd.S_drewN|apply Kd.S_drew));exact Kd.S_mono HO111.out (fun _ hk=>trivial)⟩,⟨by (with_reducible repeat (first|apply Kd.Qd|apply Kd.Qe|apply Kd.R_drew));exact Kd.R_mono HO115.out (fun _ hk=>hk.2)⟩,⟨by repeat (first|(with_reducible first|exact HB.out|apply Qb|apply Qa|apply Qc)|exact HB.out)⟩⟩
   case rest=>
    clear HC8;(try clear c1);(try clear p2);(try clear c3);(try clear c3b0);(try clear c5);(try clear c6);(try clear c7);(try clear c16);obtain ⟨kq,x40_7,rfl,HA,HJ7,HO_4,HO_6,HO_7,HB⟩:=hcut
    cases kq with
    |zero=>exact absurd HA.out (by simp [laws_FnExactMatchLoads.j0])
    |succ kj7=>
     have H:=HA.out;clear HA;simp only [laws_FnExactMatchLoads.j0] at H;by_cases c21:x40_7=true
     ·subst c21;have H1:(some false)=some r:=by rw [if_pos rfl] at H;exact H
      clear H;have H:=H1;clear H1;obtain rfl:=Option.some.inj H;go_wp2
      go_ret
      exact ⟨by first|rfl|(simp [errW_none,errW_some] <;> rfl)|(simp [*,errW_none,errW_some] <;> rfl),by repeat (first|(with_reducible first|exact HB.out|apply Qb|apply Qa|apply Qc)|exact HB.out)⟩
     ·replace c21:=Bool.eq_false_iff.mpr c21;subst c21;have H1:((laws_toBoolSS.f kj7 l0).bind fun t117=>((laws_eqBoolSS.f kj7 t109 t117).bind fun t120=>(if t120=true then ((laws_markBoolSS.f kj7 t109 1).bind fun bt121=>(if bt121.1<0 then (laws_FnExactMatchLoads.j1 kj7 l0 t105 t106 t112 true) else ((laws_eqIntS.f kj7 t112 t105).bind fun t123=>(if t123=true then (laws_FnExactMatchLoads.j1 kj7 l0 t105 t106 t112 (t113 != t106)) else (laws_FnExactMatchLoads.j1 kj7 l0 t105 t106 t112 true))))) else (some false))))=some r:=by rw [if_neg (show ¬ (false=true) by decide)] at H;exact H
      clear H;have H:=H1;clear H1;replace H:=Option.bind_eq_some_iff.mp H;obtain ⟨t117,A220,H⟩:=H;replace H:((laws_eqBoolSS.f kj7 t109 t117).bind fun t120=>(if t120=true then ((laws_markBoolSS.f kj7 t109 1).bind fun bt121=>(if bt121.1<0 then (laws_FnExactMatchLoads.j1 kj7 l0 t105 t106 t112 true) else ((laws_eqIntS.f kj7 t112 t105).bind fun t123=>(if t123=true then (laws_FnExactMatchLoads.j1 kj7 l0 t105 t106 t112 (t113 != t106)) else (laws_FnExactMatchLoads.j1 kj7 l0 t105 t106 t112 true))))) else (some false)))=some r:=H;have A22:=aM A220;clear A220;replace H:=Option.bind_eq_some_iff.mp H;obtain ⟨t120,A230,H⟩:=H;replace H:(if t120=true then ((laws_markBoolSS.f kj7 t109 1).bind fun bt121=>(if bt121.1<0 then (laws_FnExactMatchLoads.j1 kj7 l0 t105 t106 t112 true) else ((laws_eqIntS.f kj7 t112 t105).bind fun t123=>(if t123=true then (laws_FnExactMatchLoads.j1 kj7 l0 t105 t106 t112 (t113 != t106)) else (laws_FnExactMatchLoads.j1 kj7 l0 t105 t106 t112 true))))) else (some false))=some r:=H;have A23:=aM A230;clear A230;by_cases c24:t120=true
      ·subst c24;have H1:((laws_markBoolSS.f kj7 t109 1).bind fun bt121=>(if bt121.1<0 then (laws_FnExactMatchLoads.j1 kj7 l0 t105 t106 t112 true) else ((laws_eqIntS.f kj7 t112 t105).bind fun t123=>(if t123=true then (laws_FnExactMatchLoads.j1 kj7 l0 t105 t106 t112 (t113 != t106)) else (laws_FnExactMatchLoads.j1 kj7 l0 t105 t106 t112 true)))))=some r:=by rw [if_pos rfl] at H;exact H
       clear H;have H:=H1;clear H1;replace H:=Option.bind_eq_some_iff.mp H;obtain ⟨⟨t121,t122⟩,A250,H⟩:=H;replace H:(if t121<0 then (laws_FnExactMatchLoads.j1 kj7 l0 t105 t106 t112 true) else ((laws_eqIntS.f kj7 t112 t105).bind fun t123=>(if t123=true then (laws_FnExactMatchLoads.j1 kj7 l0 t105 t106 t112 (t113 != t106)) else (laws_FnExactMatchLoads.j1 kj7 l0 t105 t106 t112 true))))=some r:=H;have A25:=aM A250;clear A250;have HC26:=aM H;clear H
       go_upto_region 14 with (first|((with_reducible refine gate_callee (f:=59) rfl ?_);refine goesL_ (some 43) rfl rfl Try.func59 (by kernel_rfl) rfl #[.slice A0 l0.length c0] rfl (by (try simp only [aD,aE,aF]);first|done|rfl|(simp only [aG,aH];rfl)) ?_;(with_reducible refine (laws_toBoolSS.calls kj7 _ _ l0 t117 _ ?side1 ?side2 A22.out).mono ?_);(case side1=>repeat (first|exact (Kd.C_below HR0.out HB.out)|(with_reducible refine Kd.C_alloc ?_ _)|(with_reducible refine Kd.C_drewN ?_ _)|(with_reducible refine Kd.C_drew ?_)));(case side2=>exact HC0.out);rintro e w27 ⟨v118,rfl,ho0,hb⟩;refine ⟨_,rfl,?_⟩;have n0_:=aM (Kd.R_below (by (with_reducible repeat (first|apply Kd.Qd|apply Kd.Qe|apply Kd.R_drew));exact HO_4.out) hb);have n1_:=aM (Kd.S_elder' (by (with_reducible repeat (first|apply Kd.S_alloc|apply Kd.S_drewN|apply Kd.S_drew));exact HO_6.out) (Kd.S_base ho0) hb);have n2_:=aM (Kd.R_below (by (with_reducible repeat (first|apply Kd.Qd|apply Kd.Qe|apply Kd.R_drew));exact HO_7.out) hb);have n3_:=aM (Kd.S_lower (Kd.S_new' ho0 (Kd.S_lt (by (with_reducible repeat (first|apply Kd.S_alloc|apply Kd.S_drewN|apply Kd.S_drew));exact HO_6.out))) (below_size (by repeat (first|(with_reducible first|exact HB.out|apply Qb|apply Qa|apply Qc)|exact HB.out))));have n4_:=aM (below_step (by repeat (first|(with_reducible first|exact HB.out|apply Qb|apply Qa|apply Qc)|exact HB.out)) hb);clear HO_4;clear HO_6;clear HO_7;clear HB;have HO_4:=n0_;have HO_6:=n1_;have HO_7:=n2_;have HO119:=n3_;have HB:=n4_;clear n0_ n1_ n2_ n3_ n4_;(try clear hb);(try clear hb2);(try clear hk);(try clear hi);(try clear ho0);obtain ⟨Ao28,co28,eo28⟩:=Kd.S_slice HO119.out;subst eo28)|((with_reducible refine gate_callee (f:=62) rfl ?_);refine goesL_ (some 44) rfl rfl Try.func62 (by kernel_rfl) rfl #[.slice Ao13 t109.length co13,.slice Ao28 t117.length co28] rfl (by (try simp only [aD,aE,aF]);first|done|rfl|(simp only [aG,aH];rfl)) ?_;(with_reducible refine (laws_eqBoolSS.calls kj7 _ _ t109 _ _ t117 true _ ?side1 ?side2 ?side3 ?side4 A23.out).mono ?_);(case side1=>repeat (first|exact (Kd.S_reads' HO_6.out).2.2|(with_reducible refine Kd.C_alloc ?_ _)|(with_reducible refine Kd.C_drewN ?_ _)|(with_reducible refine Kd.C_drew ?_)));(case side2=>exact (Kd.S_reads' HO_6.out).2.1);(case side3=>repeat (first|exact (Kd.S_reads' HO119.out).2.2|(with_reducible refine Kd.C_alloc ?_ _)|(with_reducible refine Kd.C_drewN ?_ _)|(with_reducible refine Kd.C_drew ?_)));(case side4=>exact (Kd.S_reads' HO119.out).2.1);rintro e w' ⟨rfl,⟨nd,rfl⟩⟩;refine ⟨_,rfl,?_⟩;obtain ⟨Qh29,hqs_,hqo_,hqt_,hqb_⟩:=Kd.S_named HO_6.out;have Qh29S:=aM hqs_;have Qh29O:=aM hqo_;have Qh29T:=aM hqt_;have Qh29B:=aM hqb_;clear hqs_ hqo_ hqt_ hqb_)|((with_reducible refine gate_callee (f:=63) rfl ?_);refine goesL_ (some 48) rfl rfl Try.func63 (by kernel_rfl) rfl #[.slice Ao13 t109.length co13,.int .i64 1] rfl (by (try simp only [aD,aE,aF]);first|done|rfl|(simp only [aG,aH];rfl)) ?_;(with_reducible refine (laws_markBoolSS.calls kj7 Qh29 (.slice Ao13 t109.length co13) t109 1 t121 t122 w _ ?side1 ?side2 A25.out).mono ?_);(case side1=>repeat (first|(with_reducible first|exact HB.out|apply Qb|apply Qa|apply Qc)|exact HB.out));(case side2=>exact Qh29S.out);rintro e w30 ⟨rfl,hy0,hb,hkp⟩;refine ⟨_,rfl,?_⟩;have n0_:=aM (Kd.R_mono (ok':=fun k_=>some k_≠(v114:Value).ownBlock) (Kd.R_keptB ((Kd.R_apartQ HO_4.out Qh29T.out (by decide))) hkp (fun k_ hk_ hs_=>(hk_.2) hs_)) (fun k_ hk_=>hk_.1.1));have n1_:=aM (Kd.S_mono (ok':=fun k_=>some k_≠(.slice Ao28 t117.length co28:Value).ownBlock) hy0 (fun k_ h_=>Or.elim h_ (fun hq_=>((Qh29O.out k_ hq_).2)) (fun hn_=>(fun e_=>(Kd.S_ltB HO119.out hn_) e_))));have n2_:=aM (Kd.R_mono (ok':=fun k_=>some k_≠(v107:Value).ownBlock) (Kd.R_keptB ((Kd.R_apartQ HO_7.out Qh29T.out (by decide))) hkp (fun k_ hk_ hs_=>(hk_.2) hs_)) (fun k_ hk_=>hk_.1.1));have n3_:=aM (hb);clear HO_4;clear HO_6;clear HO_7;clear HB;clear HO119;have HO_4:=n0_;have HO_6:=n1_;have HO_7:=n2_;have HB:=n3_;clear n0_ n1_ n2_ n3_;(try clear hb);(try clear hkp);(try clear hy0)))
       (try simp only [Act.put,aA,aB,aC])
       go_cut [61] (fun v61 wc=>∃ (kq:Nat) (x61_25:Bool),v61= .bool x61_25∧Aside0 (laws_FnExactMatchLoads.j1 kq l0 t105 t106 t112 x61_25=some r)∧Aside0 (kq≤kj7)∧Aside0 (Kd.R (Kd.int .i64) 3 wc w.heap.size (fun k_=>some k_≠(v114:Value).ownBlock) v107 t105)∧Aside0 (Kd.R (Kd.int .i64) 3 wc w.heap.size (fun k_=>some k_≠(v107:Value).ownBlock) v114 t112)∧Aside0 (Below w.heap.size w wc))
       case first=>
        have H:=HC26.out;clear HC26;by_cases c31:t121<0
        ·rw [if_pos c31] at H;have c31b0:decide (t121<0)=true:=decide_eq_true c31;clear c31
         (first|rw [c31b0]|(simp only [i64_w,i32_w];rw [c31b0])|skip)
         have H':=aM H;clear H;go_wp2
         go_meet
         case rel=>exact ⟨_,(true),(by first|rfl|(simp;done)|(simp [*];done)),H',⟨by have:=HJ7.out;first|omega|exact Nat.le_refl _⟩,⟨by (with_reducible repeat (first|apply Kd.Qd|apply Kd.Qe|apply Kd.R_drew));exact HO_4.out⟩,⟨by (with_reducible repeat (first|apply Kd.Qd|apply Kd.Qe|apply Kd.R_drew));exact HO_7.out⟩,⟨by repeat (first|(with_reducible first|exact HB.out|apply Qb|apply Qa|apply Qc)|exact HB.out)⟩⟩
        ·rw [if_neg c31] at H;have c31b0:decide (t121<0)=false:=decide_eq_false c31;clear c31
         (first|rw [c31b0]|(simp only [i64_w,i32_w];rw [c31b0])|skip)
         replace H:=Option.bind_eq_some_iff.mp H;obtain ⟨t123,A320,H⟩:=H;replace H:(if t123=true then (laws_FnExactMatchLoads.j1 kj7 l0 t105 t106 t112 (t113 != t106)) else (laws_FnExactMatchLoads.j1 kj7 l0 t105 t106 t112 true))=some r:=H;have A32:=aM A320;clear A320;by_cases c33:t123=true
         ·subst c33;have H1:(laws_FnExactMatchLoads.j1 kj7 l0 t105 t106 t112 (t113 != t106))=some r:=by rw [if_pos rfl] at H;exact H
          clear H;have H:=H1;clear H1;have H':=aM H;clear H;obtain ⟨Ao34,co34,eo34⟩:=Kd.R_slice HO_7.out;subst eo34;obtain ⟨Ao35,co35,eo35⟩:=Kd.R_slice HO_4.out;subst eo35;go_wp2_with (first|(go_at_call 61;(with_reducible refine (laws_eqIntS.calls kj7 _ _ t112 _ _ t105 true _ ?side1 ?side2 ?side3 ?side4 A32.out).mono ?_);(case side1=>repeat (first|exact (Kd.Qf HO_7.out).2.2|(with_reducible refine Kd.C_alloc ?_ _)|(with_reducible refine Kd.C_drewN ?_ _)|(with_reducible refine Kd.C_drew ?_)));(case side2=>exact (Kd.Qf HO_7.out).2.1);(case side3=>repeat (first|exact (Kd.Qf HO_4.out).2.2|(with_reducible refine Kd.C_alloc ?_ _)|(with_reducible refine Kd.C_drewN ?_ _)|(with_reducible refine Kd.C_drew ?_)));(case side4=>exact (Kd.Qf HO_4.out).2.1);rintro e w' ⟨rfl,⟨nd,rfl⟩⟩))
          go_meet
          case rel=>exact ⟨_,((t113 != t106)),(by first|rfl|(simp;done)|(simp [*];done)),H',⟨by have:=HJ7.out;first|omega|exact Nat.le_refl _⟩,⟨by (with_reducible repeat (first|apply Kd.Qd|apply Kd.Qe|apply Kd.R_drew));exact HO_4.out⟩,⟨by (with_reducible repeat (first|apply Kd.Qd|apply Kd.Qe|apply Kd.R_drew));exact HO_7.out⟩,⟨by repeat (first|(with_reducible first|exact HB.out|apply Qb|apply Qa|apply Qc)|exact HB.out)⟩⟩
         ·replace c33:=Bool.eq_false_iff.mpr c33;subst c33;have H1:(laws_FnExactMatchLoads.j1 kj7 l0 t105 t106 t112 true)=some r:=by rw [if_neg (show ¬ (false=true) by decide)] at H;exact H
          clear H;have H:=H1;clear H1;have H':=aM H;clear H;obtain ⟨Ao36,co36,eo36⟩:=Kd.R_slice HO_7.out;subst eo36;obtain ⟨Ao37,co37,eo37⟩:=Kd.R_slice HO_4.out;subst eo37;go_wp2_with (first|(go_at_call 61;(with_reducible refine (laws_eqIntS.calls kj7 _ _ t112 _ _ t105 false _ ?side1 ?side2 ?side3 ?side4 A32.out).mono ?_);(case side1=>repeat (first|exact (Kd.Qf HO_7.out).2.2|(with_reducible refine Kd.C_alloc ?_ _)|(with_reducible refine Kd.C_drewN ?_ _)|(with_reducible refine Kd.C_drew ?_)));(case side2=>exact (Kd.Qf HO_7.out).2.1);(case side3=>repeat (first|exact (Kd.Qf HO_4.out).2.2|(with_reducible refine Kd.C_alloc ?_ _)|(with_reducible refine Kd.C_drewN ?_ _)|(with_reducible refine Kd.C_drew ?_)));(case side4=>exact (Kd.Qf HO_4.out).2.1);rintro e w' ⟨rfl,⟨nd,rfl⟩⟩))
          go_meet
          case rel=>exact ⟨_,(true),(by first|rfl|(simp;done)|(simp [*];done)),H',⟨by have:=HJ7.out;first|omega|exact Nat.le_refl _⟩,⟨by (with_reducible repeat (first|apply Kd.Qd|apply Kd.Qe|apply Kd.R_drew));exact HO_4.out⟩,⟨by (with_reducible repeat (first|apply Kd.Qd|apply Kd.Qe|apply Kd.R_drew));exact HO_7.out⟩,⟨by repeat (first|(with_reducible first|exact HB.out|apply Qb|apply Qa|apply Qc)|exact HB.out)⟩⟩
       case rest=>
        clear HC26;(try clear c1);(try clear c2);(try clear p2);(try clear c3);(try clear c3b0);(try clear c5);(try clear c6);(try clear c7);(try clear c16);(try clear c21);(try clear c24);(try clear c31);(try clear c31b0);(try clear c33);(try clear p2);obtain ⟨kq,x61_25,rfl,HA,HJ25,HO_4,HO_7,HB⟩:=hcut
        cases kq with
        |zero=>exact absurd HA.out (by simp [laws_FnExactMatchLoads.j1])
        |succ kj25=>
         have H:=HA.out;clear HA;simp only [laws_FnExactMatchLoads.j1] at H;by_cases c38:x61_25=true
         ·subst c38;have H1:(some false)=some r:=by rw [if_pos rfl] at H;exact H
          clear H;have H:=H1;clear H1;obtain rfl:=Option.some.inj H;go_wp2
          go_ret
          exact ⟨by first|rfl|(simp [errW_none,errW_some] <;> rfl)|(simp [*,errW_none,errW_some] <;> rfl),by repeat (first|(with_reducible first|exact HB.out|apply Qb|apply Qa|apply Qc)|exact HB.out)⟩
         ·replace c38:=Bool.eq_false_iff.mpr c38;subst c38;have H1:((laws_markIntS.f kj25 t112 1).bind fun bt124=>((laws_heldIntS.f kj25 bt124.2 1).bind fun t126=>(if t126<0 then (some false) else (if t126=bt124.1 then ((laws_toBoolSS.f kj25 l0).bind fun t127=>((impl_MatchLoads.f kj25 t127).bind fun bt130=>((laws_eqIntS.f kj25 bt130.1 t105).bind fun t134=>(if t134=true then (laws_FnExactMatchLoads.j2 kj25 bt124.2 bt124.1 (bt130.2 != t106)) else (laws_FnExactMatchLoads.j2 kj25 bt124.2 bt124.1 true))))) else (some false)))))=some r:=by rw [if_neg (show ¬ (false=true) by decide)] at H;exact H
          clear H;have H:=H1;clear H1;replace H:=Option.bind_eq_some_iff.mp H;obtain ⟨⟨t124,t125⟩,A390,H⟩:=H;replace H:((laws_heldIntS.f kj25 t125 1).bind fun t126=>(if t126<0 then (some false) else (if t126=t124 then ((laws_toBoolSS.f kj25 l0).bind fun t127=>((impl_MatchLoads.f kj25 t127).bind fun bt130=>((laws_eqIntS.f kj25 bt130.1 t105).bind fun t134=>(if t134=true then (laws_FnExactMatchLoads.j2 kj25 t125 t124 (bt130.2 != t106)) else (laws_FnExactMatchLoads.j2 kj25 t125 t124 true))))) else (some false))))=some r:=H;have A39:=aM A390;clear A390;replace H:=Option.bind_eq_some_iff.mp H;obtain ⟨t126,A400,H⟩:=H;replace H:(if t126<0 then (some false) else (if t126=t124 then ((laws_toBoolSS.f kj25 l0).bind fun t127=>((impl_MatchLoads.f kj25 t127).bind fun bt130=>((laws_eqIntS.f kj25 bt130.1 t105).bind fun t134=>(if t134=true then (laws_FnExactMatchLoads.j2 kj25 t125 t124 (bt130.2 != t106)) else (laws_FnExactMatchLoads.j2 kj25 t125 t124 true))))) else (some false)))=some r:=H;have A40:=aM A400;clear A400;by_cases c41:t126<0
          ·rw [if_pos c41] at H;have c41b0:decide (t126<0)=true:=decide_eq_true c41;clear c41;obtain rfl:=Option.some.inj H;obtain ⟨Ao42,co42,eo42⟩:=Kd.R_slice HO_7.out;subst eo42;go_wp2_with (first|((with_reducible refine gate_callee (f:=64) rfl ?_);refine goesL_ (some 64) rfl rfl Try.func64 (by kernel_rfl) rfl #[.slice Ao42 t112.length co42,.int .i64 1] rfl (by (try simp only [aD,aE,aF]);first|done|rfl|(simp only [aG,aH];rfl)) ?_;(with_reducible refine (laws_markIntS.calls kj25 (fun k_=>some k_=(.slice Ao42 t112.length co42:Value).ownBlock) (.slice Ao42 t112.length co42) t112 1 t124 t125 w _ ?side1 ?side2 A39.out).mono ?_);(case side1=>repeat (first|(with_reducible first|exact HB.out|apply Qb|apply Qa|apply Qc)|exact HB.out));(case side2=>exact Kd.R_tight rfl HO_7.out);rintro e w43 ⟨rfl,hy0,hb,hkp⟩;refine ⟨_,rfl,?_⟩;have n0_:=aM (Kd.R_mono (ok':=fun k_=>some k_≠(.slice Ao42 t112.length co42:Value).ownBlock) (Kd.R_keptB (HO_4.out) hkp (fun k_ hk_ hs_=>(hk_) hs_)) (fun k_ hk_=>hk_.1));have n1_:=aM (Kd.R_reok rfl hy0 (fun k_ e_=>HO_7.out.1 k_ e_));have n2_:=aM (hb);clear HO_4;clear HO_7;clear HB;have HO_4:=n0_;have HO_7:=n1_;have HB:=n2_;clear n0_ n1_ n2_;(try clear hb);(try clear hkp);(try clear hy0))|((with_reducible refine gate_callee (f:=65) rfl ?_);refine goesL_ (some 67) rfl rfl Try.func65 (by kernel_rfl) rfl #[.slice Ao42 t125.length co42,.int .i64 1] rfl (by (try simp only [aD,aE,aF]);first|done|(rw [show t125.length=t112.length from (Kd.Qf HO_7.out).1.symm] <;> rfl)|rfl|(simp only [aG,aH];rfl)) ?_;(with_reducible refine (laws_heldIntS.calls kj25 _ _ t125 1 t126 _ ?side1 ?side2 A40.out).mono ?_);(case side1=>repeat (first|exact (Kd.Qf HO_7.out).2.2|(with_reducible refine Kd.C_alloc ?_ _)|(with_reducible refine Kd.C_drewN ?_ _)|(with_reducible refine Kd.C_drew ?_)));(case side2=>rw [show t125.length=t112.length from (Kd.Qf HO_7.out).1.symm];exact (Kd.Qf HO_7.out).2.1);rintro e w' ⟨rfl,⟨nd,rfl⟩⟩;refine ⟨_,rfl,?_⟩))
           go_ret
           exact ⟨by first|rfl|(simp [errW_none,errW_some] <;> rfl)|(simp [*,errW_none,errW_some] <;> rfl),by repeat (first|(with_reducible first|exact HB.out|apply Qb|apply Qa|apply Qc)|exact HB.out)⟩
          ·rw [if_neg c41] at H;have c41b0:decide (t126<0)=false:=decide_eq_false c41;clear c41;by_cases c44:t126=t124
           ·rw [if_pos c44] at H;have c44b0:(t126 == t124)=true:=beq_iff_eq.mpr c44;have c44b1:(t126 != t124)=false:=bne_eq_false_iff_eq.mpr c44;clear c44;replace H:=Option.bind_eq_some_iff.mp H;obtain ⟨t127,A450,H⟩:=H;replace H:((impl_MatchLoads.f kj25 t127).bind fun bt130=>((laws_eqIntS.f kj25 bt130.1 t105).bind fun t134=>(if t134=true then (laws_FnExactMatchLoads.j2 kj25 t125 t124 (bt130.2 != t106)) else (laws_FnExactMatchLoads.j2 kj25 t125 t124 true))))=some r:=H;have A45:=aM A450;clear A450;replace H:=Option.bind_eq_some_iff.mp H;obtain ⟨⟨t130,t131⟩,A460,H⟩:=H;replace H:((laws_eqIntS.f kj25 t130 t105).bind fun t134=>(if t134=true then (laws_FnExactMatchLoads.j2 kj25 t125 t124 (t131 != t106)) else (laws_FnExactMatchLoads.j2 kj25 t125 t124 true)))=some r:=H;have A46:=aM A460;clear A460;have HC47:=aM H;clear H;obtain ⟨Ao48,co48,eo48⟩:=Kd.R_slice HO_7.out;subst eo48
            go_upto_region 25 with (first|((with_reducible refine gate_callee (f:=64) rfl ?_);refine goesL_ (some 64) rfl rfl Try.func64 (by kernel_rfl) rfl #[.slice Ao48 t112.length co48,.int .i64 1] rfl (by (try simp only [aD,aE,aF]);first|done|rfl|(simp only [aG,aH];rfl)) ?_;(with_reducible refine (laws_markIntS.calls kj25 (fun k_=>some k_=(.slice Ao48 t112.length co48:Value).ownBlock) (.slice Ao48 t112.length co48) t112 1 t124 t125 w _ ?side1 ?side2 A39.out).mono ?_);(case side1=>repeat (first|(with_reducible first|exact HB.out|apply Qb|apply Qa|apply Qc)|exact HB.out));(case side2=>exact Kd.R_tight rfl HO_7.out);rintro e w49 ⟨rfl,hy0,hb,hkp⟩;refine ⟨_,rfl,?_⟩;have n0_:=aM (Kd.R_mono (ok':=fun k_=>some k_≠(.slice Ao48 t112.length co48:Value).ownBlock) (Kd.R_keptB (HO_4.out) hkp (fun k_ hk_ hs_=>(hk_) hs_)) (fun k_ hk_=>hk_.1));have n1_:=aM (Kd.R_reok rfl hy0 (fun k_ e_=>HO_7.out.1 k_ e_));have n2_:=aM (hb);clear HO_4;clear HO_7;clear HB;have HO_4:=n0_;have HO_7:=n1_;have HB:=n2_;clear n0_ n1_ n2_;(try clear hb);(try clear hkp);(try clear hy0))|((with_reducible refine gate_callee (f:=65) rfl ?_);refine goesL_ (some 67) rfl rfl Try.func65 (by kernel_rfl) rfl #[.slice Ao48 t125.length co48,.int .i64 1] rfl (by (try simp only [aD,aE,aF]);first|done|(rw [show t125.length=t112.length from (Kd.Qf HO_7.out).1.symm] <;> rfl)|rfl|(simp only [aG,aH];rfl)) ?_;(with_reducible refine (laws_heldIntS.calls kj25 _ _ t125 1 t126 _ ?side1 ?side2 A40.out).mono ?_);(case side1=>repeat (first|exact (Kd.Qf HO_7.out).2.2|(with_reducible refine Kd.C_alloc ?_ _)|(with_reducible refine Kd.C_drewN ?_ _)|(with_reducible refine Kd.C_drew ?_)));(case side2=>rw [show t125.length=t112.length from (Kd.Qf HO_7.out).1.symm];exact (Kd.Qf HO_7.out).2.1);rintro e w' ⟨rfl,⟨nd,rfl⟩⟩;refine ⟨_,rfl,?_⟩)|((with_reducible refine gate_callee (f:=59) rfl ?_);refine goesL_ (some 75) rfl rfl Try.func59 (by kernel_rfl) rfl #[.slice A0 l0.length c0] rfl (by (try simp only [aD,aE,aF]);first|done|rfl|(simp only [aG,aH];rfl)) ?_;(with_reducible refine (laws_toBoolSS.calls kj25 _ _ l0 t127 _ ?side1 ?side2 A45.out).mono ?_);(case side1=>repeat (first|exact (Kd.C_below HR0.out (by repeat (first|(with_reducible first|exact HB.out|apply Qb|apply Qa|apply Qc)|exact HB.out)))|(with_reducible refine Kd.C_alloc ?_ _)|(with_reducible refine Kd.C_drewN ?_ _)|(with_reducible refine Kd.C_drew ?_)));(case side2=>exact HC0.out);rintro e w50 ⟨v128,rfl,ho0,hb⟩;refine ⟨_,rfl,?_⟩;have n0_:=aM (Kd.R_below (by (with_reducible repeat (first|apply Kd.Qd|apply Kd.Qe|apply Kd.R_drew));exact HO_4.out) hb);have n1_:=aM (Kd.R_below (by (with_reducible repeat (first|apply Kd.Qd|apply Kd.Qe|apply Kd.R_drew));exact HO_7.out) hb);have n2_:=aM (Kd.S_lower ho0 (below_size (by repeat (first|(with_reducible first|exact HB.out|apply Qb|apply Qa|apply Qc)|exact HB.out))));have n3_:=aM (below_step (by repeat (first|(with_reducible first|exact HB.out|apply Qb|apply Qa|apply Qc)|exact HB.out)) hb);clear HO_4;clear HO_7;clear HB;have HO_4:=n0_;have HO_7:=n1_;have HO129:=n2_;have HB:=n3_;clear n0_ n1_ n2_ n3_;(try clear hb);(try clear hb2);(try clear hk);(try clear hi);(try clear ho0);obtain ⟨Ao51,co51,eo51⟩:=Kd.S_slice HO129.out;subst eo51)|((with_reducible refine gate_callee (f:=60) rfl ?_);refine goesL_ (some 76) rfl rfl Try.func60 (by kernel_rfl) rfl #[.slice Ao51 t127.length co51] rfl (by (try simp only [aD,aE,aF]);first|done|rfl|(simp only [aG,aH];rfl)) ?_;(with_reducible refine (impl_MatchLoads.calls kj25 _ _ t127 t130 t131 _ ?side1 ?side2 A46.out).mono ?_);(case side1=>repeat (first|exact (Kd.S_reads' HO129.out).2.2|(with_reducible refine Kd.C_alloc ?_ _)|(with_reducible refine Kd.C_drewN ?_ _)|(with_reducible refine Kd.C_drew ?_)));(case side2=>exact (Kd.S_reads' HO129.out).2.1);rintro e w52 ⟨v132,rfl,ho0,hb⟩;refine ⟨_,rfl,?_⟩;have n0_:=aM (Kd.R_elder' (by (with_reducible repeat (first|apply Kd.Qd|apply Kd.Qe|apply Kd.R_drew));exact HO_4.out) (Kd.R_base ho0) hb);have n1_:=aM (Kd.R_elder' (by (with_reducible repeat (first|apply Kd.Qd|apply Kd.Qe|apply Kd.R_drew));exact HO_7.out) (Kd.R_base ho0) hb);have n2_:=aM (Kd.S_below (by (with_reducible repeat (first|apply Kd.S_alloc|apply Kd.S_drewN|apply Kd.S_drew));exact HO129.out) hb);have n3_:=aM (Kd.R_lower (Kd.R_new' (Kd.R_new' ho0 (Kd.R_lt (by (with_reducible repeat (first|apply Kd.Qd|apply Kd.Qe|apply Kd.R_drew));exact HO_4.out))) (Kd.R_lt (by (with_reducible repeat (first|apply Kd.Qd|apply Kd.Qe|apply Kd.R_drew));exact HO_7.out))) (below_size (by repeat (first|(with_reducible first|exact HB.out|apply Qb|apply Qa|apply Qc)|exact HB.out))));have n4_:=aM (below_step (by repeat (first|(with_reducible first|exact HB.out|apply Qb|apply Qa|apply Qc)|exact HB.out)) hb);clear HO_4;clear HO_7;clear HO129;clear HB;have HO_4:=n0_;have HO_7:=n1_;have HO129:=n2_;have HO133:=n3_;have HB:=n4_;clear n0_ n1_ n2_ n3_ n4_;(try clear hb);(try clear hb2);(try clear hk);(try clear hi);(try clear ho0)))
            (try simp only [Act.put,aA,aB,aC])
            go_cut [87] (fun v87 wc=>∃ (kq:Nat) (x87_46:Bool),v87= .bool x87_46∧Aside0 (laws_FnExactMatchLoads.j2 kq t125 t124 x87_46=some r)∧Aside0 (kq≤kj25)∧Aside0 (Kd.R (Kd.int .i64) 3 wc w.heap.size (fun _=>True) (.slice Ao48 t112.length co48) t125)∧Aside0 (Below w.heap.size w wc))
            case first=>
             have H:=HC47.out;clear HC47;replace H:=Option.bind_eq_some_iff.mp H;obtain ⟨t134,A530,H⟩:=H;replace H:(if t134=true then (laws_FnExactMatchLoads.j2 kj25 t125 t124 (t131 != t106)) else (laws_FnExactMatchLoads.j2 kj25 t125 t124 true))=some r:=H;have A53:=aM A530;clear A530;by_cases c54:t134=true
             ·subst c54;have H1:(laws_FnExactMatchLoads.j2 kj25 t125 t124 (t131 != t106))=some r:=by rw [if_pos rfl] at H;exact H
              clear H;have H:=H1;clear H1;have H':=aM H;clear H;obtain ⟨Ao55,co55,eo55⟩:=Kd.R_slice HO133.out;subst eo55;obtain ⟨Ao56,co56,eo56⟩:=Kd.R_slice HO_4.out;subst eo56;go_wp2_with (first|((with_reducible refine gate_callee (f:=61) rfl ?_);refine goesL_ (some 81) rfl rfl Try.func61 (by kernel_rfl) rfl #[.slice Ao55 t130.length co55,.slice Ao56 t105.length co56] rfl (by (try simp only [aD,aE,aF]);first|done|rfl|(simp only [aG,aH];rfl)) ?_;(with_reducible refine (laws_eqIntS.calls kj25 _ _ t130 _ _ t105 true _ ?side1 ?side2 ?side3 ?side4 A53.out).mono ?_);(case side1=>repeat (first|exact (Kd.Qf HO133.out).2.2|(with_reducible refine Kd.C_alloc ?_ _)|(with_reducible refine Kd.C_drewN ?_ _)|(with_reducible refine Kd.C_drew ?_)));(case side2=>exact (Kd.Qf HO133.out).2.1);(case side3=>repeat (first|exact (Kd.Qf HO_4.out).2.2|(with_reducible refine Kd.C_alloc ?_ _)|(with_reducible refine Kd.C_drewN ?_ _)|(with_reducible refine Kd.C_drew ?_)));(case side4=>exact (Kd.Qf HO_4.out).2.1);rintro e w' ⟨rfl,⟨nd,rfl⟩⟩;refine ⟨_,rfl,?_⟩))
              go_meet
              case rel=>exact ⟨_,((t131 != t106)),(by first|rfl|(simp;done)|(simp [*];done)),H',⟨by have:=HJ7.out;have:=HJ25.out;first|omega|exact Nat.le_refl _⟩,⟨by (with_reducible repeat (first|apply Kd.Qd|apply Kd.Qe|apply Kd.R_drew));exact Kd.R_mono HO_7.out (fun _ hk=>trivial)⟩,⟨by repeat (first|(with_reducible first|exact HB.out|apply Qb|apply Qa|apply Qc)|exact HB.out)⟩⟩
             ·replace c54:=Bool.eq_false_iff.mpr c54;subst c54;have H1:(laws_FnExactMatchLoads.j2 kj25 t125 t124 true)=some r:=by rw [if_neg (show ¬ (false=true) by decide)] at H;exact H
              clear H;have H:=H1;clear H1;have H':=aM H;clear H;obtain ⟨Ao57,co57,eo57⟩:=Kd.R_slice HO133.out;subst eo57;obtain ⟨Ao58,co58,eo58⟩:=Kd.R_slice HO_4.out;subst eo58;go_wp2_with (first|((with_reducible refine gate_callee (f:=61) rfl ?_);refine goesL_ (some 81) rfl rfl Try.func61 (by kernel_rfl) rfl #[.slice Ao57 t130.length co57,.slice Ao58 t105.length co58] rfl (by (try simp only [aD,aE,aF]);first|done|rfl|(simp only [aG,aH];rfl)) ?_;(with_reducible refine (laws_eqIntS.calls kj25 _ _ t130 _ _ t105 false _ ?side1 ?side2 ?side3 ?side4 A53.out).mono ?_);(case side1=>repeat (first|exact (Kd.Qf HO133.out).2.2|(with_reducible refine Kd.C_alloc ?_ _)|(with_reducible refine Kd.C_drewN ?_ _)|(with_reducible refine Kd.C_drew ?_)));(case side2=>exact (Kd.Qf HO133.out).2.1);(case side3=>repeat (first|exact (Kd.Qf HO_4.out).2.2|(with_reducible refine Kd.C_alloc ?_ _)|(with_reducible refine Kd.C_drewN ?_ _)|(with_reducible refine Kd.C_drew ?_)));(case side4=>exact (Kd.Qf HO_4.out).2.1);rintro e w' ⟨rfl,⟨nd,rfl⟩⟩;refine ⟨_,rfl,?_⟩))
              go_meet
              case rel=>exact ⟨_,(true),(by first|rfl|(simp;done)|(simp [*];done)),H',⟨by have:=HJ7.out;have:=HJ25.out;first|omega|exact Nat.le_refl _⟩,⟨by (with_reducible repeat (first|apply Kd.Qd|apply Kd.Qe|apply Kd.R_drew));exact Kd.R_mono HO_7.out (fun _ hk=>trivial)⟩,⟨by repeat (first|(with_reducible first|exact HB.out|apply Qb|apply Qa|apply Qc)|exact HB.out)⟩⟩
            case rest=>
             clear HC47;(try clear c1);(try clear c2);(try clear p2);(try clear c3);(try clear c3b0);(try clear c4);(try clear c5);(try clear c6);(try clear c7);(try clear c16);(try clear c21);(try clear c24);(try clear c31);(try clear c31b0);(try clear c33);(try clear c38);(try clear c41);(try clear c41b0);(try clear c44);(try clear c44b0);(try clear c44b1);(try clear c54);(try clear c57);(try clear c58);(try clear p2);obtain ⟨kq,x87_46,rfl,HA,HJ46,HO_7,HB⟩:=hcut;have hl7_46:=(Kd.Qf HO_7.out).1;rw [hl7_46] at HO_7;(try simp only [hl7_46])
             cases kq with
             |zero=>exact absurd HA.out (by simp [laws_FnExactMatchLoads.j2])
             |succ kj46=>
              have H:=HA.out;clear HA;simp only [laws_FnExactMatchLoads.j2] at H;by_cases c59:x87_46=true
              ·subst c59;have H1:(some false)=some r:=by rw [if_pos rfl] at H;exact H
               clear H;have H:=H1;clear H1;obtain rfl:=Option.some.inj H;go_wp2
               go_ret
               exact ⟨by first|rfl|(simp [errW_none,errW_some] <;> rfl)|(simp [*,errW_none,errW_some] <;> rfl),by repeat (first|(with_reducible first|exact HB.out|apply Qb|apply Qa|apply Qc)|exact HB.out)⟩
              ·replace c59:=Bool.eq_false_iff.mpr c59;subst c59;have H1:((laws_heldIntS.f kj46 t125 1).bind fun t135=>(if t135<0 then (some false) else (if t135=t124 then (some true) else (some false))))=some r:=by rw [if_neg (show ¬ (false=true) by decide)] at H;exact H
               clear H;have H:=H1;clear H1;replace H:=Option.bind_eq_some_iff.mp H;obtain ⟨t135,A600,H⟩:=H;replace H:(if t135<0 then (some false) else (if t135=t124 then (some true) else (some false)))=some r:=H;have A60:=aM A600;clear A600;by_cases c61:t135<0
               ·rw [if_pos c61] at H;have c61b0:decide (t135<0)=true:=decide_eq_true c61;clear c61;obtain rfl:=Option.some.inj H;go_wp2_with (first|((with_reducible refine gate_callee (f:=65) rfl ?_);refine goesL_ (some 90) rfl rfl Try.func65 (by kernel_rfl) rfl #[.slice Ao48 t125.length co48,.int .i64 1] rfl (by (try simp only [aD,aE,aF]);first|done|rfl|(simp only [aG,aH];rfl)) ?_;(with_reducible refine (laws_heldIntS.calls kj46 _ _ t125 1 t135 _ ?side1 ?side2 A60.out).mono ?_);(case side1=>repeat (first|exact (Kd.Qf HO_7.out).2.2|(with_reducible refine Kd.C_alloc ?_ _)|(with_reducible refine Kd.C_drewN ?_ _)|(with_reducible refine Kd.C_drew ?_)));(case side2=>exact (Kd.Qf HO_7.out).2.1);rintro e w' ⟨rfl,⟨nd,rfl⟩⟩;refine ⟨_,rfl,?_⟩))
                go_ret
                exact ⟨by first|rfl|(simp [errW_none,errW_some] <;> rfl)|(simp [*,errW_none,errW_some] <;> rfl),by repeat (first|(with_reducible first|exact HB.out|apply Qb|apply Qa|apply Qc)|exact HB.out)⟩
               ·rw [if_neg c61] at H;have c61b0:decide (t135<0)=false:=decide_eq_false c61;clear c61;by_cases c62:t135=t124
                ·rw [if_pos c62] at H;have c62b0:(t135 == t124)=true:=beq_iff_eq.mpr c62;have c62b1:(t135 != t124)=false:=bne_eq_false_iff_eq.mpr c62;clear c62;obtain rfl:=Option.some.inj H;go_wp2_with (first|((with_reducible refine gate_callee (f:=65) rfl ?_);refine goesL_ (some 90) rfl rfl Try.func65 (by kernel_rfl) rfl #[.slice Ao48 t125.length co48,.int .i64 1] rfl (by (try simp only [aD,aE,aF]);first|done|rfl|(simp only [aG,aH];rfl)) ?_;(with_reducible refine (laws_heldIntS.calls kj46 _ _ t125 1 t135 _ ?side1 ?side2 A60.out).mono ?_);(case side1=>repeat (first|exact (Kd.Qf HO_7.out).2.2|(with_reducible refine Kd.C_alloc ?_ _)|(with_reducible refine Kd.C_drewN ?_ _)|(with_reducible refine Kd.C_drew ?_)));(case side2=>exact (Kd.Qf HO_7.out).2.1);rintro e w' ⟨rfl,⟨nd,rfl⟩⟩;refine ⟨_,rfl,?_⟩))
                 go_ret
                 exact ⟨by first|rfl|(simp [errW_none,errW_some] <;> rfl)|(simp [*,errW_none,errW_some] <;> rfl),by repeat (first|(with_reducible first|exact HB.out|apply Qb|apply Qa|apply Qc)|exact HB.out)⟩
                ·rw [if_neg c62] at H;have c62b0:(t135 == t124)=false:=beq_eq_false_iff_ne.mpr c62;have c62b1:(t135 != t124)=true:=bne_iff_ne.mpr c62;obtain rfl:=Option.some.inj H;go_wp2_with (first|((with_reducible refine gate_callee (f:=65) rfl ?_);refine goesL_ (some 90) rfl rfl Try.func65 (by kernel_rfl) rfl #[.slice Ao48 t125.length co48,.int .i64 1] rfl (by (try simp only [aD,aE,aF]);first|done|rfl|(simp only [aG,aH];rfl)) ?_;(with_reducible refine (laws_heldIntS.calls kj46 _ _ t125 1 t135 _ ?side1 ?side2 A60.out).mono ?_);(case side1=>repeat (first|exact (Kd.Qf HO_7.out).2.2|(with_reducible refine Kd.C_alloc ?_ _)|(with_reducible refine Kd.C_drewN ?_ _)|(with_reducible refine Kd.C_drew ?_)));(case side2=>exact (Kd.Qf HO_7.out).2.1);rintro e w' ⟨rfl,⟨nd,rfl⟩⟩;refine ⟨_,rfl,?_⟩))
                 go_ret
                 exact ⟨by first|rfl|(simp [errW_none,errW_some] <;> rfl)|(simp [*,errW_none,errW_some] <;> rfl),by repeat (first|(with_reducible first|exact HB.out|apply Qb|apply Qa|apply Qc)|exact HB.out)⟩
           ·rw [if_neg c44] at H;have c44b0:(t126 == t124)=false:=beq_eq_false_iff_ne.mpr c44;have c44b1:(t126 != t124)=true:=bne_iff_ne.mpr c44;obtain rfl:=Option.some.inj H;obtain ⟨Ao63,co63,eo63⟩:=Kd.R_slice HO_7.out;subst eo63;go_wp2_with (first|((with_reducible refine gate_callee (f:=64) rfl ?_);refine goesL_ (some 64) rfl rfl Try.func64 (by kernel_rfl) rfl #[.slice Ao63 t112.length co63,.int .i64 1] rfl (by (try simp only [aD,aE,aF]);first|done|rfl|(simp only [aG,aH];rfl)) ?_;(with_reducible refine (laws_markIntS.calls kj25 (fun k_=>some k_=(.slice Ao63 t112.length co63:Value).ownBlock) (.slice Ao63 t112.length co63) t112 1 t124 t125 w _ ?side1 ?side2 A39.out).mono ?_);(case side1=>repeat (first|(with_reducible first|exact HB.out|apply Qb|apply Qa|apply Qc)|exact HB.out));(case side2=>exact Kd.R_tight rfl HO_7.out);rintro e w64 ⟨rfl,hy0,hb,hkp⟩;refine ⟨_,rfl,?_⟩;have n0_:=aM (Kd.R_mono (ok':=fun k_=>some k_≠(.slice Ao63 t112.length co63:Value).ownBlock) (Kd.R_keptB (HO_4.out) hkp (fun k_ hk_ hs_=>(hk_) hs_)) (fun k_ hk_=>hk_.1));have n1_:=aM (Kd.R_reok rfl hy0 (fun k_ e_=>HO_7.out.1 k_ e_));have n2_:=aM (hb);clear HO_4;clear HO_7;clear HB;have HO_4:=n0_;have HO_7:=n1_;have HB:=n2_;clear n0_ n1_ n2_;(try clear hb);(try clear hkp);(try clear hy0))|((with_reducible refine gate_callee (f:=65) rfl ?_);refine goesL_ (some 67) rfl rfl Try.func65 (by kernel_rfl) rfl #[.slice Ao63 t125.length co63,.int .i64 1] rfl (by (try simp only [aD,aE,aF]);first|done|(rw [show t125.length=t112.length from (Kd.Qf HO_7.out).1.symm] <;> rfl)|rfl|(simp only [aG,aH];rfl)) ?_;(with_reducible refine (laws_heldIntS.calls kj25 _ _ t125 1 t126 _ ?side1 ?side2 A40.out).mono ?_);(case side1=>repeat (first|exact (Kd.Qf HO_7.out).2.2|(with_reducible refine Kd.C_alloc ?_ _)|(with_reducible refine Kd.C_drewN ?_ _)|(with_reducible refine Kd.C_drew ?_)));(case side2=>rw [show t125.length=t112.length from (Kd.Qf HO_7.out).1.symm];exact (Kd.Qf HO_7.out).2.1);rintro e w' ⟨rfl,⟨nd,rfl⟩⟩;refine ⟨_,rfl,?_⟩))
            go_ret
            exact ⟨by first|rfl|(simp [errW_none,errW_some] <;> rfl)|(simp [*,errW_none,errW_some] <;> rfl),by repeat (first|(with_reducible first|exact HB.out|apply Qb|apply Qa|apply Qc)|exact HB.out)⟩
      ·replace c24:=Bool.eq_false_iff.mpr c24;subst c24;have H1:(some false)=some r:=by rw [if_neg (show ¬ (false=true) by decide)] at H;exact H
       clear H;have H:=H1;clear H1;obtain rfl:=Option.some.inj H;go_wp2_with (first|((with_reducible refine gate_callee (f:=59) rfl ?_);refine goesL_ (some 43) rfl rfl Try.func59 (by kernel_rfl) rfl #[.slice A0 l0.length c0] rfl (by (try simp only [aD,aE,aF]);first|done|rfl|(simp only [aG,aH];rfl)) ?_;(with_reducible refine (laws_toBoolSS.calls kj7 _ _ l0 t117 _ ?side1 ?side2 A22.out).mono ?_);(case side1=>repeat (first|exact (Kd.C_below HR0.out HB.out)|(with_reducible refine Kd.C_alloc ?_ _)|(with_reducible refine Kd.C_drewN ?_ _)|(with_reducible refine Kd.C_drew ?_)));(case side2=>exact HC0.out);rintro e w65 ⟨v118,rfl,ho0,hb⟩;refine ⟨_,rfl,?_⟩;have n0_:=aM (Kd.R_below (by (with_reducible repeat (first|apply Kd.Qd|apply Kd.Qe|apply Kd.R_drew));exact HO_4.out) hb);have n1_:=aM (Kd.S_elder' (by (with_reducible repeat (first|apply Kd.S_alloc|apply Kd.S_drewN|apply Kd.S_drew));exact HO_6.out) (Kd.S_base ho0) hb);have n2_:=aM (Kd.R_below (by (with_reducible repeat (first|apply Kd.Qd|apply Kd.Qe|apply Kd.R_drew));exact HO_7.out) hb);have n3_:=aM (Kd.S_lower (Kd.S_new' ho0 (Kd.S_lt (by (with_reducible repeat (first|apply Kd.S_alloc|apply Kd.S_drewN|apply Kd.S_drew));exact HO_6.out))) (below_size (by repeat (first|(with_reducible first|exact HB.out|apply Qb|apply Qa|apply Qc)|exact HB.out))));have n4_:=aM (below_step (by repeat (first|(with_reducible first|exact HB.out|apply Qb|apply Qa|apply Qc)|exact HB.out)) hb);clear HO_4;clear HO_6;clear HO_7;clear HB;have HO_4:=n0_;have HO_6:=n1_;have HO_7:=n2_;have HO119:=n3_;have HB:=n4_;clear n0_ n1_ n2_ n3_ n4_;(try clear hb);(try clear hb2);(try clear hk);(try clear hi);(try clear ho0);obtain ⟨Ao66,co66,eo66⟩:=Kd.S_slice HO119.out;subst eo66)|((with_reducible refine gate_callee (f:=62) rfl ?_);refine goesL_ (some 44) rfl rfl Try.func62 (by kernel_rfl) rfl #[.slice Ao13 t109.length co13,.slice Ao66 t117.length co66] rfl (by (try simp only [aD,aE,aF]);first|done|rfl|(simp only [aG,aH];rfl)) ?_;(with_reducible refine (laws_eqBoolSS.calls kj7 _ _ t109 _ _ t117 false _ ?side1 ?side2 ?side3 ?side4 A23.out).mono ?_);(case side1=>repeat (first|exact (Kd.S_reads' HO_6.out).2.2|(with_reducible refine Kd.C_alloc ?_ _)|(with_reducible refine Kd.C_drewN ?_ _)|(with_reducible refine Kd.C_drew ?_)));(case side2=>exact (Kd.S_reads' HO_6.out).2.1);(case side3=>repeat (first|exact (Kd.S_reads' HO119.out).2.2|(with_reducible refine Kd.C_alloc ?_ _)|(with_reducible refine Kd.C_drewN ?_ _)|(with_reducible refine Kd.C_drew ?_)));(case side4=>exact (Kd.S_reads' HO119.out).2.1);rintro e w' ⟨rfl,⟨nd,rfl⟩⟩;refine ⟨_,rfl,?_⟩))
       go_ret
       exact ⟨by first|rfl|(simp [errW_none,errW_some] <;> rfl)|(simp [*,errW_none,errW_some] <;> rfl),by repeat (first|(with_reducible first|exact HB.out|apply Qb|apply Qa|apply Qc)|exact HB.out)⟩
end Go.Proofs.Ytpagpbamdpllnaa.Print
namespace Go.Proofs.Ytpagpbamdpllnaa.Print
open Go.RowKit Go.Proofs.YtpagpbamdpllnaaW.PrintWords Go.Proofs.YtpagpbamdpllnaaW.PrintLast Go.Proofs.YtpagpbamdpllnaaW.PrintMore
def laws_FnExactMatchLoads.Pure:Prop:=∀ (l0:(List (List Bool))),(l0.length≤maxLen∧∀ x0 ∈ l0,(x0.length≤maxLen∧∀ x1 ∈ x0,True))→∃ k,laws_FnExactMatchLoads.f k l0=some true
end Go.Proofs.Ytpagpbamdpllnaa.Print
namespace Go.Proofs.Ytpagpbamdpllnaa.Pure
open Go.RowKit Go.Proofs.Ytpagpbamdpllnaa.Print Go.Proofs.YtpagpbamdpllnaaW.PrintWords Go.Proofs.YtpagpbamdpllnaaW.PrintLast Go.Proofs.YtpagpbamdpllnaaW.PrintMore

theorem Ev.of_eq {α : Type} {g : Nat → Option α} {r : α} (h : ∀ k, g k = some r) : Ev g r := ⟨0, fun k _ => h k⟩
theorem Ev.bind0 {α β : Type} {o : Option α} {f : Nat → α → Option β} {a : α} {r : β} (h : o = some a) (k : Ev (fun n => f n a) r) : Ev (fun n => o.bind (f n)) r := by
  subst h; exact k
theorem Ev.pos {α : Type} {c : Prop} [Decidable c] {g f : Nat → Option α} {r : α} (h : c) (k : Ev g r) : Ev (fun n => if c then g n else f n) r := by
  simpa only [if_pos h] using k
theorem Ev.neg {α : Type} {c : Prop} [Decidable c] {g f : Nat → Option α} {r : α} (h : ¬ c) (k : Ev f r) : Ev (fun n => if c then g n else f n) r := by
  simpa only [if_neg h] using k
theorem Ev.ite {α : Type} {c : Prop} [Decidable c] {g f : Nat → Option α} {r : α} (h : c → Ev g r) (k : ¬ c → Ev f r) : Ev (fun n => if c then g n else f n) r := by
  by_cases hc : c
  · exact Ev.pos hc (h hc)
  · exact Ev.neg hc (k hc)
theorem Ev.step0 {α : Type} {g f : Nat → Option α} {r : α} (k : Ev f r) (h : ∀ k, g (k + 1) = f k) : Ev g r := Ev.step h k
theorem Ev.to {α : Type} {g : Nat → Option α} {r s : α} (k : Ev g r) (h : r = s) : Ev g s := h ▸ k
theorem ev_up {β : Type} (n : Nat) (g : Nat → Nat → Option β) (r : β) (I : Nat → Prop) (h0 : I 0)
    (hend : I n → Ev (fun k => g k n) r) (hstep : ∀ i, i < n → I i → (I (i + 1) → Ev (fun k => g k (i + 1)) r) → Ev (fun k => g k i) r) : Ev (fun k => g k 0) r := by
  have h : ∀ d i, i + d = n → I i → Ev (fun k => g k i) r := by
    intro d
    induction d with
    | zero => intro i hi hI; obtain rfl : i = n := by omega
              exact hend hI
    | succ d ih => intro i hi hI; exact hstep i (by omega) hI fun hI' => ih (i + 1) (by omega) hI'
  exact h n 0 (by omega) h0
theorem w64 {x : Int} (h1 : -9223372036854775808 ≤ x) (h2 : x < 9223372036854775808) : wrap64 x = x := by unfold wrap64; omega
theorem rd_nat (l : List Int) (i : Nat) (h : i < l.length) : rd l (i : Int) = l[i] := by simp [rd, h]
theorem toNat_nat (i : Nat) : ((i : Int)).toNat = i := Int.toNat_natCast i
theorem lt_len {α : Type} {l : List α} {i : Nat} (h : i < l.length) : (i : Int) < (l.length : Int) := by omega
def allIn (l : List Int) (lo hi : Int) : Bool := l.all fun x => decide (lo ≤ x) && decide (x ≤ hi)
theorem Ev.succ {α : Type} {g : Nat → Option α} {r : α} (h : Ev (fun k => g (k + 1)) r) : Ev g r := Ev.step (fun _ => rfl) h

theorem laws_eqIntS_ev (l : List Int) (hl : l.length ≤ 1048576) : Ev (fun k => laws_eqIntS.f k l l) true := by
  unfold laws_eqIntS.f
  refine Ev.pos rfl ?_
  refine ev_up l.length (fun k i => laws_eqIntS.l0 k l l (i : Int)) _ (fun _ => True) trivial ?_ ?_
  · intro _
    refine Ev.step0 (Ev.of_eq fun _ => rfl) fun k => ?_
    simp only [laws_eqIntS.l0]; rw [if_neg (by omega)]
  · intro i hi' _ hn
    refine Ev.step0 (hn trivial) fun k => ?_
    simp only [laws_eqIntS.l0]; rw [if_pos (lt_len hi'), if_pos (by omega), if_pos (lt_len hi'), if_true, w64 (by omega) (by omega)]; rfl

def lowNum (a b : Int) : Int := if b < 0 then Int.tdiv (-a) (Int.gcd a b) else Int.tdiv a (Int.gcd a b)
def lowDen (a b : Int) : Int := if b < 0 then Int.tdiv (-b) (Int.gcd a b) else Int.tdiv b (Int.gcd a b)
def goodFrac (a b : Int) : Bool := decide (-1000000000 ≤ a) && decide (a ≤ 1000000000) && (decide (1 ≤ b) && decide (b ≤ 1000000000)) && decide (Int.gcd a b = 1)

def flowOk (flow : List Int) : Bool := decide (1 ≤ (flow.length : Int)) && decide ((flow.length : Int) ≤ 8) && allIn flow 1 30
def countsOk (flow counts : List Int) : Bool := flowOk flow && (decide ((counts.length : Int) = (flow.length : Int)) && (allIn counts 1 40 && decide (counts.sum ≤ 40)))
def gn (f c : Int) : Int := lowNum f (c * (c + 1))
def gd (f c : Int) : Int := lowDen f (c * (c + 1))
def bestUp (lt : Nat → Nat → Bool) : Nat → Nat
  | 0 => 0
  | i + 1 => if lt (bestUp lt i) i = true then i else bestUp lt i
def gainLt (flow counts : List Int) (b i : Nat) : Bool := decide (gn flow[b]! counts[b]! * gd flow[i]! counts[i]! < gn flow[i]! counts[i]! * gd flow[b]! counts[b]!)
def nextOf (flow counts : List Int) : Nat := bestUp (gainLt flow counts) flow.length

def bump (flow counts : List Int) : List Int := counts.set (nextOf flow counts) (counts[nextOf flow counts]! + 1)
def shareUp (flow : List Int) : Nat → List Int
  | 0 => List.replicate flow.length 1
  | i + 1 => bump flow (shareUp flow i)
def shareOf (flow : List Int) (places : Int) : List Int := shareUp flow (places - flow.length).toNat
def kindsOk (flow : List Int) (places : Int) : Bool := flowOk flow && (decide ((flow.length : Int) ≤ places) && decide (places ≤ 40))

def upFrom (k : Int) (n : Nat) : List Int := (List.range n).map fun (j : Nat) => k + (j : Int)
theorem upFrom_length (k : Int) (n : Nat) : (upFrom k n).length = n := by simp [upFrom]
theorem upFrom_get (k : Int) (n i : Nat) (h : i < n) : (upFrom k n)[i]'(by rw [upFrom_length]; exact h) = k + (i : Int) := by simp [upFrom]
theorem upFrom_succ (k : Int) (n : Nat) : upFrom k (n + 1) = upFrom k n ++ [k + (n : Int)] := by simp [upFrom, List.range_succ]
theorem laws_markIntS_ev (l : List Int) (k0 : Int) (h0 : 0 ≤ k0 ∧ k0 ≤ 1073741824) (hl : l.length ≤ 1048576) : Ev (fun k => laws_markIntS.f k l k0) (k0 + (l.length : Int), upFrom k0 l.length) := by
  unfold laws_markIntS.f
  have key := ev_up l.length (fun k i => laws_markIntS.l0 k (upFrom k0 i ++ l.drop i) (k0 + (i : Int)) (i : Int)) (k0 + (l.length : Int), upFrom k0 l.length) (fun _ => True) trivial ?_ ?_
  · simpa [upFrom] using key
  · intro _
    refine Ev.succ ?_
    simp only [laws_markIntS.l0]
    refine Ev.neg (by simp [upFrom_length]) ?_
    rw [List.drop_length, List.append_nil]; exact Ev.now _
  · intro i hi _ hn
    refine Ev.succ ?_
    simp only [laws_markIntS.l0]
    have hlen : (upFrom k0 i ++ l.drop i).length = l.length := by simp [upFrom_length]; omega
    refine Ev.pos (by rw [hlen]; exact lt_len hi) (Ev.pos (by omega) ?_)
    rw [toNat_nat, w64 (x := (i : Int) + 1) (by omega) (by omega), w64 (by omega) (by omega)]
    have hs : (upFrom k0 i ++ l.drop i).set i (k0 + (i : Int)) = upFrom k0 (i + 1) ++ l.drop (i + 1) := by
      rw [List.set_append_right _ _ (by rw [upFrom_length]; exact Nat.le_refl _), upFrom_length, Nat.sub_self, List.drop_eq_getElem_cons hi, List.set_cons_zero, upFrom_succ, List.append_assoc]; rfl
    rw [hs, Int.add_assoc]
    exact hn trivial

theorem laws_heldIntS_ev (n : Nat) (k0 : Int) (h0 : 0 ≤ k0 ∧ k0 ≤ 1073741824) (hl : n ≤ 1048576) : Ev (fun k => laws_heldIntS.f k (upFrom k0 n) k0) (k0 + (n : Int)) := by
  unfold laws_heldIntS.f
  have key := ev_up n (fun k i => laws_heldIntS.l0 k (upFrom k0 n) (k0 + (i : Int)) (i : Int)) (k0 + (n : Int)) (fun _ => True) trivial ?_ ?_
  · simpa using key
  · intro _
    refine Ev.succ ?_
    simp only [laws_heldIntS.l0]
    exact Ev.neg (by simp [upFrom_length]) (Ev.now _)
  · intro i hi _ hn
    refine Ev.succ ?_
    simp only [laws_heldIntS.l0]
    have hi' : i < (upFrom k0 n).length := by rw [upFrom_length]; exact hi
    refine Ev.pos (lt_len hi') (Ev.pos (by omega) (Ev.pos (by rw [rd_nat _ _ hi', upFrom_get _ _ _ hi]) ?_))
    rw [w64 (x := (i : Int) + 1) (by omega) (by omega), w64 (by omega) (by omega), Int.add_assoc]
    exact hn trivial

theorem rdOf_nat {α : Type} (d : α) (l : List α) (i : Nat) (h : i < l.length) : rdOf d l (i : Int) = l[i] := by simp [rdOf, h]
theorem w64n {i n : Nat} (h : i < n) (hn : n ≤ 4611686018427387904) : wrap64 ((i : Int) + 1) = ((i + 1 : Nat) : Int) := by rw [w64 (by omega) (by omega)]; rfl
theorem ev_indexFunc {α : Type} (l : List α) (rdx : Int → α) (hr : ∀ (i : Nat) (h : i < l.length), rdx (i : Int) = l[i]) (c : Nat → α → Option Bool) (p : α → Bool)
    (hc : ∀ x ∈ l, Ev (fun k => c k x) (p x)) (g : Nat → Int → Option Int)
    (hg : ∀ k i, g (k + 1) i = if i < (l.length : Int) then (if 0 ≤ i then (if i < (l.length : Int) then ((c k (rdx i)).bind fun t => if t = true then some i else g k (wrap64 (i + 1))) else none) else none) else some (-1))
    (hl : l.length ≤ 4611686018427387904) : ∃ j : Int, decide (j ≥ 0) = l.any p ∧ Ev (fun k => g k 0) j := by
  have gen : ∀ (d i : Nat), i + d = l.length → ∃ j : Int, decide (j ≥ 0) = (l.drop i).any p ∧ Ev (fun k => g k (i : Int)) j := by
    intro d
    induction d with
    | zero =>
      intro i hi
      refine ⟨-1, by rw [List.drop_of_length_le (by omega)]; rfl, Ev.step0 (Ev.of_eq fun _ => rfl) fun k => ?_⟩
      rw [hg, if_neg (by omega)]
    | succ d ih =>
      intro i hi
      have hi' : i < l.length := by omega
      have hd : (l.drop i).any p = (p l[i] || (l.drop (i + 1)).any p) := by rw [List.drop_eq_getElem_cons hi', List.any_cons]
      have hcx := hc l[i] (List.getElem_mem hi')
      cases hp : p l[i] with
      | true =>
        refine ⟨i, by rw [hd, hp]; simp, Ev.step (fun k => hg k _) (Ev.pos (by omega) (Ev.pos (by omega) (Ev.pos (by omega) ?_)))⟩
        rw [hr i hi']
        exact Ev.bind hcx (Ev.pos hp (Ev.now _))
      | false =>
        obtain ⟨j, hj, hev⟩ := ih (i + 1) (by omega)
        refine ⟨j, by rw [hd, hp, hj]; rfl, Ev.step (fun k => hg k _) (Ev.pos (by omega) (Ev.pos (by omega) (Ev.pos (by omega) ?_)))⟩
        rw [hr i hi', w64 (by omega) (by omega)]
        exact Ev.bind hcx (Ev.neg (by rw [hp]; simp) hev)
  have := gen l.length 0 (by omega)
  simpa using this
theorem any_not_all {α : Type} (l : List α) (p : α → Bool) : l.any (fun x => !p x) = !(l.all p) := by
  induction l with
  | nil => rfl
  | cons a l ih => simp [ih]
def wayOf (a b c d : Int) : Int := if a = c then ((b - d).natAbs : Int) else 3 * ((a - c).natAbs : Int) + (if 40 - (b + d) < b + d then 40 - (b + d) else b + d)
def spotOk (a b : Int) : Bool := (decide (0 ≤ a) && decide (a ≤ 9)) && (decide (0 ≤ b) && decide (b ≤ 20))

inductive Tk (F : Nat → Nat → Bool) (nb : Nat) : Nat → Nat → List Int → List Bool → Bool → List Int → List Bool → Prop where
  | done {l b : Nat} {o : List Int} {t : List Bool} : nb ≤ b → Tk F nb l b o t false o t
  | skip {l b : Nat} {o o' : List Int} {t t' : List Bool} {r : Bool} : b < nb → (F l b = false ∨ rdOf false t (b : Int) = true) → Tk F nb l (b + 1) o t r o' t' → Tk F nb l b o t r o' t'
  | free {l b : Nat} {o : List Int} {t : List Bool} : b < nb → F l b = true → rdOf false t (b : Int) = false → rd o (b : Int) < 0 → Tk F nb l b o t true (o.set b (l : Int)) (t.set b true)
  | push {l b m : Nat} {o o' : List Int} {t t' : List Bool} : b < nb → F l b = true → rdOf false t (b : Int) = false → rd o (b : Int) = (m : Int) → Tk F nb m 0 o (t.set b true) true o' t' → Tk F nb l b o t true (o'.set b (l : Int)) t'
  | fail {l b m : Nat} {o o' o'' : List Int} {t t' t'' : List Bool} {r : Bool} : b < nb → F l b = true → rdOf false t (b : Int) = false → rd o (b : Int) = (m : Int) → Tk F nb m 0 o (t.set b true) false o' t' → Tk F nb l (b + 1) o' t' r o'' t'' → Tk F nb l b o t r o'' t''
theorem rd_setn (o : List Int) (b x : Nat) (v : Int) (h : b < o.length) : rd (o.set b v) (x : Int) = if x = b then v else rd o (x : Int) := by
  simp only [rd, Int.toNat_natCast, List.getD_eq_getElem?_getD, List.getElem?_set]
  by_cases hx : b = x
  · subst hx; simp [h]
  · rw [if_neg hx, if_neg (fun e => hx e.symm)]
theorem rdOf_setn (t : List Bool) (b x : Nat) (v : Bool) (h : b < t.length) : rdOf false (t.set b v) (x : Int) = if x = b then v else rdOf false t (x : Int) := by
  simp only [rdOf, Int.toNat_natCast, List.getD_eq_getElem?_getD, List.getElem?_set]
  by_cases hx : b = x
  · subst hx; simp [h]
  · rw [if_neg hx, if_neg (fun e => hx e.symm)]
theorem Tk.len {F : Nat → Nat → Bool} {nb l b : Nat} {o o' : List Int} {t t' : List Bool} {r : Bool} (h : Tk F nb l b o t r o' t') : o'.length = o.length ∧ t'.length = t.length := by
  induction h with
  | done _ => exact ⟨rfl, rfl⟩
  | skip _ _ _ ih => exact ih
  | free _ _ _ _ => simp
  | push _ _ _ _ _ ih => simp at ih ⊢; exact ih
  | fail _ _ _ _ _ _ ih1 ih2 => simp at ih1; exact ⟨by omega, by omega⟩
theorem Tk.rng {F : Nat → Nat → Bool} {nb n l b : Nat} {o o' : List Int} {t t' : List Bool} {r : Bool} (h : Tk F nb l b o t r o' t') :
    o.length = nb → l < n → (∀ x : Nat, x < nb → -1 ≤ rd o (x : Int) ∧ rd o (x : Int) < n) → ∀ x : Nat, x < nb → -1 ≤ rd o' (x : Int) ∧ rd o' (x : Int) < n := by
  induction h with
  | done _ => intro _ _ h; exact h
  | skip _ _ _ ih => exact ih
  | free hb _ _ _ => intro ho hl h x hx; rw [rd_setn _ _ _ _ (by omega)]; split
                     · omega
                     · exact h x hx
  | push hb _ _ hm ht ih =>
    intro ho hl h x hx
    have h1 := h _ hb
    rw [rd_setn _ _ _ _ (by have := ht.len; omega)]; split
    · omega
    · exact ih ho (by omega) h x hx
  | fail hb _ _ hm ht _ ih1 ih2 =>
    intro ho hl h
    have h1 := h _ hb
    exact ih2 (by have := ht.len; omega) hl (ih1 ho (by omega) h)
theorem Tk.mono {F : Nat → Nat → Bool} {nb l b : Nat} {o o' : List Int} {t t' : List Bool} {r : Bool} (h : Tk F nb l b o t r o' t') :
    t.length = nb → ∀ x : Nat, rdOf false t (x : Int) = true → rdOf false t' (x : Int) = true := by
  induction h with
  | done _ => intro _ _ h; exact h
  | skip _ _ _ ih => exact ih
  | free hb _ _ _ => intro ht x hx; rw [rdOf_setn _ _ _ _ (by omega)]; split
                     · rfl
                     · exact hx
  | push hb _ _ _ _ ih => intro ht x hx; exact ih (by simpa using ht) x (by rw [rdOf_setn _ _ _ _ (by omega)]; split <;> simp_all)
  | fail hb _ _ _ hs _ ih1 ih2 => intro ht x hx; exact ih2 (by have := hs.len; simp at this; omega) x (ih1 (by simpa using ht) x (by rw [rdOf_setn _ _ _ _ (by omega)]; split <;> simp_all))
theorem Tk.kept {F : Nat → Nat → Bool} {nb l b : Nat} {o o' : List Int} {t t' : List Bool} {r : Bool} (h : Tk F nb l b o t r o' t') :
    o.length = nb → t.length = nb → ∀ x : Nat, rdOf false t (x : Int) = true → rd o' (x : Int) = rd o (x : Int) := by
  induction h with
  | done _ => intro _ _ _ _; rfl
  | skip _ _ _ ih => exact ih
  | free hb _ h0 _ =>
    intro ho ht x hx; rw [rd_setn _ _ _ _ (by omega)]; split
    · subst x; rw [h0] at hx; cases hx
    · rfl
  | push hb _ h0 _ hs ih =>
    intro ho ht x hx
    rw [rd_setn _ _ _ _ (by have := hs.len; omega)]; split
    · subst x; rw [h0] at hx; cases hx
    · exact ih ho (by simpa using ht) x (by rw [rdOf_setn _ _ _ _ (by omega)]; split <;> simp_all)
  | @fail l b m o o' o'' t t' t'' r hb _ h0 _ hs _ ih1 ih2 =>
    intro ho ht x hx
    have h1 : rdOf false (t.set b true) (x : Int) = true := by rw [rdOf_setn _ _ _ _ (by omega)]; split <;> simp_all
    have := hs.len; simp at this
    rw [ih2 (by omega) (by omega) x (hs.mono (by simpa using ht) x h1), ih1 ho (by simpa using ht) x h1]
theorem Tk.dead {F : Nat → Nat → Bool} {nb l b : Nat} {o o' : List Int} {t t' : List Bool} {r : Bool} (h : Tk F nb l b o t r o' t') (D : Nat → Prop) :
    o.length = nb → (∀ x, D x → x < nb ∧ ∃ m : Nat, rd o (x : Int) = (m : Int) ∧ ∀ y, y < nb → F m y = true → D y) →
    (∀ x, D x → rd o' (x : Int) = rd o (x : Int)) ∧ ((∀ x, b ≤ x → x < nb → F l x = true → D x) → r = false) := by
  induction h with
  | done _ => intro _ _; exact ⟨fun _ _ => rfl, fun _ => rfl⟩
  | skip hb hc hs ih => intro ho hD; exact ⟨(ih ho hD).1, fun hF => (ih ho hD).2 fun x h1 h2 h3 => hF x (by omega) h2 h3⟩
  | @free l b o t hb hf h0 hn =>
    intro ho hD
    have hno : ¬ D b := fun hd => by obtain ⟨_, m, hm, _⟩ := hD b hd; omega
    refine ⟨fun x hx => ?_, fun hF => absurd (hF b (Nat.le_refl _) hb hf) hno⟩
    rw [rd_setn _ _ _ _ (by omega), if_neg]
    intro e; subst e; exact hno hx
  | @push l b m o o' t t' hb hf h0 hm hs ih =>
    intro ho hD
    obtain ⟨i1, i2⟩ := ih ho hD
    have hno : ¬ D b := fun hd => by
      obtain ⟨_, m', hm', hy⟩ := hD b hd
      have e : m' = m := by omega
      subst e
      exact absurd (i2 fun x _ h2 h3 => hy x h2 h3) (by simp)
    refine ⟨fun x hx => ?_, fun hF => absurd (hF b (Nat.le_refl _) hb hf) hno⟩
    rw [rd_setn _ _ _ _ (by have := hs.len; omega), if_neg, i1 x hx]
    intro e; subst e; exact hno hx
  | @fail l b m o o' o'' t t' t'' r hb hf h0 hm hs hr ih1 ih2 =>
    intro ho hD
    obtain ⟨i1, _⟩ := ih1 ho hD
    obtain ⟨j1, j2⟩ := ih2 (by have := hs.len; omega) (fun x hx => by
      obtain ⟨h1, m', h2, h3⟩ := hD x hx
      exact ⟨h1, m', by rw [i1 x hx]; exact h2, h3⟩)
    exact ⟨fun x hx => by rw [j1 x hx, i1 x hx], fun hF => j2 fun x h1 h2 h3 => hF x (by omega) h2 h3⟩
theorem Tk.fails {F : Nat → Nat → Bool} {nb l b : Nat} {o o' : List Int} {t t' : List Bool} {r : Bool} (h : Tk F nb l b o t r o' t') :
    t.length = nb → r = false → o' = o ∧ (∀ x, b ≤ x → x < nb → F l x = true → rdOf false t' (x : Int) = true) ∧
      ∀ x : Nat, x < nb → rdOf false t' (x : Int) = true → rdOf false t (x : Int) = true ∨ ∃ m : Nat, rd o (x : Int) = (m : Int) ∧ ∀ y, y < nb → F m y = true → rdOf false t' (y : Int) = true := by
  induction h with
  | done hb => intro _ _; exact ⟨rfl, fun x h1 h2 _ => by omega, fun x _ h => .inl h⟩
  | @skip l b o o' t t' r hb hc hs ih =>
    intro ht hr
    obtain ⟨h1, h2, h3⟩ := ih ht hr
    refine ⟨h1, fun x a1 a2 a3 => ?_, h3⟩
    rcases Nat.lt_or_ge b x with h | h
    · exact h2 x h a2 a3
    · obtain rfl : x = b := by omega
      rcases hc with hc | hc
      · rw [hc] at a3; cases a3
      · exact hs.mono ht x hc
  | free _ _ _ _ => intro _ hr; cases hr
  | push _ _ _ _ _ _ => intro _ hr; cases hr
  | @fail l b m o o' o'' t t' t'' r hb hf h0 hm hs hq ih1 ih2 =>
    intro ht hr
    have hl := hs.len; simp at hl
    obtain ⟨e1, f1, g1⟩ := ih1 (by simpa using ht) rfl
    obtain ⟨e2, f2, g2⟩ := ih2 (by omega) hr
    have mo := hq.mono (by omega)
    have mb : rdOf false t' (b : Int) = true := hs.mono (by simpa using ht) b (by rw [rdOf_setn _ _ _ _ (by omega), if_pos rfl])
    subst e1
    refine ⟨e2, fun x a1 a2 a3 => ?_, fun x a1 a2 => ?_⟩
    · rcases Nat.lt_or_ge b x with h | h
      · exact f2 x h a2 a3
      · obtain rfl : x = b := by omega
        exact mo x mb
    · rcases g2 x a1 a2 with h | h
      · rcases g1 x a1 h with h' | ⟨m', h1, h2⟩
        · rw [rdOf_setn _ _ _ _ (by omega)] at h'
          split at h'
          · subst x; exact .inr ⟨m, hm, fun y hy hy2 => mo y (f1 y (Nat.zero_le _) hy hy2)⟩
          · exact .inl h'
        · exact .inr ⟨m', h1, fun y hy hy2 => mo y (h2 y hy hy2)⟩
      · exact .inr h
structure Owns (F : Nat → Nat → Bool) (U : Nat → Prop) (o : List Int) : Prop where
  inj : ∀ x y (m : Nat), U x → U y → rd o (x : Int) = (m : Int) → rd o (y : Int) = (m : Int) → x = y
  fit : ∀ x (m : Nat), U x → rd o (x : Int) = (m : Int) → F m x = true
theorem Tk.takes {F : Nat → Nat → Bool} {nb l b : Nat} {o o' : List Int} {t t' : List Bool} {r : Bool} (h : Tk F nb l b o t r o' t') :
    o.length = nb → t.length = nb → r = true → Owns F (fun x => x < nb ∧ rdOf false t (x : Int) = false) o → (∀ x : Nat, x < nb → rdOf false t (x : Int) = false → rd o (x : Int) ≠ (l : Int)) →
    Owns F (fun x => x < nb ∧ rdOf false t (x : Int) = false) o' ∧ ∀ m : Nat, (∃ x : Nat, (x < nb ∧ rdOf false t (x : Int) = false) ∧ rd o' (x : Int) = (m : Int)) ↔ (m = l ∨ ∃ x : Nat, (x < nb ∧ rdOf false t (x : Int) = false) ∧ rd o (x : Int) = (m : Int)) := by
  induction h with
  | done _ => intro _ _ hr; cases hr
  | skip _ _ _ ih => exact ih
  | @free l b o t hb hf h0 hn =>
    intro ho ht _ hO hl
    have e : ∀ x : Nat, rd (o.set b (l : Int)) (x : Int) = if x = b then (l : Int) else rd o (x : Int) := fun x => rd_setn _ _ _ _ (by omega)
    refine ⟨⟨fun x y m hx hy h1 h2 => ?_, fun x m hx h1 => ?_⟩, fun m => ⟨?_, ?_⟩⟩
    · rw [e] at h1 h2
      split at h1 <;> split at h2
      · omega
      · have := hl y hy.1 hy.2; omega
      · have := hl x hx.1 hx.2; omega
      · exact hO.inj x y m hx hy h1 h2
    · rw [e] at h1
      split at h1
      · obtain rfl : l = m := by omega
        subst x; exact hf
      · exact hO.fit x m hx h1
    · rintro ⟨x, hx, h1⟩
      rw [e] at h1
      split at h1
      · exact .inl (by omega)
      · exact .inr ⟨x, hx, h1⟩
    · rintro (h1 | ⟨x, hx, h1⟩)
      · exact ⟨b, ⟨hb, h0⟩, by rw [e, if_pos rfl, h1]⟩
      · refine ⟨x, hx, ?_⟩
        rw [e, if_neg]
        · exact h1
        · intro e2; subst e2; omega
  | @push l b m o o' t t' hb hf h0 hm hs ih =>
    intro ho ht _ hO hl
    have e1 : ∀ x : Nat, rdOf false (t.set b true) (x : Int) = if x = b then true else rdOf false t (x : Int) := fun x => rdOf_setn _ _ _ _ (by omega)
    have sub : ∀ x : Nat, (x < nb ∧ rdOf false (t.set b true) (x : Int) = false) ↔ (x < nb ∧ rdOf false t (x : Int) = false) ∧ x ≠ b := fun x => by
      rw [e1]; split
      · simp_all
      · simp_all
    have e : ∀ x : Nat, rd (o'.set b (l : Int)) (x : Int) = if x = b then (l : Int) else rd o' (x : Int) := fun x => rd_setn _ _ _ _ (by have := hs.len; omega)
    obtain ⟨hO', hL⟩ := ih ho (by simpa using ht) rfl ⟨fun x y k hx hy => hO.inj x y k ((sub x).mp hx).1 ((sub y).mp hy).1, fun x k hx => hO.fit x k ((sub x).mp hx).1⟩
      (fun x h1 h2 h3 => ((sub x).mp ⟨h1, h2⟩).2 (hO.inj x b m ((sub x).mp ⟨h1, h2⟩).1 ⟨hb, h0⟩ h3 hm))
    have hlm : l ≠ m := fun e2 => hl b hb h0 (by rw [hm, e2])
    have hlo : ∀ x : Nat, x < nb → rdOf false t (x : Int) = false → x ≠ b → rd o' (x : Int) ≠ (l : Int) := fun x h1 h2 h3 h4 => by
      rcases (hL l).mp ⟨x, (sub x).mpr ⟨⟨h1, h2⟩, h3⟩, h4⟩ with h5 | ⟨y, h5, h6⟩
      · exact hlm h5
      · exact hl y ((sub y).mp h5).1.1 ((sub y).mp h5).1.2 h6
    refine ⟨⟨fun x y k hx hy h1 h2 => ?_, fun x k hx h1 => ?_⟩, fun k => ⟨?_, ?_⟩⟩
    · rw [e] at h1 h2
      split at h1 <;> split at h2
      · omega
      · rename_i q1 q2; exact absurd (show rd o' (y : Int) = (l : Int) by omega) (hlo y hy.1 hy.2 q2)
      · rename_i q1 q2; exact absurd (show rd o' (x : Int) = (l : Int) by omega) (hlo x hx.1 hx.2 q1)
      · rename_i q1 q2; exact hO'.inj x y k ((sub x).mpr ⟨hx, q1⟩) ((sub y).mpr ⟨hy, q2⟩) h1 h2
    · rw [e] at h1
      split at h1
      · obtain rfl : l = k := by omega
        subst x; exact hf
      · rename_i q; exact hO'.fit x k ((sub x).mpr ⟨hx, q⟩) h1
    · rintro ⟨x, hx, h1⟩
      rw [e] at h1
      split at h1
      · exact .inl (by omega)
      · rename_i q
        rcases (hL k).mp ⟨x, (sub x).mpr ⟨hx, q⟩, h1⟩ with h2 | ⟨y, h2, h3⟩
        · exact .inr ⟨b, ⟨hb, h0⟩, by rw [hm, h2]⟩
        · exact .inr ⟨y, ((sub y).mp h2).1, h3⟩
    · rintro (h1 | ⟨x, hx, h1⟩)
      · exact ⟨b, ⟨hb, h0⟩, by rw [e, if_pos rfl, h1]⟩
      · have : k = m ∨ ∃ y : Nat, (y < nb ∧ rdOf false (t.set b true) (y : Int) = false) ∧ rd o (y : Int) = (k : Int) := by
          by_cases q : x = b
          · subst q; exact .inl (by omega)
          · exact .inr ⟨x, (sub x).mpr ⟨hx, q⟩, h1⟩
        obtain ⟨y, hy, hy2⟩ := (hL k).mpr this
        exact ⟨y, ((sub y).mp hy).1, by rw [e, if_neg ((sub y).mp hy).2]; exact hy2⟩
  | @fail l b m o o' o'' t t' t'' r hb hf h0 hm hs hq ih1 ih2 =>
    intro ho ht hr hO hl
    have ln := hs.len; simp at ln
    obtain ⟨rfl, _, _⟩ := hs.fails (by simpa using ht) rfl
    have mo : ∀ x : Nat, rdOf false t' (x : Int) = false → rdOf false t (x : Int) = false := fun x hx => by
      cases hh : rdOf false t (x : Int) with
      | false => rfl
      | true => rw [hs.mono (by simpa using ht) x (by rw [rdOf_setn _ _ _ _ (by omega)]; split <;> simp_all)] at hx; cases hx
    obtain ⟨hO', hL⟩ := ih2 ho (by omega) hr ⟨fun x y k hx hy => hO.inj x y k ⟨hx.1, mo x hx.2⟩ ⟨hy.1, mo y hy.2⟩, fun x k hx => hO.fit x k ⟨hx.1, mo x hx.2⟩⟩ (fun x h1 h2 => hl x h1 (mo x h2))
    have kp := hq.kept ho (by omega)
    have two : ∀ x : Nat, rdOf false t' (x : Int) = false ∨ rd o'' (x : Int) = rd o' (x : Int) := fun x => by
      cases hh : rdOf false t' (x : Int) with
      | false => exact .inl rfl
      | true => exact .inr (kp x hh)
    have cross : ∀ (x y k : Nat), x < nb → rdOf false t' (x : Int) = false → y < nb → rdOf false t (y : Int) = false → rdOf false t' (y : Int) = true → rd o'' (x : Int) = (k : Int) → rd o'' (y : Int) = (k : Int) → False := fun x y k h1 h2 h3 h4 h5 h6 h7 => by
      rw [kp y h5] at h7
      rcases (hL k).mp ⟨x, ⟨h1, h2⟩, h6⟩ with h8 | ⟨z, h8, h9⟩
      · exact hl y h3 h4 (by rw [h7, h8])
      · have := hO.inj z y k ⟨h8.1, mo z h8.2⟩ ⟨h3, h4⟩ h9 h7
        subst this; rw [h5] at h8; cases h8.2
    refine ⟨⟨fun x y k hx hy h1 h2 => ?_, fun x k hx h1 => ?_⟩, fun k => ⟨?_, ?_⟩⟩
    · cases hx2 : rdOf false t' (x : Int) <;> cases hy2 : rdOf false t' (y : Int)
      · exact hO'.inj x y k ⟨hx.1, hx2⟩ ⟨hy.1, hy2⟩ h1 h2
      · exact (cross x y k hx.1 hx2 hy.1 hy.2 hy2 h1 h2).elim
      · exact (cross y x k hy.1 hy2 hx.1 hx.2 hx2 h2 h1).elim
      · rw [kp x hx2] at h1; rw [kp y hy2] at h2; exact hO.inj x y k hx hy h1 h2
    · cases hx2 : rdOf false t' (x : Int)
      · exact hO'.fit x k ⟨hx.1, hx2⟩ h1
      · rw [kp x hx2] at h1; exact hO.fit x k hx h1
    · rintro ⟨x, hx, h1⟩
      cases hx2 : rdOf false t' (x : Int)
      · rcases (hL k).mp ⟨x, ⟨hx.1, hx2⟩, h1⟩ with h2 | ⟨y, h2, h3⟩
        · exact .inl h2
        · exact .inr ⟨y, ⟨h2.1, mo y h2.2⟩, h3⟩
      · rw [kp x hx2] at h1; exact .inr ⟨x, hx, h1⟩
    · rintro (h1 | ⟨x, hx, h1⟩)
      · obtain ⟨y, hy, hy2⟩ := (hL k).mpr (.inl h1)
        exact ⟨y, ⟨hy.1, mo y hy.2⟩, hy2⟩
      · cases hx2 : rdOf false t' (x : Int)
        · obtain ⟨y, hy, hy2⟩ := (hL k).mpr (.inr ⟨x, ⟨hx.1, hx2⟩, h1⟩)
          exact ⟨y, ⟨hy.1, mo y hy.2⟩, hy2⟩
        · exact ⟨x, hx, by rw [kp x hx2]; exact h1⟩
def cnt (p : Nat → Bool) : Nat → Nat
  | 0 => 0
  | n + 1 => cnt p n + (p n).toNat
theorem cnt_congr {p q : Nat → Bool} {n : Nat} (h : ∀ i, i < n → p i = q i) : cnt p n = cnt q n := by
  induction n with
  | zero => rfl
  | succ n ih => simp only [cnt]; rw [ih fun i hi => h i (by omega), h n (by omega)]
theorem cnt_out {p : Nat → Bool} {n j : Nat} (hj : j < n) (hp : p j = true) : cnt p n = cnt (fun i => p i && decide (i ≠ j)) n + 1 := by
  induction n with
  | zero => omega
  | succ n ih =>
    simp only [cnt]
    by_cases e : j = n
    · subst e
      have : cnt (fun i => p i && decide (i ≠ j)) j = cnt p j := cnt_congr fun i hi => by simp; omega
      rw [this, hp]; simp
    · rw [ih (by omega)]
      have : (p n && decide (n ≠ j)) = p n := by simp; omega
      rw [this]; omega
theorem Tk.ex (F : Nat → Nat → Bool) (nb : Nat) : ∀ (u l b : Nat) (o : List Int) (t : List Bool), o.length = nb → t.length = nb → (∀ x : Nat, x < nb → -1 ≤ rd o (x : Int)) → cnt (fun i => !rdOf false t (i : Int)) nb = u →
    ∃ r o' t', Tk F nb l b o t r o' t' ∧ (∀ x : Nat, x < nb → -1 ≤ rd o' (x : Int)) ∧ cnt (fun i => !rdOf false t' (i : Int)) nb ≤ u := by
  intro u
  induction u using Nat.strongRecOn with
  | _ u ihu =>
    have inner : ∀ d l b (o : List Int) (t : List Bool), b + d = nb → o.length = nb → t.length = nb → (∀ x : Nat, x < nb → -1 ≤ rd o (x : Int)) → cnt (fun i => !rdOf false t (i : Int)) nb ≤ u →
        ∃ r o' t', Tk F nb l b o t r o' t' ∧ (∀ x : Nat, x < nb → -1 ≤ rd o' (x : Int)) ∧ cnt (fun i => !rdOf false t' (i : Int)) nb ≤ u := by
      intro d
      induction d with
      | zero => intro l b o t hb ho ht hr hu; exact ⟨false, o, t, .done (by omega), hr, hu⟩
      | succ d ih =>
        intro l b o t hb ho ht hr hu
        have hb' : b < nb := by omega
        by_cases hs : F l b = false ∨ rdOf false t (b : Int) = true
        · obtain ⟨r, o', t', h1, h2, h3⟩ := ih l (b + 1) o t (by omega) ho ht hr hu
          exact ⟨r, o', t', .skip hb' hs h1, h2, h3⟩
        · have hf : F l b = true := by cases hh : F l b <;> simp_all
          have h0 : rdOf false t (b : Int) = false := by cases hh : rdOf false t (b : Int) <;> simp_all
          have e : cnt (fun i => !rdOf false t (i : Int)) nb = cnt (fun i => !rdOf false (t.set b true) (i : Int)) nb + 1 := by
            rw [cnt_out hb' (by rw [h0]; rfl)]
            congr 1
            refine cnt_congr fun i hi => ?_
            rw [rdOf_setn _ _ _ _ (by omega)]; split <;> simp_all
          by_cases hn : rd o (b : Int) < 0
          · refine ⟨true, _, _, .free hb' hf h0 hn, fun x hx => ?_, by omega⟩
            rw [rd_setn _ _ _ _ (by omega)]; split
            · omega
            · exact hr x hx
          · obtain ⟨m, hm⟩ : ∃ m : Nat, rd o (b : Int) = m := ⟨(rd o (b : Int)).toNat, by omega⟩
            obtain ⟨r1, o1, t1, h1, h2, h3⟩ := ihu _ (show cnt (fun i => !rdOf false (t.set b true) (i : Int)) nb < u by omega) m 0 o (t.set b true) ho (by simpa using ht) hr rfl
            have ln := h1.len
            cases r1 with
            | true =>
              refine ⟨true, _, _, .push hb' hf h0 hm h1, fun x hx => ?_, by omega⟩
              rw [rd_setn _ _ _ _ (by omega)]; split
              · omega
              · exact h2 x hx
            | false =>
              obtain ⟨r, o', t', g1, g2, g3⟩ := ih l (b + 1) o1 t1 (by omega) (by omega) (by simp at ln; omega) h2 (by omega)
              exact ⟨r, o', t', .fail hb' hf h0 hm h1 g1, g2, g3⟩
    intro l b o t ho ht hr hu
    rcases Nat.lt_or_ge nb b with h | h
    · exact ⟨false, o, t, .done (by omega), hr, by omega⟩
    · exact inner (nb - b) l b o t (by omega) ho ht hr (by omega)
inductive Ks (F : Nat → Nat → Bool) (nb n : Nat) : Nat → List Int → List Int → Prop where
  | done {j : Nat} {o : List Int} : n ≤ j → Ks F nb n j o o
  | step {j : Nat} {o o' o'' : List Int} {t' : List Bool} {r : Bool} : j < n → Tk F nb j 0 o (List.replicate nb false) r o' t' → Ks F nb n (j + 1) o' o'' → Ks F nb n j o o''
structure Kuhn (F : Nat → Nat → Bool) (nb n : Nat) (o : List Int) : Prop where
  len : o.length = nb
  rng : ∀ x : Nat, x < nb → -1 ≤ rd o (x : Int) ∧ rd o (x : Int) < n
  inj : ∀ (x y m : Nat), x < nb → y < nb → rd o (x : Int) = (m : Int) → rd o (y : Int) = (m : Int) → x = y
  fit : ∀ (x m : Nat), x < nb → rd o (x : Int) = (m : Int) → F m x = true
  dead : ∃ D : Nat → Prop, (∀ x, D x → x < nb ∧ ∃ m : Nat, rd o (x : Int) = (m : Int) ∧ ∀ y, y < nb → F m y = true → D y) ∧ ∀ l, l < n → (∀ x : Nat, x < nb → rd o (x : Int) ≠ (l : Int)) → ∀ y, y < nb → F l y = true → D y
theorem rdOf_rep (nb x : Nat) : rdOf false (List.replicate nb false) (x : Int) = false := by
  simp only [rdOf, Int.toNat_natCast, List.getD_eq_getElem?_getD, List.getElem?_replicate]; split <;> rfl
theorem rd_rep (nb x : Nat) (v : Int) (h : x < nb) : rd (List.replicate nb v) (x : Int) = v := by
  simp [rd, List.getD_eq_getElem?_getD, List.getElem?_replicate, h]
theorem Kuhn.next {F : Nat → Nat → Bool} {nb j : Nat} {o o' : List Int} {t' : List Bool} {r : Bool} (h : Kuhn F nb j o) (ht : Tk F nb j 0 o (List.replicate nb false) r o' t') : Kuhn F nb (j + 1) o' := by
  obtain ⟨len, rng, inj, fit, D, hD, hU⟩ := h
  have ln := ht.len
  have rng' := ht.rng (n := j + 1) len (by omega) (fun x hx => by have := rng x hx; omega)
  have all : ∀ x : Nat, (x < nb ∧ rdOf false (List.replicate nb false) (x : Int) = false) ↔ x < nb := fun x => by rw [rdOf_rep]; simp
  obtain ⟨d1, d2⟩ := ht.dead D len hD
  cases r with
  | true =>
    obtain ⟨hO, hL⟩ := ht.takes len (by simp) rfl ⟨fun x y m hx hy => inj x y m hx.1 hy.1, fun x m hx => fit x m hx.1⟩ (fun x h1 _ h2 => by have := rng x h1; omega)
    refine ⟨by omega, rng', fun x y m hx hy => hO.inj x y m ((all x).mpr hx) ((all y).mpr hy), fun x m hx => hO.fit x m ((all x).mpr hx), D, fun x hx => ?_, fun l hl hu => ?_⟩
    · obtain ⟨h1, m, h2, h3⟩ := hD x hx
      exact ⟨h1, m, by rw [d1 x hx]; exact h2, h3⟩
    · refine hU l ?_ fun x hx hx2 => ?_
      · rcases Nat.lt_or_ge l j with h | h
        · exact h
        · obtain rfl : l = j := by omega
          obtain ⟨x, hx, hx2⟩ := (hL l).mpr (.inl rfl)
          exact absurd hx2 (hu x hx.1)
      · obtain ⟨y, hy, hy2⟩ := (hL l).mpr (.inr ⟨x, (all x).mpr hx, hx2⟩)
        exact hu y hy.1 hy2
  | false =>
    obtain ⟨rfl, f1, f2⟩ := ht.fails (by simp) rfl
    refine ⟨len, rng', inj, fit, fun x => x < nb ∧ (D x ∨ rdOf false t' (x : Int) = true), fun x hx => ?_, fun l hl hu y hy hF => ?_⟩
    · obtain ⟨h0, hx | hx⟩ := hx
      · obtain ⟨h1, m, h2, h3⟩ := hD x hx
        exact ⟨h1, m, h2, fun y hy hF => ⟨hy, .inl (h3 y hy hF)⟩⟩
      · rcases f2 x h0 hx with h | ⟨m, h1, h2⟩
        · rw [rdOf_rep] at h; cases h
        · exact ⟨h0, m, h1, fun y hy hF => ⟨hy, .inr (h2 y hy hF)⟩⟩
    · rcases Nat.lt_or_ge l j with h | h
      · exact ⟨hy, .inl (hU l h hu y hy hF)⟩
      · obtain rfl : l = j := by omega
        exact ⟨hy, .inr (f1 y (Nat.zero_le _) hy hF)⟩
theorem Kuhn.ex (F : Nat → Nat → Bool) (nb n : Nat) : ∀ (d j : Nat) (o : List Int), j + d = n → Kuhn F nb j o → ∃ o', Ks F nb n j o o' ∧ Kuhn F nb n o' := by
  intro d
  induction d with
  | zero => intro j o hj h; obtain rfl : j = n := by omega
            exact ⟨o, .done (Nat.le_refl _), h⟩
  | succ d ih =>
    intro j o hj h
    obtain ⟨r, o', t', h1, _, _⟩ := Tk.ex F nb _ j 0 o (List.replicate nb false) h.len (by simp) (fun x hx => (h.rng x hx).1) rfl
    obtain ⟨o'', h2, h3⟩ := ih (j + 1) o' (by omega) (h.next h1)
    exact ⟨o'', .step (by omega) h1 h2, h3⟩
theorem Kuhn.start (F : Nat → Nat → Bool) (nb : Nat) : Kuhn F nb 0 (List.replicate nb (-1)) := by
  have e : ∀ x : Nat, x < nb → rd (List.replicate nb (-1)) (x : Int) = -1 := fun x hx => rd_rep nb x (-1) hx
  refine ⟨by simp, fun x hx => by rw [e x hx]; omega, fun x y m hx _ h => by rw [e x hx] at h; omega, fun x m hx h => by rw [e x hx] at h; omega, fun _ => False, fun _ h => h.elim, fun l hl => by omega⟩
theorem kuhn (F : Nat → Nat → Bool) (nb n : Nat) : ∃ o, Ks F nb n 0 (List.replicate nb (-1)) o ∧ Kuhn F nb n o := Kuhn.ex F nb n n 0 _ (by omega) (Kuhn.start F nb)

theorem rep_one (x : Int) (n : Nat) (h : n ≤ 1048576) : slices_Repeat_int_int.f [x] (n : Int) = some (List.replicate n x) := by
  simp only [slices_Repeat_int_int.f]; rw [if_pos (by omega), toNat_nat]

def nbOf (fits : List (List Bool)) : Nat := (fits.getD 0 []).length
def rowOk (fits : List (List Bool)) (r : List Bool) : Bool := decide (r.length = nbOf fits) && decide (r.length ≤ 8)
def fitOk (fits : List (List Bool)) : Bool := decide (fits.length ≤ 8) && fits.all (rowOk fits)
def fitF (fits : List (List Bool)) (l b : Nat) : Bool := rdOf false (fits.getD l []) (b : Int)
theorem fits_rd (fits : List (List Bool)) (i : Nat) : rd_L7 fits (i : Int) = fits.getD i [] := by simp [rd_L7]
theorem fits_rd0 (fits : List (List Bool)) : rd_L7 fits 0 = fits.getD 0 [] := by simp [rd_L7]
theorem fits_get (fits : List (List Bool)) (i : Nat) (h : i < fits.length) : fits.getD i [] = fits[i] := by simp [h]
theorem fitOk_iff (fits : List (List Bool)) : fitOk fits = true ↔ fits.length ≤ 8 ∧ nbOf fits ≤ 8 ∧ ∀ i, i < fits.length → (fits.getD i []).length = nbOf fits := by
  simp only [fitOk, rowOk, Bool.and_eq_true, decide_eq_true_eq, List.all_eq_true]
  constructor
  · rintro ⟨h1, h2⟩
    refine ⟨h1, ?_, fun i hi => ?_⟩
    · rcases Nat.eq_zero_or_pos fits.length with h0 | h0
      · have : fits = [] := List.length_eq_zero_iff.mp h0
        subst this; simp [nbOf]
      · have := h2 fits[0] (List.getElem_mem h0)
        have e : nbOf fits = fits[0].length := by unfold nbOf; rw [fits_get fits 0 h0]
        omega
    · rw [fits_get fits i hi]; exact (h2 _ (List.getElem_mem hi)).1
  · rintro ⟨h1, h2, h3⟩
    refine ⟨h1, fun r hr => ?_⟩
    obtain ⟨i, hi, rfl⟩ := List.getElem_of_mem hr
    have := h3 i hi
    rw [fits_get fits i hi] at this
    omega

theorem impl_GoodFits_ev (fits : List (List Bool)) (h : fits.length ≤ 1048576) : Ev (fun k => impl_GoodFits.f k fits) (fitOk fits) := by
  unfold impl_GoodFits.f sl0_ContainsFunc.f sl1_IndexFunc.f
  by_cases h8 : (fits.length : Int) ≤ 8
  · refine Ev.pos h8 ?_
    obtain ⟨j, hj, hev⟩ := ev_indexFunc fits (rd_L7 fits) (fun i hi => by rw [fits_rd, fits_get fits i hi]) (fun _ x => impl_GoodFits_1.f x fits) (fun r => !rowOk fits r) (fun x hx => by
      have h0 : 0 < fits.length := List.length_pos_of_mem hx
      refine Ev.of_eq fun _ => ?_
      unfold impl_GoodFits_1.f
      by_cases hx8 : (x.length : Int) > 8
      · rw [if_pos hx8]; simp [rowOk]; omega
      · rw [if_neg hx8, if_pos (by omega), fits_rd0]
        have : decide (x.length ≤ 8) = true := by simp; omega
        have hd : ((x.length : Int) != ((fits.getD 0 []).length : Int)) = !decide (x.length = (fits.getD 0 []).length) := by
          by_cases e : x.length = (fits.getD 0 []).length
          · rw [e]; simp
          · rw [decide_eq_false e]; simp only [bne, Bool.not_false, Bool.not_eq_true']; exact beq_eq_false_iff_ne.mpr (by omega)
        rw [hd]; unfold rowOk nbOf; rw [this, Bool.and_true]) (fun k i => sl1_IndexFunc.l0 k fits (fits.length : Int) i fits) (fun k i => rfl) (by omega)
    refine Ev.to (Ev.bind (Ev.bind hev (Ev.now _)) (Ev.now _)) ?_
    rw [hj, any_not_all]; unfold fitOk
    rw [decide_eq_true (show fits.length ≤ 8 by omega)]; simp
  · refine Ev.to (Ev.neg h8 (Ev.now _)) ?_
    unfold fitOk; rw [decide_eq_false (by omega)]; rfl

theorem spec_GoodFits_ev (fits : List (List Bool)) (h : fits.length ≤ 1048576) : Ev (fun k => spec_GoodFits.f k fits) (fitOk fits) := by
  unfold spec_GoodFits.f
  have gen : ∀ (d i : Nat), i + d = fits.length → Ev (fun k => spec_GoodFits.l0 k fits fits (fits.length : Int) (i : Int)) ((fits.drop i).all (rowOk fits) && decide (fits.length ≤ 8)) := by
    intro d
    induction d with
    | zero =>
      intro i hi
      rw [List.drop_of_length_le (by omega)]
      refine Ev.succ ?_
      simp only [spec_GoodFits.l0]
      refine Ev.neg (by omega) (Ev.to (Ev.now _) ?_)
      simp; omega
    | succ d ih =>
      intro i hi
      have hi' : i < fits.length := by omega
      rw [List.drop_eq_getElem_cons hi', List.all_cons]
      refine Ev.succ ?_
      simp only [spec_GoodFits.l0]
      refine Ev.pos (by omega) (Ev.pos (by omega) (Ev.pos (by omega) (Ev.pos (by omega) ?_)))
      rw [fits_rd, fits_rd0, fits_get fits i hi', w64n hi' (by omega)]
      refine Ev.ite (fun h1 => Ev.ite (fun h2 => ?_) (fun h2 => ?_)) (fun h1 => ?_)
      · have : rowOk fits fits[i] = false := by unfold rowOk nbOf; rw [decide_eq_false (show ¬ fits[i].length ≤ 8 by omega)]; simp
        rw [this]; exact Ev.now _
      · have : rowOk fits fits[i] = true := by unfold rowOk nbOf; rw [decide_eq_true (show fits[i].length ≤ 8 by omega), decide_eq_true (by omega)]; rfl
        rw [this, Bool.true_and]; exact ih (i + 1) (by omega)
      · have : rowOk fits fits[i] = false := by unfold rowOk nbOf; rw [decide_eq_false (by omega)]; rfl
        rw [this]; exact Ev.now _
  refine Ev.to (gen fits.length 0 (by omega)) ?_
  unfold fitOk; rw [List.drop_zero, Bool.and_comm]

theorem spec_take_ev {fits : List (List Bool)} {nb l b : Nat} {o o' : List Int} {t t' : List Bool} {r : Bool} (hw : ∀ i, i < fits.length → (fits.getD i []).length = nb) (hb8 : nb ≤ 8) (h : Tk (fitF fits) nb l b o t r o' t') :
    b ≤ nb → o.length = nb → t.length = nb → l < fits.length → (∀ x : Nat, x < nb → -1 ≤ rd o (x : Int) ∧ rd o (x : Int) < fits.length) → Ev (fun k => spec_l8Take.l0 k fits (l : Int) o t (fits.getD l []) (nb : Int) (b : Int)) (r, o', t') := by
  have enter : ∀ {m : Nat} {o t r}, m < fits.length → Ev (fun k => spec_l8Take.l0 k fits (m : Int) o t (fits.getD m []) (nb : Int) ((0 : Nat) : Int)) r → Ev (fun k => spec_l8Take.f k fits (m : Int) o t) r := fun {m o t r} hm hE => by
    refine Ev.succ ?_
    simp only [spec_l8Take.f]
    refine Ev.pos (by omega) (Ev.pos (by omega) ?_)
    rw [fits_rd, hw m hm]; exact hE
  induction h with
  | done hb => intro _ _ _ _ _; refine Ev.succ ?_; simp only [spec_l8Take.l0]; exact Ev.neg (by omega) (Ev.now _)
  | @skip l b o o' t t' r hb hc hs ih =>
    intro _ ho ht hl hr
    have hi := ih (by omega) ho ht hl hr
    refine Ev.succ ?_
    simp only [spec_l8Take.l0]
    rw [w64n hb (by omega)]
    refine Ev.pos (by omega) (Ev.pos (by omega) (Ev.pos (by rw [hw l hl]; omega) (Ev.ite (fun hf => Ev.pos (by omega) (Ev.pos ?_ hi)) (fun _ => hi))))
    rcases hc with hc | hc
    · rw [show rdOf false (fits.getD l []) (b : Int) = fitF fits l b from rfl, hc] at hf; cases hf
    · exact hc
  | @free l b o t hb hf h0 hn =>
    intro _ ho ht hl hr
    refine Ev.succ ?_
    simp only [spec_l8Take.l0]
    refine Ev.pos (by omega) (Ev.pos (by omega) (Ev.pos (by rw [hw l hl]; omega) (Ev.pos hf (Ev.pos (by omega) (Ev.neg (by rw [h0]; simp) (Ev.bind0 rfl (Ev.pos (by omega) (Ev.pos hn (Ev.to (Ev.now _) ?_)))))))))
    rw [toNat_nat]
  | @push l b m o o' t t' hb hf h0 hm hs ih =>
    intro _ ho ht hl hr
    have hml : m < fits.length := by have := (hr b hb).2; omega
    have hi := enter hml (ih (Nat.zero_le _) ho (by simpa using ht) hml hr)
    refine Ev.succ ?_
    simp only [spec_l8Take.l0]
    refine Ev.pos (by omega) (Ev.pos (by omega) (Ev.pos (by rw [hw l hl]; omega) (Ev.pos hf (Ev.pos (by omega) (Ev.neg (by rw [h0]; simp) (Ev.bind0 rfl (Ev.pos (by omega) (Ev.neg (by omega) ?_))))))))
    rw [toNat_nat, hm]
    exact Ev.bind hi (Ev.pos rfl (Ev.now _))
  | @fail l b m o o' o'' t t' t'' r hb hf h0 hm hs hq ih1 ih2 =>
    intro _ ho ht hl hr
    have hml : m < fits.length := by have := (hr b hb).2; omega
    have ln := hs.len
    simp only [List.length_set] at ln
    have hi := enter hml (ih1 (Nat.zero_le _) ho (by simpa using ht) hml hr)
    have hj := ih2 (by omega) (by omega) (by omega) hl (hs.rng ho hml hr)
    refine Ev.succ ?_
    simp only [spec_l8Take.l0]
    refine Ev.pos (by omega) (Ev.pos (by omega) (Ev.pos (by rw [hw l hl]; omega) (Ev.pos hf (Ev.pos (by omega) (Ev.neg (by rw [h0]; simp) (Ev.bind0 rfl (Ev.pos (by omega) (Ev.neg (by omega) ?_))))))))
    rw [toNat_nat, hm, w64n hb (by omega)]
    exact Ev.bind hi (Ev.neg (by simp) hj)

theorem impl_take_ev {fits : List (List Bool)} {nb l b : Nat} {o o' : List Int} {t t' : List Bool} {r : Bool} (hw : ∀ i, i < fits.length → (fits.getD i []).length = nb) (hb8 : nb ≤ 8) (h : Tk (fitF fits) nb l b o t r o' t') :
    b ≤ nb → o.length = nb → t.length = nb → l < fits.length → (∀ x : Nat, x < nb → -1 ≤ rd o (x : Int) ∧ rd o (x : Int) < fits.length) → Ev (fun k => impl_matcher_take_own.l0 k (l : Int) t (fits.getD l []) (nb : Int) (b : Int) fits o) (r, o', t') := by
  have enter : ∀ {m : Nat} {o t r}, m < fits.length → Ev (fun k => impl_matcher_take_own.l0 k (m : Int) t (fits.getD m []) (nb : Int) ((0 : Nat) : Int) fits o) r → Ev (fun k => impl_matcher_take_own.f k fits o (m : Int) t) r := fun {m o t r} hm hE => by
    refine Ev.succ ?_
    simp only [impl_matcher_take_own.f]
    refine Ev.pos (by omega) (Ev.pos (by omega) ?_)
    rw [fits_rd, hw m hm]; exact hE
  induction h with
  | done hb => intro _ _ _ _ _; refine Ev.succ ?_; simp only [impl_matcher_take_own.l0]; exact Ev.neg (by omega) (Ev.now _)
  | @skip l b o o' t t' r hb hc hs ih =>
    intro _ ho ht hl hr
    have hi := ih (by omega) ho ht hl hr
    refine Ev.succ ?_
    simp only [impl_matcher_take_own.l0]
    rw [w64n hb (by omega)]
    refine Ev.pos (by omega) (Ev.pos (by omega) (Ev.pos (by rw [hw l hl]; omega) (Ev.ite (fun hf => Ev.pos (by omega) (Ev.pos ?_ hi)) (fun _ => hi))))
    rcases hc with hc | hc
    · rw [show rdOf false (fits.getD l []) (b : Int) = fitF fits l b from rfl, hc] at hf; cases hf
    · exact hc
  | @free l b o t hb hf h0 hn =>
    intro _ ho ht hl hr
    refine Ev.succ ?_
    simp only [impl_matcher_take_own.l0]
    refine Ev.pos (by omega) (Ev.pos (by omega) (Ev.pos (by rw [hw l hl]; omega) (Ev.pos hf (Ev.pos (by omega) (Ev.neg (by rw [h0]; simp) (Ev.bind0 rfl (Ev.pos (by omega) (Ev.pos hn (Ev.to (Ev.now _) ?_)))))))))
    rw [toNat_nat]
  | @push l b m o o' t t' hb hf h0 hm hs ih =>
    intro _ ho ht hl hr
    have hml : m < fits.length := by have := (hr b hb).2; omega
    have hi := enter hml (ih (Nat.zero_le _) ho (by simpa using ht) hml hr)
    refine Ev.succ ?_
    simp only [impl_matcher_take_own.l0]
    refine Ev.pos (by omega) (Ev.pos (by omega) (Ev.pos (by rw [hw l hl]; omega) (Ev.pos hf (Ev.pos (by omega) (Ev.neg (by rw [h0]; simp) (Ev.bind0 rfl (Ev.pos (by omega) (Ev.neg (by omega) ?_))))))))
    rw [toNat_nat, hm]
    exact Ev.bind hi (Ev.pos rfl (Ev.now _))
  | @fail l b m o o' o'' t t' t'' r hb hf h0 hm hs hq ih1 ih2 =>
    intro _ ho ht hl hr
    have hml : m < fits.length := by have := (hr b hb).2; omega
    have ln := hs.len
    simp only [List.length_set] at ln
    have hi := enter hml (ih1 (Nat.zero_le _) ho (by simpa using ht) hml hr)
    have hj := ih2 (by omega) (by omega) (by omega) hl (hs.rng ho hml hr)
    refine Ev.succ ?_
    simp only [impl_matcher_take_own.l0]
    refine Ev.pos (by omega) (Ev.pos (by omega) (Ev.pos (by rw [hw l hl]; omega) (Ev.pos hf (Ev.pos (by omega) (Ev.neg (by rw [h0]; simp) (Ev.bind0 rfl (Ev.pos (by omega) (Ev.neg (by omega) ?_))))))))
    rw [toNat_nat, hm, w64n hb (by omega)]
    exact Ev.bind hi (Ev.neg (by simp) hj)

def matchAt (o : List Int) (n : Nat) : Nat → List Int
  | 0 => List.replicate n (-1)
  | i + 1 => if rd o (i : Int) ≥ 0 then (matchAt o n i).set (rd o (i : Int)).toNat (i : Int) else matchAt o n i
theorem matchAt_len (o : List Int) (n i : Nat) : (matchAt o n i).length = n := by
  induction i with
  | zero => simp [matchAt]
  | succ i ih => simp only [matchAt]; split <;> simp [ih]
theorem impl_matching_ev (o : List Int) (n nb : Nat) (hn : n ≤ 8) (hb : nb ≤ 8) (ho : o.length = nb) (hr : ∀ x : Nat, x < nb → -1 ≤ rd o (x : Int) ∧ rd o (x : Int) < n) : Ev (fun k => impl_matching.f k (n : Int) o) (matchAt o n nb) := by
  unfold impl_matching.f
  refine Ev.bind0 (rep_one (-1) n (by omega)) ?_
  rw [ho]
  refine ev_up nb (fun k i => impl_matching.l0 k (matchAt o n i) o (nb : Int) (i : Int)) _ (fun _ => True) trivial ?_ ?_
  · intro _; refine Ev.succ ?_; simp only [impl_matching.l0]; exact Ev.neg (by omega) (Ev.now _)
  · intro i hi _ hnx
    have hnx := hnx trivial
    have := hr i hi
    refine Ev.succ ?_
    simp only [impl_matching.l0]
    rw [w64n hi (by omega)]
    simp only [matchAt] at hnx
    refine Ev.pos (by omega) (Ev.pos (by omega) (Ev.pos (by omega) (Ev.ite (fun hp => ?_) (fun hp => ?_))))
    · rw [if_pos hp] at hnx
      exact Ev.pos hp (Ev.pos (by rw [matchAt_len]; omega) hnx)
    · rw [if_neg hp] at hnx; exact hnx

theorem impl_binsOf_eq (fits : List (List Bool)) : impl_binsOf.f fits = some (nbOf fits : Int) := by
  unfold impl_binsOf.f
  by_cases h : (fits.length : Int) = 0
  · rw [if_pos h]
    have : fits = [] := List.length_eq_zero_iff.mp (by omega)
    subst this; rfl
  · rw [if_neg h, if_pos (by omega), fits_rd0]; rfl
theorem impl_matched_ev (fits : List (List Bool)) (hg : fitOk fits = true) {o : List Int} (hK : Ks (fitF fits) (nbOf fits) fits.length 0 (List.replicate (nbOf fits) (-1)) o) : Ev (fun k => impl_matched.f k fits) o := by
  obtain ⟨h8, hb8, hw⟩ := (fitOk_iff fits).mp hg
  unfold impl_matched.f
  refine Ev.bind0 (impl_binsOf_eq fits) (Ev.bind0 (rep_one (-1) (nbOf fits) (by omega)) ?_)
  have gen : ∀ {j : Nat} {o o' : List Int}, Ks (fitF fits) (nbOf fits) fits.length j o o' → o.length = nbOf fits → (∀ x : Nat, x < nbOf fits → -1 ≤ rd o (x : Int) ∧ rd o (x : Int) < fits.length) → Ev (fun k => impl_matched.l0 k (fits.length : Int) (j : Int) fits o) o' := by
    intro j o o' h
    induction h with
    | done hj => intro _ _; refine Ev.succ ?_; simp only [impl_matched.l0]; exact Ev.neg (by omega) (Ev.now _)
    | @step j o o' o'' t' r hj ht hk ih =>
      intro ho hr
      have ln := ht.len
      have e := impl_take_ev hw hb8 ht (Nat.zero_le _) ho (by simp) hj hr
      refine Ev.succ ?_
      simp only [impl_matched.l0]
      rw [w64n hj (by omega), toNat_nat, ho]
      refine Ev.pos (by omega) (Ev.pos (by omega) (Ev.pos (by omega) (Ev.bind (a := (r, o', t')) ?_ (ih (by omega) (ht.rng ho hj hr)))))
      refine Ev.succ ?_
      simp only [impl_matcher_take_own.f]
      refine Ev.pos (by omega) (Ev.pos (by omega) ?_)
      rw [fits_rd, hw j hj]; exact e
  exact gen hK (by simp) (fun x hx => by rw [rd_rep _ _ _ hx]; omega)

theorem spec_l8Bins_eq (fits : List (List Bool)) : spec_l8Bins.f fits = some (nbOf fits : Int) := by
  unfold spec_l8Bins.f
  by_cases h : (fits.length : Int) = 0
  · rw [if_pos h]
    have : fits = [] := List.length_eq_zero_iff.mp (by omega)
    subst this; rfl
  · rw [if_neg h, if_pos (by omega), fits_rd0]; rfl
theorem spec_l8Match_ev (fits : List (List Bool)) (hg : fitOk fits = true) {o : List Int} (hK : Ks (fitF fits) (nbOf fits) fits.length 0 (List.replicate (nbOf fits) (-1)) o) : Ev (fun k => spec_l8Match.f k fits) (matchAt o fits.length (nbOf fits)) := by
  obtain ⟨h8, hb8, hw⟩ := (fitOk_iff fits).mp hg
  unfold spec_l8Match.f
  refine Ev.bind0 (spec_l8Bins_eq fits) ?_
  -- the tail
  have tail : ∀ (o : List Int), o.length = nbOf fits → (∀ x : Nat, x < nbOf fits → -1 ≤ rd o (x : Int) ∧ rd o (x : Int) < fits.length) → Ev (fun k => spec_l8Match.l2 k o (List.replicate fits.length 0) (fits.length : Int) ((0 : Nat) : Int)) (matchAt o fits.length (nbOf fits)) := by
    intro o ho hr
    have fill := ev_up fits.length (fun k i => spec_l8Match.l2 k o (List.replicate i (-1) ++ List.replicate (fits.length - i) 0) (fits.length : Int) (i : Int)) (matchAt o fits.length (nbOf fits)) (fun _ => True) trivial ?_ ?_
    · simpa using fill
    · intro _
      refine Ev.succ ?_
      simp only [spec_l8Match.l2]
      refine Ev.neg (by omega) ?_
      rw [Nat.sub_self, List.replicate_zero, List.append_nil, ho]
      refine ev_up (nbOf fits) (fun k i => spec_l8Match.l3 k (matchAt o fits.length i) o (nbOf fits : Int) (i : Int)) _ (fun _ => True) trivial ?_ ?_
      · intro _; refine Ev.succ ?_; simp only [spec_l8Match.l3]; exact Ev.neg (by omega) (Ev.now _)
      · intro i hi _ hnx
        have hnx := hnx trivial
        have := hr i hi
        refine Ev.succ ?_
        simp only [spec_l8Match.l3]
        rw [w64n hi (by omega)]
        simp only [matchAt] at hnx
        refine Ev.pos (by omega) (Ev.pos (by omega) (Ev.pos (by omega) (Ev.ite (fun hp => ?_) (fun hp => ?_))))
        · rw [if_pos hp] at hnx
          exact Ev.pos hp (Ev.pos (by rw [matchAt_len]; omega) hnx)
        · rw [if_neg hp] at hnx; exact hnx
    · intro i hi _ hnx
      have hnx := hnx trivial
      refine Ev.succ ?_
      simp only [spec_l8Match.l2]
      rw [w64n hi (by omega), toNat_nat]
      refine Ev.pos (by omega) (Ev.pos (by omega) (Ev.pos (by simp; omega) ?_))
      have e : (List.replicate i (-1 : Int) ++ List.replicate (fits.length - i) 0).set i (-1) = List.replicate (i + 1) (-1) ++ List.replicate (fits.length - (i + 1)) 0 := by
        rw [List.set_append_right _ _ (by simp), List.length_replicate, Nat.sub_self, show fits.length - i = (fits.length - (i + 1)) + 1 by omega, List.replicate_succ, List.set_cons_zero, List.replicate_succ', List.append_assoc]; rfl
      rw [e]; exact hnx
  have loads : ∀ {j : Nat} {o o' : List Int}, Ks (fitF fits) (nbOf fits) fits.length j o o' → o.length = nbOf fits → (∀ x : Nat, x < nbOf fits → -1 ≤ rd o (x : Int) ∧ rd o (x : Int) < fits.length) → Ev (fun k => spec_l8Match.l1 k fits o (fits.length : Int) (j : Int)) (matchAt o' fits.length (nbOf fits)) := by
    intro j o o' h
    induction h with
    | @done j o hj =>
      intro ho hr
      refine Ev.succ ?_
      simp only [spec_l8Match.l1]
      refine Ev.neg (by omega) (Ev.pos (by omega) (Ev.pos (by omega) (Ev.bind0 rfl ?_)))
      rw [toNat_nat, List.length_replicate]
      exact tail o ho hr
    | @step j o o' o'' t' r hj ht hk ih =>
      intro ho hr
      have ln := ht.len
      have e := spec_take_ev hw hb8 ht (Nat.zero_le _) ho (by simp) hj hr
      refine Ev.succ ?_
      simp only [spec_l8Match.l1]
      rw [w64n hj (by omega), toNat_nat, ho]
      refine Ev.pos (by omega) (Ev.pos (by omega) (Ev.pos (by omega) (Ev.bind (a := (r, o', t')) ?_ (ih (by omega) (ht.rng ho hj hr)))))
      refine Ev.succ ?_
      simp only [spec_l8Take.f]
      refine Ev.pos (by omega) (Ev.pos (by omega) ?_)
      rw [fits_rd, hw j hj]; exact e
  have bins : ∀ (d i : Nat), i + d = nbOf fits → Ev (fun k => spec_l8Match.l0 k fits (List.replicate i (-1)) (d : Int)) (matchAt o fits.length (nbOf fits)) := by
    intro d
    induction d with
    | zero =>
      intro i hi
      obtain rfl : i = nbOf fits := by omega
      refine Ev.succ ?_
      simp only [spec_l8Match.l0]
      refine Ev.neg (by omega) ?_
      exact loads hK (by simp) (fun x hx => by rw [rd_rep _ _ _ hx]; omega)
    | succ d ih =>
      intro i hi
      refine Ev.succ ?_
      simp only [spec_l8Match.l0]
      rw [w64 (by omega) (by omega), show ((d + 1 : Nat) : Int) - 1 = (d : Int) by omega]
      refine Ev.pos (by omega) (Ev.pos (by simp; omega) ?_)
      have := ih (i + 1) (by omega)
      rwa [List.replicate_succ'] at this
  exact bins (nbOf fits) 0 (by omega)

def matchF (fits : List (List Bool)) (o : List Int) : List Int × Bool := if fitOk fits = true then (matchAt o fits.length (nbOf fits), true) else ([], false)
theorem impl_MatchLoads_ev (fits : List (List Bool)) (h : fits.length ≤ 1048576) {o : List Int} (hK : Ks (fitF fits) (nbOf fits) fits.length 0 (List.replicate (nbOf fits) (-1)) o) (hk : Kuhn (fitF fits) (nbOf fits) fits.length o) : Ev (fun k => impl_MatchLoads.f k fits) (matchF fits o) := by
  unfold impl_MatchLoads.f matchF
  refine Ev.bind (impl_GoodFits_ev fits h) (Ev.ite (fun hg => ?_) (fun hg => by rw [if_neg hg]; exact Ev.now _))
  rw [if_pos hg]
  obtain ⟨h8, hb8, hw⟩ := (fitOk_iff fits).mp hg
  exact Ev.bind (impl_matched_ev fits hg hK) (Ev.bind (impl_matching_ev o fits.length (nbOf fits) h8 hb8 hk.len hk.rng) (Ev.now _))
theorem spec_MatchLoads_ev (fits : List (List Bool)) (h : fits.length ≤ 1048576) {o : List Int} (hK : Ks (fitF fits) (nbOf fits) fits.length 0 (List.replicate (nbOf fits) (-1)) o) : Ev (fun k => spec_MatchLoads.f k fits) (matchF fits o) := by
  unfold spec_MatchLoads.f matchF
  refine Ev.bind (spec_GoodFits_ev fits h) (Ev.ite (fun hg => ?_) (fun hg => by rw [if_neg hg]; exact Ev.now _))
  rw [if_pos hg]
  exact Ev.bind (spec_l8Match_ev fits hg hK) (Ev.now _)

theorem laws_toBoolS_ev (l : List Bool) (hl : l.length ≤ 1048576) : Ev (fun k => laws_toBoolS.f k l) l := by
  unfold laws_toBoolS.f
  refine Ev.pos (by omega) (Ev.pos (by rw [toNat_nat]; omega) ?_)
  rw [toNat_nat]
  have key := ev_up l.length (fun k i => laws_toBoolS.l0 k l (l.take i ++ List.replicate (l.length - i) false) (i : Int)) l (fun _ => True) trivial ?_ ?_
  · simpa using key
  · intro _
    refine Ev.succ ?_
    simp only [laws_toBoolS.l0]
    refine Ev.neg (by omega) (Ev.to (Ev.now _) (by simp))
  · intro i hi _ hn
    have hn := hn trivial
    have hlen : (l.take i ++ List.replicate (l.length - i) false).length = l.length := by simp; omega
    refine Ev.succ ?_
    simp only [laws_toBoolS.l0]
    rw [rdOf_nat _ _ i hi, toNat_nat, w64n hi (by omega)]
    refine Ev.pos (by omega) (Ev.pos (by omega) (Ev.pos (by rw [hlen]; omega) ?_))
    have e : (l.take i ++ List.replicate (l.length - i) false).set i l[i] = l.take (i + 1) ++ List.replicate (l.length - (i + 1)) false := by
      rw [List.set_append_right _ _ (by simp; omega), List.take_succ_eq_append_getElem hi, List.append_assoc]
      congr 1
      rw [List.length_take, show i - min i l.length = 0 by omega, show l.length - i = (l.length - (i + 1)) + 1 by omega, List.replicate_succ]
      rfl
    rw [e]; exact hn
theorem laws_toBoolSS_ev (l : List (List Bool)) (hl : l.length ≤ 1048576) (hr : ∀ r ∈ l, r.length ≤ 1048576) : Ev (fun k => laws_toBoolSS.f k l) l := by
  unfold laws_toBoolSS.f
  refine Ev.pos (by omega) (Ev.pos (by rw [toNat_nat]; omega) ?_)
  rw [toNat_nat]
  have key := ev_up l.length (fun k i => laws_toBoolSS.l0 k l (l.take i ++ List.replicate (l.length - i) []) (i : Int)) l (fun _ => True) trivial ?_ ?_
  · simpa using key
  · intro _
    refine Ev.succ ?_
    simp only [laws_toBoolSS.l0]
    refine Ev.neg (by omega) (Ev.to (Ev.now _) (by simp))
  · intro i hi _ hn
    have hn := hn trivial
    have hlen : (l.take i ++ List.replicate (l.length - i) ([] : List Bool)).length = l.length := by simp; omega
    refine Ev.succ ?_
    simp only [laws_toBoolSS.l0]
    rw [fits_rd, fits_get l i hi, toNat_nat, w64n hi (by omega)]
    refine Ev.pos (by omega) (Ev.pos (by omega) (Ev.bind (laws_toBoolS_ev l[i] (hr _ (List.getElem_mem hi))) (Ev.pos (by rw [hlen]; omega) ?_)))
    have e : (l.take i ++ List.replicate (l.length - i) ([] : List Bool)).set i l[i] = l.take (i + 1) ++ List.replicate (l.length - (i + 1)) [] := by
      rw [List.set_append_right _ _ (by simp; omega), List.take_succ_eq_append_getElem hi, List.append_assoc]
      congr 1
      rw [List.length_take, show i - min i l.length = 0 by omega, show l.length - i = (l.length - (i + 1)) + 1 by omega, List.replicate_succ]
      rfl
    rw [e]; exact hn

theorem laws_eqBoolS_ev (l : List Bool) (hl : l.length ≤ 1048576) : Ev (fun k => laws_eqBoolS.f k l l) true := by
  unfold laws_eqBoolS.f
  refine Ev.pos rfl ?_
  refine ev_up l.length (fun k i => laws_eqBoolS.l0 k l l (i : Int)) _ (fun _ => True) trivial ?_ ?_
  · intro _; refine Ev.succ ?_; simp only [laws_eqBoolS.l0]; exact Ev.neg (by omega) (Ev.now _)
  · intro i hi _ hn
    refine Ev.succ ?_
    simp only [laws_eqBoolS.l0]
    rw [w64n hi (by omega)]
    exact Ev.pos (by omega) (Ev.pos (by omega) (Ev.pos (by omega) (Ev.neg (by simp) (hn trivial))))
theorem laws_eqBoolSS_ev (l : List (List Bool)) (hl : l.length ≤ 1048576) (hr : ∀ r ∈ l, r.length ≤ 1048576) : Ev (fun k => laws_eqBoolSS.f k l l) true := by
  unfold laws_eqBoolSS.f
  refine Ev.pos rfl ?_
  refine ev_up l.length (fun k i => laws_eqBoolSS.l0 k l l (i : Int)) _ (fun _ => True) trivial ?_ ?_
  · intro _; refine Ev.succ ?_; simp only [laws_eqBoolSS.l0]; exact Ev.neg (by omega) (Ev.now _)
  · intro i hi _ hn
    refine Ev.succ ?_
    simp only [laws_eqBoolSS.l0]
    rw [fits_rd, fits_get l i hi, w64n hi (by omega)]
    exact Ev.pos (by omega) (Ev.pos (by omega) (Ev.pos (by omega) (Ev.bind (laws_eqBoolS_ev _ (hr _ (List.getElem_mem hi))) (Ev.pos rfl (hn trivial)))))

theorem laws_szBoolSS_ev (l : List (List Bool)) (hl : l.length ≤ 9223372036854775807) (hr : ∀ r ∈ l, r.length ≤ 9223372036854775807) : ∃ r : Int, Ev (fun k => laws_szBoolSS.f k l 1048576) r ∧ (0 ≤ r → l.length ≤ 1048576 ∧ ∀ x ∈ l, x.length ≤ 1048576) := by
  unfold laws_szBoolSS.f
  by_cases h : (l.length : Int) > 1048576
  · refine ⟨-1, Ev.pos (by rw [w64 (by omega) (by omega)]; omega) (Ev.now _), fun h => by omega⟩
  · rw [w64 (x := 1048576 - (l.length : Int)) (by omega) (by omega)]
    have gen : ∀ (d i : Nat) (s : Int), i + d = l.length → 0 ≤ s ∧ s ≤ 1048576 → ∃ r : Int, Ev (fun k => laws_szBoolSS.l0 k l s (i : Int)) r ∧ (0 ≤ r → ∀ x ∈ l.drop i, x.length ≤ 1048576) := by
      intro d
      induction d with
      | zero =>
        intro i s hi hs
        refine ⟨s, ?_, fun _ x hx => by rw [List.drop_of_length_le (by omega)] at hx; cases hx⟩
        refine Ev.succ ?_; simp only [laws_szBoolSS.l0]; exact Ev.neg (by omega) (Ev.now _)
      | succ d ih =>
        intro i s hi hs
        have hi' : i < l.length := by omega
        have hx := hr _ (List.getElem_mem hi')
        by_cases hp : s - (l[i].length : Int) < 0
        · refine ⟨-1, ?_, fun h => by omega⟩
          refine Ev.succ ?_
          simp only [laws_szBoolSS.l0]
          rw [fits_rd, fits_get l i hi']
          refine Ev.pos (by omega) (Ev.pos (by omega) (Ev.bind0 (a := -1) ?_ (Ev.pos (by omega) (Ev.now _))))
          unfold laws_szBoolS.f; rw [w64 (by omega) (by omega), if_pos hp]
        · obtain ⟨r, h1, h2⟩ := ih (i + 1) (s - l[i].length) (by omega) (by omega)
          refine ⟨r, ?_, fun h x hx => ?_⟩
          · refine Ev.succ ?_
            simp only [laws_szBoolSS.l0]
            rw [fits_rd, fits_get l i hi', w64n hi' (by omega)]
            refine Ev.pos (by omega) (Ev.pos (by omega) (Ev.bind0 (a := s - (l[i].length : Int)) ?_ (Ev.neg (by omega) h1)))
            unfold laws_szBoolS.f; rw [w64 (by omega) (by omega), if_neg hp]
          · rw [List.drop_eq_getElem_cons hi', List.mem_cons] at hx
            rcases hx with rfl | hx
            · omega
            · exact h2 h x hx
    obtain ⟨r, h1, h2⟩ := gen l.length 0 (1048576 - l.length) (by omega) (by omega)
    exact ⟨r, Ev.neg (by omega) h1, fun h => ⟨by omega, by simpa using h2 h⟩⟩

theorem laws_markBoolS_ev (l : List Bool) (k0 : Int) (h0 : 0 ≤ k0 ∧ k0 ≤ 4611686018427387904) (hl : l.length ≤ 1048576) : ∃ y, Ev (fun k => laws_markBoolS.f k l k0) (k0 + (l.length : Int), y) := by
  unfold laws_markBoolS.f
  have gen : ∀ (d i : Nat) (x : List Bool), i + d = l.length → x.length = l.length → ∃ y, Ev (fun k => laws_markBoolS.l0 k x (k0 + (i : Int)) (i : Int)) (k0 + (l.length : Int), y) := by
    intro d
    induction d with
    | zero =>
      intro i x hi hx
      refine ⟨x, ?_⟩
      refine Ev.succ ?_; simp only [laws_markBoolS.l0]; refine Ev.neg (by omega) (Ev.to (Ev.now _) ?_)
      rw [show i = l.length by omega]
    | succ d ih =>
      intro i x hi hx
      obtain ⟨y, hy⟩ := ih (i + 1) (x.set i ((Int.tmod (k0 + (i : Int)) 3) == 0)) (by omega) (by simp; exact hx)
      refine ⟨y, ?_⟩
      refine Ev.succ ?_
      simp only [laws_markBoolS.l0]
      rw [toNat_nat, w64n (n := l.length) (by omega) (by omega), w64 (by omega) (by omega), show k0 + (i : Int) + 1 = k0 + ((i + 1 : Nat) : Int) by omega]
      exact Ev.pos (by omega) (Ev.pos (by omega) hy)
  obtain ⟨y, hy⟩ := gen l.length 0 l (by omega) rfl
  exact ⟨y, by simpa using hy⟩
theorem laws_markBoolSS_ev (l : List (List Bool)) (hl : l.length ≤ 1048576) (hr : ∀ r ∈ l, r.length ≤ 1048576) : ∃ (q : Int) (y : List (List Bool)), 0 ≤ q ∧ Ev (fun k => laws_markBoolSS.f k l 1) (q, y) := by
  unfold laws_markBoolSS.f
  have gen : ∀ (d i : Nat) (x : List (List Bool)) (s : Int), i + d = l.length → x.length = l.length → (∀ r ∈ x, r.length ≤ 1048576) → 0 ≤ s ∧ s ≤ 1 + 1048576 * (i : Int) → ∃ (q : Int) (y : List (List Bool)), 0 ≤ q ∧ Ev (fun k => laws_markBoolSS.l0 k x s (i : Int)) (q, y) := by
    intro d
    induction d with
    | zero =>
      intro i x s hi hx hxr hs
      refine ⟨s, x, hs.1, ?_⟩
      refine Ev.succ ?_; simp only [laws_markBoolSS.l0]; exact Ev.neg (by omega) (Ev.now _)
    | succ d ih =>
      intro i x s hi hx hxr hs
      have hi' : i < x.length := by omega
      have hxi := hxr _ (List.getElem_mem hi')
      obtain ⟨y1, hy1⟩ := laws_markBoolS_ev x[i] s (by omega) hxi
      have hy1l : y1.length ≤ 1048576 := by
        have gen2 : ∀ (d j : Nat) (z y : List Bool) (c : Int), j + d = z.length → 0 ≤ c → c + d ≤ 4611686018427387904 → z.length ≤ 1048576 → (∃ q, Ev (fun k => laws_markBoolS.l0 k z c (j : Int)) (q, y)) → y.length = z.length := by
          intro d
          induction d with
          | zero =>
            intro j z y c hj _ _ _ ⟨q, K, hq⟩
            have := hq (K + 1) (by omega)
            simp only [laws_markBoolS.l0] at this
            rw [if_neg (by omega)] at this
            simp only [Option.some.injEq, Prod.mk.injEq] at this
            rw [this.2]
          | succ d ih2 =>
            intro j z y c hj hc hc2 hz ⟨q, K, hq⟩
            have := ih2 (j + 1) (z.set j ((Int.tmod c 3) == 0)) y (c + 1) (by simp; omega) (by omega) (by omega) (by simpa using hz) ⟨q, K, fun k hk => by
              have h3 := hq (k + 1) (by omega)
              simp only [laws_markBoolS.l0] at h3
              rw [if_pos (by omega), if_pos (by omega), toNat_nat, w64n (n := z.length) (by omega) (by omega), w64 (by omega) (by omega)] at h3
              exact h3⟩
            simpa using this
        have := gen2 x[i].length 0 x[i] y1 s (by omega) hs.1 (by omega) hxi ⟨_, hy1⟩
        omega
      obtain ⟨q, y, hq, hy⟩ := ih (i + 1) (x.set i y1) (s + x[i].length) (by omega) (by simp; exact hx) (fun r hr => by
        rcases List.mem_or_eq_of_mem_set hr with h | h
        · exact hxr r h
        · rw [h]; exact hy1l) (by omega)
      refine ⟨q, y, hq, ?_⟩
      refine Ev.succ ?_
      simp only [laws_markBoolSS.l0]
      rw [fits_rd, fits_get x i hi', toNat_nat, w64n (n := l.length) (by omega) (by omega)]
      exact Ev.pos (by omega) (Ev.pos (by omega) (Ev.bind hy1 hy))
  obtain ⟨q, y, hq, hy⟩ := gen l.length 0 l 1 (by omega) rfl hr (by omega)
  exact ⟨q, y, hq, hy⟩

theorem FnExactMatchLoads : laws_FnExactMatchLoads.Pure := by
  intro l0 hw
  refine Ev.rounds (g := fun k => laws_FnExactMatchLoads.f k l0) ?_
  unfold laws_FnExactMatchLoads.f
  obtain ⟨r, hr, hlen⟩ := laws_szBoolSS_ev l0 hw.1 (fun x hx => (hw.2 x hx).1)
  refine Ev.bind hr (Ev.ite (fun _ => Ev.now _) fun h => ?_)
  obtain ⟨hl, hrow⟩ := hlen (by omega)
  obtain ⟨o, hK, hk⟩ := kuhn (fitF l0) (nbOf l0) l0.length
  have t0 := laws_toBoolSS_ev l0 hl hrow
  have e0 := laws_eqBoolSS_ev l0 hl hrow
  have hI := impl_MatchLoads_ev l0 hl hK hk
  have hS := spec_MatchLoads_ev l0 hl hK
  obtain ⟨q, y, hq, hm⟩ := laws_markBoolSS_ev l0 hl hrow
  have hgl : (matchF l0 o).1.length ≤ 1048576 := by
    unfold matchF; split
    · show (matchAt o l0.length (nbOf l0)).length ≤ 1048576
      rw [matchAt_len]; exact hl
    · simp
  revert hI hS hgl
  generalize matchF l0 o = R
  obtain ⟨g, b⟩ := R
  intro hI hS hgl
  dsimp only at hgl
  have eg := laws_eqIntS_ev g hgl
  have mg := laws_markIntS_ev g 1 (by omega) hgl
  have hg := laws_heldIntS_ev g.length 1 (by omega) hgl
  refine Ev.bind t0 (Ev.bind hS (Ev.bind t0 (Ev.bind hI (Ev.bind eg (Ev.pos rfl ?_)))))
  refine Ev.succ ?_
  simp only [laws_FnExactMatchLoads.j0, bne_self_eq_false, Bool.false_eq_true, if_false]
  refine Ev.bind t0 (Ev.bind e0 (Ev.pos rfl (Ev.bind hm (Ev.neg (by dsimp only; omega) (Ev.bind eg (Ev.pos rfl ?_))))))
  refine Ev.succ ?_
  simp only [laws_FnExactMatchLoads.j1, Bool.false_eq_true, if_false]
  refine Ev.bind mg (Ev.bind hg (Ev.neg (by omega) (Ev.pos rfl (Ev.bind t0 (Ev.bind hI (Ev.bind eg (Ev.pos rfl ?_)))))))
  refine Ev.succ ?_
  simp only [laws_FnExactMatchLoads.j2, bne_self_eq_false, Bool.false_eq_true, if_false]
  exact Ev.bind hg (Ev.neg (by omega) (Ev.pos rfl (Ev.now _)))
end Go.Proofs.Ytpagpbamdpllnaa.Pure
namespace Go.Proofs.Ytpagpbamdpllnaa.RowW
open Go.ChangeShapes Go.WideShapes Go.Deep Go.RowKit Go.Proofs.YtpagpbamdpllnaaW.PrintWords Go.Proofs.YtpagpbamdpllnaaW.PrintLast Go.Proofs.YtpagpbamdpllnaaW.PrintMore Go.Proofs.Ytpagpbamdpllnaa.Print
def Opens {α : Type} (P : Program) (d : Kd α) (wf : α → Prop) (t : TypeId) : Prop :=
  ∀ {H : Type} {enc : TypeId × Value → H} {W : World} {base : Nat} {spare : Nat → Bool} {held : Bool} {fuel : Nat} {cs : List Value} {x : DataW H × List MemPlace}, DataW.trod enc P W base spare held fuel t cs = some x → ∃ a, d.K W a cs ∧ wf a
theorem Opens.int {P : Program} {k : IntKind} {t : TypeId} (ht : P.underlying t = some (.int k)) : Opens P (Kd.int k) (fun n : Int => (Lit.int k n).wf = true) t := by
  intro H enc W base spare held fuel cs x h
  obtain ⟨n, rfl, _, hw⟩ := DataW.trod_int ht h
  exact ⟨n, rfl, hw⟩
theorem Opens.bool {P : Program} {t : TypeId} (ht : P.underlying t = some .bool) : Opens P Kd.bool (fun _ : Bool => True) t := by
  intro H enc W base spare held fuel cs x h
  obtain ⟨n, rfl, _⟩ := DataW.trod_bool ht h
  exact ⟨n, rfl, trivial⟩
theorem Opens.string {P : Program} {t : TypeId} (ht : P.underlying t = some .string) : Opens P Kd.string (fun s : ByteArray => s.size ≤ maxLen) t := by
  intro H enc W base spare held fuel cs x h
  obtain ⟨n, rfl, _, hw⟩ := DataW.trod_string ht h
  exact ⟨n, rfl, hw⟩
theorem pick_list {α : Type} {Q : Nat → α → Prop} (n : Nat) (h : ∀ i, i < n → ∃ a, Q i a) : ∃ xs : List α, xs.length = n ∧ ∀ i a, xs[i]? = some a → Q i a := by
  induction n with
  | zero => exact ⟨[], rfl, fun i a hh => by simp at hh⟩
  | succ n ih =>
    obtain ⟨xs, hl, hq⟩ := ih fun i hi => h i (by omega)
    obtain ⟨a, ha⟩ := h n (by omega)
    refine ⟨xs ++ [a], by simp [hl], fun i b hb => ?_⟩
    rcases Nat.lt_or_ge i xs.length with hi | hi
    · rw [List.getElem?_append_left hi] at hb; exact hq i b hb
    · rw [List.getElem?_append_right hi] at hb
      have : i = n := by
        have := (List.getElem?_eq_some_iff.1 hb).1
        simp at this; omega
      subst this
      rw [hl, Nat.sub_self] at hb
      obtain rfl : a = b := by simpa using hb
      exact ha
theorem Opens.slice {P : Program} {α : Type} {d : Kd α} {wf : α → Prop} {t e : TypeId} (ht : P.underlying t = some (.slice e)) (hc : P.cellsOf e = d.sz) (ho : Opens P d wf e) : Opens P (Kd.slice e d) (fun xs : List α => xs.length ≤ maxLen ∧ ∀ x ∈ xs, wf x) t := by
  intro H enc W base spare held fuel cs x h
  rcases open_slice ht h with ⟨rfl, _⟩ | ⟨a, len, cap, m, n, D, Pl, rfl, hb, hl, hm, hmm, _, hi⟩
  · exact ⟨[], ⟨none, 0, rfl, Nat.le_refl _, Kd.C_nil d W⟩, by simp, by simp⟩
  · have hlm : len ≤ m := by rw [hmm]; split <;> omega
    obtain ⟨xs, hlen, hxs⟩ := pick_list (Q := fun i b => (∃ c, W.cells? base (a.add (i * P.cellsOf e)) (P.cellsOf e) = some c ∧ d.K W b c) ∧ wf b) len (fun i him => by
      obtain ⟨c, h1, h2⟩ := hi i (by omega)
      obtain ⟨b, h3, h4⟩ := ho h2
      exact ⟨b, ⟨c, h1, h3⟩, h4⟩)
    have hml : maxLen = 9223372036854775807 := rfl
    refine ⟨xs, ⟨some a, cap, by rw [hlen], by omega, ⟨rfl, by omega, fun _ => ⟨a, rfl, fun j p hj => ?_⟩⟩⟩, by omega, fun p hp => ?_⟩
    · obtain ⟨⟨c, h1, h2⟩, _⟩ := hxs j p hj
      obtain ⟨_, hcl, hat⟩ := World.cells?_some h1
      refine ⟨c, d.K_len h2, h2, fun i u hu => ?_⟩
      have hic : i < c.length := (List.getElem?_eq_some_iff.1 hu).1
      rw [← hc, ← Go.Deep.add_add, hat i (by omega)]
      exact hu
    · obtain ⟨i, hi'⟩ := List.getElem?_of_mem hp
      exact (hxs i p hi').2
theorem field_some {β : Type} {ys : List β} {o : Option β} (i : Nat) (h : i < ys.length) (e : o = ys[i]?) : o = some ys[i] := e.trans (List.getElem?_eq_getElem h)
end Go.Proofs.Ytpagpbamdpllnaa.RowW
