/-
  Part 1 of the proof that TopAsk answers true: laws of the functions that it calls, on any memory that holds their arguments.
-/
import Derived.Test.YtcpmhoodeieanaaGreatDoorProg
import Derived.WalkKit
import Derived.ProofKit
import Derived.Handy
import Derived.LoopTactic
import Derived.OpenShut
import Derived.Outline
import Derived.Lib.Hide
import Derived.BigQuiet
import Derived.Deep.Cut
import Derived.Deep.DeepCutAuto
import Derived.Deep.QuietTactic
import Derived.Deep.RegionHeld3
import Derived.OrdersHeld
import Derived.OwnWalk
import Derived.OwnWalkIn
import Derived.RegionTactic
import Derived.Lib.SlBytesConst
import Derived.Laws.IdiomStrings
import Derived.WalkLawsBesides
import Derived.SizedLaws
import Derived.BigRegion
import Derived.Maps.AppendAt
import Derived.Laws.ComplexArith
import Derived.Laws.BitsAllLaws
import Derived.Lib.SliceRun
import Derived.Deep.DrawnRows
import Derived.ChangeAlike
import Derived.IntWalk
import Derived.Deep.AppendLies
set_option maxRecDepth 100000
set_option maxHeartbeats 20000000
set_option linter.unusedVariables false
set_option linter.unusedSimpArgs false
open Go.Lib renaming hid→V
open Go.IntKind renaming i64→Z,i8→aO,i32→cr,u64→cD
open Go.Value renaming int→Y,slice→O,agg→aF,bool→aK,tuple→aL,pointer→aP
open Option renaming none→G,some→A
open Go renaming World→H,Value→aj,Calls→aA,results→aW,bodyPost_ret→aZ,lt_of_block→bH,heap_alloc_new→bZ,TypeId→dy,Ending→dN,IntKind→ey,maxLen→eS,info_parts→fB,bodyPost→gW,step_append_lies→lM
open Bool renaming false→ae,and_eq_true→fS
open Go.Obj renaming cells→ag
open Go.Proofs.Tryz renaming prog→aq
open And renaming intro→aw
open Go.RowKit renaming Below→ay,intOf→aX,wrap64→cM
open Or renaming inl→aM,inr→bJ
open Nat renaming le_refl→bu,zero_le→cK,le_trans→eH,add_zero→eL,lt_of_lt_of_le→iP,mul_pos→kZ,mul_one→lA,mul_le_mul→mq,zero_add→nF,le_succ→nH,mul_le_mul_right→nZ
open Go.World renaming size_alloc→bF
open Go.Ending renaming returned→bG
open List renaming getElem?_eq_getElem→cR,replicate→dz,setIfInBounds_toArray→dC,set_cons_zero→dD,set_cons_succ→dE,length_append→dG,getD→dV,getElem?_eq_some_iff→fX,getD_eq_getElem?_getD→gB,length_map→ib,range→iz,mem_cons→jy,getElem_mem→jZ,map_append→kF,mem_map→kG,append_assoc→lL,not_mem_nil→mj,mem_of_getElem?→nB,length_cons→n8,mem_singleton→pS,drop_eq_nil_iff→sx,take_succ_eq_append_getElem→sV,drop_eq_getElem_cons→tX
open Go.Lit renaming int→cX
open Go.IntWalk renaming i64_in→dv,wrap64_in→iZ
open Go.RowKit.Below renaming refl→eG
open Go.Act renaming put→eR
open Go.Value renaming oneCell'→fV
open Go.World renaming ownsRow_nil→gP,size_setCell→jR,block_lt_of_cell?→jY,cell?→kY,setCell→ss,alloc→li
open Int renaming natCast_mul→gQ,mul_le_mul→pA,mul_assoc→pU,mul_nonneg→qG,mul_le_mul_of_nonneg_right→vv
open Go.Calls renaming quiet_of_same→jG
open Go.Exit renaming inBlock→j6
open Go.IntKind renaming signed→nD,bits→nG,wrap_u64→pT
open Go.Region renaming wanted→n9
namespace Go.Proofs.YtcpmhoodeieanaaGreatDoor
open Go.RowKit Go.Proofs.Tryz
theorem _root_.Go.RowKit.Hid.I {p:Prop} (h:Go.RowKit.Hid p):p:=h
abbrev ah:=List Int
abbrev aC:=Option Addr
instance:Coe World Nat:=⟨λw=>w.heap.size⟩
instance:Coe Nat Addr:=⟨λb=>⟨b,0,none⟩⟩
instance:CoeFun World (λ_=>Addr->Option Value):=⟨World.cell?⟩
theorem U {p:Prop} (h:p:=by omega):p:=h
theorem kr {p:Prop} (h:p:=by kernel_rfl):p:=h
theorem eM {p:Prop} (h:p:=by decide):p:=h
theorem bK {p:Prop} (h:p:=by simp):p:=h
theorem cJ {p:Prop} (h:p:=by rfl):p:=h
theorem E {p q:Prop} (a:q) (h:q->p:=by intro this;omega):p:=h a
theorem cq {P:Program} {f:FuncId} {a:Array Value} {w:World} {ZU:Ending} {Q R:Ending->World->Prop} (h:Calls P f a w R) (k:Q ZU w) (m:∀e w',R e w'->e=ZU/\w'=w:=by(rintro e w' ⟨rfl,rfl⟩;exact⟨rfl,rfl⟩)):Calls P f a w Q:=h.mono (λe w' x=>by rw[(m e w' x).1,(m e w' x).2];exact k)
theorem bY {P:Program} {f:FuncId} {a:Array Value} {w:World} {ZU:Ending} {B:World->Prop} {Q R:Ending->World->Prop} (h:Calls P f a w R) (k:∀w',B w'->Q ZU w') (m:∀e w',R e w'->e=ZU/\B w':=by(rintro e w' ⟨rfl,x⟩;exact⟨rfl,x⟩)):Calls P f a w Q:=h.mono (λe w' x=>by rw[(m e w' x).1];exact k _ (m e w' x).2)
theorem aR {c:Prop} {h:Decidable c} (hc:c) {α:Sort _} {t e:α}:ite c t e=t:=if_pos hc
theorem aI {c:Prop} {h:Decidable c} (hc:¬c) {α:Sort _} {t e:α}:ite c t e=e:=if_neg hc
theorem dI {p:Prop} [h:Decidable p] (hp:p):decide p=true:=decide_eq_true hp
theorem eZ {p:Prop} [h:Decidable p] (hp:decide p=true):p:=of_decide_eq_true hp
theorem eP {p:Prop} [h:Decidable p] (hp:¬p):decide p=false:=decide_eq_false hp
theorem kH {p:Prop} [h:Decidable p] (hp:decide p=false):¬p:=of_decide_eq_false hp
theorem J {α:Sort _} (a:α):∃x,a=x:=⟨_,rfl⟩
theorem Sd {α:Sort _} (a:α):∃x,x=a:=⟨_,rfl⟩
abbrev bj (a0:Option Addr) (l0 c0:Nat) (a1:Int) (a2:Option Addr) (l2 c2:Nat):Obj:= .cells #[.slice a0 l0 c0,.int .i64 a1,.slice a2 l2 c2] 57 (0,0)
abbrev bQ (a0:Int) (a1:Int) (a2:Int) (a3:Int) (a4:Int) (a5:Int) (a6:Bool):Obj:= .cells #[.int .i64 a0,.int .i64 a1,.int .i64 a2,.int .i64 a3,.int .i64 a4,.int .i64 a5,.bool a6] 102 (0,0)
abbrev cV (a0:Option Addr) (l0 c0:Nat) (a1:Int) (a2:Option Addr) (l2 c2:Nat):Obj:= .cells #[.slice a0 l0 c0,.int .i64 a1,.slice a2 l2 c2] 276 (0,0)
abbrev jq (a0:Option Addr) (l0 c0:Nat) (a1:Int) (a2:Option Addr) (l2 c2:Nat) (a3:Option Addr) (l3 c3:Nat) (a4:Option Addr) (l4 c4:Nat) (a5:Int) (a6:Option Addr) (l6 c6:Nat):Obj:= .cells #[.slice a0 l0 c0,.int .i64 a1,.slice a2 l2 c2,.slice a3 l3 c3,.slice a4 l4 c4,.int .i64 a5,.slice a6 l6 c6] 105 (0,0)
abbrev kI (a0:Int) (a1:Int) (a2:Option Addr) (l2 c2:Nat):Obj:= .cells #[.int .u64 a0,.int .i64 a1,.slice a2 l2 c2] 48 (0,0)
abbrev lB (a0:Option Addr) (l0 c0:Nat) (a1:Int):Obj:= .cells #[.slice a0 l0 c0,.int .i64 a1] 54 (0,0)
abbrev mr (a0:Int) (a1:Int) (a2:Int) (a3:Int):Obj:= .cells #[.int .i64 a0,.int .i64 a1,.int .i64 a2,.int .i64 a3] 3 (0,0)
abbrev mF (a0:Int) (a1:Int) (a2:Int) (a3:Int) (a4:Int) (a5:Int) (a6:Int):Obj:= .cells #[.int .i64 a0,.int .i64 a1,.int .i64 a2,.int .i64 a3,.int .i64 a4,.int .i64 a5,.int .i64 a6] 370 (0,0)
abbrev mG (a0:Int) (a1:Int) (a2:Int) (a3:Option Addr) (l3 c3:Nat):Obj:= .cells #[.int .i64 a0,.int .i64 a1,.int .i64 a2,.slice a3 l3 c3] 25 (0,0)
abbrev nI (a0:Int) (a1:Int) (a2:Int) (a3:Int) (a4:Int) (a5:Int):Obj:= .cells #[.int .i64 a0,.int .i64 a1,.int .i64 a2,.int .i64 a3,.int .i64 a4,.int .i64 a5] 30 (0,0)
abbrev pB (a0:Int) (a1:Int) (a2:Int) (a3:Int) (a4:Int) (a5:Int) (a6:Int) (a7:Int) (a8:Int):Obj:= .cells #[.int .i64 a0,.int .i64 a1,.int .i64 a2,.int .i64 a3,.int .i64 a4,.int .i64 a5,.int .u64 a6,.int .i64 a7,.int .i64 a8] 316 (0,0)
abbrev pV (a0:Option Addr) (l0 c0:Nat) (a1:Option Addr) (l1 c1:Nat):Obj:= .cells #[.slice a0 l0 c0,.slice a1 l1 c1] 163 (0,0)
abbrev qH (a0:Int) (a1:Int) (a2:Int) (a3:Int) (a4:Int) (a5:Option Addr) (l5 c5:Nat):Obj:= .cells #[.int .i64 a0,.int .i64 a1,.int .i64 a2,.int .i64 a3,.int .i64 a4,.slice a5 l5 c5] 28 (0,0)
abbrev sy (a0:Int) (a1:Int) (a2:Option Addr) (l2 c2:Nat):Obj:= .cells #[.int .i64 a0,.int .i64 a1,.slice a2 l2 c2] 44 (0,0)
abbrev tY (a0:Int) (a1:Int) (a2:Int) (a3:Int) (a4:Int) (a5:Int):Obj:= .cells #[.int .i64 a0,.int .i64 a1,.int .i64 a2,.int .i64 a3,.int .i64 a4,.int .i64 a5] 331 (0,0)
abbrev tZ (a0:Bool) (a1:Option Addr) (l1 c1:Nat) (a2:Int) (a3:Option Addr) (l3 c3:Nat) (a4:Option Addr) (l4 c4:Nat) (a5:Int) (a6:Option Addr) (l6 c6:Nat):Obj:= .cells #[.bool a0,.slice a1 l1 c1,.int .i64 a2,.slice a3 l3 c3,.slice a4 l4 c4,.int .i64 a5,.slice a6 l6 c6] 278 (0,0)
section
variable {p:Prop}
theorem Q00(h:p:=by
 obtain⟨k,q,hk,rfl,hs,rfl⟩:=hrel;have HS:=V hs;clear hs;by_cases aT:k<dW
 .obtain⟨b0,o0,rfl,e0⟩:=H0.I.cells U;obtain⟨b1,o1,rfl,e1⟩:=H1.I.cells U;have f0:=e0 k aT;have f1:=e1 k aT;clear e0 e1;generalize hx:xs.getD k 0=x at*;generalize hy:ys.getD k 0=y at*;have HX:=V hx;have HY:=V hy;clear hx hy;by_cases c:x=y
  .subst c;have c2:(x != x)=ae:=Q2W;go_wp2;go_quiet (fail)
   go_wp2;go_roundw
   case rel=>exact⟨k+1,q+nq,U,Q2T,λj hj=>by(by_cases c:j=k);(subst c;exact HX.I.trans HY.I.symm);exact HS.I j U,rfl⟩
   case measure=>simp[aX];omega
  .have c2:(x != y)=true:=by rw[bne_iff_ne];exact c
   have HC:=V c;clear c;go_wp2;go_quiet (fail)
   go_wp2;go_ret;exact⟨pC (by rw[<-HB.I];exact(eP λe=>HC.I (by rw[<-HX.I,<-HY.I,e])).symm),q+nq,World.drewN_drewN _ _ _⟩
 .go_wp2;go_ret;exact⟨pC (by rw[<-HB.I];exact(dI (Sh.JV (L0.I.trans L1.I.symm) λj hj=>HS.I j (E L0.I))).symm),q,rfl⟩):p:=h
theorem Q01(h:p:=by
 clear q o0 o1 o2 o3 o4 o5 o6;generalize ss (ss (ss w2 ⟨w+1+1+1+1,1,G⟩ (O sa sl sc)) ⟨w+1+1+1+1,2,G⟩ (Y Z wT.e)) ⟨w+1+1+1+1,3,G⟩ (O sb sm sk)=w3 at*;have Xr:=uE.I;obtain⟨y0,y1,y2⟩:=bP uE.I;have q:=λj=>cE jP.I j;obtain⟨o0,o1,o2,o3,o4,o5,o6⟩:=bE jP.I;clear Xr;go_wp2_with fail;refine(BI.I _ ⟨_,_,_,_,_,_,rfl,(KR.aQ dA.I).1.1,(KR.aQ dA.I).1.2⟩).mono ?_;rintro e' w4 ⟨v,rfl,⟨xa,xl,xc,xb,xm,xk,rfl,u1,u2,u3,u4⟩,hb⟩;have lJ:=V (bV jP.I hb);have ML:=V (bV MK.I hb);have gT:=V (dA.I.step hb);have wO:=V (aw (xw.I.1.below hb) (xw.I.2.below hb));have HV:=V (aw u1 (aw u2 (aw u3 u4)));have A7:=hb.size;have nK:=bH jP.I;unfold aS;clear hb u1 u2 u3 u4 y0 y1 y2 q o0 o1 o2 o3 o4 o5 o6 BI xw jP Cj uE MK;have q:=λj=>cE lJ.I j;obtain⟨o0,o1,o2,o3,o4,o5,o6⟩:=bE lJ.I;have lT:=V (si (f:=4) (f1:=5) (f2:=6) lJ.I (O xa xl xc) (Y Z bT.e) (O xb xm xk));have nV:=V (Ew (f:=4) (f1:=5) (f2:=6) (x:=O xa xl xc) (y:=Y Z bT.e) (z:=O xb xm xk) ML.I (show w.heap.size+1+1+1≠w.heap.size+1+1+1+1 by omega));have dO:=V (QH (f:=4) (f1:=5) (f2:=6) gT.I (show w.heap.size<=w+1+1+1+1 by omega) (O xa xl xc) (Y Z bT.e) (O xb xm xk));have sP:=V (aw (aw (wO.I.1.si (f:=4) (f1:=5) (f2:=6) (g:=w+1+1+1+1) (x:=O xa xl xc) (y:=Y Z bT.e) (z:=O xb xm xk) (λx hx=>E (HU.I.2.2.1 x hx))) (wO.I.2.si (f:=4) (f1:=5) (f2:=6) (g:=w+1+1+1+1) (x:=O xa xl xc) (y:=Y Z bT.e) (z:=O xb xm xk) (λx hx=>E (HU.I.2.2.2 x hx)))) (aw (HV.I.1.si (f:=4) (f1:=5) (f2:=6) (g:=w+1+1+1+1) (x:=O xa xl xc) (y:=Y Z bT.e) (z:=O xb xm xk) (λx hx=>E (HV.I.2.2.1 x hx))) (HV.I.2.1.si (f:=4) (f1:=5) (f2:=6) (g:=w+1+1+1+1) (x:=O xa xl xc) (y:=Y Z bT.e) (z:=O xb xm xk) (λx hx=>E (HV.I.2.2.2 x hx)))));dsimp only
 go_upto_region 8 with fail;clear q o0 o1 o2 o3 o4 o5 o6 wO gT lJ ML;generalize ss (ss (ss w4 ⟨w+1+1+1+1,4,G⟩ (O xa xl xc)) ⟨w+1+1+1+1,5,G⟩ (Y Z bT.e)) ⟨w+1+1+1+1,6,G⟩ (O xb xm xk)=w5 at*;have q:=λj=>cE nV.I j;obtain⟨o0,o1,o2,o3,o4,o5,o6⟩:=bE nV.I;by_cases tH:we=0
 .subst tH;have e2:((0:Int)==0)=true:=rfl;by_cases uW:be=0
  .subst uW;obtain rfl:(0,⟨true,wT,bT⟩)=R:=by rw[<-HR.I,aI bK,aI bK]
   obtain⟨p0,p1,p2,p3,p4,p5,p6⟩:=bE lT.I;go_wp2_with fail;rw[<-dB.I];refine aZ (v:=aL #[aF #[aK true,O sa sl sc,Y Z wT.e,O sb sm sk,O xa xl xc,Y Z bT.e,O xb xm xk],Y Z 0]) ?_ rfl ⟨_,rfl,?_,?_⟩
   .simp[aW,results222,go_sem,oL nV.I]
   .have kp:=(ar.cP w5 (λb=>b=w.heap.size+1+1+1) w5).vS (aM rfl) (aK true) (O sa sl sc) (Y Z wT.e) (O sb sm sk) (O xa xl xc) (Y Z bT.e) (O xb xm xk);refine rX.move (ok:=λb=>w.heap.size+1+1+1+1<b) ⟨_,_,_,_,_,_,_,_,_,_,_,_,rfl,⟨sP.I.1.1,λx hx _=> ?_⟩,⟨sP.I.1.2,λx hx _=> ?_⟩,⟨sP.I.2.1,λx hx _=> ?_⟩,⟨sP.I.2.2,λx hx _=> ?_⟩⟩ kp (λb hb h=>⟨hb,U,U⟩)
    .have:=HU.I.2.2.1 x hx;show _<x.block;omega
    .have:=HU.I.2.2.2 x hx;show _<x.block;omega
    .have:=HV.I.2.2.1 x hx;show _<x.block;omega
    .have:=HV.I.2.2.2 x hx;show _<x.block;omega
   .exact nt dO.I U _ _ _ _ _ _ _
  .have e3:(be != 0)=true:=by simpa using uW
   obtain rfl:(be,fQ.none)=R:=by rw[<-HR.I,aI bK,aR uW]
   go_wp2_with fail;rw[<-dB.I];refine aZ (v:=aL #[aF #[aK ae,O G 0 0,Y Z 0,O G 0 0,O G 0 0,Y Z 0,O G 0 0],Y Z be]) ?_ rfl ⟨_,rfl,mS.none _ _,nt dO.I U _ _ _ _ _ _ _⟩;simp[aW,results222,go_sem,oL nV.I]
 .have e2:(we==0)=ae:=by simpa using tH
  have e3:(we != 0)=true:=by simpa using tH
  obtain rfl:(we,fQ.none)=R:=by rw[<-HR.I,aR tH]
  go_wp2_with fail;rw[<-dB.I];refine aZ (v:=aL #[aF #[aK ae,O G 0 0,Y Z 0,O G 0 0,O G 0 0,Y Z 0,O G 0 0],Y Z we]) ?_ rfl ⟨_,rfl,mS.none _ _,nt dO.I U _ _ _ _ _ _ _⟩;simp[aW,results222,go_sem,oL nV.I]):p:=h
theorem Q02(h:p:=by
 clear r0 r1 r2 r3 r4 r5 uL zy K4 lK;generalize ss (ss (ss w4 ab (O ra rl rc)) ⟨ab,1,G⟩ (Y Z rt.e)) ⟨ab,2,G⟩ (O rb rm rk)=w5 at*;obtain⟨-,-,-,-,-,-,-,-,c8,c9⟩:=nW vT.I;obtain⟨d0,d1,d2⟩:=bP Gx.I;have SM:=V (Ju bp q.au q.step re rt (aS ra rl rc rt.e rb rm rk) ((k:Int)+1) 2 w5 c8 c9 ⟨_,_,_,_,_,_,rfl,wH.I.1,wH.I.2⟩ hu);rw[HS.I]at SM;obtain⟨RE,RT⟩:=R;unfold aS at SM;have wF:=bH nV.I;have Cl:=(dO.I).size;go_wp2_with fail;refine SM.I.mono ?_;rintro e' w6 ⟨v,rfl,hv,hb⟩;have uX:=V (bV nV.I hb);have eW:=V ((dO.I).step hb);obtain⟨sa,sl,sc,sb,sm,sk,rfl,u1,u2,u3,u4⟩:=hv;have HV:=V (aw u1 (aw u2 (aw u3 u4)));unfold aS;dsimp only
 clear u1 u2 u3 u4 hb SM d0 d1 d2 c8 c9;obtain⟨r0,r1,r2,r3,r4,r5⟩:=aY uX.I;go_wp2_with fail;rw[<-dB.I];refine aZ (v:=aL #[aF #[O sa sl sc,Y Z RT.e,O sb sm sk],Y Z RE]) ?_ rfl ⟨_,rfl,aM ((dM.stored (B:=w5) ⟨_,_,_,_,_,_,rfl,HV.I.1,HV.I.2.1,HV.I.2.2.1,HV.I.2.2.2⟩ wF _ _ _).mono Cl),cL eW.I U _ _ _⟩;simp[aW,results223,go_sem,cT uX.I]):p:=h
theorem Q03(h:p:=by
 refine bB hK mK.I.cells ?_;clear hS fT lh oU fC;refine Lt.all (rs:=[14]) kr bK ?_;intro i hq;obtain rfl:i=14:=Q2X;clear hq;obtain⟨J6,_,J7,_⟩:=mK.I.cells;have zo:w2.frozen? ⟨bo,2,G⟩=ae:=by have:=mK.I.ho;simp[World.frozen?,this]
 refine Lt.step rfl (λK hK=> ?_);go_simp;refine hK.I _ _ ⟨λh=>absurd h eM,?_⟩;clear hK K J6 J7 zo;try simp only[eR,dC,dD,dE]
 have yi:(ss w2 ⟨bo,2,G⟩ (O g1 (n+1) fh)).heap[bf]? =A (ag #[vf] 55 (0,0)):=by
  rw[Below.heap_setCell _ _ _ _ (λe=>cI e.symm)];exact mK.I.hf
 have CX:=V (mK.I.stored kK ui cI);generalize ss w2 ⟨bo,2,G⟩ (O g1 (n+1) fh)=w3 at*;have J8:=cell_of_one yi;have zf:=free_of_one yi;clear yi;refine Lt.all (rs:=[15]) kr bK ?_;intro i hq;obtain rfl:i=15:=Q2X;clear hq;refine Lt.step rfl (λK hK=> ?_);go_simp;refine hK.I _ _ ⟨λh=>absurd h eM,?_⟩;clear hK K J8 zf;try simp only[eR,dC,dD,dE]
 refine Lt.over kr ?_ _;go_wp2;go_end0
 exact⟨rfl,CX.I.1,HK.I.trans CX.I.2⟩):p:=h
theorem Q04(h:p:=by
 go_wp2_with fail;have hb:ay w w (li (li w (ag (Lay.cells ⟨1,I,k,s,aG,aJ,fz⟩) 102)) (ag (Lay.cells ⟨1,0,0,0,0,0,ae⟩) 102)):=K1.F.2.2;have hx:(li (li w (ag (Lay.cells ⟨1,I,k,s,aG,aJ,fz⟩) 102)) (ag (Lay.cells ⟨1,0,0,0,0,0,ae⟩) 102)).heap[w.heap.size]? =_:=K1.F.1;have hp:(li (li w (ag (Lay.cells ⟨1,I,k,s,aG,aJ,fz⟩) 102)) (ag (Lay.cells ⟨1,0,0,0,0,0,ae⟩) 102)).heap[w.heap.size+1]? =_:=K1.F.2.1;unfold Lay.cells at hb hx hp;generalize li (li w (bQ 1 I k s aG aJ fz)) (bQ 1 0 0 0 0 0 ae)=W at*;refine cS (λw':H=>w'.heap[w.heap.size]? =A (ag (Lay.cells ⟨1,I,k,s,aG,aJ,fz⟩) 102 (0,0))) (eE hx λhS=>bR hS [0,2,1,3,4] (λ_ h=>Q3o) ?_);have g0:=bE hp;have z0:=λj=>cE hp j;refine bL 5 λK hK=> ?_;go_simp;have oT:=dF (f:=1) hp (Y Z I);have lD:(ss W ⟨w+1,1,G⟩ (Y Z I)).heap[w.heap.size]? =_:=(gj _ U).trans hx;simp only[dC,dD,dE]at oT;have du:ay w w (ss W ⟨w+1,1,G⟩ (Y Z I)):=hb.setCell (nH _) _;have hS:(λw':H=>w'.heap[w.heap.size]? =A (ag (Lay.cells ⟨1,I,k,s,aG,aJ,fz⟩) 102 (0,0))) (ss W.drew ⟨w+1,1,G⟩ (Y Z I)):=lD;refine bB hK hS ?_;refine bR hS [6] (λ_ h=>Q3o) (bL 7 λK hK=> ?_);go_simp;have pg:(ss (ss W ⟨w+1,1,G⟩ (Y Z I)) ⟨w+1,6,G⟩ (aK fz)).drew.heap[w.heap.size+1]? =_:=dF (f:=6) oT (aK fz);have oC:(ss (ss W ⟨w+1,1,G⟩ (Y Z I)) ⟨w+1,6,G⟩ (aK fz)).drew.heap[w.heap.size]? =_:=(gj _ U).trans lD;simp only[dC,dD,dE]at pg;have eg:ay w w (ss (ss W ⟨w+1,1,G⟩ (Y Z I)) ⟨w+1,6,G⟩ (aK fz)).drew:=((hb.setCell (nH _) _).setCell (nH _) _).bI 1;refine bB hK oC ?_;refine bW ?_;clear hp hx oT lD hS;generalize(ss (ss W ⟨w+1,1,G⟩ (Y Z I)) ⟨w+1,6,G⟩ (aK fz)).drew=W3 at*;dsimp only[Lay.cells]at oC pg
 have f0:=bE oC;have g0:=bE pg;have HB:=V eg;clear oC pg;go_wp2_with fail;refine cq (M1.I _) ?_
 cases Z3;all_goals
  go_wp2_with fail;all_goals(go_ret;exact⟨Q3N,HB.I⟩)):p:=h
theorem Q05(h:p:=by
 go_simp;refine cY hK (KS.I.kB _ _ _) 15 λK hK=> ?_;go_simp;refine cY hK (KS.I.kB _ _ _) 16 λK hK=> ?_;go_simp;refine cY hK (KS.I.kB _ _ _) 17 λK hK=> ?_;go_simp;refine bB hK (KS.I.kB _ _ _) ?_;refine bW ?_;go_wp2_with fail;go_meet
 refine⟨_,_,_,rfl,rfl,rfl,?_,?_,?_,BU _ _ _ _⟩<;>first|exact Aa _ _ _ _|exact Ab _ _ _ _|exact Ac _ _ _ _):p:=h
theorem Q06(h:p:=by
 generalize x.z.getD q4 0=xv at*;generalize w.z.getD v6 0=wv at*;have qP:=C.Dv x1 x2 y1 y2;obtain⟨pv,zq⟩:=J (xv*wv);rw[zq]at Mj qP;have Qp:xm<=8192:=U;have ad9:wm<=8192:=U;have e1:=C.pr X.e1 (by have:=X.l1;have:=X.lt;omega);have e2:=C.sm X.e2 (by have:=X.l2;have:=X.lt;omega);have e3:=C.pr X.e3 (by have:=X.l3;have:=X.lt;omega);have e4:=C.sm X.e4 (E X.lt);have e5:=C.pr Z6.e1 (E Z6.l1);have e6:=C.sm Z6.e2 (E Z6.l2);have e7:=C.pr Z6.e3 (E Z6.l3);have e8:=C.sm Z6.e4 U;have e9:=C.pr r7 U;have e10:=C.sm uU U;have e11:Z.wrap xv=xv:=dv _ U;have e12:Z.wrap wv=wv:=dv _ U;have e13:Z.wrap (xv*wv)=pv:=by rw[zq];exact dv _ U
 have i7:=X.lt;have i8:(q4:Int)<(xm:Int):=U;have i9:(v6:Int)<(wm:Int):=U;have i10:(j:Int)<(ln:Int):=U;clear b0 b1 b6 b7 mY vL X Z6 r7 uU Gs hu zq ex ew;go_wp2_with fail;have Cg:=bZ wr (ag #[Y Z (T0:Int),Y Z (T1:Int),Y Z (T2:Int)] 377);obtain⟨m0,m1,m2⟩:=bP Cg;refine cS (λw':H=>w' ⟨W,2,G⟩=A (O (A ⟨Aq,Ar,G⟩) xm xk)/\w' ⟨W+1,2,G⟩=A (O (A ⟨Au,Av,G⟩) wm wk)/\w' ⟨Aq,Ar+q4,G⟩=A (Y aO xv)/\w' ⟨Au,Av+v6,G⟩=A (Y aO wv)/\w' wr=A (Y Z T0)/\w' ⟨wr,1,G⟩=A (Y Z T1)/\w' ⟨wr,2,G⟩=A (Y Z T2)) (eE (⟨fq f2 _,fq g2 _,fq cx _,fq cw _,m0,m1,m2⟩) λhS=>bR hS [0,1,3,4,6,8,10,16,18,19,21,23,25,28,30,2,5,11,17,20,26,31,7,22,9,24,12,27,13,29,14,32,15,33,34,35,36,37,38] (λ_ h=>aw h.1 (aw h.2.1 (aw h.2.2.1 (aw h.2.2.2.1 (aw h.2.2.2.2.1 (aw h.2.2.2.2.2.1 h.2.2.2.2.2.2)))))) ?_);refine bW ?_;clear hS f2 g2 cx cw m0 m1 m2 Cg;go_wp2_with fail;go_roundw
 case rel=>exact⟨j+1,U,Q2T,by rw[Mj.I];exact congrArg _ (by unfold cM;exact IntKind.wrap_i64 _),(eW.I.step (aD wr _)).bI 1⟩
 case measure=>simp[aX];omega):p:=h
theorem Q07(h:p:=by
 go_enter func193,ntmps193
 let pq:=gW aq Tryz.f193 (λ_ _=>True)
 generalize dS:gW aq Tryz.f193 (Ji (true,TE,TN) W)=BP;have dB:=V dS;have jM:=oz dS;clear dS;go_wp2_with fail;refine DF.I.mono ?_;rintro e' w6 ⟨v,rfl,hv,hb⟩;have K6:=K5.bU hb;have dQ:=bH K5.F.2;obtain⟨ra,rl,rc,rb,rm,rk,rfl,q1,q2,q3,q4⟩:=hv;have pZ:W.heap.size+1+1+1+1<((li (li (li (li (li W (bQ x.aB x.I x.k x.s x.aG x.aJ x.fz)) (jq a1 l1 u1 p.w.e a2 l2 u2 a3 l3 u3 a4 l4 u4 p.b.e a5 l5 u5)) (cV G 0 0 0 G 0 0)) (bj ta tl tc t.e tp tm tk)) (cV G 0 0 0 G 0 0))).heap.size:=dQ;have HA:=V (show ai Z w6 ra rl TN.d/\ai cr w6 rb rm TN.z/\(∀x,ra=A x->0<rl->x.block≠W.heap.size+1+1+1+1)/\(∀x,ra=A x->0<rl->x.block≠W.heap.size+1+1)/\(∀x,rb=A x->0<rm->x.block≠W.heap.size+1+1+1+1)/\(∀x,rb=A x->0<rm->x.block≠W.heap.size+1+1)from⟨q1,q2,λx hx _=>E (q3 x hx),λx hx _=>E (q3 x hx),λx hx _=>E (q4 x hx),λx hx _=>E (q4 x hx)⟩);clear q1 q2 q3 q4 pZ;unfold aS;clear b0 b1 b2 b3 b4 b5 b6 d0 d1 d2 d3 d4 d5 d6 g0 g1 g2 y0 y1 y2 hb DF RW;obtain⟨r0,r1,r2,r3,r4,r5⟩:=aY K6.F.1.2.2.1;obtain⟨z0,z1,z2,z3,z4,z5⟩:=aY K6.F.2;go_wp2_with fail;rw[<-dB.I];refine aZ (v:=aL #[aF #[O ra rl rc,Y Z TN.e,O rb rm rk],aK true,Y Z TE]) ?_ rfl ⟨_,rfl,⟨ra,rl,rc,rb,rm,rk,rfl,(HA.I.1.nA HA.I.2.2.1).nA HA.I.2.2.2.1,(HA.I.2.1.nA HA.I.2.2.2.2.1).nA HA.I.2.2.2.2.2⟩,cL (cL K6.F.1.2.2.2.2 U _ _ _) U _ _ _⟩;simp[aW,results193,go_sem,cT (jQ (g:=W+1+1+1+1) (x:=O ra rl rc) (y:=Y Z TN.e) (z:=O rb rm rk) K6.F.1.2.2.1 U)]):p:=h
theorem Q08(h:p:=by
 have fM:(ss w2 ⟨jb,2,G⟩ (Y Z (1-(j.slot:Int)))).heap[jb]? =A (ag (wQ q.db (j.half:Int) (1-(j.slot:Int)) j.gen (O a n c')) 139 (0,0)):=by simpa using dF (f:=2) bX (Y Z (1-(j.slot:Int)))
 have iU:(ss (ss w2 ⟨jb,2,G⟩ (Y Z (1-(j.slot:Int)))) ⟨jb,3,G⟩ (Y .u32 (j.gen+1))).heap[jb]? =A (ag (wQ q.db (j.half:Int) (1-(j.slot:Int)) (j.gen+1) (O a n c')) 139 (0,0)):=by simpa using dF (f:=3) fM (Y .u32 (j.gen+1))
 have qF:=dF (f:=4) iU (O va l vc);refine cQ (⟨_,_,_,bX⟩) [11,12] (bL 13 λK hK=> ?_);go_simp;refine bB hK (⟨_,_,_,fM⟩) ?_;refine cQ (⟨_,_,_,fM⟩) [14,15] (bL 16 λK hK=> ?_);go_simp;refine bB hK (⟨_,_,_,iU⟩) ?_;refine cQ (⟨_,_,_,iU⟩) [17,18] (bL 19 λK hK=> ?_);go_simp;refine bB hK (⟨_,_,_,qF⟩) ?_;refine bW ?_;have Nh:=(((ar.cP w2 (λb=>b=jb) w2).set (g:=jb) (aM rfl) 2 (Y Z (1-(j.slot:Int)))).set (g:=jb) (aM rfl) 3 (Y .u32 (j.gen+1))).set (g:=jb) (aM rfl) 4 (O va l vc);have nQ:=jF.I.size;have Yh:=V (((vr.I.JE wR GV 2 (Y Z (1-(j.slot:Int)))).JE wR GV 3 (Y .u32 (j.gen+1))).JE wR GV 4 (O va l vc));have uV:=V ((jF.I.mono (S':=λb=>q.S b\/b=jb) (bu _) (λb _ h=>aM h)).trans' (Nh.mono (C:=w) (S':=λb=>q.S b\/b=jb) nQ (λb _ h=>bJ h)) (bu _));have Yi:=V (show rr q.db jb (λb=>ok b\/w.heap.size<=b) _ (⟨j.half,1-j.slot,j.gen+1,b⟩:Jn)from
  ⟨va,l,vc,by
   rw[HEq.I];simpa using qF,fL.I.move Nh (λb hb h=>⟨hb,U,bJ U⟩)⟩)
 go_wp2_with fail;go_ret;refine⟨?_,?_,?_,uV.I⟩
 .rw[<-cU.I];rfl
 .rw[<-cU.I];exact Yh.I
 .rw[<-cU.I];exact Yi.I):p:=h
theorem Q09(h:p:=by
 obtain⟨z0,z1,z2,z3⟩:=qE jI.I.bC;refine bL 11 λK hK=> ?_;go_simp;refine jg hK ?_;refine bL 12 λK hK=> ?_;go_simp;refine jg hK ?_;refine bL 13 λK hK=> ?_;go_simp;refine jg hK ?_;refine bW ?_;have tL:=V (jI.I.store (O g1 (k+1+1) c1) (O g2 (k+1+1) c2));clear cC fT bM lh cN oU hS sO;generalize ss (ss W2 ⟨B+1+1,0,G⟩ (O g1 (k+1+1) c1)) ⟨B+1+1,1,G⟩ (O g2 (k+1+1) c2)=W3 at*;go_wp2_with fail;go_roundw
 case rel=>exact⟨k+1,_,T++[rt],CT++[#[O ra rl rc,Y Z iO,O rb rm rk]],_,Z5++[rg],CG++[#[O jw rn rh]],U,Q2T,tL.I,by rw[List.getElem?_append_left (by rw[Xm.I];omega)];exact QE.I,by rw[dG,pP.I];rfl,by rw[dG,sJ.I];rfl,qv.I⟩
 case measure=>simp[aX];omega):p:=h
theorem Q0a(h:p:=by
 refine cS S2 (eE (mR.aQ (below_drewN w8 1)) λhS=>bR hS [0,1,2,3,7,4,5,6,8,9,10,11,15,12,13,14,16,17,18,19,23,20,24,21,22,25,26,27,28,32,29,33,30,31,34,35] (λ_ h=>Q3c) ?_);refine bW ?_;go_wp2_with fail;go_meet
 exact⟨rfl,rfl⟩):p:=h
theorem Q0b(h:p:=by
 go_enter func73,ntmps73;go_wp2;generalize li w (ag #[O a l c,Y Z e,O b m k] 57)=w1 at*;go_quiet ((first
  |(go_at_call 51;exact jG (M.I _))
  |(go_at_call 116;exact jG (S.I _))
  |(go_at_call 137;exact jG (ZU.I _))
  |(go_at_call 111;exact jG (C.I _))))
 go_wp2;go_ret;exact⟨rfl,hb.I.bI _⟩):p:=h
theorem Q0c(h:p:=by
 generalize W.drew=W0 at*;refine bR hx [0,2,1,3,4] (λ_ h=>bE h) ?_;have g0:=bE hp;have z0:=λj=>cE hp j;refine bL 5 λK hK=> ?_;go_simp;have hp:=dF (f:=2) hp (Y Z k);simp only[dC,dD,dE]at hp;have hx:(ss W0 ⟨w+1,2,G⟩ (Y Z k)).heap[w.heap.size]? =_:=(gj _ U).trans hx;have hb:ay w w (ss W0 ⟨w+1,2,G⟩ (Y Z k)):=hb.setCell (nH _) _;generalize ss W0 ⟨w+1,2,G⟩ (Y Z k)=W1 at*;refine bB hK hx ?_;refine cQ hx [6] ?_;have g0:=bE hp;have z0:=λj=>cE hp j;refine bL 7 λK hK=> ?_;go_simp;have hp:=dF (f:=3) hp (Y Z s);simp only[dC,dD,dE]at hp;have hx:(ss W1 ⟨w+1,3,G⟩ (Y Z s)).heap[w.heap.size]? =_:=(gj _ U).trans hx;have hb:ay w w (ss W1 ⟨w+1,3,G⟩ (Y Z s)):=hb.setCell (nH _) _;generalize ss W1 ⟨w+1,3,G⟩ (Y Z s)=W2 at*;refine bB hK hx ?_;refine bW ?_;have f0:=bE hx;have g0:=bE hp;have HB:=V hb;clear hx hp;go_wp2_with fail;refine cq (M1.I _) ?_
 cases Z3
 .go_wp2_with fail;all_goals(go_ret;exact⟨Q3N,HB.I⟩)
 go_wp2_with fail;refine cq (M2.I _) ?_
 cases B;all_goals
  go_wp2_with fail;all_goals(go_ret;exact⟨Q3N,HB.I⟩)):p:=h
theorem Q0d(h:p:=by
 go_wp2;go_ret;exact⟨rfl,rfl⟩):p:=h
theorem Q0e(h:p:=by
 simp only[eL]at g0;have CF:=V (HF.I _ x wr eV.I HE.I);have mZ:=V (nB hx);generalize pF:p x=y at*;have HP:=V pF;clear hx pF hcs;go_wp2_with fail;refine bY CF.I λw' hb=> ?_;have yM:=V (eV.I.step hb);clear g0
 cases y
 .go_wp2;go_roundw
  case rel=>exact⟨k+1,U,Q2T,(λj z hj hz=>by(by_cases c:j=k);(subst c;rw[HX.I]at hz;injection hz with hz;rw[<-hz];exact HP.I);exact HS.I j z U hz),yM.I⟩
  case measure=>simp[aX];omega
 .go_wp2;go_ret;exact⟨_,rfl,by
   rw[<-HB.I,List.any_eq_true.2 ⟨x,mZ.I,HP.I⟩];exact dI U,yM.I⟩):p:=h
theorem Q0f(h:p:=by
 obtain⟨a,l,c,b,m,c',c0,c1,c2,r0,r1⟩:=(H0.I.below hb) k (E HN.I);have KK:=V (aE.fg wr (ag #[O a l c,Y Z (L.getD k az.zero).e,O b m c'] 57));have RK:=V (r0.bt.and r1.bt);obtain⟨B,hB⟩:=J (D.ok (L.getD k az.zero));have mJ:=V hB;have TT:=V (λw h0 h1=>(show decide (T.aH (L.getD k az.zero).d (L.getD k az.zero).e (L.getD k az.zero).z)=B from hB)▸TM.I a l c (L.getD k az.zero).d (L.getD k az.zero).e b m c' (L.getD k az.zero).z w h0 h1);unfold aS at TT;rw[Nat.mul_comm 3 k]at c0 c1 c2;clear r0 hB hb;generalize qj:L.getD k az.zero=t at*;have HG:=V qj;clear qj;go_wp2_with fail;refine bY (TT.I _ (RK.I.jD KK.F.2).1 (RK.I.jD KK.F.2).2) λw2 du=> ?_;have dA:=V (HB.I.step ((aD _ _).step du));clear c0 c1 c2
 cases B
 .obtain rfl:1=R:=by rw[<-HR.I];unfold D.aH;rw[aI Q4t]
  go_wp2;go_ret;exact⟨rfl,dA.I⟩
 .go_wp2_with fail;go_roundw
  case rel=>exact⟨k+1,U,Q2T,λj hj=>by(by_cases c:j=k);(subst c;rw[HG.I];exact mJ.I);exact rK.I j U,dA.I⟩
  case measure=>simp[aX];omega):p:=h
theorem Q0g(h:p:=by
 refine bB hK hS ?_;refine bR hS [6] (λ_ h=>Q3o) (bL 7 λK hK=> ?_);go_simp;have pg:(ss (ss W ⟨w+1,2,G⟩ (Y Z k)) ⟨w+1,3,G⟩ (Y Z s)).drew.heap[w.heap.size+1]? =_:=dF (f:=3) oT (Y Z s);have oC:(ss (ss W ⟨w+1,2,G⟩ (Y Z k)) ⟨w+1,3,G⟩ (Y Z s)).drew.heap[w.heap.size]? =_:=(gj _ U).trans lD;simp only[dC,dD,dE]at pg;have eg:ay w w (ss (ss W ⟨w+1,2,G⟩ (Y Z k)) ⟨w+1,3,G⟩ (Y Z s)).drew:=((hb.setCell (nH _) _).setCell (nH _) _).bI 1;refine bB hK oC ?_;refine bW ?_;clear hp hx hb oT lD hS;generalize(ss (ss W ⟨w+1,2,G⟩ (Y Z k)) ⟨w+1,3,G⟩ (Y Z s)).drew=W3 at*;dsimp only[Lay.cells]at oC pg
 have f0:=bE oC;have g0:=bE pg;have HB:=V eg;have KX:=V (aw oC pg);clear oC pg;go_wp2_with fail;dsimp only[Lay.cells]at M1
 refine bY (M1.I _) λw4 hb=> ?_;have gT:=V (HB.I.step hb);obtain⟨Vb,Vc⟩:=aw (bV KX.I.1 hb) (bV KX.I.2 hb);have f0:=bE Vb;have g0:=bE Vc
 cases Z3;all_goals
  go_wp2_with fail;all_goals(go_ret;exact⟨Q3N,gT.I⟩)):p:=h
theorem Q0h(h:p:=by
 go_enter func288,ntmps288;go_wp2_with fail;refine cq (FT.I _) ?_;go_wp2_with fail;try simp only[j6,Exit.then]
 refine aZ (v:=aL #[aF #[O G 0 0,Y Z 0,O G 0 0],Y Z 3]) ?_ rfl ⟨rfl,KZ.F.2⟩;have t0:=bP KZ.F.1;simp[aW,results288,go_sem,t0]):p:=h
theorem Q0i(h:p:=by
 go_upto_region 8 with(go_at_call 279;refine(DX.I _).mono ?_;rintro e w' ⟨rfl,rfl⟩)
 go_wp2_with (at_builtin;refine ko _ rfl _ _ 103 rfl B 21 i0 (Y cr 0) 1 4 underlying103 hi cF cG cB rfl eM o k ((q.zZ m u k).map (Y cr)) rfl (HO.I.alloc _) ⟨wr,0,G⟩ 1 1 [Y cr v] rfl rfl ?c1 ?c2 ?c3 ?c4 ?c5 ?c6 ?_)
 try(case c1=>exact kJ wr _ _)
 try(case c2=>simp[fV])
 try(case c3=>unfold eS;omega)
 try(case c4=>omega)
 try(case c5=>(try simp only[bF]);omega)
 try(case c6=>omega)
 intro g1 c1 w9 cC bM cN ei fC;have ot:k+1<=ml:=U;have uH:=Below.gh (w0:=w1) eV.I (App.slot (B:=B) E0 (λb h=>(HO.I.lt b h).1) bM (λ_=>False)) (λb h=>⟨by have:=F6.I;omega,id⟩);have F7:=V uH;have jP:=V (show w9.ownsRow B 21 1 (O g1 (k+1) c1) (k+1) ((q.zZ m u (k+1)).map (Y cr))from Q5e);clear cC bM cN ei fC uH;go_wp2_with fail;go_roundw
 case rel=>exact⟨k+1,_,U,Q2T,rfl,jP.I,F7.I⟩
 case measure=>simp[aX];omega):p:=h
theorem Q0j(h:p:=by
 refine bR hS [0,3,6,8,10,1,4,7,9,11,2,5] (λ_ h=>aw (bE h.1) (aw h.1 (aw h.2.1 (aw h.2.2.1 h.2.2.2)))) (bL 12 λK hK=> ?_);go_simp;refine cq (PL.I _) ?_;refine bB hK hS ?_;refine cQ hS [13,14,15,16,17] (bW ?_);have dA:=V (show ay w w w1.drew from HB.I.step (below_drewN w1 1));have jI:=V hS;clear hS;have eI:w1.drew.heap.size=w1.heap.size:=rfl;generalize w1.drew=w2 at*;obtain⟨b0,s7,s8,s9⟩:=jI.I;have s0:=bE b0;rw[eL]at s7;have hp:decide (0<P)=true\/decide (0<P)=ae:=by cases decide (0<P)<;>simp
 rcases hp with hp|hp
 all_goals
  go_wp2_with fail;have HR:=V (ai.new w2 Z 3 (0,0) [d0,P,Q] (λz hz=>by
   simp only[jy,mj,or_false]at hz;rcases hz with rfl|rfl|rfl
   .first|exact ho|exact sY
   .exact gF U U
   .exact gF U U) bK)
  refine aZ (v:=aL #[O w2 3 3,aK _]) (by simp[aW,results91];try rfl) rfl ⟨_,3,3,[d0,P,Q],_,rfl,HR.I,λy hy=>Q3D,dA.I.step (aD _ _)⟩):p:=h
theorem Q0k(h:p:=by
 refine cS S2 (eE (mR.aQ (below_drewN w8 1)) λhS=>bR hS [0,1,2,3,7,4,5,6,8,9,10,11,15,12,16,13,14,17,18,19,20,24,21,25,22,23,26,27] (λ_ h=>Q3c) ?_);refine bW ?_;go_wp2_with fail;go_meet
 exact⟨rfl,rfl⟩):p:=h
theorem Q0l(h:p:=by
 refine cS S2 (eE (qV.aQ (below_drewN w7 1)) λhS=>bR hS [0,4,1,2,3,5,6,7,8,9,10,11,12,13,17,14,15,16,18,19] (λ_ h=>Q3c) ?_);refine bW ?_;clear hS;have K9:=V K8.I.draw;clear K8 qV;generalize w7.drew=w8 at*;have r0:=aY K9.F.2.2.2.2.2.1;go_wp2_with fail;refine aZ (v:=aL #[aF #[O G 0 0,Y Z 0,O G 0 0],Y Z 2]) ?_ rfl ⟨_,rfl,dM.zero _ _ _,cL K9.F.2.2.2.2.2.2 U _ _ _⟩;simp[aW,results232,go_sem,cT K9.F.2.2.2.2.2.1]):p:=h
theorem Q0m(h:p:=by
 rw[hQ]at MX;clear hQ k3 k5 RW;unfold aS at MX;go_wp2_with fail;refine MX.I.mono ?_;rintro e' w7 ⟨v,rfl,⟨hv,ip⟩,hb⟩;have K7:=K6.bU hb;have HV:=V hv;have HC:=V ip;have m9:w5.heap.size<(li w5 (bj ta tl tc t.e tp tm tk)).heap.size:=Q2Y;obtain⟨ra,rl,rc,rb,rm,rk,rfl,-⟩:=hv;clear y0 y1 y2 ip MX;unfold aS;dsimp only
 have r0:=aY K7.F.1.2.2.1;have z0:=aY K7.F.2;go_wp2_with fail;try simp only[j6,Exit.then]
 rw[<-dB.I];refine aZ (v:=aL #[aF #[O ra rl rc,Y Z TN.e,O rb rm rk],O G 0 0,Y Z TE]) ?_ rfl ⟨ra,rl,rc,TN.e,rb,rm,rk,G,0,0,rfl,λh=>⟨((HV.I.stored m9 _ _ _).stored U _ _ _).mono U,λ_=>HC.I,ai.zero _ _ _,λx hx=>Q3t⟩,cL (cL K7.F.1.2.2.2 hW5 _ _ _) U _ _ _⟩;simp[aW,results144,go_sem,cT (jQ (g:=w5) (x:=O ra rl rc) (y:=Y Z TN.e) (z:=O rb rm rk) K7.F.1.2.2.1 U)]):p:=h
theorem Q0n(h:p:=by
 refine cY hK (mX.I _ eX) 12 λK hK=> ?_;go_simp;refine(FG.I _ (Xl.I _ eX) (Xk.I.step eX).aN).mono ?_;rintro e' w8 ⟨ra,rl,rc,iO,rb,rm,rk,jw,rn,rh,rfl,mH,hb⟩;have ej:ay wy wy w8:=eX.step hb;have AB:=V mH;have cy:=bV (show(li wy (bj G 0 0 0 G 0 0)).drew.heap[wy.heap.size]? =_ from bZ wy _) hb;clear mH hS;unfold aS;refine bB hK (mX.I w8 ej) ?_;refine cQ (mX.I w8 ej) [13,14,15,16] ?_;have z0:=aY cy;refine bL 18 λK hK=> ?_;go_simp;have dK:ay wy wy _:=cL ej (bu _) (O ra rl rc) (Y Z iO) (O rb rm rk);refine bB hK (mX.I _ dK) ?_;refine cQ (mX.I _ dK) [19,20] (bW ?_);go_wp2_with fail;go_meet
 exact⟨_,ra,rl,rc,iO,rb,rm,rk,jw,rn,rh,rfl,rfl,rfl,oV cy,λh=>Qy.set (D:=(li wy (bj G 0 0 0 G 0 0)).drew.heap.size) (show wy.heap.size<(li wy _).heap.size by rw[bF];omega) (AB.I h),bu _,dK⟩):p:=h
theorem Q0o(h:p:=by
 have K4:=K3.bU hb;obtain⟨ra,rl,rc,rb,rm,rk,rfl,u1,u2,u3,u4⟩:=hv;have HV:=V (aw u1 (aw u2 (aw u3 u4)));unfold aS;dsimp only
 clear u1 u2 u3 u4 hb f0 f1 f2 f3 f4 f5 f6 v0 v1 v2 v3 v4 v5 v6 y0 y1 y2 z0 z1 z2 r0 r1 r2 r3 r4 r5 CC;obtain⟨r0,r1,r2,r3,r4,r5⟩:=aY K4.F.1.2.2.1;go_wp2_with fail;rw[<-dB.I];refine aZ (v:=aL #[aF #[O ra rl rc,Y Z RT.e,O rb rm rk],Y Z RE]) ?_ rfl ⟨_,rfl,aM ((dM.stored (B:=w3) ⟨_,_,_,_,_,_,rfl,HV.I.1,HV.I.2.1,HV.I.2.2.1,HV.I.2.2.2⟩ nK _ _ _).mono U),cL K4.F.1.2.2.2 U _ _ _⟩;simp[aW,results223,go_sem,cT K4.F.1.2.2.1]):p:=h
theorem Q0p(h:p:=by
 generalize x.aH (k:Int)=y at*;obtain⟨q0,q1,q2,q3,q4,q5,q6⟩:=bE (bZ wr (ag x.cells 102));have pK:=V (HB.I.step (aD wr (ag x.cells 102)));dsimp only[Lay.cells]at CF q0 q1 q2 q3 q4 q5 q6 pK
 clear hx hcs;go_wp2_with fail;refine bY (CF.I _) λw5 hb=> ?_;have dO:=V (pK.I.step hb);clear hb q0 q1 q2 q3 q4 q5 q6 g0
 cases y
 .have Vd:R=ae:=by rw[<-iW.I,HD.I];rfl
  subst Vd;go_wp2_with fail;go_ret;exact⟨rfl,dO.I⟩
 .go_wp2_with fail;go_roundw
  case rel=>exact⟨k+1,U,Q2T,by rw[<-iW.I,HD.I];simp,dO.I⟩
  case measure=>simp[aX];omega):p:=h
theorem Q0q(h:p:=by
 rcases Nat.lt_or_ge i L.length with hi|hi
 .rw[List.getElem?_append_left hi]at hy;obtain⟨Bx,h1,h2⟩:=h.2.1 i y hy;exact⟨Bx,by rw[List.getElem?_append_left (by rw[h.1];exact hi)];exact h1,C.move h2 kp hk⟩
 .rw[List.getElem?_append_right hi]at hy;have h0:i-L.length=0:=by
   rcases Nat.eq_zero_or_pos (i-L.length)with h|h
   .exact h
   .rw[List.getElem?_eq_none Q2R]at hy;cases hy
  rw[h0]at hy;obtain rfl:x=y:=Q3w;exact⟨cs,by rw[List.getElem?_append_right (by rw[h.1];exact hi),h.1,h0];rfl,C.move hx kp hk⟩):p:=h
theorem Q0r(h:p:=by
 go_wp2_with fail;refine cS (λw':H=>w' ⟨lb,lo+k,G⟩=A (O ua ul uc)/\w' ⟨lb,lo+(k+1),G⟩=A (O va vl vc)) (eE (⟨Vs,Vt⟩) λfM=>bR fM [0,1,2,6,7,3,8,4,9,10] (λ_ h=>aw h.1 h.2) ?_);refine bL 5 λK hK=> ?_;go_simp;refine cq PU.I ?_;refine cY hK fM 11 λK hK=> ?_;go_simp;refine cq PV.I ?_;refine bB hK fM ?_;refine bR fM [12,13,14,15,16,17,18] (λ_ h=>aw h.1 h.2) (bW ?_);go_wp2_with fail;refine aZ (v:=aL #[Y Z 0,Y Z ((k:Int)+1),Y Z 1]) Q3G rfl ⟨_,_,rfl,(K2.F.2.step eW.I).bI 1⟩):p:=h
theorem Q0s(h:p:=by
 go_wp2_with fail;go_roundw
 case rel=>exact⟨j+1,U,Q2T,by rw[HS.I];exact pG.I.1,pG.I.2⟩
 case measure=>simp[aX];omega):p:=h
theorem Q0t(h:p:=by
 obtain rfl:(1,bD.nil)=R:=HR.I;go_wp2_with fail;refine aZ (v:=aL #[aF #[O G 0 0,Y Z 0,O G 0 0,O G 0 0,O G 0 0,Y Z 0,O G 0 0],Y Z 1]) ?_ rfl ⟨_,rfl,lq.nil _ _,nt K1.F.2.2.2.2 U _ _ _ _ _ _ _⟩;simp[aW,results191,go_sem,oL K1.F.2.2.2.1]):p:=h
theorem Q0u(h:p:=by
 go_wp2_with fail;go_ret2
 exact⟨_,_,_,rfl,cH.nil _ _ _ _ _,K2.F.2⟩):p:=h
theorem Q0v(h:p:=by
 go_wp2_with fail;refine aZ (v:=aL #[aF #[O G 0 0,Y Z 0,O G 0 0],O G 0 0,Y Z 1]) ?_ rfl ⟨_,_,_,_,rfl,dM.zero _ _ _,Al.mk (bu 0),ai.zero _ _ _,(λx hx=>Q3t),cL K2.F.2.2 U _ _ _⟩;simp[aW,results29,go_sem,cT K2.F.2.1]):p:=h
theorem Q0w(h:p:=by
 go_wp2_with fail;refine bY (PO.I _) λw2 hb=> ?_;have hB:=V ((aD w _).step hb);clear hb;go_wp2;go_ret;exact⟨_,_,_,rfl,⟨rfl,aM rfl⟩,hB.I⟩):p:=h
theorem Q0x(h:p:=by
 go_wp2;go_ret;exact⟨_,rfl,by
  rw[<-HB.I,show L.any p=ae from by
   rw[List.any_eq_false];intro x hx;obtain⟨j,hj,e⟩:=List.getElem_of_mem hx;have:=HS.I j x (E L0.I) (by rw[cR hj,e]);rw[this];decide]
  rfl,eV.I⟩):p:=h
theorem Q0y(h:p:=by
 have aT:=bH h;have h':w.heap[b]=ag #[x,y,z] t (0,0):=by simpa[Array.getElem?_eq_getElem aT]using h
 show(w.heap.modify b _)[b]? =_
 rw[Array.getElem?_eq_getElem (by simpa using aT),Array.getElem_modify_self,h'];rfl):p:=h
theorem Q0z(h:p:=by
 have w2:Z.wrap (Q:Int)=Q:=dv _ U;have w4:Z.wrap ((Q:Int)+i)=Q+i:=dv _ U;have t2:((Q:Int)+i).toNat=Q+i:=U;have g3:(0:Int)<=(Q:Int)+i:=U;have g4:(Q:Int)+i<(wl:Int):=U;obtain⟨n1,n2⟩:=hm;have w5:Z.wrap (xx*ww)=xx*ww:=dv _ U;have w6:Z.wrap (S+xx*ww)=S+xx*ww:=dv _ U;go_wp2_with fail;go_quiet (fail)
 go_wp2_with fail;go_roundw
 case rel=>exact⟨k+1,_,U,Q2T,Q55,rfl⟩
 case measure=>simp[aX];omega):p:=h
theorem Q0A(h:p:=by
 obtain⟨k1,k2,k3⟩:=uy f0;obtain⟨k4,k5,k6⟩:=uy f1;go_region_held3 (λw'=>w'.cell? ⟨w+1,0,G⟩=A (O xa xl xc)/\w'.cell? ⟨w+1,1,G⟩=A (Y Z b.e)) (go_keep)
  (first|(go_at_call 142;refine(CW.I _ Q3e).mono ?_;rintro e3 w4 ⟨cc,cs,rfl,rfl,hcs⟩))
 all_goals
  go_wp2_with fail;go_meet
  first|exact oF.Kn hcs R3.I|exact oF.Fe hcs R3.I):p:=h
theorem Q0B(h:p:=by
 have:=HQ.I;unfold L.labelled at this;by_cases h1:(L.rows y).1 =0
 .rw[aI (λc=>c h1)]at this;by_cases h2:(L.rows y).2.length=ls.length
  .rw[aI (λc=>c h2)]at this;by_cases h3:ls.any (L.off (y.d.getD 1 0))=true
   .rw[aR h3]at this;exact(Prod.mk.inj this).2.symm
   .rw[aI h3]at this;exact absurd (Prod.mk.inj this).1.symm he
  .rw[aR h2]at this;exact(Prod.mk.inj this).2.symm
 .rw[aR h1]at this;exact(Prod.mk.inj this).2.symm):p:=h
theorem Q0C(h:p:=by
 intro g1 c1 w9 cC bM cN ei fC;have LJ:=V (gy.app iF vY.I LI.I (n:=k+1) (E sK.I) cC bM Q3B);have rS:=V (Below.gh (w0:=w2) IB.I (App.slot (B:=B) VF (λb h=>(kg.I.lt b h).1) bM (λ_=>False)) (λb h=>⟨by have:=eV.I;omega,id⟩));clear cC bM cN kg LI vY;go_wp2_with fail;go_roundw
 case rel=>exact⟨k+1,_,_,_,U,Q2T,rfl,LJ.I,by rw[dG,sK.I];rfl,uG.I,rS.I⟩
 case measure=>simp[aX];omega):p:=h
theorem Q0D(h:p:=by
 intro z hz;simp at hz;rcases hz with rfl|rfl|rfl|rfl
 .exact h0
 .exact h1
 .exact WalkArith.wf_i64 U
 .exact WalkArith.wf_i64 U):p:=h
theorem Q0E(h:p:=by
 go_wp2_with fail;refine cq SZd.I ?_;have w1:Z.wrap ((SD:Int)+(SW:Int))=((SD+SW:Nat):Int):=Q3l;have Qr:Z.wrap ((sz:Int)+((SD+SW:Nat):Int))=((sz+(SD+SW):Nat):Int):=Q3l;go_wp2_with fail;go_roundw
 case rel=>exact⟨N+1+1,sz+(SD+SW),U,Q2T,by first|go_num|rfl,U,gV.I⟩
 case measure=>simp[aX];omega):p:=h
theorem Q0F(h:p:=by
 go_wp2_with fail;refine aZ (v:=aL #[aF #[O G 0 0,Y Z 0,O G 0 0],Y Z 3]) ?_ rfl ⟨_,rfl,dM.zero _ _ _,cL K3.F.2.2.2 U _ _ _⟩;simp[aW,results283,go_sem,cT K3.F.1]):p:=h
theorem Q0G(h:p:=by
 obtain⟨t0,t1,t2,t3,t4,t5⟩:=aY I6.I;go_wp2_with fail;clear t0 t1 t2 t3 t4 t5;try simp only[j6,Exit.then]
 refine aZ (v:=aL #[aF #[O G 0 0,Y Z 0,O G 0 0],O G 0 0,Y Z 1]) ?_ rfl ⟨_,_,_,_,rfl,dM.zero _ _ _,Al.mk (bu 0),ai.zero _ _ _,(λx hx=>Q3t),cL eV.I U _ _ _⟩;simp[aW,results29,go_sem,cT I6.I]):p:=h
theorem Q0H(h:p:=by
 go_wp2_with fail;refine aZ (v:=aL #[Y Z 0,Y Z 0,Y Z 1]) Q3G rfl ⟨_,_,rfl,K2.F.2⟩):p:=h
theorem Q0I(h:p:=by
 rintro e w' ⟨rfl,m6,ig⟩;refine⟨rfl,m6,ig.os,ig.tape,ig.output,by have:=ig.size;omega,λg hg hn=> ?_⟩;exact(ig.block g U hn).trans (cO.block g hg)):p:=h
theorem Q0J(h:p:=by
 go_simp;refine bB hK (KS.I.nw _ _) ?_;refine cQ (KS.I.nw _ _) [14] (bL 15 λK hK=> ?_);go_simp;refine cY hK (KS.I.nw _ _) 16 λK hK=> ?_;go_simp;refine bB hK (KS.I.nw _ _) ?_;refine bW ?_;go_wp2_with fail;go_meet
 refine⟨_,_,rfl,rfl,rfl,?_,?_,LW _ _ _⟩<;>first|exact LU _ _ _|exact LV _ _ _):p:=h
theorem Q0K(h:p:=by
 unfold win row;simp only[List.mem_flatMap,List.mem_range];constructor
 .rintro⟨i,hi,j,hj,h⟩;unfold cell at h;split at h
  .rename_i hc;exact⟨i,j,hi,hj,hc.1,hc.2,Q32⟩
  .simp at h
 .rintro⟨i,j,hi,hj,h1,h2,h⟩;refine⟨i,hi,j,hj,?_⟩;unfold cell;rw[aR ⟨h1,h2⟩,h];simp):p:=h
theorem Q0L(h:p:=by
 go_wp2;refine aZ (v:=aL #[aF #[O G 0 0,Y Z 0,O G 0 0],Y Z 1]) ?_ rfl ⟨_,_,_,_,_,_,rfl,ai.zero _ _ _,ai.zero _ _ _,((BB.I.setCell Q2S _).setCell Q2S _).setCell Q2S _⟩;simp[aW,results275,go_sem,z0,z1,z2]):p:=h
theorem Q0M(h:p:=by
 rintro i wr ⟨_,hk⟩;have h6:=(hk.block w5.heap.size U U).trans kL;refine⟨by have:=hk.size;omega,λj hj=> ?_⟩;unfold kY;simp only[h6];rfl):p:=h
theorem Q0N(h:p:=by
 refine aZ (v:=aL #[aF #[O G 0 0,Y Z 0,O G 0 0],Y Z 1]) ?_ rfl ⟨_,_,_,_,_,_,rfl,ai.zero _ _ _,ai.zero _ _ _,((BB.I.setCell Q2S _).setCell Q2S _).setCell Q2S _⟩;simp[aW,results276,go_sem,z0,z1,z2]):p:=h
theorem Q0O(h:p:=by
 refine bR hS [0,1,2,3,4,5,6,7,9,8,10,11,12,13,14,15,16] (λ_ h=>aw (EB h.1) (bP h.2)) (bW ?_);clear hS;go_wp2_with fail;go_roundw
 case rel=>exact⟨k+1,t3,r3,U,rfl,by have:=tL.I;rwa[Aw.I,aI Fz.I]at this,Nj.I.below (below_drewN w3 1),Fu.I,U,nz.I.bI 1⟩
 case measure=>simp[aX];omega):p:=h
theorem Q0P(h:p:=by
 go_wp2_with fail;refine cq (IN.I _) ?_;go_wp2;go_ret;exact⟨_,_,_,rfl,⟨rfl,aM rfl⟩,hB.I⟩):p:=h
theorem Q0Q(h:p:=by
 refine bB hK (fW.I _ dK) ?_;refine cQ (fW.I _ dK) [18,19] (bW ?_);go_wp2_with fail;go_meet
 exact⟨_,ta,tl,tc,tb,tm,tk,la,ln,lc,rfl,rfl,rfl,oV cy,HY.I.1.eJ (λx hx=>E (HY.I.2.2.1 x hx)),HY.I.2.1.eJ (λx hx=>E (HY.I.2.2.2 x hx)),l8,HL.I.1.eJ (λx hx=>E (HL.I.2 x hx)),dK⟩):p:=h
theorem Q0R(h:p:=by
 exact((((((((HK.I.2.2).setCell (p:=⟨w,0,G⟩) (bu _) _).setCell (p:=⟨w,1,G⟩) (bu _) _).setCell (p:=⟨w,2,G⟩) (bu _) _).setCell (p:=⟨w,3,G⟩) (bu _) _).setCell (p:=⟨w,4,G⟩) (bu _) _).setCell (p:=⟨w,5,G⟩) (bu _) _).setCell (p:=⟨w,6,G⟩) (bu _) _).bI 1):p:=h
theorem Q0S(h:p:=by
 go_wp2_with fail;go_ret;exact⟨rfl,rfl⟩):p:=h
theorem Q0T(h:p:=by
 go_simp;refine cY hK (KS.I.nw _ _) 10 λK hK=> ?_;go_simp;refine cY hK (KS.I.nw _ _) 11 λK hK=> ?_;go_simp;refine bB hK (KS.I.nw _ _) ?_;refine bW ?_;go_wp2_with fail;go_meet
 refine⟨_,_,rfl,rfl,?_,?_,LW _ _ _⟩<;>first|exact LU _ _ _|exact LV _ _ _):p:=h
theorem Q0U(h:p:=by
 go_wp2_with fail;go_ret;exact⟨rfl,K2.F.2⟩):p:=h
theorem Q0V(h:p:=by
 generalize ss W2 ⟨bo,2,G⟩ (O g1 (nd+el) c1)=W3 at*;go_wp2_with fail;go_roundw
 case rel=>exact⟨k+1,_,nd+el,U,Q2T,HNk.I,iW.I,by rw[D9.I];exact Ea.I,by rw[I7.I];exact acI.I,by rw[D9.I,I7.I];exact tL.I⟩
 case measure=>simp[aX];omega):p:=h
theorem Q0W(h:p:=by
 go_wp2_with fail;rw[<-dB.I];refine aZ (v:=aL #[aF #[O G 0 0,O G 0 0],Y Z 0,Y Z 2]) ?_ rfl (Bad.I _ (Jj K3.F.2.2.2 U _ _) _ _ eM);obtain⟨t0,t1,_,_⟩:=qE (Er (a:=O G 0 0) (b:=O G 0 0) K3.F.2.2.1);simp[aW,results78,go_sem,t0,t1]):p:=h
theorem Q0X(h:p:=by
 have e1:(P:Int)*Q<=R*C:=pA U U U U;have e2:(N:Int)*((P:Int)*Q)<=N*(R*C):=Int.mul_le_mul_of_nonneg_left e1 U;rw[<-pU (N:Int) R C,<-hz]at e2;have e3:((N*(P*Q):Nat):Int)=(N:Int)*((P:Int)*Q):=by rw[gQ,gQ]
 omega):p:=h
theorem Q0Y(h:p:=by
 obtain rfl:ae=R:=by rw[<-HG.I];simp
 go_wp2_with fail;go_ret;exact⟨rfl,K2.F.2.step (HB.I.step K9.F.2)⟩):p:=h
theorem Q0Z(h:p:=by
 unfold jc;split
 .rename_i fY;obtain⟨b1,b2,b3,b4,b5,b6,b7,b8,b9⟩:=oy fY.1;have:=Wn.JY rows aU (r*s-p) (c*s-p) k.toNat k.toNat;have:=mq (show k.toNat<=5 by omega) (show k.toNat<=5 by omega);omega
 .simp):p:=h
theorem Q10(h:p:=by
 obtain⟨h1,h2⟩:=h;refine⟨h1,h2.imp id ?_⟩;rintro⟨g,e,hg,hc⟩;refine⟨g,e,iP hg hb.size,λj hj=> ?_⟩;obtain⟨f1,f2,f3⟩:=hc j hj;exact⟨hb.cell_of f1,hb.cell_of f2,hb.cell_of f3⟩):p:=h
theorem Q11(h:p:=by
 go_wp2;go_region
 go_wp2;refine aZ (v:=aL #[aF #[Y Z d2,Y Z d3,Y Z k,Y Z s,Y Z P,Y Z Q],aK ae]) ?_ rfl ⟨rfl,?_⟩
 .simp[aW,results240,go_sem]
 .exact(((((aD w _).step (aD _ _)).bI 1).bI 1).bI 1)):p:=h
theorem Q12(h:p:=by
 exact⟨_,_,_,_,_,_,rfl,ai.zero _ _ _,ai.zero _ _ _,((mJ.I.setCell Q2S _).setCell Q2S _).setCell Q2S _⟩):p:=h
theorem Q13(h:p:=by
 obtain⟨p1,p2,p3,p4,pb⟩:=yv w5 _ _ _ _;exact tr.of p3 p2 p4 hcs (pb.bI 2) E8.I ku U U U U U U):p:=h
theorem Q14(h:p:=by
 simp only[List.mem_flatMap,List.mem_range,kG];constructor
 .rintro⟨y,hy,x,hx,w,hw,h⟩;exact⟨y,x,hy,hx,w,hw,h.symm⟩
 .rintro⟨y,x,hy,hx,w,hw,h⟩;exact⟨y,hy,x,hx,w,hw,h.symm⟩):p:=h
theorem Q15(h:p:=by
 obtain rfl:ae=R:=by rw[<-HG.I];rfl
 go_wp2_with fail;go_ret;exact⟨rfl,K2.F.2.step gT.I⟩):p:=h
theorem Q16(h:p:=by
 have:=(fX.1 hj).1;simpa using this):p:=h
theorem Q17(h:p:=by
 clear bb;go_wp2;go_roundw
 case rel=>exact⟨k+1,U,Q2T,λj hj=>by(by_cases c:j=k);(subst c;rw[HG.I];exact mJ.I);exact rK.I j U,dA.I⟩
 case measure=>simp[aX];omega):p:=h
theorem Q18(h:p:=by
 go_wp2_with fail;rw[<-dB.I];refine aZ (v:=aL #[O G 0 0,aF #[O G 0 0,Y Z 0,O G 0 0],Y Z 1]) ?_ rfl (END.I _ gV.I _ _ _ _);simp[aW,results11,go_sem,cT (bV K2.F.2.1 gV.I)]):p:=h
theorem Q19(h:p:=by
 clear bb;obtain rfl:2=R:=by
  rw[<-HR.I];unfold D.aH;rw[aR Fo.I,aI Q4t]
 go_wp2;go_ret;exact⟨rfl,dA.I⟩):p:=h
theorem Q1a(h:p:=by
 unfold Lay.aH;rw[aI (by show ¬aB=1;omega),aI (by show ¬aB=2;omega),aI (by show ¬(aB=3\/aB=4);omega),aI (by show ¬(aB=5\/aB=6);omega),aI (by show ¬aB=7;omega)]):p:=h
theorem Q1b(h:p:=by
 exact absurd (congrArg (λp=>p.2.2) h3) (λe=>absurd (show(_:Int)=0 from e) Q3V)):p:=h
theorem Q1c(h:p:=by
 exact absurd (congrArg (λp=>p.2.2) h) (λe=>absurd (show(_:Int)=0 from e) Q3V)):p:=h
theorem Q1d(h:p:=by
 go_wp2_with fail;go_meet
 exact⟨by first|rfl|simp,rfl⟩):p:=h
theorem Q1e(h:p:=by
 refine aZ (v:=aL #[aF #[O G 0 0,Y Z 0,O G 0 0],Y Z 1]) ?_ rfl ⟨_,rfl,⟨dM.zero _ _ _,nM.zero⟩,cL K2.F.2.2 U _ _ _⟩;simp[aW,results245,go_sem,cT K2.F.2.1]):p:=h
theorem Q1f(h:p:=by
 go_wp2_with fail;refine cq (IX.I _) ?_;go_wp2;go_roundw
 case rel=>exact⟨ZV+1,U,Q2T,by rw[HR.I,HL.I];exact GO.I,GN.I⟩
 case measure=>simp[aX];omega):p:=h
theorem Q1g(h:p:=by
 rintro e w3 ⟨rfl,wV,k3⟩;rw[hr];exact⟨rfl,⟨h.to hp k0 wV k3,(hk.mono (bu _) (λ_ _ e=>bJ e)).trans' (k3.mono (bu _) (λ_ _ e=>aM e)) hk.size⟩,k3⟩):p:=h
theorem Q1h(h:p:=by
 clear h;go_enter func149,ntmps149;go_wp2;go_ret;exact⟨_,_,_,rfl,ai.zero _ _ _,bu _,(λx hx=>Q3t),⟨a,l,c,oI.I,oZ.I,Us.I,HN.I⟩,jE.refl _ _⟩):p:=h
theorem Q1i(h:p:=by
 go_wp2_with fail;refine aZ (v:=aL #[O G 0 0,Y .u32 0,Y Z 0]) (by simp[aW,results56]) rfl ⟨_,_,_,rfl,ai.zero _ _ _,bu _,(λx hx=>Q3t),K5.F.2.2⟩):p:=h
theorem Q1j(h:p:=by
 go_wp2_with fail;go_ret;exact⟨_,_,_,rfl,dA.I,HR.I⟩):p:=h
theorem Q1k(h:p:=by
 simp only[Lt.fr,eR,dC,dD,dE]):p:=h
theorem Q1l(h:p:=by
 refine cQ (kC.aQ (nt ej (bu w7.heap.size) _ _ _ _ _ _ _)) [17] (bW ?_);go_wp2_with fail;go_meet
 exact⟨_,rfl,rfl,FC lV,nt ej (bu _) _ _ _ _ _ _ _⟩):p:=h
theorem Q1m(h:p:=by
 rcases h.2.2.2 with h'|⟨_,_,e,_⟩
 .exact h'
 .cases e):p:=h
theorem Q1n(h:p:=by
 obtain rfl:k=N:=U;go_wp2;go_ret;exact⟨rfl,q,rfl⟩):p:=h
theorem Q1o(h:p:=by
 go_wp2;all_goals(go_ret;first|exact⟨jS (Rd.Zs ‹_› ‹_›),rfl⟩|exact⟨jS (Rd.Zt ‹_› ‹_›),rfl⟩|exact⟨jS (Rd.Zu ‹_›),rfl⟩)):p:=h
theorem Q1p(h:p:=by
 rintro i w1 w2 ⟨sF,hk⟩ sG;exact⟨sF.below sG,hk.below (E hk.size) sG⟩):p:=h
theorem Q1q(h:p:=by
 go_wp2;go_ret;exact⟨rfl,HB.I⟩):p:=h
theorem Q1r(h:p:=by
 have:=Ho (R:=R) (C:=C) (k:=k) (s:=s) (Q:=Q) (i:=i) r1 c1 hn ((ix R C k s Q n i).getD 0 0) (by have:=Hn (n:=n) hP hQ hi kt;simp[dV,cR this]);omega):p:=h
theorem Q1s(h:p:=by
 simp[Lit.wf,IntKind.min,IntKind.max,nD,nG]at h;omega):p:=h
theorem Q1t(h:p:=by
 rw[Nat.add_mul,Nat.one_mul]at this;omega):p:=h
theorem Q1u(h:p:=by
 go_wp2_with fail;go_roundw
 case rel=>exact⟨k+1,v3,U,Q2T,by have:=T3.I;simpa only[yR.I,lL]using this⟩
 case measure=>simp[aX];omega):p:=h
theorem Q1v(h:p:=by
 obtain rfl:k=xl:=U;have Ve:R=true:=Q3n;subst Ve;go_wp2_with fail;go_ret;exact⟨rfl,HB.I⟩):p:=h
theorem Q1w(h:p:=by
 go_wp2_with fail;go_roundw
 case rel=>exact⟨k+1,U,Q2T,by rw[Mg.I];exact lJ.I,nz.I.trans' lu.I Em⟩
 case measure=>simp[aX];omega):p:=h
theorem Q1x(h:p:=by
 exact⟨λe=>by have e:A B=A y.block:=e;injection e with e;omega,this.1,U,λe=>by have e:A (B+1)=A y.block:=e;injection e with e;omega⟩):p:=h
theorem Q1y(h:p:=by
 go_wp2_with fail;refine aZ (v:=aL #[O G 0 0,Y Z 0,Y Z 1]) Q5h rfl ⟨_,_,_,_,rfl,cH.nil _ _ _ _ _,bu _,K1.F.2⟩):p:=h
theorem Q1z(h:p:=by
 go_wp2_with fail;go_roundw
 case rel=>exact⟨k+1,_,U,Q2T,U0.I,by rw[yR.I,kF];exact mO.I,U6.I⟩
 case measure=>simp[aX];omega):p:=h
theorem Q1A(h:p:=by
 go_wp2;go_ret;exact⟨jS HS.I,rfl⟩):p:=h
theorem Q1B(h:p:=by
 go_wp2;go_quiet (fail)
 go_wp2;go_roundw
 case rel=>exact⟨j+1,q+nq,U,Q2T,Q55,rfl⟩
 case measure=>simp[aX];omega):p:=h
theorem Q1C(h:p:=by
 simp only[fS,decide_eq_true_eq]at h;rw[h.2];simp):p:=h
theorem Q1D(h:p:=by
 exact mN.I.eJ (λx hx=>E (jJ.I x hx))):p:=h
theorem Q1E(h:p:=by
 refine cQ (kC.aQ (ej.step (aD w8 _))) [17] (bW ?_);go_wp2_with fail;go_meet
 exact⟨_,rfl,rfl,bZ w8 _,ej.step (aD w8 _)⟩):p:=h
theorem Q1F(h:p:=by
 go_wp2_with fail;go_roundw
 case rel=>exact⟨j+1,_,_,U,Q2T,HF.I.1,HF.I.2.1,HF.I.2.2⟩
 case measure=>simp[aX];omega):p:=h
theorem Q1G(h:p:=by
 go_wp2;go_ret;exact⟨rfl,0,rfl⟩):p:=h
theorem Q1H(h:p:=by
 go_wp2;go_ret;exact⟨pC (eP (by rw[<-HS.I];omega)).symm,rfl⟩):p:=h
theorem Q1I(h:p:=by
 clear c;go_wp2_with fail;go_roundw
 case rel=>exact⟨k+1,U,Q2T,by rw[jI.I],dA.I⟩
 case measure=>simp[aX];omega):p:=h
theorem Q1J(h:p:=by
 refine bL 13 λK hK=> ?_;go_simp;refine jg hK ?_;refine bW ?_;clear hN h1 h3;go_wp2_with fail;go_meet
 exact hW.I):p:=h
theorem Q1K(h:p:=by
 have:=h.2.2.2
 cases e:p.aH
 .have:s.ps.any (λp=> !p.aH)=true:=List.any_eq_true.2 ⟨p,hp,by simp[e]⟩;simp_all
 .rfl):p:=h
theorem Q1L(h:p:=by
 go_wp2_with fail;go_meet
 exact⟨by rw[<-MT.I,HD.I],rfl⟩):p:=h
theorem Q1M(h:p:=by
 unfold Addr.add;by_cases h0:j=0<;>simp[h0]):p:=h
theorem Q1N(h:p:=by
 simp only[fS,decide_eq_true_eq]at h;omega):p:=h
theorem Q1O(h:p:=by
 exact absurd (congrArg (λp=>p.2.2) h) bK):p:=h
theorem Q1P(h:p:=by
 go_wp2_with fail;refine aZ (v:=aL #[Y Z 0,Y Z xl,Y Z 2]) Q3G rfl ⟨_,_,rfl,K2.F.2⟩):p:=h
theorem Q1Q(h:p:=by
 go_wp2_with fail;go_ret;obtain rfl: []=R:=by rw[<-HR.I];simp
 exact⟨_,_,_,rfl,HB.I.bI _,lY.nil _ _⟩):p:=h
theorem Q1R(h:p:=by
 go_wp2_with fail;go_roundw
 case rel=>exact⟨k+1,U,Q2T,jP.I,jF.I⟩
 case measure=>simp[aX];omega):p:=h
theorem Q1S(h:p:=by
 rcases hi with rfl|rfl<;>exact Nat.le_of_ble_eq_true kr):p:=h
theorem Q1T(h:p:=by
 go_wp2;go_round
 case rel=>exact⟨k+1,N*x,U,m1,U,Q2T,rfl,HS.I⟩
 case measure=>simp[aX];omega):p:=h
theorem Q1U(h:p:=by
 clear h DJ;go_enter func188,ntmps188;go_wp2_with fail;go_ret;exact⟨_,rfl,gP _ _ _ _,eG _ _⟩):p:=h
theorem Q1V(h:p:=by
 have my:=Sh.iA dQ;rw[my.eq,<-rG];simp[Sh.prod,gQ,pU]):p:=h
theorem Q1W(h:p:=by
 have hz:w.heap.size<=w+1:=U;exact(((B3.I.setCell hz _).setCell hz _).setCell hz _).step (aD _ _)):p:=h
theorem Q1X(h:p:=by
 go_wp2;go_roundw
 case rel=>exact⟨ZV+1,U,Q2T,AX.I,GB.I⟩
 case measure=>simp[aX];omega):p:=h
theorem Q1Y(h:p:=by
 refine⟨hd.1,hd.2.1,hd.2.2.1,bJ ⟨g,0,rfl,λj hj=> ?_⟩⟩;rw[nF];exact bh hg j (hcs j hj)):p:=h
theorem Q1Z(h:p:=by
 exact⟨_,_,_,rfl,HB.I,lY.nil _ _⟩):p:=h
theorem Q20(h:p:=by
 go_wp2_with fail;go_ret;exact⟨rfl,K4.F.2.2⟩):p:=h
theorem Q21(h:p:=by
 rw[Int.sub_mul,Int.one_mul]at m2;refine⟨?_,?_,?_,?_,?_,?_⟩<;>simp only[]<;>omega):p:=h
theorem Q22(h:p:=by
 go_wp2_with fail;go_ret;exact⟨rfl,K2.I⟩):p:=h
theorem Q23(h:p:=by
 simpa[Nat.add_assoc,Nat.add_comm 1]using this):p:=h
theorem Q24(h:p:=by
 have hk:=(fX.1 h).1;have e:L[k]=x:=Q3F;rw[tX hk,e];rfl):p:=h
theorem Q25(h:p:=by
 simp[aW,results275,go_sem,cT (fF gU.I jV.I)]):p:=h
theorem Q26(h:p:=by
 intro hx;obtain⟨i,hi⟩:=Rh (show(-128:Int)∈dU _ _ from hx);exact key _ hi):p:=h
theorem Q27(h:p:=by
 intro a ha e;have:=KR.F.1.2.bC U ha;omega):p:=h
theorem Q28(h:p:=by
 go_ret2
 exact⟨_,_,_,rfl,(HB.I.bI 1).step (aD _ _),lY.new hr bK HB.I.size⟩):p:=h
theorem Q29(h:p:=by
 have h1:=bH ff.F.2.2.1;have h2:=hg.1;have h3:=bH wK.I.aN;rw[bF]at h2;omega):p:=h
theorem Q2a(h:p:=by
 exact⟨_,_,_,_,_,_,_,_,_,rfl,ai.zero _ _ _,ai.zero _ _ _,ai.zero _ _ _,hb⟩):p:=h
theorem Q2b(h:p:=by
 go_wp2;go_ret;exact⟨rfl,K2.I.aN.2.2⟩):p:=h
theorem Q2c(h:p:=by
 exact mU.I.eJ (λa ha=>by cases ha;show iY.heap.size≠W.heap.size+1+1;omega)):p:=h
theorem Q2d(h:p:=by
 rw[<-ht];unfold Fw.last;rw[ik,gB,cR U];simp[cR (show n1<l.length by omega)]):p:=h
theorem Q2e(h:p:=by
 have e:L.getD j (0,0,0)=L[j]:=by simp[dV,h]
 rw[e,sV h];exact⟨rfl,jZ h⟩):p:=h
theorem Q2f(h:p:=by
 rw[ib];exact J2 _ _ _ _ _ _ _):p:=h
theorem Q2g(h:p:=by
 clear iL iJ jH oK D5 oM Jg g7;go_wp2_with fail;go_meet
 exact⟨rfl,rfl⟩):p:=h
theorem Q2h(h:p:=by
 have:i<d.length:=by rw[h0.bA];exact hi
 exact C5 _ (by simp[dV,cR this])):p:=h
theorem Q2i(h:p:=by
 have:=nZ (P*Q) (show n+1<=N by omega);rw[Nat.succ_mul]at this;omega):p:=h
theorem Q2j(h:p:=by
 go_wp2_with fail;rw[<-dB.I];go_ret;exact⟨rfl,K6.F.1.2.step hb⟩):p:=h
theorem Q2k(h:p:=by
 have:=hc j hj;unfold kY at this⊢;rw[h.block b g1 g2];exact this):p:=h
theorem Q2l(h:p:=by
 obtain⟨b',Sf,e,hc⟩:=h.cells h0
 cases e;exact jY w _ (hc 0 h0)):p:=h
theorem Q2m(h:p:=by
 exact qM.I.eJ (λx hx=>E (Kq.I x hx))):p:=h
theorem Q2n(h:p:=by
 rw[bF]at hr;exact⟨_,_,_,rfl,HB.I.step (aD _ _),lY.new hr bK U⟩):p:=h
theorem Q2o(h:p:=by
 exact il.I.eJ (λa ha=>by cases ha;show g≠W.heap.size+1+1;omega)):p:=h
theorem Q2p(h:p:=by
 rw[<-hF];rcases(show slot=0\/slot=1 by omega)with rfl|rfl<;>omega):p:=h
theorem Q2q(h:p:=by
 intro w' hw';obtain⟨s1,s2,s3,s4⟩:=hw';go_simp;try with_reducible rfl):p:=h
theorem Q2r(h:p:=by
 unfold aS;dsimp only
 obtain⟨r0,r1,r2,r3,r4,r5⟩:=aY K4.F.2.2.2;have gX:bp<ab:=E (bH (KR.F.2.1));have nV:=V (jQ (g:=ab) (x:=O ra rl rc) (y:=Y Z rt.e) (z:=O rb rm rk) K4.F.1.2.2.1 U);have vT:=V (jQ (g:=ab) (x:=O ra rl rc) (y:=Y Z rt.e) (z:=O rb rm rk) zy.I U);have Gx:=V (oV (a:=O ra rl rc) (b:=Y Z rt.e) (c:=O rb rm rk) K4.F.2.2.2);have dO:=V (cL K4.F.1.2.2.2 (show w.heap.size<=ab by omega) (O ra rl rc) (Y Z rt.e) (O rb rm rk));have wH:=V (aw (uL.I.1.nA (g:=ab) (x:=O ra rl rc) (y:=Y Z rt.e) (z:=O rb rm rk) (lK.1)) (uL.I.2.nA (g:=ab) (x:=O ra rl rc) (y:=Y Z rt.e) (z:=O rb rm rk) lK.2));go_upto_region 19 with fail;exact Q02):p:=h
theorem Q2s(h:p:=by
 refine Lt.all (rs:=[12]) kr bK ?_;intro i hq;obtain rfl:i=12:=Q2X;clear hq;refine Lt.step rfl (λK hK=> ?_);refine lM _ cJ _ _ _ cJ B 3 j0 _ 1 8 underlying55 ji Tb Tc Td rfl U vf n (ys.map (Y Z)) cJ sD.I.two.snd ⟨A2,0,G⟩ 1 1 [Y Z b] cJ cJ (Hm n2) Q35 U Q2V U sD.I.two.base _ rfl ?_;intro g2 Te w2 fT lh oU fC;have mK:=V (sD.I.snd kK ui dK ER fT lh oU);exact Q03):p:=h
theorem Q2t(h:p:=by
 go_wp2_with fail;rw[<-dB.I];refine aZ (v:=aL #[aF #[O ra rl rc,Y Z TN.e,O rb rm rk],aK true,Y Z TE]) ?_ rfl ⟨_,rfl,⟨ra,rl,rc,rb,rm,rk,rfl,(HA.I.1.nA HA.I.2.2.1).nA HA.I.2.2.2.1,(HA.I.2.1.nA HA.I.2.2.2.2.1).nA HA.I.2.2.2.2.2⟩,cL (cL K6.F.1.2.2.2.2 U _ _ _) U _ _ _⟩;simp[aW,results193,go_sem,cT (jQ (g:=W+1+1+1+1) (x:=O ra rl rc) (y:=Y Z TN.e) (z:=O rb rm rk) K6.F.1.2.2.1 U)]):p:=h
theorem Q2u(h:p:=by
 have e3:((dl:Int) != 3)=true:=Q2R;go_enter func91,ntmps91;go_wp2_with fail;exact aZ (v:=aL #[O G 0 0,aK ae]) Q41 rfl (sU.nil rfl K1.F.2)):p:=h
theorem Q2v(h:p:=by
 intro g2 c2 W2 fT lh oU fC;have jI:=V (jT.I.row (x:=rg) (cs:=#[O jw rn rh]) ⟨_,_,_,rfl,gG.I.weak (λb h=>⟨(ri.I b h.1).2.2.2,(ri.I b h.1).2.1.1,(ri.I b h.1).2.1.2.1,λe=>pX b h (by injection e)⟩)⟩ (n:=k+2) (by rw[sJ.I]) fT lh oU);refine bB hK (⟨jI.I.bC,gI lh Ci.I (λe=>by have h1:=Aj.I _ e;omega)⟩) ?_;exact Q09):p:=h
theorem Q2w(h:p:=by
 go_wp2_with fail;go_meet
 exact⟨rfl,rfl⟩):p:=h
theorem Q2x(h:p:=by
 go_wp2_with fail;all_goals(go_ret;exact⟨Q3N,HB.I⟩)):p:=h
theorem Q2y(h:p:=by
 go_enter func58,ntmps58;go_wp2;go_ret;exact⟨rfl,K1.F.2⟩):p:=h
theorem Q2z(h:p:=by
 obtain rfl:0=R:=by
  rw[<-HR.I];unfold D.aH;rw[aR Fo.I,aR (D.OU rK.I (E HN.I))]
 clear hb rK;exact Q1q):p:=h
theorem Q2A(h:p:=by
 simp[aW,results78,go_sem,t0,t1]):p:=h
theorem Q2B(h:p:=by
 go_wp2_with fail;refine bY (PO.I _) λw2 hb=> ?_;have hB:=V ((aD w _).step hb);clear hb;exact Q0P):p:=h
theorem Q2C(h:p:=by
 go_simp;refine bB hK qF ?_;refine bW ?_;go_upto_region 19 with fail;clear iU qF;exact Q02):p:=h
theorem Q2D(h:p:=by
 have h:=xL Z6.lt (show T2<D1 by omega);rw[r7,uU,Nat.mul_assoc,Nat.mul_assoc,eI]at h;exact h):p:=h
theorem Q2E(h:p:=by
 refine bB hK bX ?_;refine bR bX [6] (λ_ h=>aw h.1 h.2) (bW ?_);clear hr hS gN;exact Q1j):p:=h
theorem Q2F(h:p:=by
 generalize ss w7 ⟨bo,2,G⟩ (O g1 (j+1) fh)=w8 at*;refine Lt.over kr ?_ _;exact Q0s):p:=h
theorem Q2G(h:p:=by
 clear h;go_enter func88,ntmps88;exact Q0d):p:=h
theorem Q2H(h:p:=by
 go_enter func264,ntmps264;exact Q0d):p:=h
theorem Q2I(h:p:=by
 go_enter func318,ntmps318;exact Q0d):p:=h
theorem Q2J(h:p:=by
 go_enter func137,ntmps137;exact Q0d):p:=h
theorem Q2K(h:p:=by
 go_enter func174,ntmps174;exact Q0d):p:=h
theorem Q2L(h:p:=by
 apply Int.ediv_le_of_le_mul U;omega):p:=h
theorem Q2M(h:p:=by
 clear cC bM cN ei;refine Lt.take (i:=13) (v:= ?_) rfl kr (λ_ _ _ h=>h) (aM ⟨Q3u,?_⟩) hS ?_;rotate_left
 .exact Q2q
 try simp only[eR,dC,dD,dE]
 exact Q2s):p:=h
theorem Q2N(h:p:=by
 rcases cN with h1|h1
 .have:=AE.I _ h1;omega
 .simp only[World.size_drew,bF]at h1;omega):p:=h
theorem Q2O(h:p:=by
 rcases cN with h|h
 .exact dh _ h
 .have:g1=w6.heap.size+1:=by simpa using h
  omega):p:=h
theorem Q2P(h:p:=by
 rcases cN with h|h
 .exact dh _ h
 .have:g1=wr.heap.size+1:=by simpa using h
  omega):p:=h
theorem Q5q(h:p:=by simp[aX];omega):p:=h
theorem Q2Q(h:p:=by kernel_rfl):p:=h
theorem Q2R(h:p:=by simp;omega):p:=h
theorem Q2S(h:p:=by show w.heap.size<=w+1;omega):p:=h
theorem Q2T(h:p:=by go_num):p:=h
theorem Q2U(h:p:=by first|exact λ_ _ _ _ _ h=>h|exact λ_ _ _ _ _ h=>jM.I _ _ _ _ _ h):p:=h
theorem Q2V(h:p:=by unfold eS;omega):p:=h
theorem Q2W(h:p:=by simp):p:=h
theorem Q2X(h:p:=by simpa using hq):p:=h
theorem Q2Y(h:p:=by rw[bF];omega):p:=h
theorem Q2Z(h:p:=by constructor<;>intros<;>first|kernel_rfl|(constructor<;>intros<;>first|kernel_rfl|(constructor<;>intros<;>kernel_rfl))):p:=h
theorem Q30(h:p:=by rw[HL.I];exact aT):p:=h
theorem Q31(h:p:=by simp only[dG,ZY.fI];omega):p:=h
theorem Q32(h:p:=by simpa using h):p:=h
theorem Q33(h:p:=by simp[IntKind.wrap,nG,nD];omega):p:=h
theorem Q34(h:p:=by rw[dp]at h;exact h):p:=h
theorem Q35(h:p:=by simp[fV]):p:=h
theorem Q36(h:p:=by rw[pT];omega):p:=h
theorem Q37(h:p:=by simpa using hz):p:=h
theorem Q38(h:p:=by cases h):p:=h
theorem Q39(h:p:=by have:=uf R k s 0;rw[HP.I]at this;omega):p:=h
theorem Q3a(h:p:=by have:=uf C k s 0;rw[HQ.I]at this;omega):p:=h
theorem Q3b(h:p:=by rw[hx];rfl):p:=h
theorem Q3c(h:p:=by rw[bX,dp]at h;exact h):p:=h
theorem Q3d(h:p:=by simpa using he):p:=h
theorem Q3e(h:p:=by repeat(first|exact eG _ _|refine Below.bI ?_ 1|refine Below.alloc ?_ bK _)):p:=h
theorem Q3f(h:p:=by simp[Lit.wf,IntKind.min,IntKind.max,nD,nG];omega):p:=h
theorem Q3g(h:p:=by rw[h0]at HL;exact List.length_eq_zero_iff.1 HL.I):p:=h
theorem Q3h(h:p:=by decide):p:=h
theorem Q3i(h:p:=by simp at hn⊢;omega):p:=h
theorem Q3j(h:p:=by show ¬(bw=bo\/bw=bf);omega):p:=h
theorem Q3k(h:p:=by rw[HL.I];exact bu _):p:=h
theorem Q3l(h:p:=by rw[dv _ U];omega):p:=h
theorem Q3m(h:p:=by simp[dV,cR gS]):p:=h
theorem Q3n(h:p:=by rw[<-iW.I,sx.2 (by rw[HL.I];exact bu _)];rfl):p:=h
theorem Q3o(h:p:=by unfold Lay.cells at h;exact bE h):p:=h
theorem Q3p(h:p:=by have:=HK.I.size;rw[HB.I]at this;exact this):p:=h
theorem Q3q(h:p:=by simp[aW,results8]):p:=h
theorem Q3r(h:p:=by rw[bne_iff_ne];omega):p:=h
theorem Q3s(h:p:=by have:=lv.I x hx;have:w5.drew.heap.size=w5.heap.size:=rfl;omega):p:=h
theorem Q3t(h:p:=by cases hx):p:=h
theorem Q3u(h:p:=by rfl):p:=h
theorem Q3v(h:p:=by have:=fH.size;rw[HC.I]at this;exact this):p:=h
theorem Q3w(h:p:=by simpa using hy):p:=h
theorem Q3x(h:p:=by rw[gB,cR (show j<d.length by rw[oN.I];exact hj)];exact jZ _):p:=h
theorem Q3y(h:p:=by have:=(nL x hx).1;omega):p:=h
theorem Q3z(h:p:=by unfold wrap32;exact IntKind.wrap_i32 _):p:=h
theorem Q3A(h:p:=by cases hx;show bd≠w.heap.size+1;omega):p:=h
theorem Q3B(h:p:=by rw[bF];exact cN):p:=h
theorem Q3C(h:p:=by rw[Int.tdiv_eq_ediv_of_nonneg U,<-pk,Int.natCast_ediv]):p:=h
theorem Q3D(h:p:=by cases hy;show w.heap.size<=w2;omega):p:=h
theorem Q3E(h:p:=by cases ha;show W.heap.size<=g;omega):p:=h
theorem Q3F(h:p:=by rw[cR hk]at h;injection h):p:=h
theorem Q3G(h:p:=by simp[aW,results112]):p:=h
theorem Q3H(h:p:=by rw[Aw.I,show cr.wrap sv=wrap32 sv from(by unfold wrap32;exact IntKind.wrap_i32 _)];exact zP yN.I _):p:=h
theorem Q3I(h:p:=by have h1:=AE.I _ e;omega):p:=h
theorem Q3J(h:p:=by go_simp):p:=h
theorem Q3K(h:p:=by have:=Ec.I;rw[dI h.1,dI h.2]at this;cases this):p:=h
theorem Q3L(h:p:=by have ho:B<=b/\b≠xo:=ho;omega):p:=h
theorem Q3M(h:p:=by simpa using jn):p:=h
theorem Q3N(h:p:=by simp_all):p:=h
theorem Q3O(h:p:=by rw[L0.I];exact aT):p:=h
theorem Q3P(h:p:=by have h:b=w.heap.size:=h;omega):p:=h
theorem Q3Q(h:p:=by rw[<-h0.bA,<-h1.bA,e]):p:=h
theorem Q3R(h:p:=by rw[<-sM];exact Nat.le_mul_of_pos_right _ U):p:=h
theorem Q3S(h:p:=by rw[<-r7];exact Nat.le_mul_of_pos_right _ U):p:=h
theorem Q3T(h:p:=by show bw<w5;omega):p:=h
theorem Q3U(h:p:=by rw[gB,cR (by rw[uK];exact En)];exact jZ _):p:=h
theorem Q3V(h:p:=by show ¬((_:Int)=0);first|exact(by decide:¬(2:Int)=0)|exact(by decide:¬(1:Int)=0)):p:=h
theorem Q3W(h:p:=by rw[<-g7];exact(dI (bJ (bJ (aM U)))).symm):p:=h
theorem Q3X(h:p:=by cases ha;exact⟨by show iY.heap.size<BL;omega,by show iY.heap.size≠g;omega⟩):p:=h
theorem Q3Y(h:p:=by rw[oG.I];exact bu _):p:=h
theorem Q3Z(h:p:=by rw[qh]at h;exact⟨U,U⟩):p:=h
theorem Q40(h:p:=by obtain⟨_,_,_,hb,_⟩:=hr;exact bH hb):p:=h
theorem Q41(h:p:=by simp[aW,results91]):p:=h
theorem Q42(h:p:=by simp[aW,results49]):p:=h
theorem Q43(h:p:=by rcases h with h|h;exact(E (Jv b h));exact(by have h:b=w.heap.size:=h;omega)):p:=h
theorem Q44(h:p:=by simpa using c2):p:=h
theorem Q45(h:p:=by simpa using c1):p:=h
theorem Q46(h:p:=by rw[T.Dh];omega):p:=h
theorem Q47(h:p:=by rw[Jf e];exact⟨U,id⟩):p:=h
theorem Q48(h:p:=by simp[aW,results7]):p:=h
theorem Q49(h:p:=by simp[aW,results6]):p:=h
theorem Q4a(h:p:=by rw[<-g7];exact(dI (bJ (aM U))).symm):p:=h
theorem Q4b(h:p:=by simp at h):p:=h
theorem Q4c(h:p:=by rw[bX];exact mR.I.and (aE.cell cn)):p:=h
theorem Q4d(h:p:=by rw[<-pk];exact Nat.div_le_self _ _):p:=h
theorem Q4e(h:p:=by have:=EF 0 _ rfl;simpa using this):p:=h
theorem Q4f(h:p:=by show t.k.ops<=_;omega):p:=h
theorem Q4g(h:p:=by rw[<-dY.bA];exact Hn hP hQ hi kt):p:=h
theorem Q4h(h:p:=by rw[show(k:Int)+1=((k+1:Nat):Int) by omega];exact iZ _ ⟨U,U⟩):p:=h
theorem Q4i(h:p:=by repeat(first|exact eG _ _|refine Below.bI ?_ 1|refine Bq ?_ _)):p:=h
theorem Q4j(h:p:=by have:=lf.I x hx;have:w5.drew.heap.size=w5.heap.size:=rfl;omega):p:=h
theorem Q4k(h:p:=by rw[gB,cR (show 0<d.length by rw[hd.bA];exact h1)];exact jZ _):p:=h
theorem Q4l(h:p:=by simpa using hl):p:=h
theorem Q4m(h:p:=by simpa using hj):p:=h
theorem Q4n(h:p:=by rw[HC.I];exact bu _):p:=h
theorem Q4o(h:p:=by have h:=hg.1;rw[bF]at h;omega):p:=h
theorem Q4p(h:p:=by repeat(first|exact E8.I|refine ai.Ou ?_ _|refine ai.Ba ?_)):p:=h
theorem Q4q(h:p:=by intro z hz;simp at hz;rcases hz with rfl|rfl|rfl|rfl<;>rfl):p:=h
theorem Q4r(h:p:=by rw[gB,cR (show 0<f.length by rw[h1.bA];omega)];exact jZ _):p:=h
theorem Q4s(h:p:=by simp[aW,results34]):p:=h
theorem Q4t(h:p:=by rw[D.OW (k:=k) (E HN.I) (by rw[HG.I];exact mJ.I)];decide):p:=h
theorem Q4u(h:p:=by simp only[bF]):p:=h
theorem Q4v(h:p:=by rw[<-hlen];simp only[dG,ZY.fI,n8,List.length_nil];omega):p:=h
theorem Q4w(h:p:=by have:=Ec.I;simpa using this):p:=h
theorem Q4x(h:p:=by have h:=HR.I;rwa[aI bK]at h):p:=h
theorem Q4y(h:p:=by rw[Int.tmod_eq_emod_of_nonneg U,<-pI,Int.natCast_emod]):p:=h
theorem Q4z(h:p:=by have h:=HR.I;first|rwa[aR k5]at h|rwa[aI k5,aR k6]at h):p:=h
theorem Q4A(h:p:=by simp[aW,results4]):p:=h
theorem Q4B(h:p:=by simp[aW,results3]):p:=h
theorem Q4C(h:p:=by rw[qy.I];exact aT):p:=h
theorem Q4D(h:p:=by cases hx;exact ho.lt _ rfl):p:=h
theorem Q4E(h:p:=by unfold Rd.wid Rd.iC;omega):p:=h
theorem Q4F(h:p:=by unfold Rd.val Rd.iC;omega):p:=h
theorem Q4G(h:p:=by rw[jR];omega):p:=h
theorem Q4H(h:p:=by rcases e with e|e<;>omega):p:=h
theorem Q4I(h:p:=by simpa using ho.1):p:=h
theorem Q4J(h:p:=by have:=(Mod.nT mm).2.2.2.2.2.2.2.1;have:=HL.I;omega):p:=h
theorem Q4K(h:p:=by rw[pS.1 hz];exact gF U U):p:=h
theorem Q4L(h:p:=by trivial):p:=h
theorem Q4M(h:p:=by simp[ZY.fI]):p:=h
theorem Q4N(h:p:=by rw[size_madeCells];simp):p:=h
theorem Q4O(h:p:=by rw[<-kx.I,aR (eZ Ee.I)]):p:=h
theorem Q4P(h:p:=by rw[<-cU.I,aR U]):p:=h
theorem Q4Q(h:p:=by cases e):p:=h
theorem Q4R(h:p:=by rw[HS.I,kF];exact mO.I):p:=h
theorem Q4S(h:p:=by rw[<-qN];exact mq b1 U):p:=h
theorem Q4T(h:p:=by rw[<-h0.bA];exact ho.1):p:=h
theorem Q4U(h:p:=by have:=iW.I;rw[Nat.sub_self]at this;exact this):p:=h
theorem Q4V(h:p:=by cases ha;show W.heap.size<=iY.heap.size;omega):p:=h
theorem Q4W(h:p:=by simpa using k1):p:=h
theorem Q4X(h:p:=by simpa using jl):p:=h
theorem Q4Y(h:p:=by simpa using ht):p:=h
theorem Q4Z(h:p:=by simpa using hm):p:=h
theorem Q50(h:p:=by simpa using hb):p:=h
theorem Q51(h:p:=by simpa using h1):p:=h
theorem Q52(h:p:=by simpa using c6):p:=h
theorem Q53(h:p:=by simp[hy]):p:=h
theorem Q54(h:p:=by rw[ib,HL.I,lA]):p:=h
theorem Q55(h:p:=by rw[HS.I]):p:=h
theorem Q56(h:p:=by rw[(List.mem_replicate.1 hz).2];exact yw U U):p:=h
theorem Q57(h:p:=by rw[List.take_zero];exact gy.nil _ _ _ _ _ _):p:=h
theorem Q58(h:p:=by rw[<-Iu.I];kernel_rfl):p:=h
theorem Q59(h:p:=by have:=sP.I.size;omega):p:=h
theorem Q5a(h:p:=by rw[<-tN];exact Nat.le_mul_of_pos_right _ U):p:=h
theorem Q5b(h:p:=by have:=HK.I.size;rw[Ip.I]at this;exact this):p:=h
theorem Q5c(h:p:=by rw[e]at hr;have:=hr.bA;simp at this;omega):p:=h
theorem Q5d(h:p:=by rw[Sc.eF,ib,hs _ bK]):p:=h
theorem Q5e(h:p:=by rw[HS.I,kF];exact cC):p:=h
theorem Q5f(h:p:=by rw[<-uT];exact bH hA):p:=h
theorem Q5g(h:p:=by have:=cW.size;rw[eV.I]at this;exact this):p:=h
theorem Q5h(h:p:=by simp[aW,results135]):p:=h
theorem Q5i(h:p:=by simp[aW,results134]):p:=h
theorem Q5j(h:p:=by simp only[bF];omega):p:=h
theorem Q5k(h:p:=by rw[qy.I];exact bu _):p:=h
theorem Q5l(h:p:=by rw[HS.I];exact uD.I):p:=h
theorem Q5m(h:p:=by rw[HG.I];exact bu _):p:=h
theorem Q5n(h:p:=by rw[HB.I];exact bu _):p:=h
theorem Q5o(h:p:=by rw[<-hl.1];exact Ek):p:=h
theorem Q5p(h:p:=by rw[<-gQ,uS,<-gQ,qN]):p:=h
end
variable {K:Act->H->Prop} {p:Addr} {listed:Array Bool} {ops:Array Oper} {s:BitVec 32} {Q:Exit->Act->H->Prop} {w w':H} {R Z8 hi lo m n x y:Int} {t:Int×Int×Int} {rs:List Nat} {rest:List Oper} {xs:List aj} {b base by' c cap e fuel i len:Nat} {S:Nat->Prop} {o:Obj} {a:aC} {d l ys z zs:ah} {od oe u v:aj} {k:ey}
def ai (k:ey) (w:H) (a:aC) (len:Nat) (zs:ah):Prop:=
 zs.length=len/\len<=140737488351232/\(∀z∈zs,(cX k z).wf=true)/\
 (len=0\/∃b off,a=A ⟨b,off,G⟩/\∀j,j<len->w ⟨b,off+j,G⟩=A (Y k (zs.getD j 0)))
def JO (k:ey) (by':Nat) (w:H) (a:aC) (len cap:Nat) (zs:ah):Prop:=
 (a=G/\len=0/\cap=0/\zs=[])\/
 ∃x,a=A x/\len<=cap/\cap*by'<=140737488351232/\zs.length=cap/\(∀i,i<zs.length->w.cell? (x.add i)=A (Y k (zs.getD i 0)))/\∀n∈zs,(cX k n).wf=true
theorem JO.af2 (h:JO k by' w a len cap zs) (hb:1<=by'):len<=cap/\cap<=140737488351232:=by
 rcases h with⟨rfl,rfl,rfl,rfl⟩|⟨x,rfl,hl,hm,hz,hc,hw⟩
 .exact⟨bu _,cK _⟩
 .exact⟨hl,eH (Nat.le_mul_of_pos_right cap hb) hm⟩
theorem JO.at (h:JO k by' w a len cap zs) (hb:1<=by'):ai k w a len (zs.take len):=by
 have hle:=h.af2 hb;rcases h with⟨rfl,rfl,rfl,rfl⟩|⟨x,rfl,hl,hm,hz,hc,hw⟩
 .exact⟨rfl,U,Q2W,aM rfl⟩
 .refine⟨Q2R,U,λz EG=>hw z (List.mem_of_mem_take EG),?_⟩;by_cases h0:len=0
  .exact aM h0
  .obtain⟨b,off,spot⟩:=x;have NH:spot=G:=by simpa[Addr.add]using World.cell?_spot (hc 0 U)
   subst NH;refine bJ ⟨b,off,rfl,λj hj=> ?_⟩;have t8:=hc j U;have e:(⟨b,off,G⟩:Addr).add j=⟨b,off+j,G⟩:=by
    exact Q1M
   rw[e]at t8;rw[t8];simp[dV,hj]
theorem ai.bA (h:ai k w a len zs):zs.length=len:=h.1
theorem ai.eC (h:ai k w a len zs):len<=140737488351232:=h.2.1
theorem ai.wf (h:ai k w a len zs):∀z∈zs,(cX k z).wf=true:=h.2.2.1
theorem ai.cells (h:ai k w a len zs) (h0:0<len):
 ∃b off,a=A ⟨b,off,G⟩/\∀j,j<len->w ⟨b,off+j,G⟩=A (Y k (zs.getD j 0)):=by
 rcases h.2.2.2 with h'|h'
 .omega
 .exact h'
theorem ai.mono (h:ai k w a len zs) (hc:∀p v,w.cell? p=A v->w'.cell? p=A v):ai k w' a len zs:=by
 obtain⟨h1,h2,h3,h4⟩:=h;refine⟨h1,h2,h3,?_⟩;rcases h4 with h4|⟨b,off,e,hcell⟩
 .exact aM h4
 .exact bJ ⟨b,off,e,λj hj=>hc _ _ (hcell j hj)⟩
theorem ai.below (h:ai k w a len zs) (hb:ay w w w'):ai k w' a len zs:=
 h.mono λp _ hp=>(hb.cell (p:=p) (jY w p hp)).trans hp
theorem ai.take (h:ai k w a len zs) (n:Nat) (hn:n<=len):ai k w a n (zs.take n):=by
 obtain⟨h1,h2,h3,h4⟩:=h;refine⟨Q2R,U,λz EG=>h3 z (List.mem_of_mem_take EG),?_⟩;by_cases h0:n=0
 .exact aM h0
 .rcases h4 with h4|⟨b,off,e,hcell⟩
  .omega
  .refine bJ ⟨b,off,e,λj hj=> ?_⟩;rw[hcell j U];simp[dV,hj]
theorem ai.new (w:H) (k:ey) (e:dy) (fr:Nat×Nat) (zs:ah) (hw:∀z∈zs,(cX k z).wf=true) (hl:zs.length<=140737488351232):
 ai k (li w (ag (zs.map (Y k)).toArray e fr)) w zs.length zs:=by
 refine⟨rfl,hl,hw,bJ ⟨w.heap.size,0,rfl,λj hj=> ?_⟩⟩;rw[World.cell?_alloc_mark,nF];simp[dV,cR hj]
theorem ai.owned {g n:Nat} (h:w.ownsRow base e 1 (O g n cap) n (zs.map (Y k))) (hw:∀z∈zs,(cX k z).wf=true) (hl:n<=140737488351232):
 ai k w g n zs:=by
 have hlen:zs.length=n:=by simpa using h.1
 refine⟨hlen,hl,hw,bJ ⟨g,0,rfl,λj hj=> ?_⟩⟩;rw[nF,h.cellAt j U];simp[dV,cR (show j<zs.length by omega)]
theorem af3 {P:Program} (w:H) {o:Oper} {a:Act} (ld:n9 o (yielded ops a.tmps)=true) (s x:Operand) (t:dy)
 (ho:o.op= .call {callee:= .builtin .append,args:=#[s,x],argTypes:=#[t,t]})
 (base:Nat) (e:dy) (i:TypeInfo) (z:aj) (size bytes:Nat) (ht:P.underlying t=A (.slice e)) (hi:P.info? e=A i) (hz:i.zero=A z)
 (JQ:i.size=size) (yg:i.bytes=bytes) (ud:z.cells.size=size) (dQ:0<size)
 (v:aj) (n:Nat) (xs:List aj) (hs:a.eval s=v) (aV:w.ownsRow base e size v n xs)
 (ad:Addr) (m c:Nat) (news:List aj) (hx:a.eval x=O (A ad) m c) (hl:news.length=m*size) (JS:∀j u,news[j]? =A u->w.cell? (ad.add j)=A u) (h1:∀u∈news,u.oneCell'=true)
 (JT:n+m<=eS) (G9:(n+m)*bytes<=140737488355328) (JU:base<=w) (hm:0<m)
 (h:∀g c' w',w'.ownsRow base e size (O (A ⟨g,0,G⟩) (n+m) c') (n+m) (xs++news)->w.grownBy w' v.ownBlock->base<=g/\g<w'.heap.size->wpList P ops Q rest (a.put o.dst (O (A ⟨g,0,G⟩) (n+m) c')) w'):wpList P ops Q (o::rest) a w:=
 BigFrame.wpList_want ld λ_ hK=>wp_append_own w s x t ho base e i z size bytes ht hi hz JQ yg ud dQ v n xs hs aV ad m c news hx hl JS h1 JT G9 JU λv' w' h2 h3 h4=>hK _ _<|by
  obtain⟨g,c',hv⟩:∃g c',v'=O (A ⟨g,0,G⟩) (n+m) c':=by
   rcases h2.2 with⟨h5,_⟩|⟨g,c',_,h5,_⟩
   .have:=(h4.1 h5).2;omega
   .exact⟨g,c',h5⟩
  have oR:w'.ownsRow base e size (O g (n+m) c') (n+m) (xs++news):=hv▸h2;rw[hv];exact h g c' w' oR h3 (oR.lt g rfl)
theorem _root_.Go.RowKit.Below.cell_of (hb:ay w w w') (h:w.cell? p=A v):w'.cell? p=A v:=(hb.cell (p:=p) (jY w p h)).trans h
def Ha (k:ey) (n:Nat) (zs:ah) (w:H) (e:dN) (w':H):Prop:=∃a cap,e=bG (O a n cap)/\ai k w' a n zs/\ay w w w'
def oa (v:aj) (w:H) (e:dN) (w':H):Prop:=e=bG v/\∃n,w'=w.drewN n
theorem below_drewN (w:H) (n:Nat):ay w w (w.drewN n):=⟨rfl,rfl,rfl,bu _,λ_ _=>rfl⟩
theorem _root_.Go.RowKit.Below.bI {B:Nat} {a:H} (h:ay B a w) (n:Nat):ay B a (w.drewN n):=⟨h.os,h.tape,h.output,h.size,h.block⟩
theorem kJ (w:H) (a:aj) (t:dy):∀j u,[a][j]? =A u->(li w (ag #[a] t)).cell? ((⟨w,0,G⟩:Addr).add j)=A u:=by
 intro j u hj
 match j,hj with
 |0,hj=>
  simp at hj;subst hj;show(li w (ag #[a] t)) w=_
  rw[World.cell?_alloc_new];rfl
 |j+1,hj=>simp at hj
theorem Se {B:Nat} {w0 wr:H} {size n:Nat} (h:ay B w0 wr) (hB:B<=wr) (aV:wr.ownsRow B e size v n xs) (hg:(li wr o).grownBy w' v.ownBlock):ay B w0 w':=
 (h.alloc hB o).grown hg Q2Y (λk hk=>(aV.lt k hk).1)
theorem af4 {n:Nat} (h:w.ownsRow base e 1 v n xs) (h0:0<n):∃g c,v=O (A ⟨g,0,G⟩) n c:=by
 rcases h.2 with⟨_,h'⟩|⟨g,c,_,h',_⟩
 .omega
 .exact⟨g,c,h'⟩
theorem _root_.Go.RowKit.Below.step {w1 w2:H} (h:ay w w w1) (k:ay w1 w1 w2):ay w w w2:=h.trans (k.mono h.size)
theorem NI {n:Nat} (hg:(li w o).grownBy w' (Value.ownBlock (O w n c))):ay w w w':=
 ((eG _ w).alloc (bu _) o).grown hg Q2Y (λk hk=>by simp only[Value.ownBlock,Option.some.injEq]at hk;omega)
theorem aD (w:H) (o:Obj):ay w w (li w o):=(eG _ w).alloc (bu _) o
theorem ai.news {off:Nat} (h:ai k w (A ⟨b,off,G⟩) len zs):∀j u,(zs.map (Y k))[j]? =A u->w.cell? ((⟨b,off,G⟩:Addr).add j)=A u:=by
 intro j u hu;have hj:j<zs.length:=by have:=(fX.1 hu).1;simpa using this
 obtain⟨b',Sf,e,hc⟩:=h.cells (by rw[<-h.bA];omega)
 cases e;rw[Addr.add_lit,hc j (by rw[<-h.bA];exact hj)];rw[List.getElem?_map,cR hj]at hu;simpa[dV,cR hj]using hu
theorem Hb (k:ey) (zs:ah):∀u∈zs.map (Y k),u.oneCell'=true:=by
 intro u hu;obtain⟨z,_,rfl⟩:=kG.1 hu;rfl
theorem ai.lt {off:Nat} (h:ai k w (A ⟨b,off,G⟩) len zs) (h0:0<len):b<w:=by
 exact Q2l
def dZ (v:aj) (w:H) (e:dN) (w':H):Prop:=e=bG v/\ay w w w'
theorem ai.zero (k:ey) (a:aC) (w:H):ai k w a 0 []:=⟨rfl,U,Q2W,aM rfl⟩
theorem jS {a b:Int} (h:a=b):bG (Y k a)=bG (Y k b):=by rw[h]
theorem pC {a b:Bool} (h:a=b):bG (aK a)=bG (aK b):=by rw[h]
def AP (n k s p:Int):Prop:=1<=n/\n<=16/\1<=k/\k<=5/\1<=s/\s<=4/\0<=p/\p<=k-1/\k<=n+2*p
instance (n k s p:Int):Decidable (AP n k s p):=by unfold AP;infer_instance
def bO (n k s p:Int):Int:=if AP n k s p then(n+2*p-k)/s+1 else 0
theorem YT (n lo hi:Int) (w:H) (h1:lo<=n) (h2:n<=hi):aA aq 264 #[Y Z n,Y Z lo,Y Z hi] w λe w'=>e=bG (aK true)/\w=w':=by
 exact Q2H
theorem af5 (n lo hi:Int) (w:H) (h:n<lo\/hi<n):aA aq 264 #[Y Z n,Y Z lo,Y Z hi] w λe w'=>e=bG (aK ae)/\w=w':=by
 by_cases h1:n<lo
 .clear h;exact Q2H
 .have h2:hi<n:=U;have h3:decide (n<=hi)=ae:=eP U;clear h;exact Q2H
theorem af6 (n k s p:Int) (w:H) (h:AP n k s p):aA aq 214 #[Y Z n,Y Z k,Y Z s,Y Z p] w λe w'=>e=bG (Y Z ((n+2*p-k)/s+1))/\w=w':=by
 obtain⟨h1,h2,h3,h4,h5,h6,h7,h8,h9⟩:=h;have d0:0<=(n+2*p-k)/s:=Int.ediv_nonneg U U;have d1:(n+2*p-k)/s<=100:=by
  exact Q2L
 go_enter func214,ntmps214;go_wp2_with (go_at_call 264;go_call YT as e w' ⟨rfl,rfl⟩)
 go_ret;exact⟨rfl,rfl⟩
theorem af7 (n k s p:Int) (w:H) (h:¬AP n k s p):aA aq 214 #[Y Z n,Y Z k,Y Z s,Y Z p] w λe w'=>e=bG (Y Z 0)/\w=w':=by
 have cs:(n<1\/16<n)\/(1<=n/\n<=16/\(k<1\/5<k))\/(1<=n/\n<=16/\1<=k/\k<=5/\(s<1\/4<s))\/(1<=n/\n<=16/\1<=k/\k<=5/\1<=s/\s<=4/\(p<0\/k-1<p))\/(1<=n/\n<=16/\1<=k/\k<=5/\1<=s/\s<=4/\0<=p/\p<=k-1/\n+2*p<k):=by
  unfold AP at h;omega
 clear h;rcases cs with h|⟨h1,h2,h⟩|⟨h1,h2,h3,h4,h⟩|⟨h1,h2,h3,h4,h5,h6,h⟩|⟨h1,h2,h3,h4,h5,h6,h7,h8,h⟩
 all_goals
  have ZW:=V h;try(clear h;have H2:=ZW.I)
  go_enter func214,ntmps214;go_wp2_with (go_at_call 264;first|go_call YT as e w' ⟨rfl,rfl⟩|go_call af5 as e w' ⟨rfl,rfl⟩)
  go_ret;exact⟨rfl,rfl⟩
theorem Sg (n k s p:Int) (w:H):aA aq 214 #[Y Z n,Y Z k,Y Z s,Y Z p] w λe w'=>e=bG (Y Z (bO n k s p))/\w=w':=by
 unfold bO;split
 .exact af6 n k s p w ‹_›
 .exact af7 n k s p w ‹_›
namespace Sh
def lC (n:Int):List Int->Int
 | []=>n
 |x::l=>if x<1\/4096<x\/8192<n*x then 0 else lC (n*x) l
def size (d:ah):Int:=if d.length<1\/4<d.length then 0 else lC 1 d
theorem drop_cons (d:ah) (k:Nat) (h:k<d.length):d.drop k=d.getD k 0::d.drop (k+1):=by
 rw[tX h];simp[dV,cR h]
theorem Cy (h:x<1\/4096<x\/8192<n*x):lC n (x::l)=0:=by simp[lC,h]
theorem Hd (h:¬(x<1\/4096<x\/8192<n*x)):lC n (x::l)=lC (n*x) l:=by simp[lC,h]
theorem He (h1:1<=n) (h2:n<=8192) (h3:1<=x) (h4:x<=4096):1<=n*x/\n*x<=33554432:=by
 have a:n*x<=8192*x:=vv h2 U;have b:1*x<=n*x:=vv h1 U;omega
end Sh
theorem af9 (a:aC) (len cap:Nat) (zs:ah) (w:H) (h:ai Z w a len zs) (h1:1<=len) (h4:len<=4):
 aA aq 116 #[O a len cap] w λe w'=>e=bG (Y Z (Sh.lC 1 zs))/\w=w':=by
 obtain⟨b,off,rfl,hc⟩:=h.cells U;have hl:=V h.bA;have HC:=V hc;clear h hc;go_enter func116,ntmps116;go_wp2;go_loop [3,16] (λn i=>∃(k:Nat) (N:Int),k<=len/\1<=N/\N<=8192/\i=Y Z k/\n=Y Z N/\Sh.lC N (zs.drop k)=Sh.lC 1 zs) (λ_ i=>len-(aX i).toNat)
 case atStart=>exact⟨0,1,cK _,U,U,rfl,rfl,rfl⟩
 case round=>
  obtain⟨k,N,hk,n1,n2,rfl,rfl,hs⟩:=hrel;by_cases aT:k<len
  .have NL:=HC.I k aT;rw[Sh.drop_cons zs k (E hl.I)]at hs;generalize zs.getD k 0=x at*;by_cases c1:x<1
   .rw[Sh.Cy (aM c1)]at hs;have HS:=V hs;clear hs;exact Q1A
   .by_cases c2:4096<x
    .rw[Sh.Cy (bJ (aM c2))]at hs;have HS:=V hs;clear hs;exact Q1A
    .obtain⟨m1,m2⟩:=Sh.He n1 n2 (show 1<=x by omega) (show x<=4096 by omega);by_cases c3:8192<N*x
     .rw[Sh.Cy (bJ (bJ c3))]at hs;have HS:=V hs;clear hs;exact Q1A
     .rw[Sh.Hd U]at hs;have HS:=V hs;clear hs;exact Q1T
  .have yh:k=len:=U;have HS:=V (by rw[yh,List.drop_of_length_le (E hl.I)]at hs;exact hs:Sh.lC N []=Sh.lC 1 zs);clear hs yh;exact Q1A
theorem afa (a:aC) (len cap:Nat) (w:H) (h:len<1\/4<len) (hb:len<=140737488351232):
 aA aq 116 #[O a len cap] w λe w'=>e=bG (Y Z 0)/\w=w':=by
 rcases h with h|h
 all_goals
  go_enter func116,ntmps116;go_wp2;go_ret;exact⟨rfl,rfl⟩
theorem EH (a:aC) (len cap:Nat) (zs:ah) (w:H) (h:ai Z w a len zs):
 aA aq 116 #[O a len cap] w λe w'=>e=bG (Y Z (Sh.size zs))/\w=w':=by
 unfold Sh.size;rw[h.bA];by_cases c:len<1\/4<len
 .rw[aR c];exact afa a len cap w c h.eC
 .rw[aI c];exact af9 a len cap zs w h U U
theorem Hf (a:aC) (len cap:Nat) (zs:ah) (w:H) (h:ai Z w a len zs):
 aA aq 51 #[O a len cap] w λe w'=>e=bG (aK (decide (0<Sh.size zs)))/\w=w':=by
 have ZW:=V h;clear h;go_enter func51,ntmps51;go_wp2_with fail;refine cq (EH _ _ _ _ _ ZW.I) ?_;go_wp2;go_ret;exact⟨rfl,rfl⟩
namespace Sh
def prod:List Int->Int
 | []=>1
 |x::l=>x*prod l
theorem YU:∀(l:ah) (n:Int),1<=n->n<=8192->0<lC n l->lC n l=n*prod l/\(∀x∈l,1<=x/\x<=4096)/\n*prod l<=8192
 | [],n,_,h,_=>by simp[lC,prod];omega
 |x::l,n,h1,h2,h=>by
  by_cases c:x<1\/4096<x\/8192<n*x
  .rw[Cy c]at h;omega
  .rw[Hd c]at h⊢;have m:=He h1 h2 (show 1<=x by omega) (show x<=4096 by omega);obtain⟨e,hx,hb⟩:=YU l (n*x) m.1 U h;refine⟨by rw[e,prod,pU],λy hy=> ?_,by rw[prod,<-pU];exact hb⟩;rcases jy.1 hy with rfl|hy
   .omega
   .exact hx y hy
theorem NM:∀(l:ah),(∀x∈l,1<=x)->1<=prod l
 | [],_=>by simp[prod]
 |x::l,h=>by
  have a:=h x bK;have b:=NM l λy hy=>h y Q53;rw[prod];have:=vv a (show 0<=prod l by omega);omega
structure May (d:ah):Prop where
 l1:1<=d.length
 l4:d.length<=4
 eq:size d=prod d
 each:∀x∈d,1<=x/\x<=4096
 le:prod d<=8192
theorem iA (h:0<size d):May d:=by
 unfold size at h;split at h
 .omega
 .rename_i c;obtain⟨e,hx,hb⟩:=YU d 1 U U h;rw[Int.one_mul]at e hb;exact⟨U,U,by unfold size;rw[aI c,e],hx,hb⟩
theorem May.one (h:May d):1<=prod d:=NM d λx hx=>(h.each x hx).1
theorem afb (d:ah) (k:Nat) (h:k<d.length):prod (d.drop k)=d.getD k 0*prod (d.drop (k+1)):=by rw[drop_cons d k h];rfl
theorem May.afc (h:May d) (k:Nat):1<=prod (d.drop k):=NM _ λx hx=>(h.each x (List.mem_of_mem_drop hx)).1
theorem afd (h1:1<=x) (h2:1<=y):y<=x*y:=by
 have:=vv h1 (show 0<=y by omega);omega
theorem May.get (h:May d) {k:Nat} (hk:k<d.length):1<=d.getD k 0/\d.getD k 0<=4096:=h.each _ (by simp[dV,cR hk])
def afe (d:ah):List Int:=(iz d.length).map λi=>prod (d.drop (i+1))
end Sh
theorem Si:(aq.info? 3).map (λi=>(i.zero,i.size,i.bytes))=A (A (Y Z 0),1,8):=Q2Q
namespace Sh
def idx (n:Int):List Int->List Int->Int
 |x::d,a::t=>if a<0\/x<=a then-1 else idx (n+a*prod d) d t
 |_,_=>n
def index (d at':ah):Int:=if 0<size d/\d.length=at'.length then idx 0 d at' else-1
end Sh
namespace Sh
def digits:List Int->Int->List Int
 | [],_=>[]
 |s::l,i=>i/s::digits l (i%s)
def at' (d:ah) (i:Int):List Int:=if 0<=i/\i<size d then digits (afe d) i else[]
end Sh
namespace Sh
theorem YV:∀(l:ah) (n:Int),0<=n->0<=lC n l
 | [],n,h=>h
 |x::l,n,h=>by
  by_cases c:x<1\/4096<x\/8192<n*x
  .rw[Cy c];omega
  .rw[Hd c];exact YV l _ (qG h U)
theorem Sj (h:¬0<size d):size d=0:=by
 have:0<=size d:=by
  unfold size;split
  .omega
  .exact YV d 1 U
 omega
end Sh
theorem Sh.JV {xs:ah} (hl:xs.length=ys.length) (h:∀j,j<xs.length->xs.getD j 0=ys.getD j 0):xs=ys:=by
 apply List.ext_getElem hl;intro i hi hj;have:=h i hi;simpa[dV,cR hi,cR hj]using this
theorem aff (a0:aC) (dW kj:Nat) (xs:ah) (a1:aC) (fh:Nat) (ys:ah) (w:H) (h0:ai Z w a0 dW xs) (h1:ai Z w a1 dW ys):
 aA aq 138 #[O a0 dW kj,O a1 dW fh] w (oa (aK (decide (xs=ys))) w):=by
 obtain⟨B,hB⟩:=J (decide (xs=ys));have HB:=V hB;rw[hB];clear hB;have H0:=V h0;have H1:=V h1;have hl:=h0.eC;have L0:=V h0.bA;have L1:=V h1.bA;have hb:((dW:Int) != (dW:Int))=ae:=Q2W;clear h0 h1;go_enter func138,ntmps138;go_wp2;go_loopw [13] (λi wr=>∃k q:Nat,k<=dW/\i=Y Z k/\(∀j,j<k->xs.getD j 0=ys.getD j 0)/\wr=w.drewN q) (λi _=>dW-(aX i).toNat)
 case atStart=>exact⟨0,0,cK _,rfl,λj hj=>U,rfl⟩
 case round=>
  exact Q00
theorem YW (a0:aC) (dW kj:Nat) (xs:ah) (a1:aC) (jA fh:Nat) (ys:ah) (w:H) (h0:ai Z w a0 dW xs) (h1:ai Z w a1 jA ys):
 aA aq 138 #[O a0 dW kj,O a1 jA fh] w (oa (aK (decide (xs=ys))) w):=by
 by_cases c:dW=jA
 .subst c;exact aff a0 dW kj xs a1 fh ys w h0 h1
 .have e:decide (xs=ys)=ae:=eP λe=>c Q3Q;rw[e];have l0:=h0.eC;have l1:=h1.eC;have hb:((dW:Int) != (jA:Int))=true:=Q3r;clear h0 h1 e c;go_enter func138,ntmps138;exact Q1G
theorem Hg (a0:aC) (dW kj:Nat) (xs:ah) (a1:aC) (jA fh:Nat) (ys:ah) (w:H) (h0:ai Z w a0 dW xs) (h1:ai Z w a1 jA ys):
 aA aq 74 #[O a0 dW kj,O a1 jA fh] w (oa (aK (decide (xs=ys))) w):=by
 have H0:=V h0;have H1:=V h1;obtain⟨B,hB⟩:=J (decide (xs=ys));have HE:=V (λw h0 h1=>hB▸YW a0 dW kj xs a1 jA fh ys w h0 h1);rw[hB];clear h0 h1 hB;go_enter func74,ntmps74;go_wp2_with fail;refine(HE.I _ H0.I H1.I).mono ?_;rintro e w' ⟨rfl,n,rfl⟩;go_wp2;go_ret;exact⟨rfl,n,rfl⟩
theorem ko {P:Program} (w:H) {o:Oper} {a:Act} (ld:n9 o (yielded ops a.tmps)=true) (s x:Operand) (t:dy)
 (ho:o.op= .call {callee:= .builtin .append,args:=#[s,x],argTypes:=#[t,t]})
 (base:Nat) (e:dy) (i:TypeInfo) (z:aj) (size bytes:Nat) (ht:P.underlying t=A (.slice e)) (hi:P.info? e=A i) (hz:i.zero=A z)
 (JQ:i.size=size) (yg:i.bytes=bytes) (ud:z.cells.size=size) (dQ:0<size)
 (v:aj) (n:Nat) (xs:List aj) (hs:a.eval s=v) (aV:w.ownsRow base e size v n xs)
 (ad:Addr) (m c:Nat) (news:List aj) (hx:a.eval x=O (A ad) m c) (hl:news.length=m*size) (JS:∀j u,news[j]? =A u->w.cell? (ad.add j)=A u) (h1:∀u∈news,u.oneCell'=true)
 (JT:n+m<=eS) (G9:(n+m)*bytes<=140737488355328) (JU:base<=w) (hm:0<m)
 (h:∀g c' w',w'.ownsRow base e size (O (A ⟨g,0,G⟩) (n+m) c') (n+m) (xs++news)->w.grownBy w' v.ownBlock->(v.ownBlock=A g\/g=w.heap.size)->base<=g/\g<w'.heap.size->wpList P ops Q rest (a.put o.dst (O (A ⟨g,0,G⟩) (n+m) c')) w'):wpList P ops Q (o::rest) a w:=
 BigFrame.wpList_want ld λ_ hK=>by
  obtain⟨v',w',hr,h2,h3,h4,h5⟩:=run_append_own_at (P:=P) w base t o.type e i z size bytes ht hi hz JQ yg ud dQ v n xs aV ad m c news hl JS h1 JT G9 JU;unfold Oper.wp execOp;simp only[ho,resolve,invoke,builtin,Sem.run_bind,Sem.run_pure,Result.andThen_ok,List.map_toArray,List.map_cons,List.map_nil,hs,hx,hr];refine hK _ _ ?_;obtain⟨g,c',hv⟩:∃g c',v'=O (A ⟨g,0,G⟩) (n+m) c':=by
   rcases h2.2 with⟨h6,_⟩|⟨g,c',_,h6,_⟩
   .have:=(h4.1 h6).2;omega
   .exact⟨g,c',h6⟩
  have oR:w'.ownsRow base e size (O g (n+m) c') (n+m) (xs++news):=hv▸h2;have h5':v.ownBlock=A g\/g=w.heap.size:=by
   rw[hv]at h5;rcases h5 with h5|h5
   .exact aM h5.symm
   .right;have:A g=A w.heap.size:=h5;exact Option.some.inj this
  rw[hv];exact h g c' w' oR h3 h5' (oR.lt g rfl)
theorem Zb (hb:ay w w w'):w.grownBy w' G:=⟨hb.os,hb.tape,hb.output,hb.size,λk hk _=>hb.block k hk⟩
theorem oh {size n:Nat} (h:w.ownsRow base e size v n xs) (hb:ay w w w'):w'.ownsRow base e size v n xs:=by
 refine h.kept (Zb hb) ?_;by_cases e:v.ownBlock=G
 .exact aM e
 .exact bJ e
theorem AU {row:Option Nat} {g o:Nat} (hg:w.grownBy w' row) (h:w ⟨g,o,G⟩=A u) (cI:row≠A g):w' ⟨g,o,G⟩=A u:=by
 have hl:=jY w _ h;have:=hg.block g hl (λe=>cI e.symm);unfold kY at h⊢;simp only[this];exact h
def CD (v:aj) (a:aC):Prop:=∀x,a=A x->v.ownBlock≠A x.block
theorem CD.fresh {size n:Nat} (h:w.ownsRow base e size v n xs) (ha:∀x,a=A x->w.heap.size<=x.block):CD v a:=λx hx hv=>by
 have h1:=(h.lt _ hv).2;have h2:=ha x hx;omega
theorem CD.new {g n B:Nat} (h:CD v a) (hg:v.ownBlock=A g\/g=B) (aT:∀x,a=A x->x.block<B):CD (O g n c) a:=λx hx hv=>by
 have hv:A g=A x.block:=hv;rcases hg with hg|hg
 .exact h x hx (hg.trans hv)
 .have:=aT x hx;injection hv with hv;omega
def Zi (B:Bool) (w:H) (e:dN) (w':H):Prop:=∃n:Int,e=bG (Y Z n)/\decide (0<=n)=B/\w=w'
theorem afE (a:aC) (len cap:Nat) (zs:ah) (v:Int) (w:H) (h:ai aO w a len zs):
 aA aq 147 #[O a len cap,Y aO v] w (Zi (decide (v∈zs)) w):=by
 obtain⟨B,hB⟩:=J (decide (v∈zs));have HB:=V hB;rw[hB];clear hB;have H0:=V h;have hl:=h.eC;have L0:=V h.bA;clear h;go_enter func147,ntmps147;go_wp2;go_loop [8] (λi=>∃k:Nat,k<=len/\i=Y Z k/\(∀j,j<k->zs.getD j 0≠v)) (λi=>len-(aX i).toNat)
 case atStart=>exact⟨0,cK _,rfl,λj hj=>U⟩
 case round=>
  obtain⟨k,hk,rfl,hs⟩:=hrel;have HS:=V hs;clear hs;by_cases aT:k<len
  .obtain⟨b0,o0,rfl,e0⟩:=H0.I.cells U;have f0:=e0 k aT;clear e0;have hm:zs.getD k 0∈zs:=by
    have:k<zs.length:=Q3O;simp[dV,cR this]
   have mZ:=V hm;clear hm;generalize hx:zs.getD k 0=x at*;have HX:=V hx;clear hx;by_cases c:v=x
   .subst c;have c2:(v==v)=true:=Q2W;go_wp2;go_ret;exact⟨_,rfl,by rw[<-HB.I,dI mZ.I];exact dI U,rfl⟩
   .have c2:(v==x)=ae:=by simpa using c
    have HC:=V c;clear c;go_wp2;go_round
    case rel=>exact⟨k+1,U,Q2T,λj hj=>by(by_cases c:j=k);(subst c;rw[HX.I];exact λe=>HC.I e.symm);exact HS.I j U⟩
    case measure=>exact Q5q
  .go_wp2;go_ret;exact⟨_,rfl,by
    rw[<-HB.I,eP (p:=v∈zs) (λhm=>by
     obtain⟨j,hj,e⟩:=List.getElem_of_mem hm;exact HS.I j (E L0.I) (by simp[dV,cR hj,e]))]
    rfl,rfl⟩
theorem afF (a:aC) (len cap:Nat) (zs:ah) (v:Int) (w:H) (h:ai aO w a len zs):
 aA aq 111 #[O a len cap,Y aO v] w λe w'=>e=bG (aK (decide (v∈zs)))/\w=w':=by
 have ZW:=V (afE a len cap zs v);have H0:=V h;generalize decide (v∈zs)=B at*;clear h;go_enter func111,ntmps111;go_wp2_with fail;refine(ZW.I _ H0.I).mono ?_;rintro e w' ⟨n,rfl,hn,rfl⟩;have HN:=V hn;clear hn;go_wp2;go_ret;exact⟨pC HN.I,rfl⟩
theorem Sn (e m:Int) (w:H) (hm:0<=m) (m6:m<=1000):aA aq 137 #[Y Z e,Y Z m] w λr w'=>r=bG (aK (decide (-m<=e/\e<=m)))/\w=w':=by
 by_cases h1: -m<=e
 .by_cases h2:e<=m
  .rw[dI (aw h1 h2)];exact Q2J
  .rw[eP (λh=>h2 h.2)];have h3:decide (e<=m)=ae:=eP h2;exact Q2J
 .rw[eP (λh=>h1 h.1)];have h3:decide (-m<=e)=ae:=eP h1;exact Q2J
def T.aH (d:ah) (e:Int) (z:ah):Prop:=0<Sh.size d/\(z.length:Int)=Sh.size d/\(-64<=e/\e<=64)/\¬(-128:Int)∈z
instance (d:ah) (e:Int) (z:ah):Decidable (T.aH d e z):=by unfold T.aH;infer_instance
def aS (a:aC) (l c:Nat) (e:Int) (b:aC) (m k:Nat):aj:=aF #[O a l c,Y Z e,O b m k]
theorem So (w:H) (x y z:aj) (t:dy) (fr:Nat×Nat):(li w (ag #[x,y,z] t fr)) w=A x/\(li w (ag #[x,y,z] t fr)) ⟨w,1,G⟩=A y/\(li w (ag #[x,y,z] t fr)) ⟨w,2,G⟩=A z:=by
 have h:∀j:Nat,j<3->(li w (ag #[x,y,z] t fr)) ⟨w,j,G⟩=#[x,y,z][j]? :=λj hj=>by
  have:=bZ w (ag #[x,y,z] t fr);unfold kY;simp only[this];rfl
 exact⟨h 0 U,h 1 U,h 2 U⟩
theorem Hj (a:aC) (len cap:Nat) (zs:ah) (w:H) (h:ai Z w a len zs):aA aq 116 #[O a len cap] w λe w'=>e=bG (Y Z (Sh.size zs))/\w'=w:=(EH a len cap zs w h).mono λ_ _ ⟨a,b⟩=>⟨a,b.symm⟩
theorem CI (a:aC) (len cap:Nat) (zs:ah) (w:H) (h:ai Z w a len zs):aA aq 51 #[O a len cap] w λe w'=>e=bG (aK (decide (0<Sh.size zs)))/\w'=w:=(Hf a len cap zs w h).mono λ_ _ ⟨a,b⟩=>⟨a,b.symm⟩
theorem Zj (a:aC) (len cap:Nat) (zs:ah) (v:Int) (w:H) (h:ai aO w a len zs):aA aq 111 #[O a len cap,Y aO v] w λe w'=>e=bG (aK (decide (v∈zs)))/\w'=w:=(afF a len cap zs v w h).mono λ_ _ ⟨a,b⟩=>⟨a,b.symm⟩
theorem afG (e:Int) (w:H):aA aq 137 #[Y Z e,Y Z 64] w λr w'=>r=bG (aK (decide (-64<=e/\e<=64)))/\w'=w:=(Sn e 64 w U U).mono λ_ _ ⟨a,b⟩=>⟨a,b.symm⟩
theorem ai.bI (h:ai k w a len zs) (n:Nat):ai k (w.drewN n) a len zs:=h.below (below_drewN w n)
theorem jr (a:aC) (l c:Nat) (d:ah) (e:Int) (b:aC) (m k:Nat) (z:ah) (w:H) (h0:ai Z w a l d) (h1:ai aO w b m z):
 aA aq 73 #[aS a l c e b m k] w (dZ (aK (decide (T.aH d e z))) w):=by
 have hb:=V (aD w (ag #[O a l c,Y Z e,O b m k] 57));have f0:=So w (O a l c) (Y Z e) (O b m k) 57 (0,0);have H0:=V (h0.below hb.I);have H1:=V (h1.below hb.I);have pW:=h1.eC;have hL:=h1.bA;have M:=V (λn=>CI a l c d _ (H0.I.bI n));have S:=V (λn=>Hj a l c d _ (H0.I.bI n));have ZU:=V (afG e);have C:=V (λn=>Zj b m k z (-128) _ (H1.I.bI n));have vA:decide (T.aH d e z)=(decide (0<Sh.size d)&&(((m:Int)==Sh.size d)&&(decide (-64<=e/\e<=64)&& !decide (-128∈z)))):=by
  rw[Bool.eq_iff_iff];simp only[decide_eq_true_eq,fS,beq_iff_eq,Bool.not_eq_true',decide_eq_false_iff_not];unfold T.aH;rw[hL]
 rw[vA];unfold aS;clear hL h0 h1 vA;generalize decide (0<Sh.size d)=Z3 at*;generalize decide (-64<=e/\e<=64)=X at*;generalize decide (-128∈z)=Z6 at*;obtain⟨B,hB⟩:=J ((m:Int)==Sh.size d);rw[hB];generalize Sh.size d=sz at*;clear H0 H1
 cases Z3
 .clear hB;exact Q0b
 .cases B
  .exact Q0b
  .cases X
   .exact Q0b
   .cases Z6
    .exact Q0b
    .exact Q0b
namespace Lt
variable {P:Program} {ops:Array Oper} {Q:Exit->Act->H->Prop} {md:Region.Mode} {S:H->Prop} {late:Nat->Bool}
def ij (P:Program) (md:Region.Mode) (ops:Array Oper) (Q:Exit->Act->H->Prop) (S:H->Prop) (late:Nat->Bool):Nat->Array Bool->Act->H->Prop
 |0,listed,a,w=>Region.ready md ops listed=[]/\Q .normal a w
 |fuel+1,listed,a,w=>
  (Region.ready md ops listed=[]->Q .normal a w)/\
  ∀i∈Region.ready md ops listed,wpOp P ops Q i (λa' w'=>(late i=ae->S w')/\ij P md ops Q S late fuel (listed.setIfInBounds i true) a' w') a w
theorem Zl:∀(fuel:Nat) (listed:Array Bool) (a:Act) (w:H),ij P md ops Q S late fuel listed a w->wpAny P md ops Q fuel listed a w
 |0,_,_,_,h=>h
 |fuel+1,_,_,_,h=>⟨h.1,λi hi=>wpOp_mono (λa' w' h'=>Zl fuel _ a' w' h'.2) (h.2 i hi)⟩
def waits (md:Region.Mode) (ops:Array Oper) (late:Nat->Bool) (i:Nat):Prop:=
 ∀j oj,ops[j]? =A oj->late j=true->∃e∈oj.after,Region.binds md e=true/\(e.on=i\/late e.on=true)
theorem first {oi:Oper} (hi:ops[i]? =A oi) (Zm:∀(j:Nat) (o:Oper) cs b,ops[j]? =A o->o.op≠ .select cs b)
 (hQ:∀c a w,Q (.panic c) (a.put oi.dst v) w->Q (.panic c) a w) {Z4:Nat->Bool} (hU:∀j oj,ops[j]? =A oj->late j=true->Z4 j=true) (hw:waits md ops Z4 i):
 ∀(fuel:Nat) (listed:Array Bool) (a:Act) (w:H),(∀j,Z4 j=true->listed.getD j ae=ae)->
  (∀j oj,ops[j]? =A oj->j≠i->listed.getD j true=ae->(∀e∈oj.after,Region.binds md e=true->e.on≠i)->oi.apart ops oj=true)->
  i∈Region.ready md ops listed->YieldsIf P ops S oi v a->S w->
  ij P md ops Q S late fuel (listed.setIfInBounds i true) (a.put oi.dst v) w->ij P md ops Q S late (fuel+1) listed a w:=by
 intro fuel;induction fuel with
 |zero=>
  intro listed a w _ _ hr hy hS ZW;refine⟨λh=>(by rw[h]at hr;cases hr),λj hj=> ?_⟩;by_cases CJ:j=i
  .subst CJ;exact hy.wpOp hi hS ⟨λ_=>hS,ZW⟩
  .have:=ready_mono hj CJ;rw[ZW.1]at this
   cases this
 |succ fuel ih=>
  intro listed a w hl Zn hr hy hS ZW;refine⟨λh=>(by rw[h]at hr;cases hr),λj hj=> ?_⟩;by_cases CJ:j=i
  .subst CJ;exact hy.wpOp hi hS ⟨λ_=>hS,ZW⟩
  .obtain⟨Zo,oj,J0,CO⟩:=mem_ready.1 hj;have AZ:∀e∈oj.after,Region.binds md e=true->e.on≠i:=λe he hb heq=>by
    have h1:=CO e he hb;have h0:=(mem_ready.1 hr).1;rw[heq]at h1;rcases Nat.lt_or_ge i listed.size with h'|h'
    .simp[h']at h0 h1;rw[h0]at h1;cases h1
    .simp[Array.getElem?_eq_none h']at h1
   have NY:Z4 j=ae:=by
    cases wY:Z4 j
    .rfl
    .obtain⟨e,he,hb,h|h⟩:=hw j oj J0 wY
     .exact absurd h (AZ e he hb)
     .have:=CO e he hb;rw[hl _ h]at this
      cases this
   have A5:late j=ae:=by
    cases wY:late j
    .rfl
    .rw[hU j oj J0 wY]at NY;cases NY
   have h1:=ZW.2 j (ready_mono hj CJ);have h2:=wpOp_putIf J0 (Zn j oj J0 CJ Zo AZ) (λcs b=>Zm i oi cs b hi) (λcs b=>Zm j oj cs b J0) hQ hy h1;have afH:∀k ok,ops[k]? =A ok->k≠i->(listed.setIfInBounds j true).getD k true=ae->
    (∀e∈ok.after,Region.binds md e=true->e.on≠i)->oi.apart ops ok=true:=λk ok hk Zp Zq lF=>by
    refine Zn k ok hk Zp ?_ lF;by_cases EL:j=k
    .subst EL;exact Zo
    .rw[getD_set_ne true EL]at Zq;exact Zq
   have EM:∀k,Z4 k=true->(listed.setIfInBounds j true).getD k ae=ae:=λk hk=>by
    have EL:j≠k:=λe=>by rw[e,hk]at NY;cases NY
    rw[getD_set_ne ae EL];exact hl k hk
   refine wpOp_mono (λa' w' h3=>⟨h3.2.1,ih (listed.setIfInBounds j true) a' w' EM afH (ready_mono hr (Ne.symm CJ)) h3.1 (h3.2.1 A5) ?_⟩) h2;rw[Array.setIfInBounds_comm _ _ CJ];exact h3.2.2
def Zr (md:Region.Mode) (ops:Array Oper) (late:Nat->Bool) (i:Nat):Bool:=
 (iz ops.size).all λj=> !late j||(match ops[j]? with|some oj=>oj.after.any λe=>Region.binds md e&&(e.on==i||late e.on)|none=>true)
theorem afI (h:Zr md ops late i=true):waits md ops late i:=λj oj hj hl=>by
 have aT:j<ops.size:=(Array.getElem?_eq_some_iff.1 hj).1;have h1:=List.all_eq_true.1 h j (List.mem_range.2 aT);simp only[hl,hj,Bool.not_true,Bool.false_or]at h1;obtain⟨e,he,hb⟩:=Array.any_eq_true'.1 h1;simp only[fS,Bool.or_eq_true,beq_iff_eq]at hb;exact⟨e,he,hb.1,hb.2⟩
def Sp (late:Nat->Bool) (n:Nat) (listed:Array Bool):Bool:=decide (listed.size<=n)&&(iz n).all λj=> !late j|| !listed.getD j ae
theorem afJ {n:Nat} (h:Sp late n listed=true):∀j,late j=true->listed.getD j ae=ae:=λj hj=>by
 simp only[Sp,fS,decide_eq_true_eq]at h;rcases Nat.lt_or_ge j n with hn|hn
 .have h1:=List.all_eq_true.1 h.2 j (List.mem_range.2 hn);simpa[hj]using h1
 .have:listed.size<=j:=U;simp[Array.getElem?_eq_none this]
def up (md:Region.Mode) (ops:Array Oper) (i:Nat):List Nat:=
 (iz ops.size).foldl (λacc j=>match ops[j]? with|some oj=>if oj.after.any (λe=>Region.binds md e&&(e.on==i||acc.contains e.on))then j::acc else acc|none=>acc) []
def J1 (md:Region.Mode) (ops:Array Oper) (late:Nat->Bool) (i:Nat) (listed:Array Bool):Bool:=
 Region.noSelect ops&&Region.free md ops listed i&&(Region.ready md ops listed).contains i&&(iz ops.size).all (λj=> !late j||(up md ops i).contains j)&&
  Zr md ops (λj=>(up md ops i).contains j) i&&Sp (λj=>(up md ops i).contains j) ops.size listed
theorem take {oi:Oper} {a:Act} (hi:ops[i]? =A oi) (hB:J1 md ops late i listed=true)
 (hQ:∀c a w,Q (.panic c) (a.put oi.dst v) w->Q (.panic c) a w) (hy:YieldsIf P ops S oi v a) (hS:S w)
 (h:ij P md ops Q S late fuel (listed.setIfInBounds i true) (a.put oi.dst v) w):ij P md ops Q S late (fuel+1) listed a w:=by
 simp only[J1,fS]at hB;obtain⟨⟨⟨⟨⟨h1,h2⟩,h3⟩,h4⟩,h5⟩,h6⟩:=hB;refine first hi (Region.noSelect_spec h1) hQ (λj oj hj hl=> ?_) (afI h5) fuel listed a w (afJ h6) (Region.free_spec hi h2) (by simpa using h3) hy hS h
 have h7:=List.all_eq_true.1 h4 j (List.mem_range.2 (Array.getElem?_eq_some_iff.1 hj).1);simpa[hl]using h7
theorem step {o:Oper} (hi:ops[i]? =A o) {a:Act}
 (h:∀K',RowKit.Hid (∀a w,K a w->K' a w)->if n9 o (yielded ops a.tmps)=true then Oper.wp P o a w K' Q else K' (a.put o.dst undef) w):wpOp P ops Q i K a w:=by
 unfold wpOp;simp only[hi];have:=h K (V λ_ _ h=>h);split
 .rename_i hw;rw[aR hw]at this;exact aM this
 .rename_i hw;rw[aI hw]at this;exact this
theorem all {a:Act} (hr:Region.ready md ops listed=rs) (cI:rs≠[])
 (h:∀i∈rs,wpOp P ops Q i (λa' w'=>(late i=ae->S w')/\ij P md ops Q S late fuel (listed.setIfInBounds i true) a' w') a w):ij P md ops Q S late (fuel+1) listed a w:=
 ⟨λh0=>absurd (hr▸h0) cI,hr▸h⟩
theorem over {a:Act} (hr:Region.ready md ops listed=[]) (h:Q .normal a w):∀fuel,ij P md ops Q S late fuel listed a w
 |0=>⟨hr,h⟩
 |_+1=>⟨λ_=>h,by rw[hr];simp⟩
theorem begins {id:Nat} {a:Act} (S:H->Prop) (late:Nat->Bool) (hm:P.follows .mixedOrders=true)
 (h:ij P .any ops Q S late ops.size (Array.replicate ops.size ae) a w.drew):(Code.region id ops true).wp P Q a w:=
 wp_region_any hm (Zl _ _ _ _ h)
end Lt
section
open Ieee
namespace Fl
def sg (s:Bool) (m:Nat):Int:=if s then-(m:Int)else m
def DI (d:Datum) (n:Int):Prop:=∃(s:Bool) (m p:Nat),d= .number s m (-(p:Int))/\sg s m=n*2 ^ p
def FI (b:Nat) (n:Int):Prop:=DI (double.read b) n
theorem zD (s:Bool) (m k:Nat):signed s m k=sg s m*2 ^ k:=by
 unfold signed sg;rw[Nat.shiftLeft_eq]
 cases s<;>simp[Int.neg_mul]
theorem afg (s:Bool) (m:Nat):sg (!s) m= -sg s m:=by cases s<;>simp[sg]
theorem afh (s:Bool) (m:Nat):(sg s m).natAbs=m:=by cases s<;>simp[sg]
theorem afi (s t:Bool) (m n:Nat):sg (s ^^ t) (m*n)=sg s m*sg t n:=by cases s<;>cases t<;>simp[sg,Int.neg_mul,Int.mul_neg]
theorem YX (z:Bool) (t:Int):sg (if t=0 then z else t<0) t.natAbs=t:=by
 by_cases h:t=0
 .subst h;cases z<;>simp[sg]
 .rw[aI h];by_cases g:t<0
  .simp[sg,g];omega
  .simp[sg,g];omega
theorem Cz (n:Int) {p M:Nat} (h:p<=M):n*2 ^ p*2 ^ (M-p)=n*2 ^ M:=by
 rw[pU,<-Int.pow_add,Nat.add_sub_cancel' h]
theorem NN (p q:Nat):min (-(p:Int)) (-(q:Int))= -((max p q:Nat):Int):=U
theorem DI.sum {a b:Datum} (h:DI a n) (k:DI b m):∃d,a.sum b=A d/\DI d (n+m):=by
 obtain⟨s,x,p,rfl,hx⟩:=h;obtain⟨t,y,q,rfl,hy⟩:=k;refine⟨_,rfl,_,_,max p q,by rw[NN],?_⟩;rw[YX,zD,zD,hx,hy,Int.add_mul];rw[show(-(p:Int)- -((max p q:Nat):Int)).toNat=max p q-p by omega,show(-(q:Int)- -((max p q:Nat):Int)).toNat=max p q-q by omega,
  Cz n (Nat.le_max_left p q),Cz m (Nat.le_max_right p q)]
theorem DI.opposite {a:Datum} (h:DI a n):DI a.opposite (-n):=by
 obtain⟨s,x,p,rfl,hx⟩:=h;exact⟨!s,x,p,rfl,by rw[afg,hx,Int.neg_mul]⟩
theorem DI.product {a b:Datum} (h:DI a n) (k:DI b m):∃d,a.product b=A d/\DI d (n*m):=by
 obtain⟨s,x,p,rfl,hx⟩:=h;obtain⟨t,y,q,rfl,hy⟩:=k;refine⟨_,rfl,s ^^ t,x*y,p+q,by rw[show(-(p:Int)+ -(q:Int))= -((p+q:Nat):Int) by omega],?_⟩;rw[afi,hx,hy,Int.pow_add];simp only[pU,Int.mul_left_comm]
theorem afj (n m:Int) (k:Nat):compare (n*2 ^ k) (m*2 ^ k)=compare n m:=by
 have hp:(0:Int)<2 ^ k:=Int.pow_pos U;simp only[compare,compareOfLessAndEq];have h1:(n*2 ^ k<m*2 ^ k)=(n<m):=propext (Int.mul_lt_mul_right hp);have h2:(n*2 ^ k=m*2 ^ k)=(n=m):=propext (Int.mul_eq_mul_right_iff U);simp only[h1,h2]
theorem DI.order {a b:Datum} (h:DI a n) (k:DI b m):a.order b=A (compare n m):=by
 obtain⟨s,x,p,rfl,hx⟩:=h;obtain⟨t,y,q,rfl,hy⟩:=k;unfold Datum.order;dsimp only
 rw[NN,zD,zD,hx,hy,
  show(-(p:Int)- -((max p q:Nat):Int)).toNat=max p q-p by omega,show(-(q:Int)- -((max p q:Nat):Int)).toNat=max p q-q by omega,
  Cz n (Nat.le_max_left p q),Cz m (Nat.le_max_right p q),afj]
theorem YZ {n:Nat} (h:n≠0) (p:Nat):(n*2 ^ p).log2=n.log2+p:=by
 have hp:0<2 ^ p:=Nat.two_pow_pos p;have h2:n*2 ^ p≠0:=by
  have:=kZ (Nat.pos_of_ne_zero h) hp;omega
 rw[Nat.log2_eq_iff h2];obtain⟨h3,h4⟩:=(Nat.log2_eq_iff h).1 rfl;constructor
 .rw[Nat.pow_add];exact nZ _ h3
 .rw[show n.log2+p+1=n.log2+1+p by omega,Nat.pow_add];exact Nat.mul_lt_mul_of_pos_right h4 hp
theorem DI.Y0 {s:Bool} {m p:Nat} (h:sg s m=n*2 ^ p):m=n.natAbs*2 ^ p:=by
 have:=congrArg Int.natAbs h;rwa[afh,Int.natAbs_mul,Int.natAbs_pow]at this
theorem Sk (way:Toward) (s:Bool) (K drop:Nat) (h:K≠0):way.cut s (K*2 ^ drop) drop=K:=by
 have hp:0<2 ^ drop:=Nat.two_pow_pos drop;unfold Toward.cut;rw[YZ h,Nat.min_eq_left U,Nat.one_shiftLeft];dsimp only
 rw[Nat.mul_mod_left,Nat.mul_div_cancel _ hp]
 cases way<;>simp<;>omega
theorem afk (way:Toward) (s:Bool) (drop:Nat):way.cut s 0 drop=0:=by
 unfold Toward.cut;rw[Nat.one_shiftLeft];have hp:0<2 ^ min drop (Nat.log2 0+2):=Nat.two_pow_pos _
 cases way<;>simp
theorem DI.toInt {d:Datum} (h:DI d n):d.toInt .zero=A n:=by
 obtain⟨s,m,p,rfl,hx⟩:=h;unfold Datum.toInt Datum.integral;dsimp only
 rw[show(-(p:Int)).toNat=0 by omega,show(- -(p:Int)).toNat=p by omega,Nat.shiftLeft_zero,DI.Y0 hx,zD,Int.pow_zero,Int.mul_one];by_cases hn:n=0
 .subst hn;simp[afk,sg]
 .rw[Sk _ _ _ _ U];have hp:(0:Int)<2 ^ p:=Int.pow_pos U
  cases s
  .simp only[sg,Bool.false_eq_true,if_false]at hx⊢;have:0<=n:=by
    apply Int.not_lt.1;intro hl;have:=Int.mul_neg_of_neg_of_pos hl hp;omega
   congr 1;omega
  .simp only[sg,if_true]at hx⊢;have:n<=0:=by
    apply Int.not_lt.1;intro hl;have:=Int.mul_pos hl hp;omega
   congr 1;omega
theorem afl (s:Bool) (AQ:Nat) (h1:4503599627370496<=AQ) (h2:AQ<9218868437227405312):
 double.read (double.word s AQ)= .number s (4503599627370496+AQ%4503599627370496) (-1074+(AQ/4503599627370496-1:Nat)):=by
 have e1:double.signWeight=9223372036854775808:=Q3h;have e2:double.binade=4503599627370496:=Q3h;have e3:double.infRung=9218868437227405312:=Q3h;have e4:double.leastPlace= -1074:=Q3h;unfold Format.read Format.word;simp only[e1,e2,e3,e4]
 cases s
 .simp only[Bool.false_eq_true,if_false];rw[Nat.mod_eq_of_lt (show AQ<9223372036854775808 by omega),aI U,aR h2,Nat.div_eq_of_lt (show AQ<9223372036854775808 by omega)];rfl
 .simp only[if_true];rw[Nat.add_mod_left,Nat.mod_eq_of_lt (show AQ<9223372036854775808 by omega),aI U,aR h2,
   show(9223372036854775808+AQ)/9223372036854775808=1 by omega]
  rfl
theorem afm (s:Bool):double.read (double.word s 0)= .number s 0 (-1074):=by cases s<;>decide
theorem afn (s:Bool) (m p:Nat) (n:Int) (hx:sg s m=n*2 ^ p) (hn:n.natAbs<2 ^ 53):DI (double.read (double.nearest s m (-(p:Int)))) n:=by
 have hm:=DI.Y0 hx;have hp:(0:Int)<2 ^ p:=Int.pow_pos U;unfold Format.nearest;by_cases h0:n=0
 .subst h0;have:m=0:=Q4Z;subst this;rw[aR rfl,afm];exact⟨s,0,1074,rfl,by rw[Int.zero_mul];cases s<;>rfl⟩
 have h1:n.natAbs≠0:=U;have hmp:m≠0:=by
  intro e;rw[e]at hm;have:=kZ (Nat.pos_of_ne_zero h1) (Nat.two_pow_pos p);omega
 rw[aI hmp];have afo:m.log2=n.natAbs.log2+p:=by rw[hm,YZ h1]
 obtain⟨l1,l2⟩:=(Nat.log2_eq_iff h1).1 rfl;generalize hL:n.natAbs.log2=L at*;have aqj:L<=52:=by
  have:2 ^ L<2 ^ 53:=Nat.lt_of_le_of_lt l1 hn;have:=(Nat.pow_lt_pow_iff_right (by omega:1<2)).1 this;omega
 have e0:(double.fractionBits:Int)=52:=rfl;have e2:double.binade=4503599627370496:=Q3h;have e3:double.infRung=9218868437227405312:=Q3h;have e4:double.leastPlace= -1074:=Q3h;have EI:max (-(p:Int)+(m.log2:Nat)-double.fractionBits) double.leastPlace=(L:Int)-52:=by
  rw[afo,e0,e4];omega
 dsimp only
 rw[EI,e2,e3,e4];have fD:Toward.even.cut s (m<<<(-(p:Int)-((L:Int)-52)).toNat) ((L:Int)-52- -(p:Int)).toNat=n.natAbs*2 ^ (52-L):=by
  by_cases hc:p<=52-L
  .rw[show((L:Int)-52- -(p:Int)).toNat=0 by omega,show(-(p:Int)-((L:Int)-52)).toNat=52-L-p by omega,Nat.shiftLeft_eq,hm,Nat.mul_assoc,<-Nat.pow_add,show p+(52-L-p)=52-L by omega];have:=Sk .even s (n.natAbs*2 ^ (52-L)) 0 (E (kZ (Nat.pos_of_ne_zero h1) (Nat.two_pow_pos (52-L))));simpa using this
  .rw[show(-(p:Int)-((L:Int)-52)).toNat=0 by omega,Nat.shiftLeft_zero,show((L:Int)-52- -(p:Int)).toNat=p-(52-L) by omega,hm];rw[show n.natAbs*2 ^ p=n.natAbs*2 ^ (52-L)*2 ^ (p-(52-L)) by rw[Nat.mul_assoc,<-Nat.pow_add,show 52-L+(p-(52-L))=p by omega]];exact Sk .even s _ _ (E (kZ (Nat.pos_of_ne_zero h1) (Nat.two_pow_pos (52-L))))
 rw[fD];have k1:4503599627370496<=n.natAbs*2 ^ (52-L):=by
  have:=nZ (2 ^ (52-L)) l1;rw[<-Nat.pow_add,show L+(52-L)=52 by omega]at this;exact this
 have k2:n.natAbs*2 ^ (52-L)<9007199254740992:=by
  have:=Nat.mul_lt_mul_of_pos_right l2 (Nat.two_pow_pos (52-L));rw[<-Nat.pow_add,show L+1+(52-L)=53 by omega]at this;exact this
 generalize hK:n.natAbs*2 ^ (52-L)=K at*;rw[show((L:Int)-52- -1074).toNat=L+1022 by omega,Nat.min_eq_left U,afl s _ U U];refine⟨s,K,52-L,?_,?_⟩
 .rw[show 4503599627370496+((L+1022)*4503599627370496+K)%4503599627370496=K by omega,
   show((L+1022)*4503599627370496+K)/4503599627370496-1=L+1022 by omega]
  simp only[Datum.number.injEq,true_and];omega
 .have hs:(sg s m).sign=n.sign:=by
   rw[hx,Int.sign_mul,Int.sign_eq_one_of_pos hp,Int.mul_one]
  have q:(0:Int)<2 ^ (52-L):=Int.pow_pos U
  cases s
  .have sA:0<n:=by
    apply Int.sign_eq_one_iff_pos.1;rw[<-hs];simp only[sg,Bool.false_eq_true,if_false];exact Int.sign_eq_one_of_pos U
   simp only[sg,Bool.false_eq_true,if_false];rw[<-hK,gQ,Int.natCast_pow,Int.natAbs_of_nonneg U];rfl
  .have Sl:n<0:=by
    apply Int.sign_eq_neg_one_iff_neg.1;rw[<-hs];simp only[sg,if_true];exact Int.sign_eq_neg_one_of_neg U
   simp only[sg,if_true];rw[<-hK,gQ,Int.natCast_pow,show(n.natAbs:Int)= -n by omega,Int.neg_mul,Int.neg_neg];rfl
theorem DI.write {d:Datum} (h:DI d n) (hn:n.natAbs<2 ^ 53):FI (double.write d) n:=by
 obtain⟨s,m,p,rfl,hx⟩:=h;exact afn s m p n hx hn
theorem FI.ofInt (n:Int) (hn:n.natAbs<2 ^ 53):FI (floatOfInt .f64 n) n:=by
 refine DI.write (d:= .number (n<0) n.natAbs 0) ⟨n<0,n.natAbs,0,rfl,?_⟩ hn;have:=YX ae n;by_cases h:n=0
 .subst h;rfl
 .rw[aI h]at this;simpa using this
theorem FI.add {a:Nat} (h:FI a n) (k:FI b m) (hn:(n+m).natAbs<2 ^ 53):∃r,floatBits .add .f64 a b=A r/\FI r (n+m):=by
 obtain⟨d,e,hd⟩:=DI.sum h k;refine⟨double.write d,?_,hd.write hn⟩;show double.add a b=_
 unfold Format.add;rw[e];rfl
theorem FI.sub {a:Nat} (h:FI a n) (k:FI b m) (hn:(n-m).natAbs<2 ^ 53):∃r,floatBits .sub .f64 a b=A r/\FI r (n-m):=by
 obtain⟨d,e,hd⟩:=DI.sum h (DI.opposite k);refine⟨double.write d,?_,DI.write (by rw[Int.sub_eq_add_neg];exact hd) hn⟩;show double.sub a b=_
 unfold Format.sub;rw[e];rfl
theorem FI.mul {a:Nat} (h:FI a n) (k:FI b m) (hn:(n*m).natAbs<2 ^ 53):∃r,floatBits .mul .f64 a b=A r/\FI r (n*m):=by
 obtain⟨d,e,hd⟩:=DI.product h k;refine⟨double.write d,?_,hd.write hn⟩;show double.mul a b=_
 unfold Format.mul;rw[e];rfl
theorem FI.order {a:Nat} (h:FI a n) (k:FI b m):FloatKind.f64.format.order a b=A (compare n m):=DI.order h k
theorem FI.zero:FI 0 0:=⟨ae,0,1074,Q3h,by rw[Int.zero_mul];rfl⟩
theorem FI.afp {a d:Nat} (ha:FI a n) (hb:FI b m) (hc:FI c x) (hd:FI d y) (l1:n.natAbs<=100000) (l2:m.natAbs<=100000) (l3:x.natAbs<=100000) (l4:y.natAbs<=100000):
 ∃re im,cMulBits a b c d=A (re,im)/\FI re (n*x-m*y)/\FI im (n*y+m*x):=by
 have bd:∀u v:Int,u.natAbs<=100000->v.natAbs<=100000->(u*v).natAbs<=10000000000:=λu v hu hv=>by
  rw[Int.natAbs_mul];exact mq hu hv
 have b1:=bd n x l1 l3;have b2:=bd m y l2 l4;have b3:=bd n y l1 l4;have b4:=bd m x l2 l3;obtain⟨r1,e1,f1⟩:=FI.mul ha hc U;obtain⟨r2,e2,f2⟩:=FI.mul hb hd U;obtain⟨r3,e3,f3⟩:=FI.sub f1 f2 U;obtain⟨r4,e4,f4⟩:=FI.mul ha hd U;obtain⟨r5,e5,f5⟩:=FI.mul hb hc U;obtain⟨r6,e6,f6⟩:=FI.add f4 f5 U;exact⟨r3,r6,by simp[cMulBits,e1,e2,e3,e4,e5,e6],f3,f6⟩
theorem FI.afq {a d:Nat} (ha:FI a n) (hb:FI b m) (hc:FI c x) (hd:FI d y) (l1:(n+x).natAbs<2 ^ 53) (l2:(m+y).natAbs<2 ^ 53):
 ∃re im,cSumBits .add .f64 a b c d=A (re,im)/\FI re (n+x)/\FI im (m+y):=by
 obtain⟨r1,e1,f1⟩:=FI.add ha hc l1;obtain⟨r2,e2,f2⟩:=FI.add hb hd l2;exact⟨r1,r2,by simp[cSumBits,e1,e2],f1,f2⟩
theorem FI.afr {a d:Nat} (ha:FI a n) (hb:FI b m) (hc:FI c x) (hd:FI d y) (l1:(n-x).natAbs<2 ^ 53) (l2:(m-y).natAbs<2 ^ 53):
 ∃re im,cSumBits .sub .f64 a b c d=A (re,im)/\FI re (n-x)/\FI im (m-y):=by
 obtain⟨r1,e1,f1⟩:=FI.sub ha hc l1;obtain⟨r2,e2,f2⟩:=FI.sub hb hd l2;exact⟨r1,r2,by simp[cSumBits,e1,e2],f1,f2⟩
theorem Y3 (s:Bool) (m p B:Nat) (h:m<=B*2 ^ p):Toward.zero.cut s m p<=B:=by
 unfold Toward.cut;rw[Nat.one_shiftLeft];dsimp only
 show m/2 ^ min p (m.log2+2)+0<=B
 rw[eL];by_cases c:p<=m.log2+2
 .rw[Nat.min_eq_left c];exact Nat.div_le_of_le_mul (by rw[Nat.mul_comm];exact h)
 .rw[Nat.min_eq_right U];have:m<2 ^ (m.log2+2):=iP Nat.lt_log2_self (Nat.pow_le_pow_right U U);rw[Nat.div_eq_of_lt this];omega
theorem Y4 {s:Bool} {m B:Nat} (h1: -(B:Int)<=sg s m) (h2:sg s m<=B):m<=B:=by
 cases s<;>simp[sg]at h1 h2<;>omega
theorem NQ {a b:Int} {k:Nat} (h:a*2 ^ k<=b*2 ^ k):a<=b:=Int.le_of_mul_le_mul_right h (Int.pow_pos U)
theorem between {d lo hi:Datum} {B:Nat} (hlo:DI lo (-(B:Int))) (hhi:DI hi B) (h1:(d.order lo==A .gt||d.order lo==A .eq)=true) (h2:(d.order hi==A .lt||d.order hi==A .eq)=true):
 ∃n:Int,d.toInt .zero=A n/\ -(B:Int)<=n/\n<=B:=by
 obtain⟨s1,m1,p1,rfl,e1⟩:=hlo;obtain⟨s2,m2,p2,rfl,e2⟩:=hhi
 cases d with
 |nan s f=>cases h1
 |infinity s=>cases s
              .cases h2
              .cases h1
 |number s m e=>
  have g1:∀{x y:Int},(A (compare x y)==A Ordering.gt||A (compare x y)==A Ordering.eq)=true->y<=x:=λ{x y} h=>by
   rcases Int.lt_trichotomy x y with c|c|c
   .rw[Int.compare_eq_lt.2 c]at h;cases h
   .omega
   .omega
  have g2:∀{x y:Int},(A (compare x y)==A Ordering.lt||A (compare x y)==A Ordering.eq)=true->x<=y:=λ{x y} h=>by
   rcases Int.lt_trichotomy x y with c|c|c
   .omega
   .omega
   .rw[Int.compare_eq_gt.2 c]at h;cases h
  have zE:=g1 h1;have oR:=g2 h2;rw[zD,zD,e1]at zE;rw[zD,zD,e2]at oR;have key:∃k:Nat,(Datum.number s m e).toInt .zero=A (sg s k)/\k<=B:=by
   refine⟨Toward.zero.cut s (m<<<e.toNat) (-e).toNat,?_,?_⟩
   .unfold Datum.toInt Datum.integral;dsimp only
    rw[zD,Int.pow_zero,Int.mul_one]
   .by_cases c:0<=e
    .obtain⟨ZU,rfl⟩:=Int.eq_ofNat_of_zero_le c;rw[show(-(ZU:Int)).toNat=0 by omega,Int.toNat_natCast,Nat.shiftLeft_eq];apply Y3;rw[Nat.pow_zero,lA];rw[show((ZU:Int)-min (ZU:Int) (-(p1:Int))).toNat=ZU+p1 by omega,show(-(p1:Int)-min (ZU:Int) (-(p1:Int))).toNat=0 by omega,Int.pow_zero,Int.mul_one,Int.pow_add,<-pU]at zE;rw[show((ZU:Int)-min (ZU:Int) (-(p2:Int))).toNat=ZU+p2 by omega,show(-(p2:Int)-min (ZU:Int) (-(p2:Int))).toNat=0 by omega,Int.pow_zero,Int.mul_one,Int.pow_add,<-pU]at oR;have a1:=NQ zE;have a2:=NQ oR;rw[show sg s m*2 ^ ZU=sg s (m*2 ^ ZU) by cases s<;>simp[sg,Int.neg_mul]]at a1 a2;exact Y4 a1 a2
    .obtain⟨p,rfl⟩:∃p:Nat,e= -(p:Int):=⟨(-e).toNat,U⟩;rw[show(- -(p:Int)).toNat=p by omega,show(-(p:Int)).toNat=0 by omega,Nat.shiftLeft_zero];apply Y3;rw[NN,show(-(p:Int)- -((max p p1:Nat):Int)).toNat=max p p1-p by omega,show(-(p1:Int)- -((max p p1:Nat):Int)).toNat=max p p1-p1 by omega,Cz _ (Nat.le_max_right p p1),
      <-Cz (-(B:Int)) (Nat.le_max_left p p1)]at zE
     rw[NN,show(-(p:Int)- -((max p p2:Nat):Int)).toNat=max p p2-p by omega,show(-(p2:Int)- -((max p p2:Nat):Int)).toNat=max p p2-p2 by omega,Cz _ (Nat.le_max_right p p2),
      <-Cz (B:Int) (Nat.le_max_left p p2)]at oR
     have a1:=NQ zE;have a2:=NQ oR;rw[Int.neg_mul]at a1;exact Y4 (B:=B*2 ^ p) (by rw[gQ,Int.natCast_pow];exact a1) (by rw[gQ,Int.natCast_pow];exact a2)
  obtain⟨k,hk,hB⟩:=key;exact⟨_,hk,by cases s<;>simp[sg]<;>omega,by cases s<;>simp[sg]<;>omega⟩
theorem Y5:FI 4652007308841189376 1000:=by
 have:=FI.ofInt 1000 eM;rwa[show floatOfInt .f64 1000=4652007308841189376 by decide]at this
theorem Y6:FI 13875379345695965184 (-1000):=by
 have:=FI.ofInt (-1000) eM;rwa[show floatOfInt .f64 (-1000)=13875379345695965184 by decide]at this
def ge (b:Nat):Bool:=FloatKind.f64.format.order b 13875379345695965184==A .gt||FloatKind.f64.format.order b 13875379345695965184==A .eq
def le (b:Nat):Bool:=FloatKind.f64.format.order b 4652007308841189376==A .lt||FloatKind.f64.format.order b 4652007308841189376==A .eq
def cut (b:Nat):Int:=((FloatKind.f64.decode b).toInt .zero).getD 0
theorem afs (h1:ge b=true) (h2:le b=true):floatToIntVal .f64 b Z=A (cut b)/\ -1000<=cut b/\cut b<=1000:=by
 obtain⟨n,e,l,r⟩:=between (B:=1000) Y6 Y5 h1 h2;have c:cut b=n:=by
  unfold cut;rw[show(FloatKind.f64.decode b).toInt .zero=A n from e];rfl
 rw[c];refine⟨?_,l,r⟩;unfold floatToIntVal;rw[show(FloatKind.f64.decode b).toInt .zero=A n from e];exact aR ⟨by show(-9223372036854775808:Int)<=n;omega,by show n<=(9223372036854775807:Int);omega⟩
def whole (b:Nat):Bool:=FloatKind.f64.format.order (floatOfInt .f64 (cut b)) b==A .eq
def CA (b:Nat):Int:=if ge b=true/\le b=true then cut b else 0
def CB (b:Nat):Bool:=ge b&&(le b&&whole b)
theorem aft (h:m<=n):(A (compare n m)==A Ordering.gt||A (compare n m)==A Ordering.eq)=true:=by
 by_cases c:n=m
 .rw[Int.compare_eq_eq.2 c];rfl
 .rw[Int.compare_eq_gt.2 U];rfl
theorem afu (h:n<=m):(A (compare n m)==A Ordering.lt||A (compare n m)==A Ordering.eq)=true:=by
 by_cases c:n=m
 .rw[Int.compare_eq_eq.2 c];rfl
 .rw[Int.compare_eq_lt.2 U];rfl
theorem FI.cut (h:FI b n):cut b=n:=by
 unfold Fl.cut;rw[show(FloatKind.f64.decode b).toInt .zero=A n from DI.toInt h];rfl
theorem FI.small (h:FI b n) (h1: -1000<=n) (h2:n<=1000):CA b=n/\CB b=true:=by
 have a1:ge b=true:=by unfold ge;rw[h.order Y6];exact aft h1
 have a2:le b=true:=by unfold le;rw[h.order Y5];exact afu h2
 have a3:whole b=true:=by
  unfold whole;rw[h.cut,(FI.ofInt n U).order h,Int.compare_eq_eq.2 rfl];rfl
 unfold CA CB;rw[aR ⟨a1,a2⟩,a1,a2,a3];exact⟨h.cut,rfl⟩
end Fl
end
section
open Fl
theorem Y7 (n lo hi:Int) (w:H):aA aq 318 #[Y Z n,Y Z lo,Y Z hi] w λe w'=>e=bG (aK (decide (lo<=n/\n<=hi)))/\w=w':=by
 by_cases h1:lo<=n
 .by_cases h2:n<=hi
  .rw[dI (aw h1 h2)];exact Q2I
  .rw[eP (λh=>h2 h.2)];have h3:decide (n<=hi)=ae:=eP h2;exact Q2I
 .rw[eP (λh=>h1 h.1)];exact Q2I
theorem AR (n lo hi:Int) (w:H) (h1:lo<=n) (h2:n<=hi):aA aq 318 #[Y Z n,Y Z lo,Y Z hi] w λe w'=>e=bG (aK true)/\w=w':=by
 have:=Y7 n lo hi w;rwa[dI (aw h1 h2)]at this
theorem Hh (n lo hi:Int) (w:H) (h:n<lo\/hi<n):aA aq 318 #[Y Z n,Y Z lo,Y Z hi] w λe w'=>e=bG (aK ae)/\w=w':=by
 have:=Y7 n lo hi w;rwa[eP (λg=>U)]at this
def EJ (r c:Int):Prop:= -1000<=r/\r<=1000/\ -1000<=c/\c<=1000
instance (r c:Int):Decidable (EJ r c):=by unfold EJ;infer_instance
theorem Y8 (r c:Int) (w:H) (h:EJ r c):aA aq 323 #[Y Z r,Y Z c] w λe w'=>e=bG (.complex .f64 (floatOfInt .f64 r) (floatOfInt .f64 c))/\w=w':=by
 obtain⟨h1,h2,h3,h4⟩:=h;go_enter func323,ntmps323;go_wp2_with (go_at_call 318;go_call AR as e w' ⟨rfl,rfl⟩)
 go_ret;exact⟨rfl,rfl⟩
theorem Y9 (b:Nat) (w:H):aA aq 325 #[.float .f64 b] w λe w'=>e=bG (aL #[Y Z (CA b),aK (CB b)])/\w=w':=by
 unfold CA CB;by_cases h1:ge b=true
 .by_cases h2:le b=true
  .obtain⟨h3,h4,h5⟩:=afs h1 h2;rw[aR ⟨h1,h2⟩,h1,h2];have hc:∀w,(convert 412 3 (.float .f64 b)).run aq w= .ok (Y Z (cut b)) w:=λw=>run_convert_float_int w 412 3 .f64 Z b (cut b) (by rw[underlying412];rfl) underlying3 h3;have hw:(FloatKind.f64.format.order (floatOfInt .f64 (cut b)) b==A .eq)=whole b:=rfl;generalize whole b=B at*;generalize cut b=n at*;unfold ge at h1;unfold le at h2;go_enter func325,ntmps325;go_wp2_with (simp only[hc])
   go_ret2
   exact⟨rfl,rfl⟩
  .rw[aI (λh=>h2 h.2),eq_false_of_ne_true h2];have h3:=eq_false_of_ne_true h2;unfold ge at h1;unfold le at h3;go_enter func325,ntmps325;go_wp2;go_ret2
   exact⟨Q2W,rfl⟩
 .rw[aI (λh=>h1 h.1),eq_false_of_ne_true h1];have h3:=eq_false_of_ne_true h1;unfold ge at h3;go_enter func325,ntmps325;go_wp2;go_ret2
  exact⟨rfl,rfl⟩
def JW (a b:Nat):Bool:=CB a&&CB b
theorem afv (a b:Nat) (w:H):aA aq 324 #[.complex .f64 a b] w λe w'=>e=bG (aL #[Y Z (if JW a b=true then CA a else 0),Y Z (if JW a b=true then CA b else 0),aK (JW a b)])/\w=w':=by
 have H1:=V (Y9 a);have H2:=V (Y9 b);unfold JW;generalize CA a=x at*;generalize CA b=y at*;generalize CB a=s at*;generalize CB b=t at*
 cases s<;>cases t
 all_goals
  go_enter func324,ntmps324;go_wp2_with fail;refine cq (H1.I _) ?_;go_wp2_with fail;refine cq (H2.I _) ?_;go_wp2;go_ret3
  exact⟨rfl,rfl⟩
theorem afw (a b:Nat) (x y:Int) (w:H) (ha:FI a x) (hb:FI b y) (x1: -1000<=x) (x2:x<=1000) (y1: -1000<=y) (y2:y<=1000):
 aA aq 324 #[.complex .f64 a b] w λe w'=>e=bG (aL #[Y Z x,Y Z y,aK true])/\w=w':=by
 have h:=afv a b w;unfold JW at h;rw[(ha.small x1 x2).1,(ha.small x1 x2).2,(hb.small y1 y2).1,(hb.small y1 y2).2]at h;exact h
theorem afx (r c s p:Int) (w:H) {a d f g:Nat} (ha:FI a s) (hb:FI b 0) (hd:FI d r) (he:FI e c) (hf:FI f p) (hg:FI g p) (s1:s.natAbs<=100) (r1:r.natAbs<=100) (c1:c.natAbs<=100) (p1:p.natAbs<=100):
 ∃m1 m2 q1 q2,cMulBits a b d e=A (m1,m2)/\cSumBits .sub .f64 m1 m2 f g=A (q1,q2)/\FI q1 (r*s-p)/\FI q2 (c*s-p):=by
 have bd:∀u v:Int,u.natAbs<=100->v.natAbs<=100->(u*v).natAbs<=10000:=λu v hu hv=>by
  rw[Int.natAbs_mul];exact mq hu hv
 have b1:=bd r s r1 s1;have b2:=bd c s c1 s1;obtain⟨m1,m2,e1,f1,f2⟩:=FI.afp ha hb hd he U eM U U;rw[Int.zero_mul,Int.sub_zero,Int.mul_comm]at f1;rw[Int.zero_mul,Int.add_zero,Int.mul_comm]at f2;obtain⟨q1,q2,e2,g1,g2⟩:=FI.afr f1 f2 hf hg U U;exact⟨m1,m2,q1,q2,e1,e2,g1,g2⟩
def Za (r c s p:Int):Prop:=0<=r/\r<=16/\0<=c/\c<=16/\1<=s/\s<=4/\0<=p/\p<=5
instance (r c s p:Int):Decidable (Za r c s p):=by unfold Za;infer_instance
def iI (rows aU k s p:Int):aj:=aF #[Y Z rows,Y Z aU,Y Z k,Y Z s,Y Z p]
theorem NS (rows aU k s p:Int) (w:H):
 (li w (ag #[Y Z rows,Y Z aU,Y Z k,Y Z s,Y Z p] 401)) w=A (Y Z rows)/\
 (li w (ag #[Y Z rows,Y Z aU,Y Z k,Y Z s,Y Z p] 401)) ⟨w,1,G⟩=A (Y Z aU)/\
 (li w (ag #[Y Z rows,Y Z aU,Y Z k,Y Z s,Y Z p] 401)) ⟨w,2,G⟩=A (Y Z k)/\
 (li w (ag #[Y Z rows,Y Z aU,Y Z k,Y Z s,Y Z p] 401)) ⟨w,3,G⟩=A (Y Z s)/\
 (li w (ag #[Y Z rows,Y Z aU,Y Z k,Y Z s,Y Z p] 401)) ⟨w,4,G⟩=A (Y Z p):=by
 have h:∀j:Nat,j<5->(li w (ag #[Y Z rows,Y Z aU,Y Z k,Y Z s,Y Z p] 401)) ⟨w,j,G⟩=#[Y Z rows,Y Z aU,Y Z k,Y Z s,Y Z p][j]? :=λj hj=>by
  have:=bZ w (ag #[Y Z rows,Y Z aU,Y Z k,Y Z s,Y Z p] 401);unfold kY;simp only[this];rfl
 exact⟨h 0 U,h 1 U,h 2 U,h 3 U,h 4 U⟩
theorem NT (n k s p:Int) (w:H):aA aq 214 #[Y Z n,Y Z k,Y Z s,Y Z p] w λe w'=>e=bG (Y Z (bO n k s p))/\w'=w:=(Sg n k s p w).mono λ_ _ ⟨a,b⟩=>⟨a,b.symm⟩
theorem NV (rows aU k s p:Int) (w:H):aA aq 317 #[iI rows aU k s p] w λe w'=>e=bG (aL #[Y Z (bO rows k s p),Y Z (bO aU k s p)])/\ay w w w':=by
 have hb:=V (aD w (ag #[Y Z rows,Y Z aU,Y Z k,Y Z s,Y Z p] 401));obtain⟨f0,f1,f2,f3,f4⟩:=NS rows aU k s p w;unfold iI;go_enter func317,ntmps317;go_wp2;generalize li w (ag #[Y Z rows,Y Z aU,Y Z k,Y Z s,Y Z p] 401)=w1 at*;go_quiet ((go_at_call 214;exact jG (NT _ _ _ _ _)))
 go_wp2;go_ret2
 exact⟨rfl,hb.I.bI _⟩
namespace Wn
def cell (rows aU y x:Int) (i j:Nat):List (Int×Int×Int):=
 if(0<=y+i/\y+i<=rows-1)/\(0<=x+j/\x+j<=aU-1)then[((y+i)*aU+(x+j),(i:Int),(j:Int))]else[]
def row (rows aU y x:Int) (i n:Nat):List (Int×Int×Int):=(iz n).flatMap (cell rows aU y x i)
def win (rows aU y x:Int) (n k:Nat):List (Int×Int×Int):=(iz n).flatMap (λi=>row rows aU y x i k)
theorem JX (rows aU y x:Int) (i n:Nat):row rows aU y x i (n+1)=row rows aU y x i n++cell rows aU y x i n:=by
 simp[row,List.range_succ]
theorem Zc (rows aU y x:Int) (n k:Nat):win rows aU y x (n+1) k=win rows aU y x n k++row rows aU y x n k:=by
 simp[win,List.range_succ]
theorem afy (rows aU y x:Int) (i j:Nat):(cell rows aU y x i j).length<=1:=by
 unfold cell;split<;>simp
theorem EK (rows aU y x:Int) (i:Nat):∀n,(row rows aU y x i n).length<=n
 |0=>by simp[row]
 |n+1=>by
  rw[JX,dG];have:=EK rows aU y x i n;have:=afy rows aU y x i n;omega
theorem JY (rows aU y x:Int) (k:Nat):∀n,(win rows aU y x n k).length<=n*k
 |0=>by simp[win]
 |n+1=>by
  rw[Zc,dG,Nat.succ_mul];have:=JY rows aU y x k n;have:=EK rows aU y x n k;omega
def Hi (t:Int×Int×Int):List aj:=[Y Z t.1,Y Z t.2.1,Y Z t.2.2]
def flat (L:List (Int×Int×Int)):List aj:=L.flatMap Hi
theorem afz (L M:List (Int×Int×Int)):flat (L++M)=flat L++flat M:=by simp[flat]
theorem sW (L:List (Int×Int×Int)):(flat L).length=L.length*3:=by
 induction L with
 |nil=>rfl
 |cons t L ih=>simp[flat,Hi]at ih⊢;omega
theorem flat_get:∀(L:List (Int×Int×Int)) (j:Nat),j<L.length->
 (flat L)[3*j]? =A (Y Z (L.getD j (0,0,0)).1)/\(flat L)[3*j+1]? =A (Y Z (L.getD j (0,0,0)).2.1)/\(flat L)[3*j+2]? =A (Y Z (L.getD j (0,0,0)).2.2)
 | [],j,h=>Q4b
 |t::L,0,h=>by simp[flat,Hi]
 |t::L,j+1,h=>by
  obtain⟨h1,h2,h3⟩:=flat_get L j Q32;rw[show flat (t::L)=Hi t++flat L from rfl,show 3*(j+1)=3*j+3 by omega];have hl:(Hi t).length=3:=rfl;refine⟨?_,?_,?_⟩
  .rw[List.getElem?_append_right U,hl,show 3*j+3-3=3*j by omega,h1];rfl
  .rw[List.getElem?_append_right U,hl,show 3*j+3+1-3=3*j+1 by omega,h2];rfl
  .rw[List.getElem?_append_right U,hl,show 3*j+3+2-3=3*j+2 by omega,h3];rfl
theorem app {g c':Nat} {L M:List (Int×Int×Int)} (h:w'.ownsRow base e 3 (O g (L.length+1) c') (L.length+1) (flat L++Hi t)) (hm:M=L++[t]):
 w'.ownsRow base e 3 (O g (L.length+1) c') M.length (flat M):=by
 subst hm;rw[afz,dG];exact h
theorem afA (w:H) (a b c:aj) (t:dy):∀j u,[a,b,c][j]? =A u->(li w (ag #[a,b,c] t)).cell? ((⟨w,0,G⟩:Addr).add j)=A u:=by
 intro j u hu;rcases j with _|_|_|j
 .rw[<-hu];show(li w (ag #[a,b,c] t)) w=_;rw[World.cell?_alloc_new];rfl
 .rw[<-hu];show(li w (ag #[a,b,c] t)) ⟨w,1,G⟩=_;rw[World.cell?_alloc_new];rfl
 .rw[<-hu];show(li w (ag #[a,b,c] t)) ⟨w,2,G⟩=_;rw[World.cell?_alloc_new];rfl
 .simp at hu
end Wn
def oq (w:H) (a:aC) (n:Nat) (L:List (Int×Int×Int)):Prop:=
 L.length=n/\(n=0\/∃g,a=A ⟨g,0,G⟩/\g<w.heap.size/\∀j,j<n->w ⟨g,3*j,G⟩=A (Y Z (L.getD j (0,0,0)).1)/\w ⟨g,3*j+1,G⟩=A (Y Z (L.getD j (0,0,0)).2.1)/\w ⟨g,3*j+2,G⟩=A (Y Z (L.getD j (0,0,0)).2.2))
def AV (L:List (Int×Int×Int)) (w:H):dN->H->Prop:=λe w'=>∃a n c,e=bG (O a n c)/\oq w' a n L/\ay w w w'
def Zd (L:List (Int×Int×Int)) (w:H):dN->H->Prop:=λe w'=>∃a n c,e=bG (O a n c)/\oq w' a n L/\ay w w w'/\∀x,a=A x->w.heap.size<=x.block
theorem oq.owned {L:List (Int×Int×Int)} (h:w.ownsRow base e 3 v L.length (Wn.flat L)):∃a n c,v=O a n c/\oq w a n L:=by
 rcases h.2 with⟨h1,h2⟩|⟨g,cap,cur,h1,_⟩
 .exact⟨_,_,_,h1,h2,aM rfl⟩
 .refine⟨_,_,_,h1,rfl,bJ ⟨g,rfl,(h.lt g (by rw[h1];rfl)).2,λj hj=> ?_⟩⟩;rw[h1]at h;obtain⟨g1,g2,g3⟩:=Wn.flat_get L j hj;exact⟨(h.cellAt _ U).trans g1,(h.cellAt _ U).trans g2,(h.cellAt _ U).trans g3⟩
theorem Ze:(aq.info? 377).map (λi=>(i.zero,i.size,i.bytes))=A (A (aF #[Y Z 0,Y Z 0,Y Z 0]),3,24):=Q2Q
theorem Sm (r c:Int) (w:H) (h:EJ r c):aA aq 323 #[Y Z r,Y Z c] w λe w'=>e=bG (.complex .f64 (floatOfInt .f64 r) (floatOfInt .f64 c))/\w'=w:=(Y8 r c w h).mono λ_ _ ⟨a,b⟩=>⟨a,b.symm⟩
theorem Zf (rows aU s p r c:Int) (K:Nat) (w:H) (gZ:1<=rows) (pD:rows<=16) (iJ:1<=aU) (jH:aU<=16) (ot:1<=K) (ig:K<=5) (iK:1<=s) (ja:s<=4) (wX:0<=p) (oT:p<=5) (h0:0<=r) (h1:r<=20) (h2:0<=c) (h3:c<=20):
 aA aq 319 #[iI rows aU (K:Int) s p,Y Z r,Y Z c] w (Zd (Wn.win rows aU (r*s-p) (c*s-p) K K) w):=by
 have hb:=V (aD w (ag #[Y Z rows,Y Z aU,Y Z K,Y Z s,Y Z p] 401));obtain⟨f0,f1,f2,f3,f4⟩:=NS rows aU K s p w;have ok1:EJ s 0:=⟨U,U,U,U⟩;have ok2:EJ r c:=⟨U,U,U,U⟩;have ok3:EJ p p:=⟨U,U,U,U⟩;obtain⟨m1,m2,q1,q2,e1,e2,k1,k2⟩:=afx r c s p w (FI.ofInt s U) (FI.ofInt 0 U) (FI.ofInt r U) (FI.ofInt c U) (FI.ofInt p U) (FI.ofInt p U) U U U U;have hm:∀t w,(binOp .mul t (.complex .f64 (floatOfInt .f64 s) (floatOfInt .f64 0)) (.complex .f64 (floatOfInt .f64 r) (floatOfInt .f64 c))).run aq w= .ok (.complex .f64 m1 m2) w:=λt w=>run_complex_mul w t _ _ _ _ m1 m2 e1;have hs:∀t w,(binOp .sub t (.complex .f64 m1 m2) (.complex .f64 (floatOfInt .f64 p) (floatOfInt .f64 p))).run aq w= .ok (.complex .f64 q1 q2) w:=λt w=>run_complex_sum w .sub (bJ rfl) t .f64 m1 m2 _ _ q1 q2 e2;have bd:∀u v:Int,0<=u->u<=20->0<=v->v<=4->0<=u*v/\u*v<=80:=λu v a1 a2 a3 a4=>by
  have:=pA a2 a4 a3 U;exact⟨qG a1 a3,U⟩
 obtain⟨y0,y1⟩:=bd r s h0 h1 U ja;obtain⟨x0,x1⟩:=bd c s h2 h3 U ja;generalize hY:r*s-p=Z6 at*;generalize hX:c*s-p=X at*;have Y1: -5<=Z6:=U;have Y2:Z6<=80:=U;have X1: -5<=X:=U;have X2:X<=80:=U;have K1:=V k1;have K2:=V k2;obtain⟨i0,hi,cF,cG,cB⟩:=fB Ze;clear bd hY hX;unfold iI;go_enter func319,ntmps319;go_wp2;generalize eI:li w (ag #[Y Z rows,Y Z aU,Y Z K,Y Z s,Y Z p] 401)=w1 at*;have dQ:w1.heap.size=w.heap.size+1:=by rw[<-eI,bF]
 clear eI;have F0:=V f0;have F1:=V f1;have F2:=V f2;go_quiet ((go_at_call 323;first|exact jG (Sm _ _ _ ok1)|exact jG (Sm _ _ _ ok2)|exact jG (Sm _ _ _ ok3)))
 have g0:(w1.drewN nq) w=A (Y Z rows):=F0.I;have g1:(w1.drewN nq) ⟨w,1,G⟩=A (Y Z aU):=F1.I;have g2:(w1.drewN nq) ⟨w,2,G⟩=A (Y Z K):=F2.I;have B1:=V (hb.I.bI nq);clear hm hs dQ;generalize w1.drewN nq=w2 at*;have G0:=V g0;have G1:=V g1;have G2:=V g2;go_wp2;clear g0 g1 g2;go_loopw [7,29] (λl i wr=>∃Z9:Nat,Z9<=K/\i=Y Z Z9/\wr.ownsRow w2.heap.size 377 3 l (Wn.win rows aU Z6 X Z9 K).length (Wn.flat (Wn.win rows aU Z6 X Z9 K))/\ay w2 w2 wr) (λ_ i _=>K-(aX i).toNat)
 case atStart=>exact⟨0,cK _,rfl,gP _ _ _ _,eG _ _⟩
 case round=>
  obtain⟨Z9,hI,rfl,aV,j7⟩:=hrel;by_cases aT:Z9<K
  .have c2:=j7.cell_of G2.I;have GO:=V aV;have GN:=V j7;clear aV j7;go_wp2;clear c2;go_loopw [7,34] (λl j wx=>∃ZV:Nat,ZV<=K/\j=Y Z ZV/\wx.ownsRow w2.heap.size 377 3 l (Wn.win rows aU Z6 X Z9 K++Wn.row rows aU Z6 X Z9 ZV).length (Wn.flat (Wn.win rows aU Z6 X Z9 K++Wn.row rows aU Z6 X Z9 ZV))/\ay w2 w2 wx) (λ_ j _=>K-(aX j).toNat)
   case atStart=>exact⟨0,cK _,rfl,by simpa[Wn.row]using GO.I,GN.I⟩
   case round=>
    obtain⟨ZV,hJ,rfl,aV,j7⟩:=hrel;by_cases wY:ZV<K
    .obtain⟨t1,t2,e1,k1,k2⟩:=FI.afq K1.I K2.I (FI.ofInt Z9 U) (FI.ofInt ZV U) U U;have ha:∀t w,(binOp .add t (.complex .f64 q1 q2) (.complex .f64 (floatOfInt .f64 Z9) (floatOfInt .f64 ZV))).run aq w= .ok (.complex .f64 t1 t2) w:=λt w=>run_complex_sum w .add (aM rfl) t .f64 q1 q2 _ _ t1 t2 e1;have OF:=V (λw=>Y8 Z9 ZV w ⟨U,U,U,U⟩);have TO:=V (λw=>afw t1 t2 (Z6+Z9) (X+ZV) w k1 k2 U U U U);generalize floatOfInt .f64 Z9=fi at*;generalize floatOfInt .f64 ZV=fj at*;have c0:=j7.cell_of G0.I;have c1:=j7.cell_of G1.I;have iB:(Wn.win rows aU Z6 X Z9 K++Wn.row rows aU Z6 X Z9 ZV).length<=30:=by
      rw[dG];have l1:=Wn.JY rows aU Z6 X K Z9;have l2:=Wn.EK rows aU Z6 X Z9 ZV;have l3:Z9*K<=5*5:=mq U ig;omega
     have ou:=Wn.JX rows aU Z6 X Z9 ZV;unfold Wn.cell at ou;generalize hL:Wn.win rows aU Z6 X Z9 K++Wn.row rows aU Z6 X Z9 ZV=L at*;have HL:=V hL;have GO:=V aV;have GN:=V j7;clear aV j7 hL;by_cases hy:0<=Z6+Z9/\Z6+Z9<=rows-1
     .by_cases hx:0<=X+ZV/\X+ZV<=aU-1
      .rw[aR ⟨hy,hx⟩]at ou;have HR:=V ou;clear ou;obtain⟨y1,y2⟩:=hy;obtain⟨x1,x2⟩:=hx;have z0:0<=(Z6+Z9)*aU:=qG y1 U;have z1:(Z6+Z9)*aU<=16*16:=pA U jH U U;go_wp2_with fail;refine cq (OF.I _) ?_;go_wp2_with (simp only[ha])
       refine cq (TO.I _) ?_;go_wp2_with (first
        |(go_at_call 318;go_call AR as e w' ⟨rfl,rfl⟩)
        |(at_builtin;refine af3 _ rfl _ _ 374 rfl w2.heap.size 377 i0 (aF #[Y Z 0,Y Z 0,Y Z 0]) 3 24 underlying374 hi cF cG cB rfl eM _ L.length (Wn.flat L) rfl (GO.I.alloc _) ⟨wr,0,G⟩ 1 1 [Y Z ((Z6+Z9)*aU+(X+ZV)),Y Z Z9,Y Z ZV] rfl rfl ?c1 ?c2 ?c3 ?c4 ?c5 ?c6 ?_))
       case c1=>exact Wn.afA _ _ _ _ _
       case c2=>intro u hu;simp at hu;rcases hu with rfl|rfl|rfl<;>rfl
       case c3=>unfold eS;omega
       case c4=>omega
       case c5=>have:=GN.I.size;rw[bF];omega
       case c6=>omega
       intro g c' w4 fT eD hg qI;have GB:=V (Se GN.I GN.I.size GO.I eD);have AX:=V (Wn.app (t:=((Z6+Z9)*aU+(X+ZV),(Z9:Int),(ZV:Int))) (M:=Wn.win rows aU Z6 X Z9 K++Wn.row rows aU Z6 X Z9 (ZV+1)) fT (by rw[HR.I,<-lL,HL.I]));clear fT eD;exact Q1X
      .rw[aI (λh=>hx h.2),List.append_nil]at ou;have HR:=V ou;clear ou;have lD:X+ZV<0\/aU-1<X+ZV:=U;obtain⟨y1,y2⟩:=hy;clear hx;have IX:=V (λw=>Hh (X+ZV) 0 (aU-1) w lD);go_wp2_with fail;refine cq (OF.I _) ?_;go_wp2_with (simp only[ha])
       refine cq (TO.I _) ?_;go_wp2_with fail;refine cq (AR (Z6+Z9) 0 (rows-1) _ y1 y2) ?_;exact Q1f
     .rw[aI (λh=>hy h.1),List.append_nil]at ou;have HR:=V ou;clear ou;have JZ:Z6+Z9<0\/rows-1<Z6+Z9:=U;clear hy;have IX:=V (λw=>Hh (Z6+Z9) 0 (rows-1) w JZ);go_wp2_with fail;refine cq (OF.I _) ?_;go_wp2_with (simp only[ha])
      refine cq (TO.I _) ?_;exact Q1f
    .have zF:ZV=K:=U;have fT:=aV;rw[zF,<-Wn.Zc]at fT;have GO:=V fT;have GN:=V j7;clear aV fT j7 zF;go_wp2;go_roundw
     case rel=>exact⟨Z9+1,U,Q2T,GO.I,GN.I⟩
     case measure=>exact Q5q
  .have yh:Z9=K:=U;have fT:=aV;rw[yh]at fT;obtain⟨a,n,c',hv,mY⟩:=oq.owned fT;have wZ:=V (show ∀x,a=A x->w.heap.size<=x.block from λx hx=>by
    have h1:=(fT.lt x.block (by rw[hv,hx];rfl)).1;have h2:=B1.I.size;omega)
   rw[hv];have GW:=V mY;have GN:=V (j7.mono B1.I.size);clear aV fT j7 yh hv mY;go_wp2;go_ret;exact⟨_,_,_,rfl,GW.I,B1.I.trans GN.I,wZ.I⟩
theorem afB (rows aU s p r c:Int) (K:Nat) (w:H) (gZ:1<=rows) (pD:rows<=16) (iJ:1<=aU) (jH:aU<=16) (ot:1<=K) (ig:K<=5) (iK:1<=s) (ja:s<=4) (wX:0<=p) (oT:p<=5) (h0:0<=r) (h1:r<=20) (h2:0<=c) (h3:c<=20):
 aA aq 319 #[iI rows aU (K:Int) s p,Y Z r,Y Z c] w (AV (Wn.win rows aU (r*s-p) (c*s-p) K K) w):=
 (Zf rows aU s p r c K w gZ pD iJ jH ot ig iK ja wX oT h0 h1 h2 h3).mono λ_ _ ⟨a,n,c,h1,h2,h3,_⟩=>⟨a,n,c,h1,h2,h3⟩
theorem oy {k s p:Int} (h:1<=bO n k s p):1<=n/\n<=16/\1<=k/\k<=5/\1<=s/\s<=4/\0<=p/\p<=4/\bO n k s p<=20:=by
 unfold bO at h⊢;split at h
 .rename_i hk;rw[aR hk];obtain⟨h1,h2,h3,h4,h5,h6,h7,h8,h9⟩:=hk;have:(n+2*p-k)/s<=19:=by
   exact Q2L
  omega
 .omega
def AY (rows aU r c k s p:Int):Prop:=1<=bO rows k s p/\1<=bO aU k s p/\0<=r/\r<=bO rows k s p-1/\0<=c/\c<=bO aU k s p-1
instance (rows aU r c k s p:Int):Decidable (AY rows aU r c k s p):=by unfold AY;infer_instance
def jc (rows aU r c k s p:Int):List (Int×Int×Int):=if AY rows aU r c k s p then Wn.win rows aU (r*s-p) (c*s-p) k.toNat k.toNat else[]
theorem afC (rows aU r c k s p:Int) (w:H) (h:AY rows aU r c k s p):aA aq 297 #[Y Z rows,Y Z aU,Y Z r,Y Z c,Y Z k,Y Z s,Y Z p] w (AV (Wn.win rows aU (r*s-p) (c*s-p) k.toNat k.toNat) w):=by
 obtain⟨o1,o2,r1,r2,c1,c2⟩:=h;obtain⟨b1,b2,b3,b4,b5,b6,b7,b8,b9⟩:=oy o1;obtain⟨d1,d2,d3,d4,d5,d6,d7,d8,d9⟩:=oy o2;have PO:=V (NV rows aU k s p);have PW:=V (λw=>afB rows aU s p r c k.toNat w b1 b2 d1 d2 U U b5 b6 b7 U r1 U c1 U);rw[show((k.toNat:Nat):Int)=k by omega]at PW;generalize bO rows k s p=m at*;generalize bO aU k s p=n at*;go_enter func297,ntmps297;go_wp2_with fail;refine bY (PO.I _) λw2 hb=> ?_;obtain⟨f0,f1,f2,f3,f4⟩:=NS rows aU k s p w;have g0:=hb.cell_of f0;have g1:=hb.cell_of f1;have g2:=hb.cell_of f2;have g3:=hb.cell_of f3;have g4:=hb.cell_of f4;have hB:=V ((aD w _).step hb);go_wp2_with fail;refine cq (AR r 0 (m-1) _ r1 r2) ?_;go_wp2_with fail;refine cq (AR c 0 (n-1) _ c1 c2) ?_;go_wp2_with fail;refine(PW.I _).mono ?_;rintro e w3 ⟨a,l,c',rfl,hw,eg⟩;have HW:=V hw;have HB:=V (hB.I.step eg);clear hw;go_wp2;go_ret;exact⟨_,_,_,rfl,HW.I,HB.I⟩
theorem uf (n k s p:Int):0<=bO n k s p/\bO n k s p<=20:=by
 by_cases h:1<=bO n k s p
 .have:=(oy h).2.2.2.2.2.2.2.2;omega
 .have:0<=bO n k s p:=by
   unfold bO;split
   .rename_i hk;obtain⟨h1,h2,h3,h4,h5,h6,h7,h8,h9⟩:=hk;have:=Int.ediv_nonneg (show 0<=n+2*p-k by omega) (show 0<=s by omega);omega
   .omega
  omega
theorem afD (rows aU r c k s p:Int) (w:H) (h:¬AY rows aU r c k s p):aA aq 297 #[Y Z rows,Y Z aU,Y Z r,Y Z c,Y Z k,Y Z s,Y Z p] w (AV [] w):=by
 have PO:=V (NV rows aU k s p);obtain⟨m0,m20⟩:=uf rows k s p;obtain⟨n0,n20⟩:=uf aU k s p;unfold AY at h;generalize bO rows k s p=m at*;generalize bO aU k s p=n at*;have cs:m<1\/(1<=m/\n<1)\/(1<=m/\1<=n/\(r<0\/m-1<r))\/(1<=m/\1<=n/\0<=r/\r<=m-1/\(c<0\/n-1<c)):=U;clear h;rcases cs with h|⟨h1,h⟩|⟨h1,h2,h⟩|⟨h1,h2,h3,h4,h⟩
 .go_enter func297,ntmps297;exact Q0w
 .go_enter func297,ntmps297;exact Q0w
 .have IN:=V (λw=>Hh r 0 (m-1) w h);clear h;go_enter func297,ntmps297;exact Q2B
 .have IN:=V (λw=>Hh c 0 (n-1) w h);clear h;go_enter func297,ntmps297;go_wp2_with fail;refine bY (PO.I _) λw2 hb=> ?_;have hB:=V ((aD w _).step hb);go_wp2_with fail;refine cq (AR r 0 (m-1) _ h3 h4) ?_;exact Q0P
theorem Zg (rows aU r c k s p:Int) (w:H):aA aq 297 #[Y Z rows,Y Z aU,Y Z r,Y Z c,Y Z k,Y Z s,Y Z p] w (AV (jc rows aU r c k s p) w):=by
 unfold jc;by_cases h:AY rows aU r c k s p
 .rw[aR h];exact afC rows aU r c k s p w h
 .rw[aI h];exact afD rows aU r c k s p w h
end
section
open Lt
section
variable {P:Program} {ops:Array Oper} {Q:Exit->Act->World->Prop} {md:Region.Mode} {S:World->Prop} {late:Nat->Bool}
theorem qJ {oi:Oper} {v:Value} {fuel:Nat} {listed:Array Bool} {a:Act} {w:World} {Z5:Prop} (hS:S w) (i:Nat) (k:Z5) (hi:ops[i]? =some oi:=by rfl) (hB:J1 md ops late i listed=true:=by kernel_rfl)
 (hQ:∀c a w,Q (.panic c) (a.put oi.dst v) w->Q (.panic c) a w:=by exact λ_ _ _ h=>h) (hy:YieldsIf P ops S oi v a:=by(refine Or.inl ⟨by rfl,?_⟩;intro w' hw';go_simp;try with_reducible rfl))
 (h:RowKit.Hid Z5->ij P md ops Q S late fuel (listed.setIfInBounds i true) (a.put oi.dst v) w:=by(intro k0;(try simp only[Act.put,List.setIfInBounds_toArray,List.set_cons_zero,List.set_cons_succ]);exact k0.I)):ij P md ops Q S late (fuel+1) listed a w:=take hi hB hQ hy hS (h k)
theorem kq {oi:Oper} {v:Value} {fuel:Nat} {listed:Array Bool} {a:Act} {w:World} {Z5:Prop} {Z4:World->Prop} (hS:S w) (i:Nat) (u:∀w',S w'->Z4 w') (k:Z5) (hi:ops[i]? =some oi:=by rfl) (hB:J1 md ops late i listed=true:=by kernel_rfl)
 (hQ:∀c a w,Q (.panic c) (a.put oi.dst v) w->Q (.panic c) a w:=by exact λ_ _ _ h=>h) (hy:RowKit.Hid (∀w',S w'->Z4 w')->YieldsIf P ops S oi v a:=by(intro u0;refine Or.inl ⟨by rfl,?_⟩;intro w' hw';have hu:=u0.I w' hw';clear hw';go_simp;try with_reducible rfl))
 (h:RowKit.Hid Z5->ij P md ops Q S late fuel (listed.setIfInBounds i true) (a.put oi.dst v) w:=by(intro k0;(try simp only[Act.put,List.setIfInBounds_toArray,List.set_cons_zero,List.set_cons_succ]);exact k0.I)):ij P md ops Q S late (fuel+1) listed a w:=take hi hB hQ (hy u) hS (h k)
theorem bB {K R:Act->World->Prop} {c:Prop} {a:Act} {w:World} {Z5:Prop} (hK:RowKit.Hid (∀a' w',((c->S w')/\R a' w')->K a' w')) (s:S w) (k:Z5)
 (h:RowKit.Hid Z5->R a w:=by(intro k0;(try simp only[Act.put,List.setIfInBounds_toArray,List.set_cons_zero,List.set_cons_succ]);exact k0.I)):K a w:=hK.I a w ⟨λ_=>s,h k⟩
theorem jg {K R:Act->World->Prop} {c:Prop} {a:Act} {w:World} {Z5:Prop} (hK:RowKit.Hid (∀a' w',((c->S w')/\R a' w')->K a' w')) (k:Z5)
 (hc:¬c:=by decide) (h:RowKit.Hid Z5->R a w:=by(intro k0;(try simp only[Act.put,List.setIfInBounds_toArray,List.set_cons_zero,List.set_cons_succ]);exact k0.I)):K a w:=hK.I a w ⟨λx=>absurd x hc,h k⟩
theorem cS {id:Nat} {a:Act} {w:World} (S:World->Prop) (h:ij P .any ops Q S (λ_=>false) ops.size (Array.replicate ops.size false) a w.drew) (hm:P.follows .mixedOrders=true:=by kernel_rfl):(Code.region id ops true).wp P Q a w:=begins S (λ_=>false) hm h
theorem eE {w:World} {fuel:Nat} {listed:Array Bool} {a:Act} (s:S w) (k:S w->ij P md ops Q S late fuel listed a w):ij P md ops Q S late fuel listed a w:=k s
end
theorem oz {P:Program} {f:Func} {POST:Ending->World->Prop} {BP:Exit->Act->World->Prop} (dS:bodyPost P f POST=BP):RowKit.Hid (∀d v c (a:Act) (w:World),BP (.panic c) (a.put (some d) v) w->BP (.panic c) a w):=Lib.hid (λd v c a w h=>by rw[<-dS]at h⊢;exact h)
end
namespace Rd
def iC (n lo hi:Int):Int:=max lo (min n hi)
def val (v:Int):Int:=iC v (-4611686018427387904) 4611686018427387904
def oA (s:Int):Nat:=(iC s 0 62).toNat
def down (v s:Int):Int:=val v/2 ^ oA s
def xe (v s:Int):Int:=if oA s=0 then val v else(val v+2 ^ (oA s-1))/2 ^ oA s
def lO (v s r:Int):Int:=(val v+r%2 ^ oA s)/2 ^ oA s
end Rd
theorem Rd.Zs (h1:lo<if hi<n then hi else n) (h2:hi<n):hi=Rd.iC n lo hi:=by rw[aR h2]at h1;unfold Rd.iC;omega
theorem Rd.Zt (h1:lo<if hi<n then hi else n) (h2:n<=hi):n=Rd.iC n lo hi:=by rw[aI U]at h1;unfold Rd.iC;omega
theorem Rd.Zu (h1:(if hi<n then hi else n)<=lo):lo=Rd.iC n lo hi:=by unfold Rd.iC;split at h1<;>omega
theorem N3 (n lo hi:Int) (w:H):aA aq 295 #[Y Z n,Y Z lo,Y Z hi] w λe w'=>e=bG (Y Z (Rd.iC n lo hi))/\w=w':=by
 go_enter func295,ntmps295;exact Q1o
theorem Sr (n lo hi:Int) (w:H):aA aq 296 #[Y Z n,Y Z lo,Y Z hi] w λe w'=>e=bG (Y Z (Rd.iC n lo hi))/\w=w':=by
 go_enter func296,ntmps296;exact Q1o
theorem Hk (v:Int) (w:H):aA aq 294 #[Y Z v] w λe w'=>e=bG (Y Z (Rd.val v))/\w=w':=by
 go_enter func294,ntmps294;go_wp2_with (go_at_call 296;refine(Sr _ _ _ _).mono ?_;rintro e w' ⟨rfl,rfl⟩)
 go_ret;exact⟨rfl,rfl⟩
theorem N4 (s:Int) (w:H):aA aq 293 #[Y Z s] w λe w'=>e=bG (Y Z (Rd.oA s:Nat))/\w=w':=by
 go_enter func293,ntmps293;go_wp2_with (go_at_call 295;refine(N3 _ _ _ _).mono ?_;rintro e w' ⟨rfl,rfl⟩)
 go_ret;exact⟨jS (by unfold Rd.oA Rd.iC;omega),rfl⟩
theorem Rd.Ss (s:Int):Rd.oA s<=62:=by unfold Rd.oA Rd.iC;omega
theorem Rd.St (v:Int): -4611686018427387904<=Rd.val v:=Q4F
theorem Rd.Sv (v:Int):Rd.val v<=4611686018427387904:=Q4F
theorem Rd.Hl {T n:Nat} (h:T<=n):(2:Int) ^ T<=2 ^ n:=by
 have:=Nat.pow_le_pow_right (n:=2) eM h
 exact_mod_cast this
theorem Rd.pow_pos (T:Nat):(0:Int)<2 ^ T:=Int.pow_pos eM
theorem Rd.afK {T:Nat} (h1:T+1<=62) (h2: -4611686018427387904<=Z8) (h3:Z8<=4611686018427387904):cM (Z8+cM (2 ^ T))=Z8+2 ^ T:=by
 have p:=Rd.Hl (show T<=61 by omega);have q:=Rd.pow_pos T;have e:(2:Int) ^ 61=2305843009213693952:=Q3h;rw[e]at p;rw[iZ (2 ^ T) ⟨U,U⟩,iZ _ ⟨U,U⟩]
theorem Rd.afL {r:Int} {S:Nat} (h1:S<=62) (h2: -4611686018427387904<=Z8) (h3:Z8<=4611686018427387904) (hr:(cX cD r).wf=true):
 cM (Z8+cM (bits .and cD r (cD.wrap (cD.wrap (2 ^ S)-1))))=Z8+r%2 ^ S:=by
 have p:=Rd.Hl h1;have q:=Rd.pow_pos S;have e:(2:Int) ^ 62=4611686018427387904:=Q3h;rw[e]at p;obtain⟨r0,r1⟩:0<=r/\r<=18446744073709551615:=bounds_u64 hr;rw[IntWalk.u64_in (2 ^ S) ⟨U,U⟩,IntWalk.u64_in (2 ^ S-1) ⟨U,U⟩];rw[bits_mask cD 64 eM (λn h0 h1=>IntWalk.u64_in n ⟨h0,by simp at h1;omega⟩) S U r r0 Q2R];have m0:=Int.emod_nonneg r (show(2:Int) ^ S≠0 by omega);have m1:=Int.emod_lt_of_pos r q;rw[iZ (r%2 ^ S) ⟨U,U⟩,iZ _ ⟨U,U⟩]
theorem afM (v s:Int) (w:H):aA aq 279 #[Y Z v,Y Z s] w λe w'=>e=bG (Y Z (Rd.down v s))/\w=w':=by
 have h1:=Rd.Ss s;go_enter func279,ntmps279;go_wp2_with (first
  |(go_at_call 294;refine(Hk _ _).mono ?_;rintro e w' ⟨rfl,rfl⟩)
  |(go_at_call 293;refine(N4 _ _).mono ?_;rintro e w' ⟨rfl,rfl⟩))
 go_ret;exact⟨rfl,rfl⟩
theorem Zv (v:Int) (w:H):aA aq 294 #[Y Z v] w λe w'=>e=bG (Y Z (Rd.val v))/\w'=w:=(Hk v w).mono λ_ _ ⟨a,b⟩=>⟨a,b.symm⟩
theorem afN (v s:Int) (w:H) (h:Rd.oA s=0):aA aq 281 #[Y Z v,Y Z s] w (oa (Y Z (Rd.val v)) w):=by
 have hb:(((Rd.oA s:Nat):Int)==0)=true:=by rw[h];rfl
 clear h;go_enter func281,ntmps281;go_wp2_with (first
  |(go_at_call 294;refine(Hk _ _).mono ?_;rintro e w' ⟨rfl,rfl⟩)
  |(go_at_call 293;refine(N4 _ _).mono ?_;rintro e w' ⟨rfl,rfl⟩))
 go_ret;exact⟨rfl,0,rfl⟩
theorem afO (v s:Int) (w:H) (T:Nat) (h:Rd.oA s=T+1):aA aq 281 #[Y Z v,Y Z s] w (oa (Y Z ((Rd.val v+2 ^ T)/2 ^ (T+1))) w):=by
 have h1:T+1<=62:=h▸Rd.Ss s;have h2:=Rd.St v;have h3:=Rd.Sv v;have hb:(((T+1:Nat):Int)==0)=ae:=by rw[beq_eq_false_iff_ne];omega
 have ZW:=V (λw=>h▸N4 s w);clear h;go_enter func281,ntmps281;go_wp2_with (go_at_call 293;refine(ZW.I _).mono ?_;rintro e w' ⟨rfl,rfl⟩)
 go_quiet ((go_at_call 294;exact jG (Zv _ _)))
 go_wp2;go_ret;exact⟨jS (by rw[Rd.afK h1 h2 h3]),nq,rfl⟩
theorem Zw (v s:Int) (w:H):aA aq 281 #[Y Z v,Y Z s] w (oa (Y Z (Rd.xe v s)) w):=by
 unfold Rd.xe;by_cases h:Rd.oA s=0
 .rw[aR h];exact afN v s w h
 .rw[aI h];obtain⟨T,hT⟩:∃T,Rd.oA s=T+1:=⟨Rd.oA s-1,U⟩;rw[hT];exact afO v s w T hT
theorem Zx (v s r:Int) (hr:(cX cD r).wf=true) (w:H):aA aq 238 #[Y Z v,Y Z s,Y cD r] w (oa (Y Z (Rd.lO v s r)) w):=by
 have h1:=Rd.Ss s;have h2:=Rd.St v;have h3:=Rd.Sv v;have N5:=V hr;clear hr;go_enter func238,ntmps238;go_wp2_with (go_at_call 293;refine(N4 _ _).mono ?_;rintro e w' ⟨rfl,rfl⟩)
 go_quiet ((go_at_call 294;exact jG (Zv _ _)))
 go_wp2;go_ret;exact⟨jS (by rw[Rd.afL (h1:=h1) h2 h3 N5.I];rfl),nq,rfl⟩
def Rd.wid (w:Int):Nat:=(Rd.iC w 1 32).toNat-1
theorem Rd.Zy (w:Int):Rd.wid w<=31:=Q4E
def Rd.vB (v w:Int):Int:=Rd.iC (Rd.val v) (-(2 ^ Rd.wid w-1)) (2 ^ Rd.wid w-1)
theorem afP (s:Int) (w:H):aA aq 295 #[Y Z s,Y Z 1,Y Z 32] w λe w'=>e=bG (Y Z ((Rd.wid s+1:Nat):Int))/\w=w':=
 (N3 s 1 32 w).mono λ_ _ ⟨a,b⟩=>⟨a.trans (jS Q4E),b⟩
theorem Rd.Zz (w:Int):cM (cM (2 ^ Rd.wid w)-1)=2 ^ Rd.wid w-1/\cM (-(2 ^ Rd.wid w-1))= -(2 ^ Rd.wid w-1):=by
 have p:=Rd.Hl (Rd.Zy w);have q:=Rd.pow_pos (Rd.wid w);have e:(2:Int) ^ 31=2147483648:=Q3h;rw[e]at p;rw[iZ (2 ^ Rd.wid w) ⟨U,U⟩];exact⟨iZ _ ⟨U,U⟩,iZ _ ⟨U,U⟩⟩
theorem Sw (v s:Int) (w:H):aA aq 239 #[Y Z v,Y Z s] w λe w'=>e=bG (Y Z (Rd.vB v s))/\w=w':=by
 have h1:=Rd.Zy s;have ZW:=V (afP s);go_enter func239,ntmps239;go_wp2_with (first
  |(go_at_call 295;refine(ZW.I _).mono ?_;rintro e w' ⟨rfl,rfl⟩)
  |(go_at_call 294;refine(Hk _ _).mono ?_;rintro e w' ⟨rfl,rfl⟩)
  |(go_at_call 296;refine(Sr _ _ _ _).mono ?_;rintro e w' ⟨rfl,rfl⟩))
 go_ret;exact⟨jS (by rw[(Rd.Zz s).1,(Rd.Zz s).2];rfl),rfl⟩
def Rd.ug (Z8 D:Int):Int:=if D<0 then Z8/2 ^ (min (-D) 62).toNat else if 20<D then(if 0<Z8 then 1048576 else if Z8<0 then-1048576 else 0)else Rd.iC (Rd.iC Z8 (-1048576) 1048576*2 ^ D.toNat) (-1048576) 1048576
def Rd.align (v f t:Int):Int:=Rd.ug (Rd.val v) (Rd.iC f (-1000) 1000-Rd.iC t (-1000) 1000)
theorem Rd.afQ {D:Int} (h:D<0) (h2:62< -D):Z8/4611686018427387904=Rd.ug Z8 D:=by
 unfold Rd.ug;rw[aR h,show(min (-D) 62).toNat=62 by omega];rfl
theorem Rd.afR {D:Int} (h:D<0) (h2: -D<=62):Z8/2 ^ (-D).toNat=Rd.ug Z8 D:=by
 unfold Rd.ug;rw[aR h,show(min (-D) 62).toNat=(-D).toNat by omega]
theorem Rd.afS {D:Int} (h:20<D) (h2:0<Z8):1048576=Rd.ug Z8 D:=by
 unfold Rd.ug;rw[aI U,aR h,aR h2]
theorem Rd.afT {D:Int} (h:20<D) (h2:Z8<0): -1048576=Rd.ug Z8 D:=by
 unfold Rd.ug;rw[aI U,aR h,aI U,aR h2]
theorem Rd.afU {D:Int} (h:20<D):0=Rd.ug 0 D:=by
 unfold Rd.ug;rw[aI U,aR h];rfl
theorem Rd.He {X p M P:Int} (h1: -M<=X) (h2:X<=M) (h3:0<p) (h4:p<=P) (h5:0<=M): -(M*P)<=X*p/\X*p<=M*P:=by
 have a:X*p<=M*p:=vv h2 U;have b:M*p<=M*P:=Int.mul_le_mul_of_nonneg_left h4 h5;have c: -M*p<=X*p:=vv h1 U;rw[Int.neg_mul]at c;omega
theorem Rd.afV {D:Int} (h:0<=D) (h2:D<=20):Rd.iC (cM (Rd.iC Z8 (-1048576) 1048576*2 ^ D.toNat)) (-1048576) 1048576=Rd.ug Z8 D:=by
 unfold Rd.ug;rw[aI U,aI U];have p:=Rd.Hl (show D.toNat<=20 by omega);have q:=Rd.pow_pos D.toNat;have e:(2:Int) ^ 20=1048576:=Q3h;rw[e]at p;have b:=Rd.He (X:=Rd.iC Z8 (-1048576) 1048576) (M:=1048576) (by unfold Rd.iC;omega) (by unfold Rd.iC;omega) q p eM;rw[iZ _ ⟨U,U⟩]
theorem Sx (v f t:Int) (w:H):aA aq 285 #[Y Z v,Y Z f,Y Z t] w λe w'=>e=bG (Y Z (Rd.align v f t))/\w=w':=by
 unfold Rd.align;obtain⟨ZX,hF⟩:=J (Rd.iC f (-1000) 1000);obtain⟨T,hT⟩:=J (Rd.iC t (-1000) 1000);obtain⟨Z8,hV⟩:=J (Rd.val v);have f1: -1000<=ZX:=by rw[<-hF];unfold Rd.iC;omega
 have f2:ZX<=1000:=by rw[<-hF];unfold Rd.iC;omega
 have t1: -1000<=T:=by rw[<-hT];unfold Rd.iC;omega
 have t2:T<=1000:=by rw[<-hT];unfold Rd.iC;omega
 have HF:=V (λw=>hF▸N3 f (-1000) 1000 w);have HT:=V (λw=>hT▸N3 t (-1000) 1000 w);have HV:=V (λw=>hV▸Hk v w);rw[hF,hT,hV];clear hF hT hV;have cs:(ZX-T<0/\62< -(ZX-T))\/(ZX-T<0/\ -(ZX-T)<=62)\/(20<ZX-T/\0<Z8)\/(20<ZX-T/\Z8<0)\/(20<ZX-T/\Z8=0)\/(0<=ZX-T/\ZX-T<=20):=U;rcases cs with⟨c1,c2⟩|⟨c1,c2⟩|⟨c1,c2⟩|⟨c1,c2⟩|⟨c1,rfl⟩|⟨c1,c2⟩
 all_goals
  go_enter func285,ntmps285;go_wp2_with fail;refine cq (HV.I _) ?_;go_wp2_with fail;refine cq (HF.I _) ?_;go_wp2_with fail;refine cq (HT.I _) ?_;go_wp2_with (go_at_call 296;refine(Sr _ _ _ _).mono ?_;rintro e w' ⟨rfl,rfl⟩)
  go_ret
 .exact⟨jS (Rd.afQ c1 c2),rfl⟩
 .exact⟨jS (Rd.afR c1 c2),rfl⟩
 .exact⟨jS (Rd.afS c1 c2),rfl⟩
 .exact⟨jS (Rd.afT c1 c2),rfl⟩
 .exact⟨jS (Rd.afU c1),rfl⟩
 .exact⟨jS (Rd.afV c1 c2),rfl⟩
namespace jt
def Sy:BitVec 32:=0xedb88320#32
def sB (s:BitVec 32):BitVec 32:=(s>>>1) ^^^ (if s.getLsbD 0 then Sy else 0#32)
def Sz (s:BitVec 32):BitVec 32:=sB (sB (sB (sB (sB (sB (sB (sB s)))))))
def run (s:BitVec 32):List (BitVec 32)->BitVec 32
 | []=>s
 |b::l=>run (Sz (s ^^^ b)) l
theorem afW (s:BitVec 32) (i:Nat):(s>>>1).getLsbD i=s.getLsbD (1+i):=by simp[BitVec.getLsbD_ushiftRight]
theorem afX (h:(sB s).getLsbD 31=ae):s.getLsbD 0=ae:=by
 unfold sB at h;rw[BitVec.getLsbD_xor,afW]at h;have h32:s.getLsbD (1+31)=ae:=BitVec.getLsbD_of_ge _ _ U;rw[h32]at h
 cases hs:s.getLsbD 0
 .rfl
 .rw[hs]at h;simp[Sy]at h
theorem afY {t:BitVec 32} (h:t.toNat<2147483648):t.getLsbD 31=ae:=by
 rw[BitVec.getLsbD,Nat.testBit_lt_two_pow];simpa using h
theorem afZ (h:s.getLsbD 0=ae):s.toNat%2=0:=by
 have:s.toNat.testBit 0=ae:=h;rw[Nat.testBit_zero]at this;simpa using this
theorem back (h:(sB s).toNat<2147483648):s.toNat=2*(sB s).toNat:=by
 have h0:=afX (afY h);have he:=afZ h0;have:sB s=s>>>1:=by unfold sB;rw[h0];simp
 rw[this,BitVec.toNat_ushiftRight,Nat.shiftRight_eq_div_pow];omega
theorem ZA:∀(l m:List (BitVec 32)) (s:BitVec 32),run s (l++m)=run (run s l) m
 | [],_,_=>rfl
 |_::l,m,s=>by simp only[List.cons_append,run];exact ZA l m _
end jt
namespace jt
def SA:Nat->BitVec 32->BitVec 32
 |0,s=>s
 |n+1,s=>sB (SA n s)
theorem ag0 (s:BitVec 32):SA 8 s=Sz s:=rfl
def start:BitVec 32:=4294967295#32
def of (zs:ah):BitVec 32:= ~~~ run start (zs.map (BitVec.ofInt 32))
theorem N6 (x:BitVec 32):BitVec.ofInt 32 (x.toNat:Int)=x:=Q2W
theorem ZD (x:BitVec 32):IntKind.u32.wrap (x.toNat:Int)=(x.toNat:Int):=by
 rw[IntKind.wrap_u32'];have:=x.isLt;omega
theorem SG (x y:BitVec 32):bits .xor .u32 (x.toNat:Int) (y.toNat:Int)=((x ^^^ y).toNat:Int):=by
 show IntKind.u32.wrap ((BitVec.ofInt 32 (x.toNat:Int) ^^^ BitVec.ofInt 32 (y.toNat:Int)).toNat:Int)=_
 rw[N6,N6,ZD]
theorem ag1 {z:Int} (h0:0<=z) (h1:z<=255):((BitVec.ofInt 32 z).toNat:Int)=z:=by
 rw[BitVec.toNat_ofInt];omega
theorem ag2 (x:BitVec 32) {z:Int} (h0:0<=z) (h1:z<=255):bits .xor .u32 (x.toNat:Int) z=((x ^^^ BitVec.ofInt 32 z).toNat:Int):=by
 rw[<-SG,ag1 h0 h1]
theorem ag3 (x y:BitVec 32):bits .and .u32 (x.toNat:Int) (y.toNat:Int)=((x&&& y).toNat:Int):=by
 show IntKind.u32.wrap ((BitVec.ofInt 32 (x.toNat:Int)&&& BitVec.ofInt 32 (y.toNat:Int)).toNat:Int)=_
 rw[N6,N6,ZD]
theorem and_one (x:BitVec 32):x&&& 1#32=if x.getLsbD 0 then 1#32 else 0#32:=by
 apply BitVec.eq_of_getLsbD_eq;intro i hi;rw[BitVec.getLsbD_and];by_cases h0:i=0
 .subst h0;cases x.getLsbD 0<;>simp
 .have e1:(1#32).getLsbD i=ae:=by
   rw[BitVec.getLsbD_one];simp[h0]
  rw[e1];cases x.getLsbD 0<;>simp[e1]
theorem ag4 (x:BitVec 32):bits BinOp.xor IntKind.u32 ((x.toNat:Int)/2) (bits BinOp.and IntKind.u32 3988292384 (-bits BinOp.and IntKind.u32 (x.toNat:Int) 1%4294967296))=((sB x).toNat:Int):=by
 have h1:bits BinOp.and IntKind.u32 (x.toNat:Int) 1=((x&&& 1#32).toNat:Int):=ag3 x 1#32;have h2:((x.toNat:Int)/2)=((x>>>1).toNat:Int):=by
  rw[BitVec.toNat_ushiftRight,Nat.shiftRight_eq_div_pow];simp
 have h3:bits BinOp.and IntKind.u32 3988292384 (-bits BinOp.and IntKind.u32 (x.toNat:Int) 1%4294967296)=(((if x.getLsbD 0 then Sy else 0#32):BitVec 32).toNat:Int):=by
  rw[h1,and_one]
  cases x.getLsbD 0
  .show bits BinOp.and IntKind.u32 3988292384 (-(0:Int)%4294967296)=0
   decide
  .show bits BinOp.and IntKind.u32 3988292384 (-(1:Int)%4294967296)=3988292384
   decide
 rw[h3];exact(congrArg (λn=>bits BinOp.xor IntKind.u32 n _) h2).trans (SG _ _)
theorem half (x:BitVec 32):((x.toNat:Int)/ (2:Int))=((x>>>1).toNat:Int):=by
 rw[BitVec.toNat_ushiftRight,Nat.shiftRight_eq_div_pow];simp
end jt
theorem jt.ag5 (zs:ah) (k:Nat) (hk:k<zs.length):jt.run jt.start ((zs.take (k+1)).map (BitVec.ofInt 32))=jt.Sz (jt.run jt.start ((zs.take k).map (BitVec.ofInt 32)) ^^^ BitVec.ofInt 32 (zs.getD k 0)):=by
 rw[sV hk,kF,jt.ZA];simp[jt.run,dV,cR hk]
theorem jt.ag6 (x:BitVec 32):bits BinOp.xor IntKind.u32 IntKind.u32.max (x.toNat:Int)=((~~~x).toNat:Int):=by
 have h:IntKind.u32.max=((4294967295#32:BitVec 32).toNat:Int):=Q3h;rw[h,SG];have e:4294967295#32=BitVec.allOnes 32:=Q3h;rw[e,BitVec.allOnes_xor]
theorem jt.ag7 (zs:ah) (k:Nat) (h:zs.length=k):bits BinOp.xor IntKind.u32 IntKind.u32.max ((jt.run jt.start ((zs.map (BitVec.ofInt 32)).take k)).toNat:Int)=((jt.of zs).toNat:Int):=by
 rw[jt.ag6,List.take_of_length_le Q2R];rfl
theorem ZE (a:aC) (len cap:Nat) (zs:ah) (w:H) (h:ai .u8 w a len zs):
 aA aq 182 #[O a len cap] w λe w'=>e=bG (Y .u32 (jt.of zs).toNat)/\w=w':=by
 obtain⟨hl,ZF,lQ,hcell⟩:=h;go_enter func182,ntmps182;go_hidden (go_wp2)
 go_loop [3,8] (λs i=>∃(k:Nat),k<=len/\i=Y Z k/\s=Y .u32 (jt.run jt.start ((zs.take k).map (BitVec.ofInt 32))).toNat) (λ_ i=>len-(aX i).toNat)
 case atStart=>exact⟨0,cK _,rfl,rfl⟩
 case round=>
  obtain⟨k,hk,rfl,rfl⟩:=hrel;by_cases aT:k<len
  .obtain⟨b,off,rfl,hc⟩:∃b off,a=A ⟨b,off,G⟩/\∀j,j<len->w ⟨b,off+j,G⟩=A (Y .u8 (zs.getD j 0)):=by
    rcases hcell with h0|h0
    .omega
    .exact h0
   clear hcell;have NL:=hc k aT;have xg:=V (jt.ag5 zs k U);generalize hx:jt.run jt.start ((zs.take k).map (BitVec.ofInt 32))=x at*;generalize hz:zs.getD k 0=z at*;have HZ:=V hz;clear hx hz;have cF:0<=z/\z<=255:=by
    have:=lQ z (by rw[<-HZ.I];simp[dV,cR (show k<zs.length by omega)]);exact bounds_u8 this
   obtain⟨cF,cG⟩:=cF;go_hidden (go_wp2)
   go_loop [3,16] (λs j=>∃m:Nat,m<=8/\j=Y Z m/\s=Y .u32 (jt.SA m (x ^^^ BitVec.ofInt 32 z)).toNat) (λ_ j=>8-(aX j).toNat)
   case atStart=>exact⟨0,U,rfl,congrArg (Y .u32) (jt.ag2 x cF cG)⟩
   case round=>
    obtain⟨m,hm,rfl,rfl⟩:=hrel;by_cases sC:m<8
    .go_hidden (go_wp2)
     go_round
     case rel=>exact⟨m+1,U,Q2T,congrArg (Y .u32) (jt.ag4 _)⟩
     case measure=>exact Q5q
    .obtain rfl:m=8:=U;go_hidden (go_wp2)
     go_round
     case rel=>exact⟨k+1,U,Q2T,by rw[xg.I,jt.ag0]⟩
     case measure=>exact Q5q
  .go_hidden (go_wp2)
   obtain rfl:k=len:=U;go_ret;exact⟨jS (jt.ag7 zs k hl),rfl⟩
theorem aa8 {P:Program} (w:H) {o:Oper} {a:Act} (ld:n9 o (yielded ops a.tmps)=true) (s x:Operand) (t:dy)
 (ho:o.op= .call {callee:= .builtin .append,args:=#[s,x],argTypes:=#[t,t]})
 (e:dy) (i:TypeInfo) (z:aj) (bytes:Nat) (ht:P.underlying t=A (.slice e)) (hi:P.info? e=A i) (hz:i.zero=A z) (JQ:i.size=1) (yg:i.bytes=bytes)
 (g:Addr) (hs:a.eval s=O (A g) 0 0)
 (ad:Addr) (m c:Nat) (news:List aj) (hx:a.eval x=O (A ad) m c) (hl:news.length=m) (JS:∀j u,news[j]? =A u->w.cell? (ad.add j)=A u)
 (JT:m<=9223372036854775807) (G9:m*bytes<=140737488355328) (hm:0<m)
 (h:∀cap,m<=cap->wpList P ops Q rest (a.put o.dst (O w m cap)) (li w.drew (ag (news.toArray++Builtin.zeroCells z.cells (cap-m)) e))):wpList P ops Q (o::rest) a w:=
 BigFrame.wpList_want ld λ_ hK=>by
  have hr:=run_append_grow (P:=P) w t o.type e i z ht hi hz g 0 0 [] bK bK ad m c news (by rw[JQ,hl,lA]) JS U U (growslice_fits U (by rw[nF,yg];exact G9));have lG:=grownCap_ge w (0+m) 0 e;unfold Oper.wp execOp;simp only[ho,resolve,invoke,builtin,Sem.run_bind,Sem.run_pure,Result.andThen_ok,List.map_toArray,List.map_cons,List.map_nil,hs,hx,hr];refine hK _ _ ?_;rw[nF]at lG⊢;have:=h _ lG;simpa using this
def agV (w:H) (n:Nat) (xs:ah) (e:dN) (w':H):Prop:=
 ∃c cs,e=bG (O (w+1:Nat) n c)/\w'=(li (li w (ag #[] 3)).drew (ag cs 3))/\∀j,j<n->cs[j]? =A (Y Z (xs.getD j 0))
theorem Dg (a:aC) (len cap:Nat) (xs:ah) (w:H) (h:ai Z w a len xs) (h0:0<len) (h1:len<=1000):
 aA aq 142 #[O a len cap] w (agV w len xs):=by
 obtain⟨b,off,rfl,e0⟩:=h.cells h0;obtain⟨i0,hi,cF,cG,cB⟩:=fB Si;have HN:=V (show ∀j u,(xs.map (Y Z))[j]? =A u->(li w (ag #[] 3)).cell? ((⟨b,off,G⟩:Addr).add j)=A u from by
  intro j u hj;have hlen:j<xs.length:=by
   exact Q16
  rw[List.getElem?_map,cR hlen,Option.map_some]at hj;have:=(aD w (ag #[] 3)).cell_of (e0 j (by rw[<-h.bA];exact hlen));have e:(⟨b,off,G⟩:Addr).add j=⟨b,off+j,G⟩:=by
   exact Q1M
  rw[e,this,<-hj];simp[dV,hlen])
 have HL:=V h.bA;have hq:=λw:H=>Lib.run_eql_slice_nil (P:=aq) w 55 3 (A ⟨b,off,G⟩) len cap 0 0 underlying55;clear h;go_enter func142,ntmps142;go_wp2_with (at_builtin;refine aa8 _ rfl _ _ 55 rfl 3 i0 (Y Z 0) 8 underlying55 hi cF cG cB ⟨w,0,G⟩ rfl ⟨b,off,G⟩ len cap (xs.map (Y Z)) rfl (by rw[ib];exact HL.I) HN.I U U h0 ?_)
 intro c hc;go_wp2_with fail;go_ret;refine⟨_,_,rfl,rfl,λj hj=> ?_⟩;have hl:j<xs.length:=by rw[HL.I];exact hj
 rw[Array.getElem?_append_left Q4l];simp[hl,dV]
section
attribute [local go_sem ↓] wp_at_zero wp_at_succ
def windows (r c k s p q:Int):aj:=aF #[Y Z r,Y Z c,Y Z k,Y Z s,Y Z p,Y Z q]
theorem aga (a:aC) (l c:Nat) (k s:Int) (w:H) (hl:l<=140737488351232) (h:l≠4):
 aA aq 240 #[O a l c,Y Z k,Y Z s] w (dZ (aL #[windows 0 0 0 0 0 0,aK ae]) w):=by
 have hd:((l:Int) != 4)=true:=Q3r;unfold windows;go_enter func240,ntmps240;go_wp2;refine aZ (v:=aL #[aF #[Y Z 0,Y Z 0,Y Z 0,Y Z 0,Y Z 0,Y Z 0],aK ae]) ?_ rfl ⟨rfl,(aD w _)⟩;simp[aW,results240,go_sem]
theorem N7 (a:aC) (c:Nat) (d:ah) (k s:Int) (w:H) (h:ai Z w a 4 d):
 aA aq 240 #[O a 4 c,Y Z k,Y Z s] w (dZ (aL #[windows (d.getD 2 0) (d.getD 3 0) k s (bO (d.getD 2 0) k s 0) (bO (d.getD 3 0) k s 0),aK (decide (0<bO (d.getD 2 0) k s 0)&&decide (0<bO (d.getD 3 0) k s 0))]) w):=by
 obtain⟨b,off,rfl,hc⟩:=h.cells U;have f2:=hc 2 U;have f3:=hc 3 U;have n2:=World.new_ne w _ f2;have n2b:b≠w.heap.size+1:=by have:=jY w _ f2;simp at this;omega
 have O2:=V (Sg (d.getD 2 0) k s 0);have O3:=V (Sg (d.getD 3 0) k s 0);clear h hc;generalize d.getD 2 0=d2 at*;generalize d.getD 3 0=d3 at*;generalize bO d2 k s 0=P at*;generalize bO d3 k s 0=Q at*;obtain⟨B,hB⟩:=J (decide (0<P));obtain⟨C,hC⟩:=J (decide (0<Q));rw[hB,hC];have HB:=V hB;have HC:=V hC;clear hB hC;unfold windows;go_enter func240,ntmps240;go_wp2;go_region_held3 (λw'=>w'.cell? ⟨b,off+2,G⟩=A (Y Z d2)/\w'.cell? ⟨b,off+3,G⟩=A (Y Z d3)) (go_keep) (fail)
 go_wp2;go_region_held3 (λw'=>w'.cell? ⟨w+1,0,G⟩=A (Y Z d2)/\w'.cell? ⟨w+1,1,G⟩=A (Y Z d3)) (go_keep)
  (first|(go_at_call 214;((with_reducible refine(O2.I _).mono ?_);rintro e w' ⟨rfl,rfl⟩))|(go_at_call 214;((with_reducible refine(O3.I _).mono ?_);rintro e w' ⟨rfl,rfl⟩)))
 cases B
 .have hB:=HB.I;exact Q11
 .cases C
  .have hB:=HB.I;have hC:=HC.I;exact Q11
  .have hB:=HB.I;have hC:=HC.I;go_wp2;go_region
   go_wp2;refine aZ (v:=aL #[aF #[Y Z d2,Y Z d3,Y Z k,Y Z s,Y Z P,Y Z Q],aK true]) ?_ rfl ⟨rfl,?_⟩
   .simp[aW,results240,go_sem]
   .exact(((((aD w _).step (aD _ _)).bI 1).bI 1).bI 1)
def ix (R C k s:Int) (Q:Nat) (n i:Nat):List Int:=(jc R C (i/Q:Nat) (i%Q:Nat) k s 0).map (λt=>n*R*C+t.1)
theorem oq.below {n:Nat} {L:List (Int×Int×Int)} (h:oq w a n L) (hb:ay w w w'):oq w' a n L:=by
 exact Q10
theorem J2 (rows aU r c k s p:Int):(jc rows aU r c k s p).length<=25:=by
 exact Q0Z
theorem Wn.ZH {rows aU:Int} {n k:Nat}:t∈win rows aU y x n k↔∃i j:Nat,i<n/\j<k/\(0<=y+i/\y+i<=rows-1)/\(0<=x+j/\x+j<=aU-1)/\t=((y+i)*aU+(x+j),(i:Int),(j:Int)):=by
 exact Q0K
theorem ZK {rows aU r c k s p:Int} (h:t∈jc rows aU r c k s p):0<=t.1 /\t.1 <=rows*aU-1/\t.1 <=300:=by
 unfold jc at h;split at h
 .rename_i fY;obtain⟨b1,b2,_⟩:=oy fY.1;obtain⟨b3,b4,_⟩:=oy fY.2.1;obtain⟨i,j,hi,hj,h1,h2,rfl⟩:=Wn.ZH.1 h;have m1:=qG h1.1 (show 0<=aU by omega);have m2:=pA h1.2 (Int.le_refl aU) U U;have m3:=pA b2 b4 U U;rw[Int.sub_mul,Int.one_mul]at m2;simp only[];omega
 .simp at h
theorem Wn.agb (L:List (Int×Int×Int)) (j:Nat) (h:j<L.length):L.take (j+1)=L.take j++[L.getD j (0,0,0)]/\L.getD j (0,0,0)∈L:=by
 exact Q2e
theorem wrap_small (y:Nat) (h:y<=1000000):Z.wrap (y:Int)=y:=dv _ U
theorem ai.nJ {n:Nat} (h:w.ownsRow base e 1 v n (zs.map (Y k))) (hw:∀z∈zs,(cX k z).wf=true) (hl:n<=140737488351232):
 ∃a c,v=O a n c/\ai k w a n zs:=by
 rcases h.2 with⟨h1,h2⟩|⟨g,cap,cur,h1,_⟩
 .have hz:zs=[]:=by have:=h.1;rw[h2]at this;simpa using this
  subst hz;exact⟨G,0,by rw[h1,h2],by rw[h2];exact ai.zero k G w⟩
 .rw[h1]at h;exact⟨_,_,h1,ai.owned h hw hl⟩
theorem ZL (ZX:Nat) (jh:Array aj) (Inv:Nat->H->Prop) (R C k s:Int) (P Q N:Nat) (w:H) (hP:bO R k s 0=P) (hQ:bO C k s 0=Q) (oB:0<P) (kt:0<Q) (hN:N<=8192) (hF:∀args w,(callFunc ZX args).run aq w= .ok (.enter ZX args) w)
 (h0:Inv 0 (li w (tY R C k s P Q)))
 (N8:∀i wr,Inv i wr->w.heap.size<wr.heap.size/\∀j,j<6->wr ⟨w,j,G⟩=#[Y Z R,Y Z C,Y Z k,Y Z s,Y Z P,Y Z Q][j]?)
 (N9:∀i w1 w2,Inv i w1->ay w1 w1 w2->Inv i w2)
 (xg:∀n i a l c wr,n<N->i<P*Q->Inv (n*(P*Q)+i) wr->ai Z wr a l (ix R C k s Q n i)->(∀x,a=A x->w.heap.size<=x.block)->aA aq ZX (#[Y Z ((n*(P*Q)+i:Nat):Int),O a l c]++jh) wr λe w'=>e=bG (aL #[])/\Inv (n*(P*Q)+i+1) w'):
 aA aq 241 #[windows R C k s P Q,Y Z N,.func (.func ZX) #[] jh] w λe w'=>e=bG (aL #[])/\Inv (N*(P*Q)) w':=by
 have hb:=oy (n:=R) (k:=k) (s:=s) (p:=0) U;have du:=oy (n:=C) (k:=k) (s:=s) (p:=0) U;obtain⟨r1,r2,k1,k2,s1,s2,_,_,p20⟩:=hb;obtain⟨Oa,cc2,_,_,_,_,_,_,q20⟩:=du;rw[hP]at p20;rw[hQ]at q20;have H0:=V h0;have HB:=V N8;have HL:=V N9;have HS:=V xg;have HW:=V (λy x w=>Zg R C y x k s 0 w);clear N8 N9 xg hP hQ;have z1:P*Q<=20*20:=mq U U;have hMi:(P:Int)*(Q:Int)=((P*Q:Nat):Int):=(gQ P Q).symm;have hMm:=V (λn:Nat=>show(n:Int)*P*Q=((n*(P*Q):Nat):Int)from by rw[gQ,gQ,pU]);generalize P*Q=M at*;have z2:=V (λn (h:n<N)=>show n*M<=8192*400 from mq U U);unfold windows;go_enter func241,ntmps241;go_wp2_with fail;go_loopw [12] (λi wr=>∃n:Nat,n<=N/\i=Y Z n/\Inv (n*M) wr) (λi _=>N-(aX i).toNat)
 case atStart=>exact⟨0,cK _,rfl,by rw[Nat.zero_mul];exact H0.I⟩
 case round=>
  obtain⟨n,hn,rfl,hinv⟩:=hrel;have HI:=V hinv;clear hinv;obtain⟨wo,rfl⟩:∃wo:H,wo=wr:=⟨_,rfl⟩;by_cases aT:n<N
  .have f4:=(HB.I _ _ HI.I).2 4 U;have f5:=(HB.I _ _ HI.I).2 5 U;simp at f4 f5;go_wp2_with fail;clear f4 f5;go_loopw [20] (λi wr=>∃m:Nat,m<=M/\i=Y Z m/\Inv (n*M+m) wr) (λi _=>M-(aX i).toNat)
   case atStart=>exact⟨0,cK _,rfl,HI.I⟩
   case round=>
    clear HI;obtain⟨m,hm,rfl,hinv⟩:=hrel;have HI:=V hinv;clear hinv;obtain⟨CQ,rfl⟩:∃CQ:H,CQ=wr:=⟨_,rfl⟩;by_cases SL:m<M
    .obtain⟨dQ,hcs⟩:=HB.I _ _ HI.I;have f0:=hcs 0 U;have f1:=hcs 1 U;have f2:=hcs 2 U;have f3:=hcs 3 U;have f4:=hcs 4 U;have f5:=hcs 5 U;simp at f0 f1 f2 f3 f4 f5;clear hcs;have hy1:(m:Int).tdiv (Q:Int)=((m/Q:Nat):Int):=by rw[Int.tdiv_eq_ediv_of_nonneg U,Int.natCast_ediv]
     have iQ:(m:Int).tmod (Q:Int)=((m%Q:Nat):Int):=by rw[Int.tmod_eq_emod_of_nonneg U,Int.natCast_emod]
     have JZ:(m:Int)/ (Q:Int)=((m/Q:Nat):Int):=(Int.natCast_ediv m Q).symm;have lD:(m:Int)%(Q:Int)=((m%Q:Nat):Int):=(Int.natCast_emod m Q).symm;have Ob:=V (show ix R C k s Q n m=(jc R C (m/Q:Nat) (m%Q:Nat) k s 0).map (λt=>n*R*C+t.1)from rfl);have hq3:((Q:Int)==0)=ae:=by simpa using(show(Q:Int)≠0 by omega)
     have hy3:Z.wrap ((m/Q:Nat):Int)=((m/Q:Nat):Int):=wrap_small _ (eH (Nat.div_le_self m Q) U);have oC:Z.wrap ((m%Q:Nat):Int)=((m%Q:Nat):Int):=wrap_small _ (eH (Nat.mod_le m Q) U);have hq4:¬((Q:Int)=0):=U;have hq5:¬(Q=0):=U;generalize m/Q=y at*;generalize m%Q=x at*;go_wp2_with fail;go_region_held3 (λw'=>w'.cell? ⟨w,0,G⟩=A (Y Z R)/\w'.cell? ⟨w,1,G⟩=A (Y Z C)/\w'.cell? ⟨w,2,G⟩=A (Y Z k)/\w'.cell? ⟨w,3,G⟩=A (Y Z s)/\w'.cell? ⟨w,5,G⟩=A (Y Z Q)) (first|go_keep|(go_split_ands;refine⟨eg.cell_of ?_,eg.cell_of ?_,eg.cell_of ?_,eg.cell_of ?_,eg.cell_of ?_⟩<;>go_keep))
      (first|(go_at_call 297;refine(HW.I _ _ _).mono ?_;rintro e w3 ⟨a,l3,c3,rfl,fZ,eg⟩))
     have J3:l3<=25:=by rw[<-fZ.1];exact J2 _ _ _ _ _ _ _
     have Oc:=V (HL.I _ _ _ HI.I ((below_drewN CQ 1).step eg));have ZM:=V (λt (h:t∈jc R C y x k s 0)=>ZK h);have zG:=V fZ;generalize jc R C y x k s 0=W at*;have n1:0<=(n:Int)*R:=qG U U;have n2:(n:Int)*R<=8192*16:=pA U U U U;have n3:0<=(n:Int)*R*C:=qG n1 U;have n4:(n:Int)*R*C<=8192*16*16:=pA n2 U U U;clear f0 f1 f2 f3 f4 f5 dQ fZ HI hq5;obtain⟨i0,hi,cF,cG,cB⟩:=fB Si;go_wp2_with fail;go_loopw [8,41] (λl i wr=>∃ZV:Nat,ZV<=l3/\i=Y Z ZV/\wr.ownsRow w3.heap.size 3 1 l ZV (((W.take ZV).map (λt=>n*R*C+t.1)).map (Y Z))/\ay w3 w3 wr) (λ_ i _=>l3-(aX i).toNat)
     case atStart=>exact⟨0,cK _,rfl,gP _ _ _ _,eG _ _⟩
     case round=>
      obtain⟨ZV,hJ,rfl,aV,j7⟩:=hrel;have GO:=V aV;have GN:=V j7;clear aV j7;by_cases wY:ZV<l3
      .obtain⟨ga,rfl,J4,hc⟩:=(zG.I.below GN.I).2.resolve_left U;obtain⟨f0,f1,f2⟩:=hc ZV wY;obtain⟨rA,sX⟩:=Wn.agb W ZV (by rw[zG.I.1];exact wY);obtain⟨SQ,_,SR⟩:=ZM.I _ sX;rw[Nat.mul_comm 3 ZV]at f0 f1 f2;have g0:=(HB.I _ _ (HL.I _ _ _ Oc.I GN.I)).2 0 U;have g1:=(HB.I _ _ (HL.I _ _ _ Oc.I GN.I)).2 1 U;simp at g0 g1;have HT:=V rA;clear hc rA sX J4;generalize W.getD ZV (0,0,0)=tt at*;obtain⟨tx,ty,tz⟩:=tt;simp only[]at SQ SR;have e0:=(aD wr (ag #[Y Z tx,Y Z ty,Y Z tz] 377)).cell_of g0;have e1:=(aD wr (ag #[Y Z tx,Y Z ty,Y Z tz] 377)).cell_of g1;clear g0 g1;go_wp2_with (at_builtin;refine ko _ rfl _ _ 55 rfl w3.heap.size 3 i0 (Y Z 0) 1 8 underlying55 hi cF cG cB rfl eM _ ZV (((W.take ZV).map (λt=>n*R*C+t.1)).map (Y Z)) rfl ((GO.I.alloc _).alloc _) ⟨wr+1,0,G⟩ 1 1 [Y Z ((n:Int)*R*C+tx)] rfl rfl ?c1 ?c2 ?c3 ?c4 ?c5 ?c6 ?_)
       case c2=>rfl
       case c3=>unfold eS;omega
       case c4=>omega
       case c5=>have:=GN.I.size;omega
       intro g c' w4 fT eD mH pX qI;have GB:=V (Se (GN.I.alloc GN.I.size _) (by have:=GN.I.size;rw[bF];omega) (GO.I.alloc _) eD);have AX:=V (show w4.ownsRow w3.heap.size 3 1 (O g (ZV+1) c') (ZV+1) (((W.take (ZV+1)).map (λt=>n*R*C+t.1)).map (Y Z))from by
        rw[HT.I,kF,kF];simpa[List.map_take]using fT)
       clear fT eD mH f0 f1 f2;exact Q1X
      .have zF:ZV=l3:=U;obtain⟨al,cl,rfl,dY⟩:=ai.nJ (zs:=(W.take ZV).map (λt=>n*R*C+t.1)) GO.I (λz hz=>by
        obtain⟨t,ht,rfl⟩:=kG.1 hz;have:=ZM.I t (List.mem_of_mem_take ht);exact WalkArith.wf_i64 U) U
       rw[zF,<-zG.I.1,List.take_length,<-Ob.I,zG.I.1]at dY;have SU:=V (HL.I _ _ _ Oc.I GN.I);have g4:=(HB.I _ _ SU.I).2 4 U;have g5:=(HB.I _ _ SU.I).2 5 U;simp at g4 g5;have cB:=z2.I n aT;have SV:=hMm.I n;have mI:∀x,al=A x->w.heap.size<=x.block:=λx hx=>by
        have h1:=(GO.I.lt x.block Q3b).1;have h2:=(HB.I _ _ Oc.I).1;omega
       have jT:=HS.I n m al l3 cl wr aT SL SU.I dY mI;clear mI;obtain⟨nm,zH⟩:=J (n*M);have HNM:=V zH;rw[zH]at cB SV jT;clear zH;rw[Int.natCast_add]at jT;have jI:=V jT;have p1:0<=(n:Int)*P:=qG U U;have p2:(n:Int)*P<=8192*20:=pA U U U U;clear dY jT Ob zG;go_wp2_with fail;refine jI.I.mono ?_;rintro e w5 ⟨rfl,ZN⟩;have HI5:=V ZN;clear ZN;go_wp2;go_roundw
       case rel=>exact⟨m+1,U,Q2T,by rw[HNM.I,<-Nat.add_assoc];exact HI5.I⟩
       case measure=>exact Q5q
    .have ZP:m=M:=U;have HI2:=V (show Inv ((n+1)*M) CQ from by
      have:=HI.I;rw[ZP]at this;rw[Nat.succ_mul];exact this)
     clear HI ZP;go_wp2;go_roundw
     case rel=>exact⟨n+1,U,Q2T,HI2.I⟩
     case measure=>exact Q5q
  .have cI:n=N:=U;rw[cI]at HI;clear cI;go_wp2;go_end0
   exact⟨rfl,HI.I⟩
theorem ZR (ZX:Nat) (jh:Array aj) (Inv:Nat->H->Prop) (R C k s:Int) (P Q N:Nat) (w:H) (hP:bO R k s 0=P) (hQ:bO C k s 0=Q) (oB:0<P) (kt:0<Q) (hN:N<=8192) (hF:∀args w,(callFunc ZX args).run aq w= .ok (.enter ZX args) w)
 (h0:Inv 0 (li w (tY R C k s P Q)))
 (N8:∀i wr,Inv i wr->w.heap.size<wr.heap.size/\∀j,j<6->wr ⟨w,j,G⟩=#[Y Z R,Y Z C,Y Z k,Y Z s,Y Z P,Y Z Q][j]?)
 (N9:∀i w1 w2,Inv i w1->ay w1 w1 w2->Inv i w2)
 (xg:∀n i a l c wr,n<N->i<P*Q->Inv (n*(P*Q)+i) wr->ai Z wr a l (ix R C k s Q n i)->aA aq ZX (#[Y Z ((n*(P*Q)+i:Nat):Int),O a l c]++jh) wr λe w'=>e=bG (aL #[])/\Inv (n*(P*Q)+i+1) w'):
 aA aq 241 #[windows R C k s P Q,Y Z N,.func (.func ZX) #[] jh] w λe w'=>e=bG (aL #[])/\Inv (N*(P*Q)) w':=
 ZL ZX jh Inv R C k s P Q N w hP hQ oB kt hN hF h0 N8 N9 (λn i a l c wr hn hi hv hr _=>xg n i a l c wr hn hi hv hr)
namespace T
def best (D:ah) (b:Int) (L:ah):Int:=L.foldl (λb a=>if D.getD b.toNat 0<D.getD a.toNat 0 then a else b) b
theorem agc (D:ah) (b a:Int) (L:ah):best D b (L++[a])=if D.getD (best D b L).toNat 0<D.getD a.toNat 0 then a else best D b L:=by
 simp[best]
theorem SX (D:ah):∀(L:ah) (b:Int),best D b L=b\/best D b L∈L
 | [],b=>aM rfl
 |a::L,b=>by
  have e:best D b (a::L)=best D (if D.getD b.toNat 0<D.getD a.toNat 0 then a else b) L:=rfl;rw[e];rcases SX D L (if D.getD b.toNat 0<D.getD a.toNat 0 then a else b)with h|h
  .rw[h];split
   .exact bJ bK
   .exact aM rfl
  .exact bJ (List.mem_cons_of_mem _ h)
end T
structure pE (B:Nat) (w:H) (v:aj) (n:Nat) (xs:ah) (u:aj) (m:Nat) (ys:ah):Prop where
 fst:w.ownsRow B 106 1 v n (xs.map (Y aO))
 snd:w.ownsRow B 3 1 u m (ys.map (Y Z))
 apart:∀g,v.ownBlock=A g->u.ownBlock≠A g
 base:B<=w
theorem pE.alloc {B:Nat} {v:aj} {n:Nat} {xs:ah} {u:aj} {m:Nat} {ys:ah} (h:pE B w v n xs u m ys) (o:Obj):pE B (li w o) v n xs u m ys:=
 ⟨h.fst.alloc o,h.snd.alloc o,h.apart,by rw[bF];have:=h.base;omega⟩
theorem pE.drew {B:Nat} {v:aj} {n:Nat} {xs:ah} {u:aj} {m:Nat} {ys:ah} (h:pE B w v n xs u m ys):pE B w.drew v n xs u m ys:=⟨h.fst,h.snd,h.apart,h.base⟩
theorem pE.drewN {B:Nat} {v:aj} {n:Nat} {xs:ah} {u:aj} {m:Nat} {ys:ah} (h:pE B w v n xs u m ys) (q:Nat):pE B (w.drewN q) v n xs u m ys:=⟨h.fst,h.snd,h.apart,h.base⟩
theorem pE.one {B:Nat} {v:aj} {n:Nat} {xs:ah} {u:aj} {m g:Nat} {ys:ah} (h:pE B w v n xs u m ys) (aV:w'.ownsRow B 106 1 (O g (n+1) c) (n+1) (xs.map (Y aO)++[Y aO x])) (hg:w.grownBy w' v.ownBlock) (hw:v.ownBlock=A g\/g=w.heap.size):
 pE B w' (O g (n+1) c) (n+1) (xs++[x]) u m ys:=by
 refine⟨by rw[kF];exact aV,h.snd.kept hg ?_,λg' e1 e2=> ?_,eH h.base hg.size⟩
 .cases hu:u.ownBlock with
  |none=>exact aM rfl
  |some k=>exact bJ (λe=>h.apart k e.symm hu)
 .have e1:A g=A g':=e1;injection e1 with e1;subst e1;rcases hw with hw|hw
  .exact h.apart g hw e2
  .have:=(h.snd.lt g e2).2;omega
theorem pE.two {B:Nat} {v:aj} {n:Nat} {xs:ah} {u:aj} {m g:Nat} {ys:ah} (h:pE B w v n xs u m ys) (aV:w'.ownsRow B 3 1 (O g (m+1) c) (m+1) (ys.map (Y Z)++[Y Z y])) (hg:w.grownBy w' u.ownBlock) (hw:u.ownBlock=A g\/g=w.heap.size):
 pE B w' v n xs (O g (m+1) c) (m+1) (ys++[y]):=by
 refine⟨h.fst.kept hg ?_,by rw[kF];exact aV,λg' e1 e2=> ?_,eH h.base hg.size⟩
 .cases hv:v.ownBlock with
  |none=>exact aM rfl
  |some k=>exact bJ (λe=>h.apart k hv e.symm)
 .have e2:A g=A g':=e2;injection e2 with e2;subst e2;rcases hw with hw|hw
  .exact h.apart g e1 hw
  .have:=(h.fst.lt g e1).2;omega
structure ar (B:Nat) (S:Nat->Prop) (w w':H):Prop where
 os:w'.os=w.os
 tape:w'.tape=w.tape
 output:w'.output=w.output
 size:w.heap.size<=w'
 block:∀g,g<B->¬S g->w'.heap[g]? =w.heap[g]?
theorem ar.trans {B:Nat} {a b c:H} (h:ar B S a b) (k:ar B S b c):ar B S a c:=
 ⟨k.os.trans h.os,k.tape.trans h.tape,k.output.trans h.output,eH h.size k.size,λg hg hn=>(k.block g hg hn).trans (h.block g hg hn)⟩
theorem Hm {Z3:Nat} {v:aj} (h:w Z3=A v):∀j u,[v][j]? =A u->w.cell? ((⟨Z3,0,G⟩:Addr).add j)=A u:=by
 intro j u hu
 cases j with
 |zero=>simp at hu;subst hu;exact h
 |succ j=>simp at hu
theorem gI {row:Option Nat} {g:Nat} (hg:w.grownBy w' row) (h:w.heap[g]? =A o) (cI:row=A g->False):w'.heap[g]? =A o:=
 (hg.block g (bH h) (λe=>cI e.symm)).trans h
theorem dX {g:Nat} (h:w.heap[g]? =A o) (p:Obj):(li w p).heap[g]? =A o:=
 ((aD w p).block g (bH h)).trans h
theorem agd:(aq.info? 106).map (λi=>(i.zero,i.size,i.bytes))=A (A (Y aO 0),1,1):=Q2Q
def CU (B bo bf:Nat) (od oe:aj) (n:Nat) (xs ys:ah) (w:H):Prop:=∃vd vf,w.heap[bo]? =A (ag #[od,oe,vd] 57 (0,0))/\w.heap[bf]? =A (ag #[vf] 55 (0,0))/\pE B w vd n xs vf n ys
structure uh (wq W:H) (B bo bf bx b1 oo:Nat) (od oe cd cf xd xb v:aj) (n:Nat) (xs:ah) (u:aj) (m:Nat) (ys:ah):Prop where
 two:pE B W v n xs u m ys
 ho:W.heap[bo]? =A (ag #[od,oe,cd] 57 (0,0))
 hf:W.heap[bf]? =A (ag #[cf] 55 (0,0))
 hx:W ⟨bx,2,G⟩=A xd
 he:W ⟨b1,oo,G⟩=A xb
 kept:ar B (λg=>g=bo\/g=bf) wq W
variable {wq W W':H} {B bo bf bx b1 oo:Nat} {od oe cd cf xd xb v:aj} {n:Nat} {xs:List Int} {u:aj} {m:Nat} {ys:List Int}
theorem uh.alloc (h:uh wq W B bo bf bx b1 oo od oe cd cf xd xb v n xs u m ys) (o:Obj):uh wq (li W o) B bo bf bx b1 oo od oe cd cf xd xb v n xs u m ys:=
 ⟨h.two.alloc o,dX h.ho o,dX h.hf o,(aD W o).cell_of h.hx,(aD W o).cell_of h.he,
  ⟨h.kept.os,h.kept.tape,h.kept.output,by rw[bF];have:=h.kept.size;omega,λg hg hn=>((aD W o).block g (iP hg h.two.base)).trans (h.kept.block g hg hn)⟩⟩
theorem ar.grown {row:Option Nat} (h:ar B S wq W) (hg:W.grownBy W' row) (hB:B<=W) (hr:∀k,row=A k->B<=k):ar B S wq W':=
 ⟨hg.os.trans h.os,hg.tape.trans h.tape,hg.output.trans h.output,eH h.size hg.size,λg zI hn=>(hg.block g (iP zI hB) (λe=>E (hr g e.symm))).trans (h.block g zI hn)⟩
theorem uh.one (h:uh wq W B bo bf bx b1 oo od oe cd cf xd xb v n xs u m ys) (kK:bo<B) (ui:bf<B) (dK:bx<B) (gR:b1<B) {g:Nat} (aV:W'.ownsRow B 106 1 (O g (n+1) c) (n+1) (xs.map (Y aO)++[Y aO x])) (hg:W.grownBy W' v.ownBlock) (lR:v.ownBlock=A g\/g=W.heap.size):
 uh wq W' B bo bf bx b1 oo od oe cd cf xd xb (O g (n+1) c) (n+1) (xs++[x]) u m ys:=by
 have hr:∀k,v.ownBlock=A k->B<=k:=λk e=>(h.two.fst.lt k e).1;have hn:∀k,k<B->v.ownBlock=A k->False:=λk hk e=>E (hr k e);exact⟨h.two.one aV hg lR,gI hg h.ho (hn _ kK),gI hg h.hf (hn _ ui),AU hg h.hx (hn _ dK),AU hg h.he (hn _ gR),h.kept.grown hg h.two.base hr⟩
theorem uh.snd (h:uh wq W B bo bf bx b1 oo od oe cd cf xd xb v n xs u m ys) (kK:bo<B) (ui:bf<B) (dK:bx<B) (gR:b1<B) {g:Nat} (aV:W'.ownsRow B 3 1 (O g (m+1) c) (m+1) (ys.map (Y Z)++[Y Z y])) (hg:W.grownBy W' u.ownBlock) (lR:u.ownBlock=A g\/g=W.heap.size):
 uh wq W' B bo bf bx b1 oo od oe cd cf xd xb v n xs (O g (m+1) c) (m+1) (ys++[y]):=by
 have hr:∀k,u.ownBlock=A k->B<=k:=λk e=>(h.two.snd.lt k e).1;have hn:∀k,k<B->u.ownBlock=A k->False:=λk hk e=>E (hr k e);exact⟨h.two.two aV hg lR,gI hg h.ho (hn _ kK),gI hg h.hf (hn _ ui),AU hg h.hx (hn _ dK),AU hg h.he (hn _ gR),h.kept.grown hg h.two.base hr⟩
theorem uh.cells (h:uh wq W B bo bf bx b1 oo od oe cd cf xd xb v n xs u m ys):W ⟨bo,2,G⟩=A cd/\W ⟨bx,2,G⟩=A xd/\W bf=A cf/\W ⟨b1,oo,G⟩=A xb:=
 ⟨by have:=h.ho;simp[kY,this],h.hx,cell_of_one h.hf,h.he⟩
theorem Od {x y z u:aj} {t:dy} (h:w.heap[b]? =A (ag #[x,y,z] t (0,0))):(ss w ⟨b,2,G⟩ u).heap[b]? =A (ag #[x,y,u] t (0,0)):=by
 exact Q0y
theorem uh.stored (h:uh wq W B bo bf bx b1 oo od oe cd cf xd xb v n xs u n ys) (kK:bo<B) (ui:bf<B) (cI:bo≠bf):
 CU B bo bf od oe n xs ys (ss (ss W ⟨bo,2,G⟩ v) bf u)/\ar B (λg=>g=bo\/g=bf) wq (ss (ss W ⟨bo,2,G⟩ v) bf u):=by
 have nv:v.ownBlock≠A bo/\v.ownBlock≠A bf:=⟨λe=>E ((h.two.fst.lt _ e).1),λe=>E ((h.two.fst.lt _ e).1)⟩;have nu:u.ownBlock≠A bo/\u.ownBlock≠A bf:=⟨λe=>E ((h.two.snd.lt _ e).1),λe=>E ((h.two.snd.lt _ e).1)⟩;have s1:(ss W ⟨bo,2,G⟩ v).heap.size=W.heap.size:=jR _ _ _;have s2:(ss (ss W ⟨bo,2,G⟩ v) bf u).heap.size=W.heap.size:=(jR _ _ _).trans s1;refine⟨⟨v,u,?_,?_,⟨ownsRow_setCell_other (ownsRow_setCell_other h.two.fst nv.1 _) nv.2 _,ownsRow_setCell_other (ownsRow_setCell_other h.two.snd nu.1 _) nu.2 _,h.two.apart,by rw[s2];exact h.two.base⟩⟩,⟨h.kept.os,h.kept.tape,h.kept.output,by rw[s2];exact h.kept.size,λg hg hn=> ?_⟩⟩
 .rw[Below.heap_setCell _ _ _ _ (λe=>cI e)];exact Od h.ho
 .refine one_setCell (v:=cf) ?_;rw[Below.heap_setCell _ _ _ _ (λe=>cI e.symm)];exact h.hf
 .rw[Below.heap_setCell _ _ _ _ (λe=>hn (bJ e)),Below.heap_setCell _ _ _ _ (λe=>hn (aM e))];exact h.kept.block g hg hn
theorem age (i:Int) (a:aC) (l c:Nat) (L:ah) (bx bo bf:Nat) (od oe:aj) (pd:aC) (md cd:Nat) (D:ah) (B n:Nat) (xs ys:ah) (w:H)
 (hL:ai Z w a l L) (hl:0<l) (hx:w ⟨bx,2,G⟩=A (O pd md cd)) (hD:ai aO w pd md D) (A6:∀z∈L,0<=z/\z<md) (hm:CU B bo bf od oe n xs ys w) (m7:bx≠bo) (SY:bx≠bf) (Ta:∀x,pd=A x->x.block≠bo/\x.block≠bf) (dK:bx<B) (hpd:∀x,pd=A x->x.block<B) (kK:bo<B) (ui:bf<B) (cI:bo≠bf) (hn:n<=10000):
 aA aq 242 #[Y Z i,O a l c,aP bx,aP bo,aP bf] w λe w'=>e=bG (aL #[])/\CU B bo bf od oe (n+1) (xs++[D.getD (T.best D (L.getD 0 0) L).toNat 0]) (ys++[T.best D (L.getD 0 0) L]) w'/\ar B (λg=>g=bo\/g=bf) w w':=by
 obtain⟨bb,gN⟩:=J (T.best D (L.getD 0 0) L);obtain⟨xx,EO⟩:=J (D.getD bb.toNat 0);rw[gN,EO];have mJ:=V gN;have J5:=V EO;clear gN EO;have H0:=V hL;have EP:=V A6;have HM:=V hm;obtain⟨b0,o0,rfl,e0⟩:=hL.cells hl;have ik:=hL.eC;have f0:=e0 0 hl;rw[eL]at f0;have HE:=V e0;obtain⟨z0,z1⟩:=A6 (L.getD 0 0) (by
  have:0<L.length:=by rw[hL.bA];exact hl
  simp[dV,cR this])
 obtain⟨b1,o1,rfl,e1⟩:=hD.cells U;have Oe:=V e1;have ER:=hpd _ rfl;simp only[]at ER;obtain⟨ZS,ZT⟩:=Ta _ rfl;simp only[]at ZS ZT;have hox:=m7.symm;have hfx:=SY.symm;have aqr:=ZS.symm;have aqs:=ZT.symm;have Og:=cI.symm;clear e0 e1 A6 hm hL hD;go_enter func242,ntmps242;go_wp2_with fail;go_loopw [7,15] (λb i wr=>∃j q:Nat,j<=l/\i=Y Z j/\b=Y Z (T.best D (L.getD 0 0) (L.take j))/\wr=w.drewN q) (λ_ i _=>l-(aX i).toNat)
 case atStart=>exact⟨0,0,cK _,rfl,rfl,rfl⟩
 case round=>
  obtain⟨j,q,hj,rfl,rfl,rfl⟩:=hrel;have gR:0<=T.best D (L.getD 0 0) (L.take j)/\T.best D (L.getD 0 0) (L.take j)<md:=by
   rcases T.SX D (L.take j) (L.getD 0 0)with e|e
   .rw[e];exact⟨z0,z1⟩
   .exact EP.I _ (List.mem_of_mem_take e)
  obtain⟨gR,du⟩:=gR;by_cases aT:j<l
  .have fj:=HE.I j aT;have gS:j<L.length:=by rw[H0.I.bA];exact aT
   obtain⟨a1,a2⟩:=EP.I (L.getD j 0) Q3m;have rB:T.best D (L.getD 0 0) (L.take (j+1))=if D.getD (T.best D (L.getD 0 0) (L.take j)).toNat 0<D.getD (L.getD j 0).toNat 0 then L.getD j 0 else T.best D (L.getD 0 0) (L.take j):=by
    have e:L.getD j 0=L[j]:=Q3m;rw[sV gS,T.agc,e]
   have Oh:=V rB;clear rB gS;have c1:=Oe.I (L.getD j 0).toNat U;have c2:=Oe.I (T.best D (L.getD 0 0) (L.take j)).toNat U;generalize T.best D (L.getD 0 0) (L.take j)=b at*;generalize L.getD j 0=at' at*;by_cases hc:D.getD b.toNat 0<D.getD at'.toNat 0
   .have ja:=Oh.I;rw[aR hc]at ja;have HS:=V ja;clear Oh ja;generalize D.getD b.toNat 0=xb at*;generalize D.getD at'.toNat 0=xa at*;exact Q1B
   .have ja:=Oh.I;rw[aI hc]at ja;have HS:=V ja;clear Oh ja;generalize D.getD b.toNat 0=xb at*;generalize D.getD at'.toNat 0=xa at*;have jH:decide (xb<xa)=ae:=eP hc;exact Q1B
  .obtain rfl:j=l:=U;have rA:L.take j=L:=by rw[<-H0.I.bA];exact List.take_length
   rw[rA,mJ.I]at gR du⊢;obtain⟨vd,vf,ho,hf,ht⟩:=HM.I;have HT:=V (ht.drewN q);have cb:=Oe.I bb.toNat U;rw[J5.I]at cb;have cb:(w.drewN q) ⟨b1,o1+bb.toNat,G⟩=_:=cb;clear rA EP mJ J5;obtain⟨b,rfl⟩:=Sd bb;obtain⟨xb,rfl⟩:=Sd xx;have HO:=V (show(w.drewN q).heap[bo]? =_ from ho);have HF:=V (show(w.drewN q).heap[bf]? =_ from hf);have oc2:(w.drewN q) ⟨bo,2,G⟩=A vd:=by show w.cell? _=_;unfold kY;simp[ho]
   have fc:(w.drewN q) bf=A vf:=cell_of_one hf;have xc:(w.drewN q) ⟨bx,2,G⟩=A (O (A ⟨b1,o1,G⟩) md cd):=hx;have HK:=V (show ar B (λg=>g=bo\/g=bf) w (w.drewN q)from⟨rfl,rfl,rfl,bu _,λ_ _ _=>rfl⟩);obtain⟨i0,hi,cF,cG,cB⟩:=fB agd;obtain⟨j0,ji,Tb,Tc,Td⟩:=fB Si;clear ho hf ht HM hx HE Oe f0 H0;generalize w.drewN q=wq at*;go_wp2_with fail;refine Lt.begins (λw':H=>w' ⟨bo,2,G⟩=A vd/\w' ⟨bx,2,G⟩=A (O (A ⟨b1,o1,G⟩) md cd)/\w' bf=A vf/\w' ⟨b1,o1+b.toNat,G⟩=A (Y aO xb)) (λj=>j==14||j==15) kr ?_;have uj:=V (show uh wq wq.drew B bo bf bx b1 (o1+b.toNat) od oe vd vf (O (A ⟨b1,o1,G⟩) md cd) (Y aO xb) vd n xs vf n ys from⟨HT.I.drew,HO.I,HF.I,xc,cb,⟨rfl,rfl,rfl,bu _,λ_ _ _=>rfl⟩⟩);generalize sY:wq.drew=w0 at*;clear oc2 xc fc cb HO HF HT sY;have hS:(λw':H=>w' ⟨bo,2,G⟩=A vd/\w' ⟨bx,2,G⟩=A (O (A ⟨b1,o1,G⟩) md cd)/\w' bf=A vf/\w' ⟨b1,o1+b.toNat,G⟩=A (Y aO xb)) w0:=uj.I.cells;have ov:=V (λg (e:vd.ownBlock=A g)=>show g<w0.heap.size from(uj.I.two.fst.lt g e).2);have z0:w0.heap.size<=w0:=bu _;generalize hH0:w0.heap.size=H0 at ov z0;have z0:H0<=w0:=U;clear hH0;refine Lt.take (i:=0) (v:= ?_) rfl kr (λ_ _ _ h=>h) (aM ⟨Q3u,?_⟩) hS ?_;rotate_left
   .exact Q2q
   try simp only[eR,dC,dD,dE]
   refine Lt.take (i:=1) (v:= ?_) rfl kr (λ_ _ _ h=>h) (aM ⟨Q3u,?_⟩) hS ?_;rotate_left
   .exact Q2q
   try simp only[eR,dC,dD,dE]
   refine Lt.take (i:=2) (v:= ?_) rfl kr (λ_ _ _ h=>h) (aM ⟨Q3u,?_⟩) hS ?_;rotate_left
   .exact Q2q
   try simp only[eR,dC,dD,dE]
   refine Lt.take (i:=3) (v:= ?_) rfl kr (λ_ _ _ h=>h) (aM ⟨Q3u,?_⟩) hS ?_;rotate_left
   .exact Q2q
   try simp only[eR,dC,dD,dE]
   refine Lt.take (i:=4) (v:= ?_) rfl kr (λ_ _ _ h=>h) (aM ⟨Q3u,?_⟩) hS ?_;rotate_left
   .exact Q2q
   try simp only[eR,dC,dD,dE]
   refine Lt.take (i:=5) (v:= ?_) rfl kr (λ_ _ _ h=>h) (aM ⟨Q3u,?_⟩) hS ?_;rotate_left
   .exact Q2q
   try simp only[eR,dC,dD,dE]
   refine Lt.take (i:=6) (v:= ?_) rfl kr (λ_ _ _ h=>h) (aM ⟨Q3u,?_⟩) hS ?_;rotate_left
   .exact Q2q
   try simp only[eR,dC,dD,dE]
   refine Lt.take (i:=9) (v:= ?_) rfl kr (λ_ _ _ h=>h) (aM ⟨Q3u,?_⟩) hS ?_;rotate_left
   .exact Q2q
   try simp only[eR,dC,dD,dE]
   refine Lt.take (i:=10) (v:= ?_) rfl kr (λ_ _ _ h=>h) (aM ⟨Q3u,?_⟩) hS ?_;rotate_left
   .exact Q2q
   try simp only[eR,dC,dD,dE]
   refine Lt.all (rs:=[7,11]) kr bK ?_;intro i hq;rcases jy.1 hq with rfl|hq
   .clear hq;refine Lt.step rfl (λK hK=> ?_);go_simp;refine bB hK ((uj.I.alloc _).cells) ?_;have zJ:=V (uj.I.alloc (ag #[Y aO xb] 106));have n1:(li w0 (ag #[Y aO xb] 106)) w0=A (Y aO xb):=kJ w0 _ _ 0 _ rfl;have hS:=zJ.I.cells;have z1:H0<=w0:=z0;have Oi:H0<=(li w0 (ag #[Y aO xb] 106)).heap.size:=Q2Y;generalize li w0 (ag #[Y aO xb] 106)=rC at*;generalize w0.heap.size=A1 at*;refine Lt.all (rs:=[8,11]) kr bK ?_;intro i hq;rcases jy.1 hq with rfl|hq
    .clear hq;refine Lt.step rfl (λK hK=> ?_);refine lM _ cJ _ _ _ cJ B 106 i0 _ 1 1 underlying52 hi cF cG cB rfl U vd n (xs.map (Y aO)) cJ zJ.I.two.fst ⟨A1,0,G⟩ 1 1 [Y aO xb] cJ cJ (Hm n1) Q35 U Q2V U zJ.I.two.base _ rfl ?_;intro g1 fh w1 cC bM cN ei;have sD:=V (zJ.I.one kK ui dK ER cC bM cN);refine bB hK sD.I.cells ?_;have hS:=sD.I.cells;have zw:H0<=w1:=eH Oi bM.size;clear cC bM cN ei;refine Lt.take (i:=13) (v:= ?_) rfl kr (λ_ _ _ h=>h) (aM ⟨Q3u,?_⟩) hS ?_;rotate_left
     .exact Q2q
     try simp only[eR,dC,dD,dE]
     refine Lt.all (rs:=[11]) kr bK ?_;intro i hq;obtain rfl:i=11:=Q2X;clear hq;refine Lt.step rfl (λK hK=> ?_);go_simp;refine bB hK ((sD.I.alloc _).cells) ?_;have uk:=V (sD.I.alloc (ag #[Y Z b] 3));have n2:(li w1 (ag #[Y Z b] 3)) w1=A (Y Z b):=kJ w1 _ _ 0 _ rfl;have hS:=uk.I.cells;have z2:H0<=w1:=zw;have Oj:H0<=(li w1 (ag #[Y Z b] 3)).heap.size:=Q2Y;generalize li w1 (ag #[Y Z b] 3)=wa2 at*;generalize w1.heap.size=A2 at*;refine Lt.all (rs:=[12]) kr bK ?_;intro i hq;obtain rfl:i=12:=Q2X;clear hq;refine Lt.step rfl (λK hK=> ?_);refine lM _ cJ _ _ _ cJ B 3 j0 _ 1 8 underlying55 ji Tb Tc Td rfl U vf n (ys.map (Y Z)) cJ uk.I.two.snd ⟨A2,0,G⟩ 1 1 [Y Z b] cJ cJ (Hm n2) Q35 U Q2V U uk.I.two.base _ rfl ?_;intro g2 Te w2 fT lh oU fC;have mK:=V (uk.I.snd kK ui dK ER fT lh oU);exact Q03
    .obtain rfl:i=11:=by simpa using hq
     clear hq;refine Lt.step rfl (λK hK=> ?_);go_simp;refine bB hK ((zJ.I.alloc _).cells) ?_;have uk:=V (zJ.I.alloc (ag #[Y Z b] 3));have n2:(li rC (ag #[Y Z b] 3)) rC=A (Y Z b):=kJ rC _ _ 0 _ rfl;have n1:=(aD rC (ag #[Y Z b] 3)).cell_of n1;have hS:=uk.I.cells;have z2:H0<=rC:=Oi;have Oj:H0<=(li rC (ag #[Y Z b] 3)).heap.size:=Q2Y;generalize li rC (ag #[Y Z b] 3)=wa2 at*;generalize rC.heap.size=A2 at*;refine Lt.all (rs:=[8]) kr bK ?_;intro i hq;obtain rfl:i=8:=Q2X;clear hq;refine Lt.step rfl (λK hK=> ?_);refine lM _ cJ _ _ _ cJ B 106 i0 _ 1 1 underlying52 hi cF cG cB rfl U vd n (xs.map (Y aO)) cJ uk.I.two.fst ⟨A1,0,G⟩ 1 1 [Y aO xb] cJ cJ (Hm n1) Q35 U Q2V U uk.I.two.base _ rfl ?_;intro g1 fh w1 cC bM cN ei;have sD:=V (uk.I.one kK ui dK ER cC bM cN);refine bB hK sD.I.cells ?_;have n2:=AU bM n2 (λe=>E (ov.I _ e));have hS:=sD.I.cells;have zw:H0<=w1:=eH Oj bM.size;exact Q2M
   .obtain rfl:i=11:=by simpa using hq
    clear hq;refine Lt.step rfl (λK hK=> ?_);go_simp;refine bB hK ((uj.I.alloc _).cells) ?_;have zJ:=V (uj.I.alloc (ag #[Y Z b] 3));have n2:(li w0 (ag #[Y Z b] 3)) w0=A (Y Z b):=kJ w0 _ _ 0 _ rfl;have hS:=zJ.I.cells;have z2:H0<=w0:=z0;have Oj:H0<=(li w0 (ag #[Y Z b] 3)).heap.size:=Q2Y;generalize li w0 (ag #[Y Z b] 3)=rC at*;generalize w0.heap.size=A2 at*;refine Lt.all (rs:=[7]) kr bK ?_;intro i hq;obtain rfl:i=7:=Q2X;clear hq;refine Lt.step rfl (λK hK=> ?_);go_simp;refine bB hK ((zJ.I.alloc _).cells) ?_;have uk:=V (zJ.I.alloc (ag #[Y aO xb] 106));have n1:(li rC (ag #[Y aO xb] 106)) rC=A (Y aO xb):=kJ rC _ _ 0 _ rfl;have n2:=(aD rC (ag #[Y aO xb] 106)).cell_of n2;have hS:=uk.I.cells;have z1:H0<=rC:=Oj;have Oi:H0<=(li rC (ag #[Y aO xb] 106)).heap.size:=Q2Y;generalize li rC (ag #[Y aO xb] 106)=wa2 at*;generalize rC.heap.size=A1 at*;refine Lt.all (rs:=[8]) kr bK ?_;intro i hq;obtain rfl:i=8:=Q2X;clear hq;refine Lt.step rfl (λK hK=> ?_);refine lM _ cJ _ _ _ cJ B 106 i0 _ 1 1 underlying52 hi cF cG cB rfl U vd n (xs.map (Y aO)) cJ uk.I.two.fst ⟨A1,0,G⟩ 1 1 [Y aO xb] cJ cJ (Hm n1) Q35 U Q2V U uk.I.two.base _ rfl ?_;intro g1 fh w1 cC bM cN ei;have sD:=V (uk.I.one kK ui dK ER cC bM cN);refine bB hK sD.I.cells ?_;have n2:=AU bM n2 (λe=>E (ov.I _ e));have hS:=sD.I.cells;have zw:H0<=w1:=eH Oi bM.size;exact Q2M
end
theorem um {k s:Int} (h:1<=bO n k s 0):1<=n/\n<=16/\1<=k/\k<=5/\1<=s/\s<=4/\bO n k s 0<=n/\∀y,0<=y->y<bO n k s 0->y*s+k<=n:=by
 unfold bO at h⊢;split at h
 .rename_i hk;rw[aR hk];obtain⟨h1,h2,h3,h4,h5,h6,_,_,h9⟩:=hk;have e1:=Int.mul_ediv_add_emod (n+2*0-k) s;have e2:=Int.emod_nonneg (n+2*0-k) (show s≠0 by omega);have e3:=Int.ediv_nonneg (show 0<=n+2*0-k by omega) (show 0<=s by omega);generalize(n+2*0-k)/s=q at*;generalize(n+2*0-k)%s=r at*;have e4:q<=s*q:=by
   have:=vv h5 e3;omega
  refine⟨h1,h2,h3,h4,h5,h6,U,λy hy JZ=> ?_⟩;have:=vv (show y<=q by omega) (show 0<=s by omega);rw[Int.mul_comm q s]at this;omega
 .omega
theorem agh {C k s:Int} {P Q y x:Nat} (hP:bO R k s 0=P) (hQ:bO C k s 0=Q) (hy:y<P) (hx:x<Q):AY R C y x k s 0/\((y:Int)*s*C+x*s,(0:Int),(0:Int))∈jc R C y x k s 0:=by
 have fY:AY R C y x k s 0:=⟨U,U,U,U,U,U⟩;refine⟨fY,?_⟩;obtain⟨r1,r2,k1,k2,s1,s2,_,agi⟩:=um fY.1;obtain⟨c1,c2,_,_,_,_,_,agj⟩:=um fY.2.1;have g1:=agi y U U;have g2:=agj x U U;have n1:=qG (show(0:Int)<=y by omega) (show 0<=s by omega);have n2:=qG (show(0:Int)<=x by omega) (show 0<=s by omega);unfold jc;rw[aR fY];refine Wn.ZH.2 ⟨0,0,U,U,⟨U,U⟩,⟨U,U⟩,?_⟩;simp
theorem Hn {C k s:Int} {P Q n:Nat} (hP:bO R k s 0=P) (hQ:bO C k s 0=Q) (hi:i<P*Q) (kt:0<Q):0<(ix R C k s Q n i).length:=by
 have hy:i/Q<P:=Nat.div_lt_of_lt_mul (by rw[Nat.mul_comm];exact hi);have hx:i%Q<Q:=Nat.mod_lt _ kt;unfold ix;rw[ib];exact List.length_pos_of_mem (agh hP hQ hy hx).2
theorem Ho {C k s:Int} {Q N n:Nat} (hR:1<=R) (hC:1<=C) (hn:n<N):∀z∈ix R C k s Q n i,0<=z/\z<N*R*C:=by
 intro z hz;obtain⟨t,ht,rfl⟩:=kG.1 hz;obtain⟨t1,t2,_⟩:=ZK ht;have n1:0<=(n:Int)*R*C:=qG (qG U U) U;have n2:((n:Int)+1)*(R*C)<=(N:Int)*(R*C):=vv U (qG U U);rw[Int.add_mul,Int.one_mul,<-pU,<-pU]at n2;omega
namespace T
def pY (R C k s:Int) (P Q j:Nat):List Int:=ix R C k s Q (j/ (P*Q)) (j%(P*Q))
theorem Tf (R C k s:Int) (P Q n i:Nat) (h:i<P*Q):pY R C k s P Q (n*(P*Q)+i)=ix R C k s Q n i:=by
 unfold pY;rw[Nat.mul_comm,Nat.mul_add_div U,Nat.div_eq_of_lt h,eL,Nat.mul_add_mod,Nat.mod_eq_of_lt h]
def top (D:ah) (R C k s:Int) (P Q j:Nat):Int:=best D ((pY R C k s P Q j).getD 0 0) (pY R C k s P Q j)
def zK (D:ah) (R C k s:Int) (P Q n:Nat):List Int:=(iz n).map (top D R C k s P Q)
def zL (D:ah) (R C k s:Int) (P Q n:Nat):List Int:=(iz n).map (λj=>D.getD (top D R C k s P Q j).toNat 0)
theorem agk (D:ah) (R C k s:Int) (P Q n:Nat):zK D R C k s P Q (n+1)=zK D R C k s P Q n++[top D R C k s P Q n]:=by simp[zK,List.range_succ]
theorem agl (D:ah) (R C k s:Int) (P Q n:Nat):zL D R C k s P Q (n+1)=zL D R C k s P Q n++[D.getD (top D R C k s P Q n).toNat 0]:=by simp[zL,List.range_succ]
theorem agm {D:ah} {C k s:Int} {P Q N j:Nat} (hP:bO R k s 0=P) (hQ:bO C k s 0=Q) (oB:0<P) (kt:0<Q) (hj:j<N*(P*Q)):0<=top D R C k s P Q j/\top D R C k s P Q j<N*R*C/\top D R C k s P Q j∈pY R C k s P Q j:=by
 obtain⟨r1,_⟩:=um (show 1<=bO R k s 0 by omega);obtain⟨c1,_⟩:=um (show 1<=bO C k s 0 by omega);have hM:0<P*Q:=kZ oB kt;have hn:j/ (P*Q)<N:=Nat.div_lt_of_lt_mul (by rw[Nat.mul_comm];exact hj);have hi:j%(P*Q)<P*Q:=Nat.mod_lt _ hM;have sA:0<(pY R C k s P Q j).length:=Hn hP hQ hi kt;have sX:top D R C k s P Q j∈pY R C k s P Q j:=by
  unfold top;rcases SX D (pY R C k s P Q j) ((pY R C k s P Q j).getD 0 0)with e|e
  .rw[e];simp[dV,cR sA]
  .exact e
 have:=Ho (R:=R) (C:=C) (k:=k) (s:=s) (Q:=Q) (i:=j%(P*Q)) r1 c1 hn _ sX;exact⟨this.1,this.2,sX⟩
end T
section
attribute [local go_sem ↓] wp_at_zero wp_at_succ
def agn (ds:ah) (e:Int) (zs fs:ah) (w:H):dN->H->Prop:=λr w'=>∃a l c b m k g n h,r=bG (aL #[aS a l c e b m k,O g n h,Y Z 0])/\ai Z w' a l ds/\ai aO w' b m zs/\ai Z w' g n fs/\ay w w w'
theorem fF {g:Nat} (h:w.heap[g]? =A o) (hb:ay w w w'):w'.heap[g]? =A o:=(hb.block g (bH h)).trans h
theorem aY {g:Nat} {x y z:aj} {t:dy} (h:w.heap[g]? =A (ag #[x,y,z] t (0,0))):
 w g=A x/\w ⟨g,1,G⟩=A y/\w ⟨g,2,G⟩=A z/\w.frozen? ⟨g,0,G⟩=ae/\w.frozen? ⟨g,1,G⟩=ae/\w.frozen? ⟨g,2,G⟩=ae:=by
 simp[kY,World.frozen?,h]
theorem agp {x y z:aj} {t:dy} (h:w.heap[b]? =A (ag #[x,y,z] t (0,0))):(ss w b u).heap[b]? =A (ag #[u,y,z] t (0,0)):=by
 exact Q0y
theorem agq {x y z:aj} {t:dy} (h:w.heap[b]? =A (ag #[x,y,z] t (0,0))):(ss w ⟨b,1,G⟩ u).heap[b]? =A (ag #[x,u,z] t (0,0)):=by
 exact Q0y
theorem oV {g:Nat} {x y z a b c:aj} {t:dy} (h:w.heap[g]? =A (ag #[x,y,z] t (0,0))):
 (ss (ss (ss w g a) ⟨g,1,G⟩ b) ⟨g,2,G⟩ c).heap[g]? =A (ag #[a,b,c] t (0,0)):=
 Od (agq (agp h))
theorem cT {g:Nat} {x y z:aj} {t:dy} (h:w.heap[g]? =A (ag #[x,y,z] t (0,0))) (a b c:aj):
 (ss (ss (ss w g a) ⟨g,1,G⟩ b) ⟨g,2,G⟩ c) g=A a/\(ss (ss (ss w g a) ⟨g,1,G⟩ b) ⟨g,2,G⟩ c) ⟨g,1,G⟩=A b/\(ss (ss (ss w g a) ⟨g,1,G⟩ b) ⟨g,2,G⟩ c) ⟨g,2,G⟩=A c:=by
 obtain⟨h0,h1,h2,_⟩:=aY (oV (a:=a) (b:=b) (c:=c) h);exact⟨h0,h1,h2⟩
theorem agr (a:aC) (l c:Nat) (d:ah) (e:Int) (b:aC) (m k0:Nat) (z:ah) (k s:Int) (w:H) (h0:ai Z w a l d) (h1:ai aO w b m z) (ht:¬T.aH d e z):
 aA aq 195 #[aS a l c e b m k0,Y Z k,Y Z s] w (dZ (aL #[aS G 0 0 0 G 0 0,O G 0 0,Y Z 1]) w):=by
 have M:=V (λw h0 h1=>(eP ht▸jr a l c d e b m k0 z w h0 h1:aA _ _ _ _ (dZ (aK ae) w)));have H0:=V h0;have H1:=V h1;clear ht;unfold aS;unfold aS at M;go_enter func195,ntmps195;go_wp2_with fail;refine bY (M.I _ ((H0.I.below (aD _ _)).below (aD _ _)) ((H1.I.below (aD _ _)).below (aD _ _))) λw2 hb=> ?_;obtain⟨z0,z1,z2,y0,y1,y2⟩:=aY (fF (bZ (li w _) _) hb);rw[bF]at z0 z1 z2 y0 y1 y2;have BB:=V (((aD w _).step (aD _ _)).step hb);go_wp2;refine aZ (v:=aL #[aF #[O G 0 0,Y Z 0,O G 0 0],O G 0 0,Y Z 1]) ?_ rfl ⟨rfl,((BB.I.setCell Q2S _).setCell Q2S _).setCell Q2S _⟩;simp[aW,results195,go_sem,z0,z1,z2]
def ags (w:H):dN->H->Prop:=λe w'=>∃v0 v1 v2 v3 v4 v5:Int,e=bG (aL #[aF #[Y Z v0,Y Z v1,Y Z v2,Y Z v3,Y Z v4,Y Z v5],aK ae])/\ay w w w'
theorem Tg (a:aC) (l c:Nat) (d:ah) (k s:Int) (w:H) (h:ai Z w a l d) (hk:¬(l=4/\0<bO (d.getD 2 0) k s 0/\0<bO (d.getD 3 0) k s 0)):
 aA aq 240 #[O a l c,Y Z k,Y Z s] w (ags w):=by
 by_cases hl:l=4
 .subst hl;refine bY (N7 a c d k s w h) λw' hb=> ?_;have:(decide (0<bO (d.getD 2 0) k s 0)&&decide (0<bO (d.getD 3 0) k s 0))=ae:=by
   rw[Bool.and_eq_false_iff];by_cases h1:0<bO (d.getD 2 0) k s 0
   .exact bJ (eP (λh2=>hk ⟨rfl,h1,h2⟩))
   .exact aM (eP h1)
  rw[this];exact⟨_,_,_,_,_,_,rfl,hb⟩
 .refine bY (aga a l c k s w h.eC hl) λw' hb=> ?_;exact⟨_,_,_,_,_,_,rfl,hb⟩
theorem agt (a:aC) (l c:Nat) (d:ah) (e:Int) (b:aC) (m k0:Nat) (z:ah) (k s:Int) (w:H) (h0:ai Z w a l d) (h1:ai aO w b m z) (ht:T.aH d e z) (hk:¬(l=4/\0<bO (d.getD 2 0) k s 0/\0<bO (d.getD 3 0) k s 0)):
 aA aq 195 #[aS a l c e b m k0,Y Z k,Y Z s] w (dZ (aL #[aS G 0 0 0 G 0 0,O G 0 0,Y Z 2]) w):=by
 have M:=V (λw h0 h1=>(dI ht▸jr a l c d e b m k0 z w h0 h1:aA _ _ _ _ (dZ (aK true) w)));have OV:=V (λw h=>Tg a l c d k s w h hk);have H0:=V h0;have H1:=V h1;clear ht hk;unfold aS;unfold aS at M;go_enter func195,ntmps195;go_wp2_with fail;refine bY (M.I _ ((H0.I.below (aD _ _)).below (aD _ _)) ((H1.I.below (aD _ _)).below (aD _ _))) λw2 hb=> ?_;have hx:=aY (fF (dX (bZ w _) _) hb);obtain⟨x0,x1,x2,_,_,_⟩:=hx;have HZ:=V (fF (bZ (li w _) _) hb);rw[bF]at HZ;have BB:=V (((aD w _).step (aD _ _)).step hb);have H2:=V (((H0.I.below (aD _ _)).below (aD _ _)).below hb);go_wp2_with fail;refine(OV.I _ H2.I).mono ?_;rintro e' w3 ⟨v0,v1,v2,v3,v4,v5,rfl,hb⟩;have yj:=V (fF HZ.I hb);have z0:=aY yj.I;have B3:=V (BB.I.step hb);have dQ:w.heap.size+1<w3.heap.size:=iP (bH HZ.I) hb.size;clear HZ;go_wp2;refine aZ (v:=aL #[aF #[O G 0 0,Y Z 0,O G 0 0],O G 0 0,Y Z 2]) ?_ rfl ⟨rfl,?_⟩
 .have r0:=aY (dX (oV (a:=O G 0 0) (b:=Y Z 0) (c:=O G 0 0) yj.I) (ag #[Y Z v0,Y Z v1,Y Z v2,Y Z v3,Y Z v4,Y Z v5] 331));simp[aW,results195,go_sem,r0]
 .exact Q1W
end
theorem pE.below {B:Nat} {n:Nat} {xs:ah} {m:Nat} (h:pE B w v n xs u m ys) (hb:ay w w w'):pE B w' v n xs u m ys:=
 ⟨oh h.fst hb,oh h.snd hb,h.apart,eH h.base hb.size⟩
theorem CU.below {B bo bf:Nat} {n:Nat} {xs:ah} (h:CU B bo bf od oe n xs ys w) (hb:ay w w w'):CU B bo bf od oe n xs ys w':=by
 obtain⟨vd,vf,h1,h2,h3⟩:=h;exact⟨vd,vf,fF h1 hb,fF h2 hb,h3.below hb⟩
theorem ar.below {B:Nat} {a:H} (h:ar B S a w) (hB:B<=w) (hb:ay w w w'):ar B S a w':=
 ⟨hb.os.trans h.os,hb.tape.trans h.tape,hb.output.trans h.output,eH h.size hb.size,λg hg hn=>(hb.block g (iP hg hB)).trans (h.block g hg hn)⟩
theorem ar.cell {B:Nat} {a:H} (h:ar B S a w) (hp:p.block<B) (hn:¬S p.block) (hc:a.cell? p=A v):w.cell? p=A v:=by
 have:=h.block p.block hp hn;obtain⟨g,o,s⟩:=p;unfold kY at hc⊢;simp only[this];exact hc
theorem ar.row {B:Nat} {w0 a:H} {p:aC} {n:Nat} (h:ar B S a w) (hb:ay w0 w0 a) (hB:w0.heap.size<=B) (hS:∀g,S g->w0.heap.size<=g) (hr:ai k w0 p n zs):ai k w p n zs:=
 hr.mono λq v hq=>by
  have hl:=jY w0 q hq;exact h.cell (iP hl hB) (λhs=>E (hS _ hs)) (hb.cell_of hq)
theorem ai.aa0 {x:Addr} (h:ai k w (A x) len zs) (h0:0<len):x.block<w:=by
 exact Q2l
theorem agv (w w5:H) (b:aC) (m k0:Nat) (z:ah) (R C k s:Int) (P Q N bx bo bf:Nat) (od oe x0 x1:aj) (hP:bO R k s 0=P) (hQ:bO C k s 0=Q) (oB:0<P) (kt:0<Q) (hN:N<=8192) (hz:(m:Int)=N*R*C) (hm:m<=8192)
 (h1:ai aO w b m z) (hb:ay w w w5) (hx:w5.heap[bx]? =A (ag #[x0,x1,O b m k0] 57 (0,0)))
 (ho:w5.heap[bo]? =A (ag #[od,oe,O G 0 0] 57 (0,0))) (hf:w5.heap[bf]? =A (ag #[O G 0 0] 55 (0,0)))
 (cy:w.heap.size<=bo) (hbf:w.heap.size<=bf) (m7:bx≠bo) (SY:bx≠bf) (Ok:bo≠bf):
 aA aq 241 #[windows R C k s P Q,Y Z N,.func (.func 242) #[] #[aP bx,aP bo,aP bf]] w5 λe w'=>e=bG (aL #[])/\
  CU (w5.heap.size+1) bo bf od oe (N*(P*Q)) (T.zL z R C k s P Q (N*(P*Q))) (T.zK z R C k s P Q (N*(P*Q))) w'/\ar w5 (λg=>g=bo\/g=bf) w5 w':=by
 obtain⟨r1,r2,_,_,_,_,pr,_⟩:=um (show 1<=bO R k s 0 by omega);obtain⟨c1,c2,_,_,_,_,qc,_⟩:=um (show 1<=bO C k s 0 by omega);have lx:=bH hx;have lo:=bH ho;have lf:=bH hf;have Ol:N*(P*Q)<=8192:=by
  exact Q0X
 have cO:=aD w5 (tY R C k s P Q);have kL:=bZ w5 (tY R C k s P Q);have m9:(li w5 (tY R C k s P Q)).heap.size=w5.heap.size+1:=bF _ _;refine(ZR 242 #[aP bx,aP bo,aP bf]
  (λn wr=>CU (w5.heap.size+1) bo bf od oe n (T.zL z R C k s P Q n) (T.zK z R C k s P Q n) wr/\ar (w5.heap.size+1) (λg=>g=bo\/g=bf) (li w5 (tY R C k s P Q)) wr)
  R C k s P Q N w5 hP hQ oB kt hN (λargs w=>by simp[go_sem]) ?_ ?_ ?_ ?_).mono ?_
 .refine⟨⟨O G 0 0,O G 0 0,fF ho cO,fF hf cO,⟨gP _ _ _ _,gP _ _ _ _,(λg hg=>by cases hg),by rw[m9];exact bu _⟩⟩,rfl,rfl,rfl,bu _,λ_ _ _=>rfl⟩
 .exact Q0M
 .exact Q1p
 .intro n i a l c wr hn hi ⟨sF,hk⟩ dY;have sA:0<l:=Q4g;have hidx:n*(P*Q)+i<N*(P*Q):=by
   exact Q2i
  have CY:=(hk.block bx U U).trans (fF hx cO);have hD:ai aO wr b m z:=hk.row (w0:=w) (hb.step cO) (E hb.size) (λg hg=>by rcases hg with rfl|rfl<;>assumption) h1;have xg:=age ((n*(P*Q)+i:Nat):Int) a l c (ix R C k s Q n i) bx bo bf od oe b m k0 z (w5.heap.size+1) (n*(P*Q)+i) (T.zL z R C k s P Q (n*(P*Q)+i)) (T.zK z R C k s P Q (n*(P*Q)+i)) wr dY sA (aY CY).2.2.1 hD (by rw[hz];exact Ho r1 c1 hn) sF m7 SY
   (λx e=>by
    have hl:0<m:=by
     exact Q1r
    subst e;have:=h1.aa0 hl;omega)
   U
   (λx e=>by
    have hl:0<m:=by
     exact Q1r
    subst e;have:=h1.aa0 hl;have:=hb.size;omega)
   U U Ok U
  refine xg.mono ?_;rintro e w' ⟨rfl,m6,ig⟩;have et:T.top z R C k s P Q (n*(P*Q)+i)=T.best z ((ix R C k s Q n i).getD 0 0) (ix R C k s Q n i):=by
   unfold T.top;rw[T.Tf R C k s P Q n i hi]
  refine⟨rfl,?_,hk.trans ig⟩;rw[T.agl,T.agk,et];exact m6
 .exact Q0I
namespace T
def sum (D:ah):List Int->Int
 | []=>0
 |a::L=>D.getD a.toNat 0+sum D L
theorem aa3 (D:ah) (a:Int):∀L,sum D (L++[a])=sum D L+D.getD a.toNat 0
 | []=>by simp[sum]
 |b::L=>by rw[List.cons_append];show D.getD b.toNat 0+sum D (L++[a])=D.getD b.toNat 0+sum D L+_;rw[aa3 D a L];omega
theorem Tm {D:ah} (h:∀i:Nat,-128<=D.getD i 0/\D.getD i 0<=127):∀L:List Int,-128*(L.length:Int)<=sum D L/\sum D L<=128*(L.length:Int)
 | []=>by simp[sum]
 |b::L=>by
  have h1:=Tm h L;have h2:=h b.toNat;show-128*((L.length+1:Nat):Int)<=D.getD b.toNat 0+sum D L/\D.getD b.toNat 0+sum D L<=128*((L.length+1:Nat):Int)
  omega
end T
theorem Om (h:(cX aO x).wf=true): -128<=x/\x<=127:=by
 exact Q1s
theorem aa4 (h: -2147483648<=x/\x<=2147483647):(cX cr x).wf=true:=by
 simp[Lit.wf,IntKind.min,IntKind.max,nD,nG];omega
theorem EW (h:∀x∈z,(cX aO x).wf=true) (i:Nat): -128<=z.getD i 0/\z.getD i 0<=127:=by
 by_cases hi:i<z.length
 .exact Om (h _ (by simp[dV,cR hi]))
 .rw[show z.getD i 0=0 by simp[dV,List.getElem?_eq_none (Nat.le_of_not_lt hi)]];omega
theorem agB:(aq.info? 21).map (λi=>(i.zero,i.size,i.bytes))=A (A (Y cr 0),1,4):=Q2Q
def EY (B ba:Nat) (od oe:aj) (n:Nat) (xs:ah) (w:H):Prop:=∃vd,w.heap[ba]? =A (ag #[od,oe,vd] 276 (0,0))/\w.ownsRow B 21 1 vd n (xs.map (Y cr))/\B<=w
theorem agC (i:Int) (a:aC) (l c:Nat) (L:ah) (bx ba:Nat) (od oe:aj) (pd:aC) (md cd:Nat) (D:ah) (B n:Nat) (xs:ah) (w:H)
 (hL:ai Z w a l L) (hl:l<=25) (hx:w ⟨bx,2,G⟩=A (O pd md cd)) (hD:ai aO w pd md D) (A6:∀z∈L,0<=z/\z<md) (hm:EY B ba od oe n xs w) (xq:ba<B) (hn:n<=10000):
 aA aq 291 #[Y Z i,O a l c,aP bx,aP ba] w λe w'=>e=bG (aL #[])/\EY B ba od oe (n+1) (xs++[T.sum D L]) w'/\ar B (λg=>g=ba) w w':=by
 obtain⟨xx,EO⟩:=J (T.sum D L);rw[EO];have J5:=V EO;have H0:=V hL;have HD:=V hD;have EP:=V A6;have HM:=V hm;have H8:=V (EW hD.wf);clear EO hL hD A6 hm;go_enter func291,ntmps291;go_wp2_with fail;go_loop [6,11] (λb i=>∃j:Nat,j<=l/\i=Y Z j/\b=Y cr (T.sum D (L.take j))) (λ_ i=>l-(aX i).toNat)
 case atStart=>exact⟨0,cK _,rfl,rfl⟩
 case round=>
  obtain⟨j,hj,rfl,rfl⟩:=hrel;have sH:=T.Tm H8.I (L.take j);have aqu:(L.take j).length<=25:=E (List.length_take_le j L);by_cases aT:j<l
  .obtain⟨b0,o0,rfl,e0⟩:=H0.I.cells U;have f0:=e0 j aT;have gS:j<L.length:=by rw[H0.I.bA];exact aT
   obtain⟨a1,a2⟩:=EP.I (L.getD j 0) Q3m;have rB:T.sum D (L.take (j+1))=T.sum D (L.take j)+D.getD (L.getD j 0).toNat 0:=by
    have e:L.getD j 0=L[j]:=Q3m;rw[sV gS,T.aa3,e]
   have h8:=H8.I (L.getD j 0).toNat;obtain⟨b1,o1,rfl,e1⟩:=HD.I.cells U;have c1:=e1 (L.getD j 0).toNat U;have HS:=V rB;clear e0 e1 rB gS;generalize T.sum D (L.take j)=sj at*;generalize L.getD j 0=at' at*;generalize D.getD at'.toNat 0=xa at*;obtain⟨Ht,h82⟩:=h8;obtain⟨iK,ja⟩:=sH;go_wp2_with fail;go_round
   case rel=>exact⟨j+1,U,Q2T,Q55⟩
   case measure=>exact Q5q
  .have zF:j=l:=U;have rA:L.take j=L:=by rw[zF,<-H0.I.bA];exact List.take_length
   rw[rA,J5.I]at sH⊢;obtain⟨vd,ho,aV,hB⟩:=HM.I;have HO:=V ho;have GO:=V aV;have oc0:=aY ho;obtain⟨i0,hi,cF,cG,cB⟩:=fB agB;clear ho aV HM rA zF J5 hx;go_wp2_with (at_builtin;refine ko _ rfl _ _ 103 rfl B 21 i0 (Y cr 0) 1 4 underlying103 hi cF cG cB rfl eM vd n (xs.map (Y cr)) rfl (GO.I.alloc _) ⟨w,0,G⟩ 1 1 [Y cr xx] rfl rfl ?c1 ?c2 ?c3 ?c4 ?c5 ?c6 ?_)
   case c2=>rfl
   case c3=>unfold eS;omega
   case c4=>omega
   case c5=>omega
   intro g c' w4 fT eD mH pX qI;have nv:∀k,k<B->vd.ownBlock=A k->False:=λk hk e=>E ((GO.I.lt k e).1);have O4:=V (gI eD (dX HO.I _) (nv _ xq));have K4:=V (show ar B (λg=>g=ba) w w4 from ar.grown (wq:=w) (W:=li w (ag #[Y cr xx] 21)) ⟨rfl,rfl,rfl,(aD w _).size,λg hg _=>(aD w _).block g (iP hg hB)⟩ eD Q2Y (λk e=>(GO.I.lt k e).1));have R4:=V (show w4.ownsRow B 21 1 (O g (n+1) c') (n+1) ((xs++[xx]).map (Y cr))from by rw[kF];exact fT);have p0:=aY O4.I;have A7:B<=w4:=U;clear fT eD mH oc0 nv;go_wp2;go_end0
   refine⟨rfl,⟨_,Od O4.I,ownsRow_setCell_other R4.I (λe=> ?_) _,by rw[jR];exact A7⟩,⟨K4.I.os,K4.I.tape,K4.I.output,by rw[jR];exact K4.I.size,λk hk hn=> ?_⟩⟩
   .have e:A g=A ba:=e;injection e with e;omega
   .rw[Below.heap_setCell _ _ _ _ (λe=>hn e)];exact K4.I.block k hk hn
namespace T
def jB (D:ah) (R C k s:Int) (P Q n:Nat):List Int:=(iz n).map (λj=>sum D (pY R C k s P Q j))
theorem agD (D:ah) (R C k s:Int) (P Q n:Nat):jB D R C k s P Q (n+1)=jB D R C k s P Q n++[sum D (pY R C k s P Q n)]:=by simp[jB,List.range_succ]
end T
theorem EY.below {B ba:Nat} {n:Nat} {xs:ah} (h:EY B ba od oe n xs w) (hb:ay w w w'):EY B ba od oe n xs w':=by
 obtain⟨vd,h1,h2,h3⟩:=h;exact⟨vd,fF h1 hb,oh h2 hb,eH h3 hb.size⟩
theorem aa6 (k:Int) (w:H) (h1:1<=k) (h2:k<=5):aA aq 290 #[Y Z k] w λe w'=>e=bG (Y Z (k/2*2))/\w=w':=by
 have h3:0<=k/2:=U;have h4:k/2<=2:=U;go_enter func290,ntmps290;exact Q0d
theorem agE (w w5:H) (b:aC) (m k0:Nat) (z:ah) (R C k s:Int) (P Q N bx bo:Nat) (od oe x0 x1:aj) (hP:bO R k s 0=P) (hQ:bO C k s 0=Q) (oB:0<P) (kt:0<Q) (hN:N<=8192) (hz:(m:Int)=N*R*C) (hm:m<=8192)
 (h1:ai aO w b m z) (hb:ay w w w5) (hx:w5.heap[bx]? =A (ag #[x0,x1,O b m k0] 57 (0,0)))
 (ho:w5.heap[bo]? =A (ag #[od,oe,O G 0 0] 276 (0,0)))
 (cy:w.heap.size<=bo) (m7:bx≠bo):
 aA aq 241 #[windows R C k s P Q,Y Z N,.func (.func 291) #[] #[aP bx,aP bo]] w5 λe w'=>e=bG (aL #[])/\
  EY (w5.heap.size+1) bo od oe (N*(P*Q)) (T.jB z R C k s P Q (N*(P*Q))) w'/\ar w5 (λg=>g=bo) w5 w':=by
 obtain⟨r1,r2,_,_,_,_,pr,_⟩:=um (show 1<=bO R k s 0 by omega);obtain⟨c1,c2,_,_,_,_,qc,_⟩:=um (show 1<=bO C k s 0 by omega);have lx:=bH hx;have lo:=bH ho;have Ol:N*(P*Q)<=8192:=by
  exact Q0X
 have cO:=aD w5 (tY R C k s P Q);have kL:=bZ w5 (tY R C k s P Q);have m9:(li w5 (tY R C k s P Q)).heap.size=w5.heap.size+1:=bF _ _;refine(ZR 291 #[aP bx,aP bo]
  (λn wr=>EY (w5.heap.size+1) bo od oe n (T.jB z R C k s P Q n) wr/\ar (w5.heap.size+1) (λg=>g=bo) (li w5 (tY R C k s P Q)) wr)
  R C k s P Q N w5 hP hQ oB kt hN (λargs w=>by simp[go_sem]) ?_ ?_ ?_ ?_).mono ?_
 .exact⟨⟨O G 0 0,fF ho cO,gP _ _ _ _,by rw[m9];exact bu _⟩,rfl,rfl,rfl,bu _,λ_ _ _=>rfl⟩
 .exact Q0M
 .exact Q1p
 .intro n i a l c wr hn hi ⟨sF,hk⟩ dY;have sA:0<l:=Q4g;have hidx:n*(P*Q)+i<N*(P*Q):=by
   exact Q2i
  have CY:=(hk.block bx U U).trans (fF hx cO);have hD:ai aO wr b m z:=hk.row (w0:=w) (hb.step cO) (E hb.size) (λg hg=>by rw[hg];exact cy) h1;have J3:l<=25:=by
   rw[<-dY.bA];unfold ix;exact Q2f
  have xg:=agC ((n*(P*Q)+i:Nat):Int) a l c (ix R C k s Q n i) bx bo od oe b m k0 z (w5.heap.size+1) (n*(P*Q)+i) (T.jB z R C k s P Q (n*(P*Q)+i)) wr dY J3 (aY CY).2.2.1 hD (by rw[hz];exact Ho r1 c1 hn) sF U U;refine xg.mono ?_;rintro e w' ⟨rfl,m6,ig⟩;have et:T.sum z (T.pY R C k s P Q (n*(P*Q)+i))=T.sum z (ix R C k s Q n i):=by rw[T.Tf R C k s P Q n i hi]
  refine⟨rfl,?_,hk.trans ig⟩;rw[T.agD,et];exact m6
 .exact Q0I
namespace T
def put (l:ah) (p:Int×Int):List Int:=l.set p.1.toNat (l.getD p.1.toNat 0+p.2)
def jC (n:Nat) (ps:List (Int×Int)):List Int:=ps.foldl put (dz n 0)
theorem fI (l:ah) (p:Int×Int):(put l p).length=l.length:=by simp[put]
theorem aa9 (n:Nat) (ps:List (Int×Int)) (p:Int×Int):jC n (ps++[p])=put (jC n ps) p:=by simp[jC,List.foldl_append]
theorem aac:∀(ps:List (Int×Int)) (l:ah),(ps.foldl put l).length=l.length
 | [],_=>rfl
 |p::ps,l=>by rw[List.foldl_cons,aac ps,fI]
theorem Dh (n:Nat) (ps:List (Int×Int)):(jC n ps).length=n:=by unfold jC;rw[aac];simp
theorem agW (l:ah) (i j:Nat) (v:Int):(l.set i v).getD j 0=if i=j/\i<l.length then v else l.getD j 0:=by
 rw[gB,gB,List.getElem?_set];by_cases h:i=j
 .subst h;by_cases hl:i<l.length
  .simp[hl]
  .simp[hl]
 .simp[h]
theorem agX (l:ah) (p:Int×Int) (j:Nat):(put l p).getD j 0=l.getD j 0+(if p.1.toNat=j/\j<l.length then p.2 else 0):=by
 unfold put;rw[agW];by_cases h:p.1.toNat=j
 .subst h;by_cases hl:p.1.toNat<l.length
  .simp[hl]
  .simp[hl]
 .simp[h]
theorem agY (n j:Nat):(dz n (0:Int)).getD j 0=0:=by
 rw[gB,List.getElem?_replicate];by_cases h:j<n<;>simp[h]
theorem aad (B:Int) (hB:0<=B):∀(ps:List (Int×Int)) (l:ah) (Z3:Int),(∀p∈ps,-B<=p.2 /\p.2 <=B)->(∀j,-Z3<=l.getD j 0/\l.getD j 0<=Z3)->∀j,-(Z3+B*ps.length)<=(ps.foldl put l).getD j 0/\(ps.foldl put l).getD j 0<=Z3+B*ps.length
 | [],l,Z3,_,h,j=>by simpa using h j
 |p::ps,l,Z3,hp,h,j=>by
  have h1:=hp p bK;have h2:=aad B hB ps (put l p) (Z3+B) (λq hq=>hp q (by simp[hq])) (λi=>by
   rw[agX];have:=h i;split<;>omega) j
  have e:B*((p::ps).length:Int)=B*(ps.length:Int)+B:=by
   rw[n8,Int.natCast_add,Int.mul_add];simp
  rw[List.foldl_cons,e];omega
theorem Tt (n:Nat) (ps:List (Int×Int)) (hp:∀p∈ps,-128<=p.2 /\p.2 <=128) (j:Nat): -(128*(ps.length:Int))<=(jC n ps).getD j 0/\(jC n ps).getD j 0<=128*(ps.length:Int):=by
 have:=aad 128 U ps (dz n 0) 0 hp (λj=>by rw[agY];omega) j;unfold jC;omega
theorem aae (n:Nat) (ps:List (Int×Int)) (hp:∀p∈ps,-128<=p.2 /\p.2 <=128) (hl:ps.length<=1000000):∀x∈jC n ps,(cX cr x).wf=true:=by
 intro x hx;obtain⟨j,hj,e⟩:=List.getElem_of_mem hx;have:=Tt n ps hp j;rw[show(jC n ps).getD j 0=x by simp[dV,cR hj,e]]at this;exact aa4 U
def pairs (fs zs:ah) (n:Nat):List (Int×Int):=(iz n).map (λi=>(fs.getD i 0,zs.getD i 0))
theorem agZ (fs zs:ah) (n:Nat):pairs fs zs (n+1)=pairs fs zs n++[(fs.getD n 0,zs.getD n 0)]:=by simp[pairs,List.range_succ]
theorem aaf (fs zs:ah) (n:Nat):(pairs fs zs n).length=n:=by simp[pairs]
theorem aag {fs:ah} (h:∀x∈zs,(cX aO x).wf=true) (n:Nat):∀p∈pairs fs zs n,-128<=p.2 /\p.2 <=128:=by
 intro p hp;obtain⟨i,_,rfl⟩:=kG.1 hp;have:=EW h i;show-128<=zs.getD i 0/\zs.getD i 0<=128
 omega
def E4 (fs:ah) (n:Int):Prop:=∀f∈fs,0<=f/\f<n
instance (fs:ah) (n:Int):Decidable (E4 fs n):=by unfold E4;infer_instance
def A9 (gd:ah) (ge:Int) (gz fs ds:ah):Int:=if ¬aH gd ge gz\/Sh.size ds=0 then 1 else if fs.length≠gz.length then 2 else if E4 fs (Sh.size ds)then 0 else 1
end T
section
attribute [local go_sem ↓] wp_at_zero wp_at_succ
theorem Hp {g:Nat} {a b c d e f:aj} {t:dy} (h:w.heap[g]? =A (ag #[a,b,c,d,e,f] t (0,0))):
 w g=A a/\w ⟨g,1,G⟩=A b/\w ⟨g,2,G⟩=A c/\w ⟨g,3,G⟩=A d/\w ⟨g,4,G⟩=A e/\w ⟨g,5,G⟩=A f:=by
 simp[kY,h]
theorem agx (h:∀x∈z,(cX k x).wf=true) (i:Nat):(cX k (z.getD i 0)).wf=true:=by
 by_cases hi:i<z.length
 .exact h _ (by simp[dV,cR hi])
 .rw[show z.getD i 0=0 by simp[dV,List.getElem?_eq_none (Nat.le_of_not_lt hi)]]
  cases k<;>decide
theorem T.agy (h:∀x∈z,(cX aO x).wf=true) {C k s:Int} {P Q n:Nat}:∀x∈T.zL z R C k s P Q n,(cX aO x).wf=true:=by
 intro x hx;obtain⟨j,_,rfl⟩:=kG.1 hx;exact agx h _
theorem T.agz {C k s:Int} {P Q N:Nat} (hP:bO R k s 0=P) (hQ:bO C k s 0=Q) (oB:0<P) (kt:0<Q) (hz:N*R*C<=8192):∀x∈T.zK z R C k s P Q (N*(P*Q)),(cX Z x).wf=true:=by
 intro x hx;obtain⟨j,hj,rfl⟩:=kG.1 hx;rw[List.mem_range]at hj;have:=T.agm (D:=z) hP hQ oB kt hj;exact WalkArith.wf_i64 U
theorem ar.rowAt {B:Nat} {a:H} {o n:Nat} (h:ar B S a w) (hb:b<B) (hS:¬S b) (hr:ai k a (A ⟨b,o,G⟩) n zs):ai k w (A ⟨b,o,G⟩) n zs:=by
 obtain⟨h1,h2,h3,h4⟩:=hr;refine⟨h1,h2,h3,h4.imp id ?_⟩;rintro⟨b',o',e,hc⟩
 cases e;exact⟨b,o,rfl,λj hj=>h.cell hb hS (hc j hj)⟩
theorem ai.setCell {n:Nat} (h:ai k w a n zs) (u:aj) (hp:∀x,a=A x->x.block≠p.block):ai k (ss w p u) a n zs:=by
 obtain⟨h1,h2,h3,h4⟩:=h;refine⟨h1,h2,h3,h4.imp id ?_⟩;rintro⟨b,o,e,hc⟩;refine⟨b,o,e,λj hj=> ?_⟩;have:=hc j hj;have hh:=Below.heap_setCell w p u b (hp _ e);unfold kY at this⊢;simp only[hh];exact this
theorem ai.eJ {n g:Nat} {x y z:aj} (h:ai k w a n zs) (hp:∀x,a=A x->x.block≠g):ai k (ss (ss (ss w g x) ⟨g,1,G⟩ y) ⟨g,2,G⟩ z) a n zs:=
 ((h.setCell x hp).setCell y hp).setCell z hp
theorem ar.toBelow {B:Nat} {w5 w6:H} (hk:ar B S w5 w6) (hb:ay w w w5) (hB:w.heap.size<=B) (hS:∀g,S g->w.heap.size<=g):ay w w w6:=
 ⟨hk.os.trans hb.os,hk.tape.trans hb.tape,hk.output.trans hb.output,eH hb.size hk.size,λg hg=>(hk.block g (iP hg hB) (λh=>E (hS g h))).trans (hb.block g hg)⟩
def ES (e d0 d1:Int) (P Q:Nat) (w4:H) (v:aj) (wx:H):Prop:=∃bo bd,v=aP (A ⟨bo,0,G⟩)/\wx.heap[bo]? =A (bj (A ⟨bd,0,G⟩) 4 4 e G 0 0)/\
 ai Z wx (A ⟨bd,0,G⟩) 4 [d0,d1,P,Q]/\ay w4 w4 wx/\w4.heap.size<=bo/\w4.heap.size<=bd/\bd≠bo
theorem ES.one (e d0 d1:Int) (P Q:Nat) (w4:H) (h0:(cX Z d0).wf=true) (h1:(cX Z d1).wf=true) (hP:P<=100) (hQ:Q<=100):
 ES e d0 d1 P Q w4 (aP w4) (li (li w4 (bj (w4+1:Nat) 4 4 e G 0 0)) (mr d0 d1 P Q)).drew:=by
 have hw:∀z∈[d0,d1,(P:Int),(Q:Int)],(cX Z z).wf=true:=by
  exact Q0D
 have hr:=ai.new (li w4 (bj (w4+1:Nat) 4 4 e G 0 0)) Z 3 (0,0) [d0,d1,(P:Int),(Q:Int)] hw bK;rw[bF]at hr;exact⟨_,_,rfl,dX (bZ w4 _) _,ai.bI hr 1,((aD w4 _).step (aD _ _)).bI 1,bu _,U,U⟩
theorem ES.two (e d0 d1:Int) (P Q:Nat) (w4:H) (h0:(cX Z d0).wf=true) (h1:(cX Z d1).wf=true) (hP:P<=100) (hQ:Q<=100):
 ES e d0 d1 P Q w4 (aP (w4+1:Nat)) (li (li w4 (mr d0 d1 P Q)) (bj w4 4 4 e G 0 0)).drew:=by
 have hw:∀z∈[d0,d1,(P:Int),(Q:Int)],(cX Z z).wf=true:=by
  exact Q0D
 have hr:=ai.new w4 Z 3 (0,0) [d0,d1,(P:Int),(Q:Int)] hw bK;have hn:=bZ (li w4 (mr d0 d1 P Q)) (bj w4 4 4 e G 0 0);rw[bF]at hn;exact⟨_,_,rfl,hn,ai.bI (hr.below (aD _ _)) 1,((aD w4 _).step (aD _ _)).bI 1,U,bu _,U⟩
def aa1 (ds:ah) (e:Int) (zs fs:ah) (w:H):dN->H->Prop:=λr w'=>∃a l c b m k g n h,(l<=c/\(∀x,a=A x->w.heap.size<=x.block)/\(∀x,b=A x->w.heap.size<=x.block)/\∀x,g=A x->w.heap.size<=x.block)/\r=bG (aL #[aS a l c e b m k,O g n h,Y Z 0])/\ai Z w' a l ds/\ai aO w' b m zs/\ai Z w' g n fs/\ay w w w'
theorem aa2 (a:aC) (c:Nat) (d:ah) (e:Int) (b:aC) (m k0:Nat) (z:ah) (k s:Int) (P Q N:Nat) (w:H) (h0:ai Z w a 4 d) (h1:ai aO w b m z) (ht:T.aH d e z) (hP:bO (d.getD 2 0) k s 0=P) (hQ:bO (d.getD 3 0) k s 0=Q) (oB:0<P) (kt:0<Q) (hN:d.getD 0 0*d.getD 1 0=N) (zM:N<=8192) (hz:(m:Int)=N*d.getD 2 0*d.getD 3 0) (sC:m<=8192):
 aA aq 195 #[aS a 4 c e b m k0,Y Z k,Y Z s] w (aa1 [d.getD 0 0,d.getD 1 0,P,Q] e (T.zL z (d.getD 2 0) (d.getD 3 0) k s P Q (N*(P*Q))) (T.zK z (d.getD 2 0) (d.getD 3 0) k s P Q (N*(P*Q))) w):=by
 have M:=V (λw h0 h1=>(dI ht▸jr a 4 c d e b m k0 z w h0 h1:aA _ _ _ _ (dZ (aK true) w)));have OV:=V (N7 a c d k s);rw[hP,hQ,dI (show(0:Int)<P by omega),dI (show(0:Int)<Q by omega)]at OV;have C5:=h0.wf;obtain⟨b0,o0,rfl,e0⟩:=h0.cells U;have uq:∀i,i<4->(cX Z (d.getD i 0)).wf=true:=λi hi=>by
  exact Q2h
 have ET:=uq 0 U;have EU:=uq 1 U;have lS:=e0 0 U;have rD:=e0 1 U;rw[eL]at lS;have H0:=V h0;have H1:=V h1;generalize d.getD 0 0=d0 at*;generalize d.getD 1 0=d1 at*;generalize d.getD 2 0=R at*;generalize d.getD 3 0=C at*;have HN:=V hN;have HP:=V hP;have HQ:=V hQ;have HZ:=V hz;have yq:=V lS;have C7:=V rD;clear h0 ht hP hQ hN hz uq C5 lS;unfold aS;unfold aS at M;unfold windows at OV;go_enter func195,ntmps195;go_wp2_with fail;refine bY (M.I _ ((H0.I.below (aD _ _)).below (aD _ _)) ((H1.I.below (aD _ _)).below (aD _ _))) λw2 hb=> ?_;have HX:=V (fF (dX (bZ w _) _) hb);have x0:=aY HX.I;have HR:=V (fF (bZ (li w _) _) hb);rw[bF]at HR;have BB:=V (((aD w _).step (aD _ _)).step hb);have H2:=V (((H0.I.below (aD _ _)).below (aD _ _)).below hb);clear hb;go_wp2_with fail;refine bY (OV.I _ H2.I) λw3 hb=> ?_;have Hq:=V (fF HX.I hb);have fL:=V (fF HR.I hb);have B3:=V (BB.I.step hb);clear HR OV;go_upto_region 6 with fail;have gT:=V (bZ w3 (ag #[Y Z R,Y Z C,Y Z k,Y Z s,Y Z P,Y Z Q] 331));have xh:=V (dX Hq.I (ag #[Y Z R,Y Z C,Y Z k,Y Z s,Y Z P,Y Z Q] 331));have gU:=V (dX fL.I (ag #[Y Z R,Y Z C,Y Z k,Y Z s,Y Z P,Y Z Q] 331));have B4:=V (B3.I.step (aD w3 (ag #[Y Z R,Y Z C,Y Z k,Y Z s,Y Z P,Y Z Q] 331)));have fZ:w.heap.size+1<w3.heap.size:=bH fL.I;generalize li w3 (ag #[Y Z R,Y Z C,Y Z k,Y Z s,Y Z P,Y Z Q] 331)=w4 at*;generalize w3.heap.size=bw at*;have oW:b0<w:=jY w _ yq.I;have x0:=aY xh.I;obtain⟨_,_,_,_,p4,p5⟩:=Hp gT.I;have lS:=B4.I.cell_of yq.I;have rD:=B4.I.cell_of C7.I;have Hr:P<=100:=Q39;have Hs:Q<=100:=Q3a;have Tj:P<=20:=Q39;have Tk:Q<=20:=Q3a;go_cut [11] (λs11 wx=>ES e d0 d1 P Q w4 s11 wx)
 case first=>as_aux_lemma=>
  go_region_held3 (λw'=>w'.cell? ⟨w,0,G⟩=A (O (A ⟨b0,o0,G⟩) 4 c)/\w'.cell? ⟨w,1,G⟩=A (Y Z e)/\w'.cell? ⟨bw,4,G⟩=A (Y Z P)/\w'.cell? ⟨bw,5,G⟩=A (Y Z Q)/\w'.cell? ⟨b0,o0,G⟩=A (Y Z d0)/\w'.cell? ⟨b0,o0+1,G⟩=A (Y Z d1)) (go_keep) (fail)
  all_goals
   go_wp2_with fail;go_meet
   case rel=>first|exact ES.one e d0 d1 P Q w4 ET EU Hr Hs|exact ES.two e d0 d1 P Q w4 ET EU Hr Hs
 case rest=>
  obtain⟨bo,bd,rfl,ho,vC,gi,kM,j8,zN⟩:=hcut;have HO:=V ho;have HD:=V vC;have C9:=V (dX (fF xh.I gi) (ag #[O G 0 0] 55));have jk:=V (dX (fF gU.I gi) (ag #[O G 0 0] 55));have dO:=V (dX (fF gT.I gi) (ag #[O G 0 0] 55));have lT:=V (dX HO.I (ag #[O G 0 0] 55));have HF5:=V (bZ wc (ag #[O G 0 0] 55));have Da:=V (HD.I.below (aD wc (ag #[O G 0 0] 55)));have B5:=V ((B4.I.step gi).step (aD wc (ag #[O G 0 0] 55)));have iK:w4.heap.size<=wc:=gi.size;have ja:bw<w4:=bH gT.I;have nK:bo<wc:=bH HO.I;have A7:bd<wc:=HD.I.lt U;have pZ:wc.heap.size<(li wc (ag #[O G 0 0] 55)).heap.size:=Q2Y;clear ho vC gi lS;go_wp2_with fail;generalize li wc (ag #[O G 0 0] 55)=w5 at*;generalize wc.heap.size=bf at*;have ME:=V (agv w w5.drew b m k0 z R C k s P Q N w.heap.size bo bf _ _ _ _ HP.I HQ.I oB kt zM HZ.I sC H1.I (B5.I.bI 1) C9.I lT.I HF5.I U U U U U);unfold windows at ME;have hN:=HN.I;have hNw:Z.wrap (N:Int)=N:=wrap_small N U;obtain⟨x0,_,_,_,_,_⟩:=aY C9.I;obtain⟨p0,p1,p2,p3,p4,p5⟩:=Hp dO.I;have lS:=B5.I.cell_of yq.I;have rD:=B5.I.cell_of C7.I;go_region_held3 (λw'=>(w'.cell? ⟨bw,0,G⟩=A (Y Z R)/\w'.cell? ⟨bw,1,G⟩=A (Y Z C)/\w'.cell? ⟨bw,2,G⟩=A (Y Z k)/\w'.cell? ⟨bw,3,G⟩=A (Y Z s)/\w'.cell? ⟨bw,4,G⟩=A (Y Z P)/\w'.cell? ⟨bw,5,G⟩=A (Y Z Q))/\w'.cell? ⟨w,0,G⟩=A (O (A ⟨b0,o0,G⟩) 4 c)/\w'.cell? ⟨b0,o0,G⟩=A (Y Z d0)/\w'.cell? ⟨b0,o0+1,G⟩=A (Y Z d1))
   (first
    |go_keep
    |exact⟨⟨cA.I.cell Q3T Q3j p0,cA.I.cell Q3T Q3j p1,cA.I.cell Q3T Q3j p2,cA.I.cell Q3T Q3j p3,cA.I.cell Q3T Q3j p4,cA.I.cell Q3T Q3j p5⟩,cA.I.cell (by show w.heap.size<w5;omega) (by show ¬(w.heap.size=bo\/w.heap.size=bf);omega) x0,cA.I.cell (by show b0<w5;omega) (by show ¬(b0=bo\/b0=bf);omega) lS,cA.I.cell (by show b0<w5;omega) (by show ¬(b0=bo\/b0=bf);omega) rD⟩)
   (first|(go_at_call 241;(refine ME.I.mono ?_);rintro e6 w6 ⟨rfl,Db,xj⟩;have cA:=V xj;have hmx:=V Db;clear Db xj))
  obtain⟨vd,vf,Tl,hf6,A8⟩:=hmx.I;have yr:=(cA.I.block (w.heap.size+1) (by show w.heap.size+1<w5.heap.size;omega) (by show ¬(w.heap.size+1=bo\/w.heap.size+1=bf);omega)).trans jk.I;have Ol:N*(P*Q)<=3300000:=by
   have:=mq zM (mq Tj Tk);omega
  obtain⟨av,cv,rfl,J9⟩:=ai.nJ A8.fst (T.agy H1.I.wf) U;obtain⟨af,cf,rfl,hrf⟩:=ai.nJ A8.snd (T.agz HP.I HQ.I oB kt (by rw[<-HZ.I];omega)) U;have Ka:=V J9;have HRF:=V hrf;have rE:=V (cA.I.rowAt (by show bd<w5;omega) (by show ¬(bd=bo\/bd=bf);omega) (Da.I.bI 1));have B6:=V (cA.I.toBelow (B5.I.bI 1) (by show w.heap.size<=w5;omega) (by rintro g (rfl|rfl)<;>omega));have lv:=V (λx (h:av=A x)=>(A8.fst.lt x.block (by rw[h];rfl)).1);have lf:=V (λx (h:af=A x)=>(A8.snd.lt x.block (by rw[h];rfl)).1);have q0:=aY Tl;have qf:=cell_of_one hf6;have oD:=V yr;have u0:=aY yr;clear A8 J9 hrf lS hmx;go_wp2_with fail;go_region
  go_wp2;refine aZ (v:=aL #[aF #[O bd 4 4,Y Z e,O av (N*(P*Q)) cv],O af (N*(P*Q)) cf,Y Z 0]) ?_ rfl ⟨_,4,4,_,_,_,_,_,_,⟨bu 4,(λx hx=>by cases hx;show w.heap.size<=bd;omega),(λx hx=>Q3s),(λx hx=>Q4j)⟩,rfl,?_,?_,?_,?_⟩
  .simp[aW,results195,go_sem,cT oD.I]
  .exact ai.bI (rE.I.eJ (λx hx=>Q3A)) 1
  .exact ai.bI (Ka.I.eJ (λx hx=>Q3s)) 1
  .exact ai.bI (HRF.I.eJ (λx hx=>Q4j)) 1
  .exact(((B6.I.setCell Q2S _).setCell Q2S _).setCell Q2S _).bI 1
theorem agA (a:aC) (c:Nat) (d:ah) (e:Int) (b:aC) (m k0:Nat) (z:ah) (k s:Int) (P Q N:Nat) (w:H) (h0:ai Z w a 4 d) (h1:ai aO w b m z) (ht:T.aH d e z) (hP:bO (d.getD 2 0) k s 0=P) (hQ:bO (d.getD 3 0) k s 0=Q) (oB:0<P) (kt:0<Q) (hN:d.getD 0 0*d.getD 1 0=N) (zM:N<=8192) (hz:(m:Int)=N*d.getD 2 0*d.getD 3 0) (sC:m<=8192):
 aA aq 195 #[aS a 4 c e b m k0,Y Z k,Y Z s] w (agn [d.getD 0 0,d.getD 1 0,P,Q] e (T.zL z (d.getD 2 0) (d.getD 3 0) k s P Q (N*(P*Q))) (T.zK z (d.getD 2 0) (d.getD 3 0) k s P Q (N*(P*Q))) w):=
 (aa2 a c d e b m k0 z k s P Q N w h0 h1 ht hP hQ oB kt hN zM hz sC).mono λ_ _ ⟨a,l,c,b,m,k,g,n,h,_,e⟩=>⟨a,l,c,b,m,k,g,n,h,e⟩
theorem agF (a:aC) (l c:Nat) (d:ah) (e:Int) (b:aC) (m k0:Nat) (z:ah) (k s:Int) (w:H) (h0:ai Z w a l d) (h1:ai aO w b m z) (ht:¬T.aH d e z):
 aA aq 234 #[aS a l c e b m k0,Y Z k,Y Z s] w (dZ (aL #[aS G 0 0 0 G 0 0,Y Z 1]) w):=by
 have M:=V (λw h0 h1=>(eP ht▸jr a l c d e b m k0 z w h0 h1:aA _ _ _ _ (dZ (aK ae) w)));have H0:=V h0;have H1:=V h1;clear ht;unfold aS;unfold aS at M;go_enter func234,ntmps234;go_wp2_with fail;refine bY (M.I _ ((H0.I.below (aD _ _)).below (aD _ _)) ((H1.I.below (aD _ _)).below (aD _ _))) λw2 hb=> ?_;obtain⟨z0,z1,z2,y0,y1,y2⟩:=aY (fF (bZ (li w _) _) hb);rw[bF]at z0 z1 z2 y0 y1 y2;have BB:=V (((aD w _).step (aD _ _)).step hb);go_wp2;refine aZ (v:=aL #[aF #[O G 0 0,Y Z 0,O G 0 0],Y Z 1]) ?_ rfl ⟨rfl,((BB.I.setCell Q2S _).setCell Q2S _).setCell Q2S _⟩;simp[aW,results234,go_sem,z0,z1,z2]
theorem agG (a:aC) (l c:Nat) (d:ah) (e:Int) (b:aC) (m k0:Nat) (z:ah) (k s:Int) (w:H) (h0:ai Z w a l d) (h1:ai aO w b m z) (ht:T.aH d e z) (hk:¬(l=4/\0<bO (d.getD 2 0) k s 0/\0<bO (d.getD 3 0) k s 0)):
 aA aq 234 #[aS a l c e b m k0,Y Z k,Y Z s] w (dZ (aL #[aS G 0 0 0 G 0 0,Y Z 2]) w):=by
 have M:=V (λw h0 h1=>(dI ht▸jr a l c d e b m k0 z w h0 h1:aA _ _ _ _ (dZ (aK true) w)));have OV:=V (λw h=>Tg a l c d k s w h hk);have H0:=V h0;have H1:=V h1;clear ht hk;unfold aS;unfold aS at M;go_enter func234,ntmps234;go_wp2_with fail;refine bY (M.I _ ((H0.I.below (aD _ _)).below (aD _ _)) ((H1.I.below (aD _ _)).below (aD _ _))) λw2 hb=> ?_;have hx:=aY (fF (dX (bZ w _) _) hb);obtain⟨x0,x1,x2,_,_,_⟩:=hx;have HZ:=V (fF (bZ (li w _) _) hb);rw[bF]at HZ;have BB:=V (((aD w _).step (aD _ _)).step hb);have H2:=V (((H0.I.below (aD _ _)).below (aD _ _)).below hb);go_wp2_with fail;refine(OV.I _ H2.I).mono ?_;rintro e' w3 ⟨v0,v1,v2,v3,v4,v5,rfl,hb⟩;have yj:=V (fF HZ.I hb);have z0:=aY yj.I;have B3:=V (BB.I.step hb);have dQ:w.heap.size+1<w3.heap.size:=iP (bH HZ.I) hb.size;clear HZ;go_wp2;refine aZ (v:=aL #[aF #[O G 0 0,Y Z 0,O G 0 0],Y Z 2]) ?_ rfl ⟨rfl,?_⟩
 .have r0:=aY (dX (oV (a:=O G 0 0) (b:=Y Z 0) (c:=O G 0 0) yj.I) (ag #[Y Z v0,Y Z v1,Y Z v2,Y Z v3,Y Z v4,Y Z v5] 331));simp[aW,results234,go_sem,r0]
 .exact Q1W
end
def sZ (d:ah) (k s:Int):Prop:=d.length=4/\0<bO (d.getD 2 0) k s 0/\0<bO (d.getD 3 0) k s 0
instance (d:ah) (k s:Int):Decidable (sZ d k s):=by unfold sZ;infer_instance
namespace T
def j9 (d:ah):Nat:=(d.getD 0 0*d.getD 1 0).toNat
def rowsOf (d:ah) (k s:Int):Nat:=(bO (d.getD 2 0) k s 0).toNat
def qg (d:ah) (k s:Int):Nat:=(bO (d.getD 3 0) k s 0).toNat
def count (d:ah) (k s:Int):Nat:=j9 d*(rowsOf d k s*qg d k s)
def err (d:ah) (e:Int) (z:ah) (k s:Int):Int:=if ¬aH d e z then 1 else if sZ d k s then 0 else 2
def tj (d:ah) (k s:Int):List Int:=[d.getD 0 0,d.getD 1 0,rowsOf d k s,qg d k s]
def maxOf (d z:ah) (k s:Int):List Int:=zL z (d.getD 2 0) (d.getD 3 0) k s (rowsOf d k s) (qg d k s) (count d k s)
def Tp (d z:ah) (k s:Int):List Int:=zK z (d.getD 2 0) (d.getD 3 0) k s (rowsOf d k s) (qg d k s) (count d k s)
def sumOf (d z:ah) (k s:Int):List Int:=jB z (d.getD 2 0) (d.getD 3 0) k s (rowsOf d k s) (qg d k s) (count d k s)
theorem facts {e:Int} {k s:Int} (ht:aH d e z) (ho:sZ d k s):
 bO (d.getD 2 0) k s 0=rowsOf d k s/\bO (d.getD 3 0) k s 0=qg d k s/\0<rowsOf d k s/\0<qg d k s/\d.getD 0 0*d.getD 1 0=j9 d/\j9 d<=8192/\0<j9 d/\
 (z.length:Int)=j9 d*d.getD 2 0*d.getD 3 0/\z.length<=8192/\1<=d.getD 0 0/\1<=d.getD 1 0/\1<=d.getD 2 0/\1<=d.getD 3 0:=by
 obtain⟨t1,t2,t3,t4⟩:=ht;obtain⟨o1,o2,o3⟩:=ho;have my:=Sh.iA t1;have hp:=my.eq
 match d,o1 with
 | [a,b,c,f],_=>
   have ea:=(my.each a bK).1;have eb:=(my.each b bK).1;have ec:=(my.each c bK).1;have ef:=(my.each f bK).1;have hle:=my.le;have On:Sh.prod [a,b,c,f]=a*(b*(c*(f*1))):=rfl;rw[On,Int.mul_one]at hp hle;have h1:=pA ea eb U U;have h2:=pA ec ef U U;have e1:a*(b*(c*f))=a*b*(c*f):=by rw[pU]
   rw[e1]at hp hle;have h3:a*b<=a*b*(c*f):=by
    have:=Int.mul_le_mul_of_nonneg_left (show 1<=c*f by omega) (show 0<=a*b by omega);omega
   unfold rowsOf qg j9;simp only[List.getD_cons_zero,List.getD_cons_succ]at*;have e2:(((a*b).toNat:Nat):Int)=a*b:=Int.toNat_of_nonneg U;refine⟨U,U,U,U,e2.symm,U,U,?_,U,ea,eb,ec,ef⟩;rw[t2,hp,e2,pU (a*b)]
end T
def Tq (ds:ah) (e:Int) (zs fs:ah) (err:Int) (w:H):dN->H->Prop:=λr w'=>∃a l c b m k g n h,r=bG (aL #[aS a l c e b m k,O g n h,Y Z err])/\ai Z w' a l ds/\ai aO w' b m zs/\ai Z w' g n fs/\ay w w w'
def rF (ds:ah) (e:Int) (zs:ah) (err:Int) (w:H):dN->H->Prop:=λr w'=>∃a l c b m k,r=bG (aL #[aS a l c e b m k,Y Z err])/\ai Z w' a l ds/\ai cr w' b m zs/\ay w w w'
theorem agL (a:aC) (l c:Nat) (d:ah) (e:Int) (b:aC) (m k0:Nat) (z:ah) (k s:Int) (w:H) (h0:ai Z w a l d) (h1:ai aO w b m z) (ht:T.aH d e z) (ho:sZ d k s):
 aA aq 195 #[aS a l c e b m k0,Y Z k,Y Z s] w (aa1 (T.tj d k s) e (T.maxOf d z k s) (T.Tp d z k s) w):=by
 obtain⟨f1,f2,f3,f4,f5,f6,f7,f8,f9,_⟩:=T.facts ht ho;obtain rfl:l=4:=Q4T;rw[h1.bA]at f8 f9;exact aa2 a c d e b m k0 z k s (T.rowsOf d k s) (T.qg d k s) (T.j9 d) w h0 h1 ht f1 f2 f3 f4 f5 f6 f8 f9
theorem agM (a:aC) (l c:Nat) (d:ah) (e:Int) (b:aC) (m k0:Nat) (z:ah) (k s:Int) (w:H) (h0:ai Z w a l d) (h1:ai aO w b m z) (ht:T.aH d e z) (ho:sZ d k s):
 aA aq 195 #[aS a l c e b m k0,Y Z k,Y Z s] w (Tq (T.tj d k s) e (T.maxOf d z k s) (T.Tp d z k s) 0 w):=by
 obtain⟨f1,f2,f3,f4,f5,f6,f7,f8,f9,_⟩:=T.facts ht ho;obtain rfl:l=4:=Q4T;rw[h1.bA]at f8 f9;exact agA a c d e b m k0 z k s (T.rowsOf d k s) (T.qg d k s) (T.j9 d) w h0 h1 ht f1 f2 f3 f4 f5 f6 f8 f9
theorem agN (a:aC) (l c:Nat) (d:ah) (e:Int) (b:aC) (m k0:Nat) (z:ah) (k s:Int) (w:H) (h0:ai Z w a l d) (h1:ai aO w b m z) (h:T.err d e z k s≠0):
 aA aq 195 #[aS a l c e b m k0,Y Z k,Y Z s] w (Tq [] 0 [] [] (T.err d e z k s) w):=by
 unfold T.err at h⊢;by_cases ht:T.aH d e z
 .rw[aI Q4Y]at h⊢;by_cases ho:sZ d k s
  .rw[aR ho]at h;exact absurd rfl h
  .rw[aI ho]at h⊢;refine bY (agt a l c d e b m k0 z k s w h0 h1 ht (λg=>ho ⟨by rw[h0.bA];exact g.1,g.2⟩)) λw' hb=> ?_;exact Q2a
 .rw[aR ht]at h⊢;refine bY (agr a l c d e b m k0 z k s w h0 h1 ht) λw' hb=> ?_;exact Q2a
theorem agO (a:aC) (l c:Nat) (d:ah) (e:Int) (b:aC) (m k0:Nat) (z:ah) (k s:Int) (w:H) (h0:ai Z w a l d) (h1:ai aO w b m z) (h:T.err d e z k s≠0):
 aA aq 234 #[aS a l c e b m k0,Y Z k,Y Z s] w (rF [] 0 [] (T.err d e z k s) w):=by
 unfold T.err at h⊢;by_cases ht:T.aH d e z
 .rw[aI Q4Y]at h⊢;by_cases ho:sZ d k s
  .rw[aR ho]at h;exact absurd rfl h
  .rw[aI ho]at h⊢;refine bY (agG a l c d e b m k0 z k s w h0 h1 ht (λg=>ho ⟨by rw[h0.bA];exact g.1,g.2⟩)) λw' hb=> ?_;exact⟨_,_,_,_,_,_,rfl,ai.zero _ _ _,ai.zero _ _ _,hb⟩
 .rw[aR ht]at h⊢;refine bY (agF a l c d e b m k0 z k s w h0 h1 ht) λw' hb=> ?_;exact⟨_,_,_,_,_,_,rfl,ai.zero _ _ _,ai.zero _ _ _,hb⟩
theorem T.Ts {e:Int} {k s:Int} (h:T.err d e z k s=0):T.aH d e z/\sZ d k s:=by
 unfold T.err at h;split at h
 .cases h
 .rename_i ht;split at h
  .exact⟨Q4Y,‹_›⟩
  .cases h
end Go.Proofs.YtcpmhoodeieanaaGreatDoor
