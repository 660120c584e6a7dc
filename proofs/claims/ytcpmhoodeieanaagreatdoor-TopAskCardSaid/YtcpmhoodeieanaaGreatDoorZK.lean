/-
  Part 11 of the proof that TopAsk answers true: laws of the functions that it calls, on any memory that holds their arguments.
-/
import Derived.Test.YtcpmhoodeieanaaGreatDoorZH
set_option maxRecDepth 100000
set_option maxHeartbeats 20000000
set_option linter.unusedVariables false
set_option linter.unusedSimpArgs false
open Go.Lib renaming hid→V
open Go.IntKind renaming i64→Z,i8→aO,i32→cr
open Go.Value renaming int→Y,slice→O,agg→aF,bool→aK,tuple→aL,pointer→aP
open Option renaming none→G,some→A
open Go renaming World→H,results→aW,bodyPost_ret→aZ,lt_of_block→bH,heap_alloc_new→bZ
open Go.Obj renaming cells→ag
open Go.Proofs.Tryz renaming prog→aq
open And renaming intro→aw
open Go.RowKit renaming intOf→aX
open Or renaming inl→aM,inr→bJ
open Nat renaming le_refl→bu,zero_le→cK,mul_pos→kZ,mul_le_mul→mq
open Go.World renaming size_alloc→bF
open List renaming getElem?_eq_getElem→cR,replicate→dz,getD_eq_getElem?_getD→gB,getElem_mem→jZ,getD_cons_zero→nC,getD_cons_succ→n7
open Go.IntWalk renaming i64_in→dv
open Go.World renaming alloc→li
open Int renaming natCast_mul→gQ,mul_assoc→pU
open Decidable renaming byContradiction→oP
namespace Go.Proofs.YtcpmhoodeieanaaGreatDoor
open Go.RowKit Go.Proofs.Tryz
section
attribute [local go_sem ↓] wp_at_zero wp_at_succ
theorem amg (y x:az) (k0 s p:Int) (vy vx:Value) (W:H) (hy:fu aO W vy y) (hx:fu aO W vx x):
 Calls aq 270 #[vy,vx,Y Z k0,Y Z s,Y Z p] W (oY cr (C.weight y x k0 s p) W):=by
 obtain⟨ya,yl,yc,yp,ym,yk,rfl,y0,y1⟩:=hy;obtain⟨xa,xl,xc,xp,xm,xk,rfl,x0,x1⟩:=hx;have K4:=V (aE.lj W (bj ya yl yc y.e yp ym yk) (bj xa xl xc x.e xp xm xk) (cV G 0 0 0 G 0 0));have KR:=V ((y0.bt.and y1.bt).and (x0.bt.and x1.bt));obtain⟨R,hR⟩:=J (C.weight y x k0 s p);rw[hR];have HR:=V hR;unfold aS;clear x0 x1 y0 y1 hR;have KA:=V (K4.I.alloc (ag #[O ya yl yc,Y Z y.e,O yp ym yk,O xa xl xc,Y Z x.e,O xp xm xk] 57));have RW:=KR.aQ KA.F.2.2.2;have du:=bZ (li (li (li W (bj ya yl yc y.e yp ym yk)) (bj xa xl xc x.e xp xm xk)) (cV G 0 0 0 G 0 0)) (ag #[O ya yl yc,Y Z y.e,O yp ym yk,O xa xl xc,Y Z x.e,O xp xm xk] 57);rw[bF,bF,bF]at du;have DM:=V (Qe [y,x] (W.heap.size+1+1+1) 2 _ rfl eM (rJ.two du RW.1.1 RW.1.2 RW.2.1 RW.2.2));obtain⟨Z7,hZ⟩:=J (D.aH 4 [y,x]);rw[hZ]at DM;have HZ:=V hZ;clear hZ RW du;obtain⟨f0,f1,f2⟩:=bP K4.F.1;obtain⟨g0,g1,g2⟩:=bP K4.F.2.1;go_enter func270,ntmps270
 let pq:=bodyPost aq Tryz.f270 (λ_ _=>True)
 generalize dS:bodyPost aq Tryz.f270 (oY cr R W)=BP;have dB:=V dS;have jM:=oz dS;clear dS;go_wp2_with fail;refine bY DM.I λw6 hb=> ?_;have K7:=KA.bU hb;clear K4 KA DM hb f0 f1 f2 g0 g1 g2;obtain⟨r0,r1,r2,r3,r4,r5⟩:=aY K7.F.2.2.1;by_cases hz:Z7=0
 .subst hz;have my:=D.D3 HZ.I;obtain⟨mx,lx⟩:=my y bK;obtain⟨mw,lw⟩:=my x bK;obtain⟨N,ZY,P,Q,ex,n1,o1,p1,q1,n2,o2,p2,q2,iQ,lD,xF⟩:=D.four mx lx;obtain⟨N1,Ch,R0,C0,ew,n3,c3,k1,k3,n4,c4,k2,k4,eI,nQ,tH⟩:=D.four mw lw;have RW:=KR.aQ K7.F.2.2.2;have fP:=RW.1.1.bA;have mI:=RW.2.1.bA;rw[ex]at fP;rw[ew]at mI;obtain rfl:yl=4:=fP.symm;obtain rfl:xl=4:=mI.symm;obtain⟨yb,yo,rfl,gY⟩:=RW.1.1.cells U;obtain⟨xb,xo,rfl,kQ⟩:=RW.2.1.cells U;have iX:=gY 0 U;have gM:=gY 1 U;have qC:=gY 2 U;have qD:=gY 3 U;have kR:=kQ 0 U;have kS:=kQ 1 U;have uQ:=kQ 2 U;have uR:=kQ 3 U;rw[ex]at iX gM qC qD;rw[ew]at kR kS uQ uR;simp only[Nat.add_zero,nC,n7]at iX gM qC qD kR kS uQ uR;have HX:=V (aw ex ew);have KS:Hid (aE w6 (λw':H=>w' W=A (O (A ⟨yb,yo,G⟩) 4 yc)/\w' ⟨W+1,0,G⟩=A (O (A ⟨xb,xo,G⟩) 4 xc)/\w' ⟨yb,yo,G⟩=A (Y Z N)/\w' ⟨yb,yo+1,G⟩=A (Y Z ZY)/\w' ⟨yb,yo+2,G⟩=A (Y Z P)/\w' ⟨yb,yo+3,G⟩=A (Y Z Q)/\w' ⟨xb,xo,G⟩=A (Y Z N1)/\w' ⟨xb,xo+1,G⟩=A (Y Z Ch)/\w' ⟨xb,xo+2,G⟩=A (Y Z R0)/\w' ⟨xb,xo+3,G⟩=A (Y Z C0))):=V ((aE.cell (K7.F.1 |>λh=>bh h 0 rfl)).and ((aE.cell (K7.F.2.1 |>λh=>bh h 0 rfl)).and ((aE.cell iX).and ((aE.cell gM).and ((aE.cell qC).and ((aE.cell qD).and ((aE.cell kR).and ((aE.cell kS).and ((aE.cell uQ).and (aE.cell uR))))))))));clear ex ew gY kQ iX gM qC qD kR kS uQ uR RW fP mI my mx mw lx lw;obtain⟨S1,dp⟩:∃S1:H->Prop,S1=(λw':H=>w' W=A (O (A ⟨yb,yo,G⟩) 4 yc)/\w' ⟨W+1,0,G⟩=A (O (A ⟨xb,xo,G⟩) 4 xc)/\w' ⟨yb,yo,G⟩=A (Y Z N)/\w' ⟨yb,yo+1,G⟩=A (Y Z ZY)/\w' ⟨yb,yo+2,G⟩=A (Y Z P)/\w' ⟨yb,yo+3,G⟩=A (Y Z Q)/\w' ⟨xb,xo,G⟩=A (Y Z N1)/\w' ⟨xb,xo+1,G⟩=A (Y Z Ch)/\w' ⟨xb,xo+2,G⟩=A (Y Z R0)/\w' ⟨xb,xo+3,G⟩=A (Y Z C0)):=⟨_,rfl⟩;rw[<-dp]at KS;go_wp2_with fail;refine cS S1 (eE (KS.aQ (below_drewN w6 1)) λhS=>bR hS [0,4,8,1,5,9,2,6,10,3,7,11,12,13,14] (λ_ h=>Q34) ?_);refine bW ?_;have K8:=V K7.I.draw;have kC:=V KS.I.draw;clear K7 KS hS r0 r1 r2 r3 r4 r5;generalize w6.drew=w7 at*;obtain⟨VP,zk⟩:=J (bO R0 k0 s p);obtain⟨VQ,zm⟩:=J (bO C0 k0 s p);obtain⟨OK,zn⟩:=J (decide (0<VP)&&decide (0<VQ));have OV:=V (WA R0 C0 k0 s p);rw[zk,zm,zn]at OV;have xM:=V zk;have xN:=V zm;have Ec:=V zn;clear zk zm zn;have kx:=V (show(if ¬(0<VP/\0<VQ)\/(N1:Int)≠N\/(P:Int)≠VP\/(Q:Int)≠VQ then(2,az.zero)
   else if(C.fresh ((N:Int)*VP*VQ) (y.e+x.e) [(ZY:Int),Ch,k0,k0]).1 ≠0 then C.fresh ((N:Int)*VP*VQ) (y.e+x.e) [(ZY:Int),Ch,k0,k0]
   else(0,⟨[(ZY:Int),Ch,k0,k0],y.e+x.e,C.Je y.z x.z N ZY Ch (R0*C0) (VP.toNat*VQ.toNat) k0.toNat (λi=>jc R0 C0 (i/VQ.toNat:Nat) (i%VQ.toNat:Nat) k0 s p) (dz (ZY*Ch*k0.toNat*k0.toNat) 0)⟩))=R by
   have h:=HR.I;unfold C.weight at h;rw[HZ.I,aI bK,HX.I.1,HX.I.2]at h;unfold C.g C.nat at h;simp only[nC,n7,Int.toNat_natCast]at h;rw[xM.I,xN.I]at h;exact h)
  go_upto_region 5 with fail;go_cut [16,17] (λa c wx=>∃gw,a=aP (A ⟨gw,0,G⟩)/\c=aK OK/\wx.heap[gw]? =A (mF R0 C0 k0 s p VP VQ)/\Below w7 w7 wx)
  case first=>
   as_aux_lemma=>
   refine cS S1 (eE (kC.aQ (below_drewN w7 1)) λhS=> ?_);have wJ:Below w7 w7 w7.drew:=(Below.refl _ w7).bI 1;refine bR hS [0,4,8,9,10,1,5,2,6,3,7] (λ_ h=>Q34) ?_;refine lI 11 15 (λK hK=> ?_) (λK hK=> ?_)
   .go_simp;refine bY (OV.I _) λw8 hb=> ?_;have ej:Below w7 w7 w8:=wJ.step hb;refine bB hK (kC.aQ ej) ?_;clear hK K;refine cQ (kC.aQ ej) [12,13,14] (bL 15 λK hK=> ?_);go_simp;refine bB hK (kC.aQ (ej.step (aD w8 _))) ?_;clear hK K;refine bL 16 λK hK=> ?_;go_simp;refine bB hK (kC.aQ (ej.step (aD w8 _))) ?_;clear hK K;exact Q1E
   .go_simp;refine bB hK (kC.aQ (wJ.step (aD w7.drew _))) ?_;clear hK K;refine bL 11 λK hK=> ?_;go_simp;refine bY (OV.I _) λw8 hb=> ?_;have ej:Below w7 w7 w8:=(wJ.step (aD w7.drew _)).step hb;have lV:w8.heap[w7.heap.size]? =A (mF 0 0 0 0 0 0 0):=bV (bZ w7.drew _) hb;refine bB hK (kC.aQ ej) ?_;clear hK K;refine cQ (kC.aQ ej) [12,13,14] ?_;obtain⟨q0,q1,q2,q3,q4,q5,q6⟩:=bE lV;have i0:=cE lV 0;have i1:=cE lV 1;have i2:=cE lV 2;have i3:=cE lV 3;have i4:=cE lV 4;have i5:=cE lV 5;have i6:=cE lV 6;refine bL 16 λK hK=> ?_;go_simp;refine bB hK (kC.aQ (nt ej (bu _) _ _ _ _ _ _ _)) ?_;clear hK K;exact Q1l
  case rest=>
  obtain⟨gw,rfl,rfl,Ax,dR⟩:=hcut;obtain⟨w8,rfl⟩:∃w8:H,w8=wc:=⟨_,rfl⟩;have K9:=K8.bU dR;have Ed:=kC.bU dR;clear K8 kC dR OV;have HG:=V (aE.block Ax);have mR:Hid (aE w8 (λw':H=>S1 w'/\w' ⟨gw,5,G⟩=A (Y Z VP)/\w' ⟨gw,6,G⟩=A (Y Z VQ))):=V (Ed.I.and ((aE.cell (bh Ax 5 rfl)).and (aE.cell (bh Ax 6 rfl))));obtain⟨mW,g7⟩:=J (decide (¬(0<VP/\0<VQ)\/(N1:Int)≠N\/(P:Int)≠VP\/(Q:Int)≠VQ));have Ee:=V g7;obtain⟨S2,bX⟩:∃S2:H->Prop,S2=(λw':H=>S1 w'/\w' ⟨gw,5,G⟩=A (Y Z VP)/\w' ⟨gw,6,G⟩=A (Y Z VQ)):=⟨_,rfl⟩;rw[<-bX]at mR;clear Ax;go_upto_region 6 with fail;go_cut [89] (λa wx=>a=aK mW/\w8.drew=wx)
  case first=>
   as_aux_lemma=>
   cases OK
   .obtain rfl:true=mW:=by rw[<-g7];exact(dI (aM (show ¬(0<VP/\0<VQ)from λh=>Q3K))).symm
    clear g7;exact Q0k
   obtain⟨ph,mT⟩:0<VP/\0<VQ:=Q4w;by_cases iJ:N1=N
   case neg=>
    obtain rfl:true=mW:=Q4a;have ye:((N1:Int) != (N:Int))=true:=Q2R;clear g7 iJ;exact Q0k
   have e1:((N1:Int) != (N:Int))=false:=Q2R;by_cases kf:(P:Int)=VP
   case neg=>
    obtain rfl:true=mW:=Q3W;have ye:((P:Int) != VP)=true:=Q2R;clear g7 iJ kf;exact Q0k
   have e2:((P:Int) != VP)=false:=Q2R;by_cases oK:(Q:Int)=VQ
   case neg=>
    obtain rfl:true=mW:=by rw[<-g7];exact(dI (bJ (bJ (bJ U)))).symm
    have ye:((Q:Int) != VQ)=true:=Q2R;clear g7 iJ kf oK;exact Q0k
   have e3:((Q:Int) != VQ)=false:=Q2R;obtain rfl:false=mW:=by rw[<-g7];exact(eP (by rintro(h|h|h|h)<;>first|exact h ⟨ph,mT⟩|exact h U)).symm
   clear g7 iJ kf oK;exact Q0k
  case rest=>
  obtain⟨rfl,jm⟩:=hcut;rw[<-jm];have ff:=V K9.I.draw;have wK:=V HG.I.draw;clear K9 Ed HG jm g7 mR;generalize w8.drew=iY at*;obtain⟨r0,r1,r2,r3,r4,r5⟩:=aY ff.F.2.2.1
  cases mW
  case true=>
   obtain rfl:(2,az.zero)=R:=Q4O;go_wp2_with fail;rw[<-dB.I];refine aZ (v:=aL #[aF #[O G 0 0,Y Z 0,O G 0 0],Y Z 2]) ?_ rfl ⟨_,rfl,dM.zero _ _ _,cL ff.F.2.2.2 U _ _ _⟩;simp[aW,results270,go_sem,cT ff.F.2.2.1]
  have lF:=kH Ee.I;obtain⟨ph,mT⟩:0<VP/\0<VQ:=oP λh=>lF (aM h);have iJ:N1=N:=oP λh=>lF (bJ (aM U));have kf:VP=P:=oP λh=>lF (bJ (bJ (aM U)));have oK:VQ=Q:=oP λh=>lF (bJ (bJ (bJ U)));have vU:=V (show(if(C.fresh ((N:Int)*VP*VQ) (y.e+x.e) [(ZY:Int),Ch,k0,k0]).1 ≠0 then C.fresh ((N:Int)*VP*VQ) (y.e+x.e) [(ZY:Int),Ch,k0,k0]
   else(0,⟨[(ZY:Int),Ch,k0,k0],y.e+x.e,C.Je y.z x.z N ZY Ch (R0*C0) (VP.toNat*VQ.toNat) k0.toNat (λi=>jc R0 C0 (i/VQ.toNat:Nat) (i%VQ.toNat:Nat) k0 s p) (dz (ZY*Ch*k0.toNat*k0.toNat) 0)⟩))=R by
   have h:=kx.I;rwa[aI lF]at h)
  obtain rfl:N=N1:=iJ.symm;subst kf oK;obtain⟨y1,y2,y3,y4,_,_,_,_,y5⟩:=oy (show 1<=bO R0 k0 s p by rw[xM.I];omega);obtain⟨u1,u2,_,_,_,_,_,_,u5⟩:=oy (show 1<=bO C0 k0 s p by rw[xN.I];omega);rw[xM.I]at y5;rw[xN.I]at u5;obtain⟨K,rfl⟩:∃n:Nat,k0=(n:Int):=⟨k0.toNat,U⟩;obtain⟨F1,uS⟩:=J (N*P);obtain⟨F0,qN⟩:=J (F1*Q);have b1:F1<=4096*20:=by rw[<-uS];exact mq n2 U
  have b2:F0<=4096*20*20:=Q4S;have sF:Z.wrap ((N:Int)*(P:Int))=(F1:Int):=by rw[<-gQ,uS];exact dv _ U
  have m6:Z.wrap ((F1:Int)*(Q:Int))=(F0:Int):=by rw[<-gQ,qN];exact dv _ U
  have hF:(N:Int)*P*Q=F0:=Q5p;obtain⟨Dc,vD⟩: -128<=y.e+x.e/\y.e+x.e<=128:=U;rw[hF]at vU;have rE:=V (show(if(C.fresh F0 (y.e+x.e) [(ZY:Int),Ch,K,K]).1 ≠0 then C.fresh F0 (y.e+x.e) [(ZY:Int),Ch,K,K]
   else(0,⟨[(ZY:Int),Ch,K,K],y.e+x.e,C.Je y.z x.z N ZY Ch (R0*C0) (P*Q) K (λi=>jc R0 C0 (i/Q:Nat) (i%Q:Nat) K s p) (dz (ZY*Ch*K*K) 0)⟩))=R from by
    have h:=vU.I;simpa using h)
  have gZ:ai Z (iY.alloc (mr ZY Ch K K)) iY 4 [(ZY:Int),Ch,K,K]:=ai.new iY Z 3 (0,0) [(ZY:Int),Ch,K,K] (λz hz=>by
   simp only[List.mem_cons,List.not_mem_nil,or_false]at hz;rcases hz with rfl|rfl|rfl|rfl<;>exact gF U U) bK
  have gG:=V gZ;have kT:=V (ff.I.alloc (mr ZY Ch K K));have Ef:=V (wK.I.alloc (mr ZY Ch K K));obtain⟨_,f1,_⟩:=bP ff.F.1;obtain⟨_,g1,_⟩:=bP ff.F.2.1;obtain⟨_,_,_,_,_,z5,z6⟩:=bE wK.I.aN;clear gZ uS qN hF vU kx lF;by_cases hb:(C.fresh F0 (y.e+x.e) [(ZY:Int),Ch,K,K]).1 =0
  .obtain⟨hf,kM,j8,dQ⟩:=C.Qk hb;obtain⟨N0,rG⟩:=J (ZY*Ch*K*K);have fy:Sh.size [(ZY:Int),Ch,K,K]=N0:=by
    exact Q1V
   have h8:=(Sh.iA dQ).le;rw[<-(Sh.iA dQ).eq,fy]at h8;rw[fy]at dQ;have Ma:=V (rE.I.symm.trans (aI (λh=>h hb)));have FY:=V (Qg F0 (y.e+x.e) _ 4 4 _ N0 _ gG.I hf kM j8 fy U U);have xJ:=V rG;clear hb hf fy rG rE;go_wp2_with fail;refine FY.I.mono ?_;rintro e' w9 ⟨g,rfl,ho,hb⟩;have ny:=kT.bU hb;have Eg:=V (Ef.I.step hb);have lr:=V (gG.I.below hb);have HO:=V ho;have hg:=ho.lt g rfl;clear hb ho r0 r1 r2 r3 r4 r5 f1 g1 z5 z6;go_upto_region 9 with fail;have hA:=bZ w9 (cV iY 4 4 (y.e+x.e) g N0 N0);have tP:=V (ny.I.alloc (cV iY 4 4 (y.e+x.e) g N0 N0));have Ml:=V (Eg.I.alloc (cV iY 4 4 (y.e+x.e) g N0 N0));have Gt:=V (HO.I.alloc (cV iY 4 4 (y.e+x.e) g N0 N0));have Mn:=V (lr.I.below (aD w9 (cV iY 4 4 (y.e+x.e) g N0 N0)));obtain⟨bo,cy⟩:=J w9.heap.size;rw[cy]at hA hg⊢;clear cy ny Eg HO lr;have WJ:g<bo:=hg.2;have Mb:W.heap.size+1+1<g/\gw<g:=by
    exact Q29
   obtain⟨acY,acZ⟩:=Mb;have Ea:=V (show W.heap.size+1+1<iY.heap.size from bH ff.F.2.2.1);have ad5:iY.heap.size<g:=Q4o;generalize li w9 (cV iY 4 4 (y.e+x.e) g N0 N0)=fU at*;have jN:y.z.length=ym:=KR.F.1.2.bA;have rW:x.z.length=xm:=KR.F.2.2.bA;obtain⟨PL,mV⟩:=J (R0*C0);obtain⟨RC,zr⟩:=J (P*Q);rw[iQ,jN]at lD;rw[eI,rW]at nQ;rw[zr]at iQ;rw[jN]at iQ;rw[mV]at eI;rw[rW]at eI;have Eh:=V mV;have amh:0<RC:=by rw[<-zr];exact kZ p1 q1
   have Mc:0<PL:=by rw[<-mV];exact kZ k1 k3
   have ad3:0<ym:=by rw[<-iQ];exact kZ n1 (kZ o1 amh)
   have ad4:0<xm:=by rw[<-eI];exact kZ n1 (kZ c3 Mc)
   have kN:PL<=16*16:=by rw[<-mV];exact mq (show R0<=16 by omega) (show C0<=16 by omega)
   have Md:Z.wrap ((R0:Int)*(C0:Int))=(PL:Int):=C.pr mV U;have amf:RC<=20*20:=by rw[<-zr];exact mq (show P<=20 by omega) (show Q<=20 by omega)
   have WZ:Z.wrap ((P:Int)*(Q:Int))=(RC:Int):=C.pr zr U;have Mp:=V zr;clear jN rW mV zr;have FV:0<N0:=U;have HF:Hid (di (λb=>b=g) fU (λw':H=>w'.heap[W.heap.size]? =A (bj (A ⟨yb,yo,G⟩) 4 yc y.e yp ym yk)/\w'.heap[W.heap.size+1]? =A (bj (A ⟨xb,xo,G⟩) 4 xc x.e xp xm xk)/\w'.heap[W.heap.size+1+1]? =A (cV G 0 0 0 G 0 0)/\w'.heap[gw]? =A (mF R0 C0 K s p P Q)/\w'.heap[bo]? =A (cV iY 4 4 (y.e+x.e) g N0 N0)/\ai aO w' yp ym y.z/\ai aO w' xp xm x.z)):=V (by
    have hk:=tP.F;have RW:=KR.aQ hk.2.2.2;refine(di.block hk.1 U).and ((di.block hk.2.1 U).and ((di.block hk.2.2.1 U).and ((di.block Ml.I.aN U).and ((di.block hA U).and ((di.row RW.1.2 ?_).and (di.row RW.2.2 ?_))))))
    .exact Q27
    .intro a ha e;have:=KR.F.2.2.bC U ha;omega)
   have oZ:=V (Mn.I.bt);obtain⟨BL,uT⟩:=J fU.heap.size;have ad6:bo<BL:=Q5f;have Ip:=V uT;have Gp:=V (tP.F.2.2.2);have tM:=V (λw' (h:ar BL (λb=>b=g) fU w')=>HF.I w' (by rw[uT];exact h));have hWB:W.heap.size+1+1<BL:=U;obtain⟨BO,Ei⟩:=J ((iY.alloc (mr ZY Ch K K)).heap.size);rw[Ei]at Gt hg;have zI:=hg.1;obtain⟨FI,Mq⟩:∃FI:List Int->Nat->List Int,FI=λz i=>iter (C.Qd y.z x.z N ZY Ch PL RC K i (jc R0 C0 (i/Q:Nat) (i%Q:Nat) K s p)) z (jc R0 C0 (i/Q:Nat) (i%Q:Nat) K s p).length:=⟨_,rfl⟩;have Mr:=V Mq;obtain⟨Z0,zp⟩:=J (dz N0 (0:Int));rw[zp]at Gt;have Me:=V zp;clear uT Ei Mq zp hA hg ff kT wK Ef gG FY tP Ml Mn;obtain⟨_,_,_,a2,a3,_⟩:=HF.I.aN;obtain⟨z0,z1,z2,z3,z4,z5,z6⟩:=bE a2;obtain⟨t0,t1,t2⟩:=bP a3;clear a2 a3;go_wp2_with fail;clear z0 z1 z2 z3 z4 z5 z6 t0 t1 t2 Md WZ;go_loopw [126] (λi wr=>∃k:Nat,k<=RC/\i=Y Z (k:Int)/\wr.ownsRow BO 21 1 (O g N0 N0) N0 ((iter FI Z0 k).map (Y cr))/\ar BL (λb=>b=g) fU wr) (λi _=>RC-(aX i).toNat)
   case atStart=>exact⟨0,cK _,rfl,Gt.I,ar.cP _ _ _⟩
   case round=>
    as_aux_lemma=>
    obtain⟨k,hk,rfl,aV,cA⟩:=hrel;have jO:=V aV;have HK:=V cA;clear aV cA;by_cases aT:k<RC
    .obtain⟨_,_,_,a2,_⟩:=tM.I wr HK.I;obtain⟨tQ,pk⟩:∃q,k/Q=q:=⟨_,rfl⟩;obtain⟨tR,pI⟩:∃q,k%Q=q:=⟨_,rfl⟩;have d1:(k:Int).tdiv (Q:Int)=(tQ:Int):=Q3C;have Ia:tQ<=k:=Q4d;have d2:Z.wrap (tQ:Int)=(tQ:Int):=dv _ U;have d3:(k:Int).tmod (Q:Int)=(tR:Int):=Q4y;have Qp:tR<Q:=by rw[<-pI];exact Nat.mod_lt _ U
     have d4:Z.wrap (tR:Int)=(tR:Int):=dv _ U;have n0:¬Q=0:=U;have WN:=V (acU R0 C0 K s p P Q tQ tR wr.drew);have Ej:BL<=wr.drew.heap.size:=Q5b;obtain⟨L,hL⟩:=J (jc R0 C0 tQ tR K s p);have Mf:=V (λt (h:t∈L)=>acV (rows:=R0) (aU:=C0) (r:=tQ) (c:=tR) (k:=K) (s:=s) (p:=p) (hL▸h));have Ek:L.length<=25:=by rw[<-hL];exact acL _ _ _ _ _ _ _
     rw[hL]at WN;have HL:=V (show jc R0 C0 (k/Q:Nat) (k%Q:Nat) K s p=L by rw[pk,pI];exact hL);have Ms:=V HK.I.drew;have Mt:=V jO.I.drew;have fy:(λw':H=>w'.heap[gw]? =A (mF R0 C0 K s p P Q)) wr.drew:=a2;clear a2 hL pk pI;go_wp2_with fail;refine cS (λw':H=>w'.heap[gw]? =A (mF R0 C0 K s p P Q)) ?_;refine bR fy [0,1,2,5,6,11,3,7,4,8] (λ_ h=>bE h) (bL 9 λK hK=> ?_);go_simp;refine WN.I.mono ?_;rintro e' w2 ⟨la,ln,lc,rfl,hl,hb⟩;refine bB hK (bV fy hb) ?_;clear hK K;refine bR (bV fy hb) [10] (λ_ h=>bE h) (bW ?_);generalize rR:wr.drew=wd at*;have nz:=V (Ms.I.trans' (ar.cZ (S:=λb=>b=g) hb) Ej);have rZ:=V (Own.kept Mt.I (ar.cZ (S:=λ_=>False) hb) (λb e=>Q47));have El:(iter FI Z0 k).length=N0:=by simpa using rZ.I.1
     have cg:=vI rZ.I 0 U El;have iB:ln<=25:=Q5o;have uK:=hl.1;obtain⟨B2,xD⟩:=J w2.heap.size;have Em:BL<=B2:=E hb.size;have vN:=V (λw' (h:ar B2 (λb=>b=g) w2 w')=>aw (tM.I w' (nz.I.trans' h Em)) (oq.WE hl h U cg));obtain⟨ZI,Gu⟩:=J (iter FI Z0 k);obtain⟨FJ,W8⟩:∃FJ:List Int->Nat->List Int,FJ=C.Qd y.z x.z N ZY Ch PL RC K k L:=⟨_,rfl⟩;have Mg:=V (show iter FI Z0 (k+1)=iter FJ ZI ln by
      rw[W8,<-Gu,<-uK];show FI (iter FI Z0 k) k=_
      rw[Mr.I];show iter (C.Qd y.z x.z N ZY Ch PL RC K k (jc R0 C0 (k/Q:Nat) (k%Q:Nat) K s p)) _ (jc R0 C0 (k/Q:Nat) (k%Q:Nat) K s p).length=_
      rw[HL.I])
     rw[Gu]at rZ;have HFJ:=V W8;have dA:=V xD;clear WN hl hb Ek El cg Gu W8 xD HK jO Ms Mt Ej fy rR d1 d2 d3 d4 n0 uK;go_wp2_with fail;go_loopw [140] (λi wr=>∃j:Nat,j<=ln/\i=Y Z (j:Int)/\wr.ownsRow BO 21 1 (O g N0 N0) N0 ((iter FJ ZI j).map (Y cr))/\ar B2 (λb=>b=g) w2 wr) (λi _=>ln-(aX i).toNat)
     case atStart=>exact⟨0,cK _,rfl,rZ.I,ar.cP _ _ _⟩
     case round=>
      as_aux_lemma=>
      clear rZ;obtain⟨j,hj,rfl,aV,cA⟩:=hrel;have lJ:=V aV;have lu:=V cA;clear aV cA;by_cases En:j<ln
      .obtain⟨_,mY⟩:=vN.I wr lu.I;have uK:=mY.1;obtain⟨gl,rfl,nk,vL⟩:=mY.2.resolve_left U;obtain⟨l0,l1,l2⟩:=vL j En;rw[Nat.mul_comm 3 j]at l0 l1 l2;have ht:=Mf.I (L.getD j (0,0,0)) Q3U;obtain⟨WC,W9⟩:∃WC:Nat->Nat->List Int->Nat->List Int,WC=C.acT y.z x.z ZY Ch PL RC K k (L.getD j (0,0,0)):=⟨_,rfl⟩;have ade:=V (show iter FJ ZI (j+1)=iter (λz m=>iter (λz o=>iter (WC m o) z Ch) z ZY) (iter FJ ZI j) N by
        show FJ (iter FJ ZI j) j=_
        rw[HFJ.I,W9];rfl)
       generalize L.getD j (0,0,0)=t at*;obtain⟨ta,tb,tc⟩:=t;obtain⟨i1,i2,i3,i4,i5,i6⟩:=ht;simp only[]at i1 i2 i3 i4 i5 i6 l0 l1 l2;rw[<-gQ,Eh.I]at i2;obtain⟨T0,rfl⟩:∃n:Nat,ta=(n:Int):=⟨ta.toNat,U⟩;obtain⟨T1,rfl⟩:∃n:Nat,tb=(n:Int):=⟨tb.toNat,U⟩;obtain⟨T2,rfl⟩:∃n:Nat,tc=(n:Int):=⟨tc.toNat,U⟩;have HWC:=V W9;have Cg:=bZ wr (ag #[Y Z (T0:Int),Y Z (T1:Int),Y Z (T2:Int)] 377);have Ao:B2<=wr:=by have:=lu.I.size;rw[dA.I]at this;exact this
       have ad7:g<B2:=U;have rP:=V (lu.I.trans' (ar.cZ (S:=λb=>b=g) (aD wr (ag #[Y Z (T0:Int),Y Z (T1:Int),Y Z (T2:Int)] 377))) Ao);have lT:=V (Own.kept lJ.I (ar.cZ (S:=λ_=>False) (aD wr (ag #[Y Z (T0:Int),Y Z (T1:Int),Y Z (T2:Int)] 377))) (λb e=>Q47));obtain⟨zb,Jh⟩:=J wr.heap.size;have nK:(li wr (ag #[Y Z (T0:Int),Y Z (T1:Int),Y Z (T2:Int)] 377)).heap.size=zb+1:=by rw[bF,Jh]
       clear mY vL W9 lJ lu;go_wp2_with fail;rw[Jh]at Cg Ao;clear Jh l0 l1 l2;generalize li wr (ag #[Y Z (T0:Int),Y Z (T1:Int),Y Z (T2:Int)] 377)=w3 at*;have HF3:=V (λw' (h:ar (zb+1) (λb=>b=g) w3 w')=>aw (vN.I w' (rP.I.trans' h U)).1 (h.bC U U Cg));obtain⟨ZJ,hZJ⟩:=J (iter FJ ZI j);rw[hZJ]at ade lT;clear hZJ nK Cg;go_loopw [145] (λi wr=>∃m:Nat,m<=N/\i=Y Z (m:Int)/\wr.ownsRow BO 21 1 (O g N0 N0) N0 ((iter (λz m=>iter (λz o=>iter (WC m o) z Ch) z ZY) ZJ m).map (Y cr))/\ar (zb+1) (λb=>b=g) w3 wr) (λi _=>N-(aX i).toNat)
       case atStart=>exact⟨0,cK _,rfl,lT.I,ar.cP _ _ _⟩
       case round=>
        as_aux_lemma=>
        clear lT;obtain⟨m,hm,rfl,aV,cA⟩:=hrel;have iT:=V aV;have lH:=V cA;clear aV cA;by_cases An:m<N
        .go_wp2_with fail;go_loopw [149] (λi wr=>∃o:Nat,o<=ZY/\i=Y Z (o:Int)/\wr.ownsRow BO 21 1 (O g N0 N0) N0 ((iter (λz o=>iter (WC m o) z Ch) (iter (λz m=>iter (λz o=>iter (WC m o) z Ch) z ZY) ZJ m) o).map (Y cr))/\ar (zb+1) (λb=>b=g) w3 wr) (λi _=>ZY-(aX i).toNat)
         case atStart=>exact⟨0,cK _,rfl,iT.I,lH.I⟩
         case round=>
          as_aux_lemma=>
          clear iT lH;obtain⟨o,ho,rfl,aV,cA⟩:=hrel;have mO:=V aV;have nh:=V cA;clear aV cA;by_cases zO:o<ZY
          .obtain⟨ZO,Xa⟩:=J (iter (λz o=>iter (WC m o) z Ch) (iter (λz m=>iter (λz o=>iter (WC m o) z Ch) z ZY) ZJ m) o);have HZO:=V (show iter (λz o=>iter (WC m o) z Ch) (iter (λz m=>iter (λz o=>iter (WC m o) z Ch) z ZY) ZJ m) (o+1)=iter (WC m o) ZO Ch by rw[<-Xa];rfl);rw[Xa]at mO;clear Xa;go_wp2_with fail;go_loopw [153] (λi wr=>∃c:Nat,c<=Ch/\i=Y Z (c:Int)/\wr.ownsRow BO 21 1 (O g N0 N0) N0 ((iter (WC m o) ZO c).map (Y cr))/\ar (zb+1) (λb=>b=g) w3 wr) (λi _=>Ch-(aX i).toNat)
           case atStart=>exact⟨0,cK _,rfl,mO.I,nh.I⟩
           case round=>
            as_aux_lemma=>
            clear mO nh;obtain⟨c,hc,rfl,aV,cA⟩:=hrel;have vM:=V aV;have rQ:=V cA;clear aV cA;by_cases Cf:c<Ch
            .obtain⟨⟨b0,b1,_,b2',b3,b6,b7⟩,Mu⟩:=HF3.I wr rQ.I;obtain⟨_,_,f2⟩:=bP b0;obtain⟨_,_,g2⟩:=bP b1;obtain⟨_,_,_,_,_,z5,z6⟩:=bE b2';obtain⟨_,_,t2⟩:=bP b3;obtain⟨m0,m1,m2⟩:=bP Mu;obtain⟨q1,q2,q3,q4,X⟩:=C.ix (a:=m) (b:=Ch) (c:=c) (d:=PL) (e:=T0) (m:=N) (n:=xm) An Cf U eI;obtain⟨v1,v2,v3,v4,Z6⟩:=C.ix (a:=o) (b:=Ch) (c:=c) (d:=K) (e:=T1) (m:=ZY) (n:=ZY*(Ch*K)) zO Cf U rfl;obtain⟨v5,r7⟩:=J (v4*K);obtain⟨v6,uU⟩:=J (v5+T2);have Mi:v6<N0:=by
              have h:=xL Z6.lt (show T2<K by omega);rw[r7,uU,<-Nat.mul_assoc,xJ.I]at h;exact h
             have ad8:v4<=v5:=Q3S;obtain⟨M1,rU⟩:∃M,m*ZY=M:=⟨_,rfl⟩;obtain⟨M2,rV⟩:∃M,M1+o=M:=⟨_,rfl⟩;obtain⟨M3,sM⟩:∃M,M2*P=M:=⟨_,rfl⟩;obtain⟨M4,tN⟩:∃M,M3*Q=M:=⟨_,rfl⟩;obtain⟨M5,tO⟩:∃M,M4+k=M:=⟨_,rfl⟩;have Xb:M2*RC=M4:=by rw[<-tN,<-sM,<-Mp.I,Nat.mul_assoc]
             have Ic:M5<ym:=by
              have h:=xL (xL An zO) aT;rw[rU,rV,Xb,tO,Nat.mul_assoc,iQ]at h;exact h
             have w1:M3<=M4:=Q5a;have Qr:M2<=M3:=Q3R;have WK:=b6.eC;obtain⟨Aq,Ar,rfl,ex⟩:=b6.cells U;obtain⟨Au,Av,rfl,ew⟩:=b7.cells U;have cx:=ex M5 Ic;have cw:=ew q4 X.lt;obtain⟨x1,x2⟩:=jv b6.wf M5;obtain⟨y1,y2⟩:=jv b7.wf q4;have Eo:(iter (WC m o) ZO c).length=N0:=by simpa using vM.I.1
             have cz:=vI vM.I v6 Mi Eo;have fz:=vM.I.frozenAt v6;have Aw:=V (show iter (WC m o) ZO (c+1)=(iter (WC m o) ZO c).set v6 (cr.wrap ((iter (WC m o) ZO c).getD v6 0+y.z.getD M5 0*x.z.getD q4 0)) by
              show WC m o _ c=_
              rw[HWC.I];show List.set _ (((o*Ch+c)*K+T1)*K+T2) (cr.wrap (List.getD _ (((o*Ch+c)*K+T1)*K+T2) 0+y.z.getD ((m*ZY+o)*RC+k) 0*x.z.getD ((m*Ch+c)*PL+T0) 0))=_
              rw[rU,rV,Xb,tO,X.e1,X.e2,X.e3,X.e4,Z6.e1,Z6.e2,Z6.e3,Z6.e4,r7,uU])
             generalize iter (WC m o) ZO c=ZC at*;generalize y.z.getD M5 0=xv at*;generalize x.z.getD q4 0=wv at*;generalize ZC.getD v6 0=zv at*;have qP:=C.Dv x1 x2 y1 y2;obtain⟨pv,zq⟩:=J (xv*wv);rw[zq]at Aw qP;have Qp:xm<=8192:=U;have ad9:ym<=8192:=U;have Ky:N0<=8192:=U;have e1:=C.pr X.e1 (by have:=X.l1;have:=X.lt;omega);have e2:=C.sm X.e2 (by have:=X.l2;have:=X.lt;omega);have e3:=C.pr X.e3 (by have:=X.l3;have:=X.lt;omega);have e4:=C.sm X.e4 (E X.lt);have e5:=C.pr Z6.e1 (E Z6.l1);have e6:=C.sm Z6.e2 (E Z6.l2);have e7:=C.pr Z6.e3 (E Z6.l3);have e8:=C.sm Z6.e4 U;have e9:=C.pr r7 U;have e10:=C.sm uU U;have e11:cr.wrap xv=xv:=IntWalk.i32_in _ U;have e12:cr.wrap wv=wv:=IntWalk.i32_in _ U;have e13:cr.wrap (xv*wv)=pv:=by rw[zq];exact IntWalk.i32_in _ U
             have e14:=C.pr rU U;have e15:=C.sm rV U;have e16:=C.pr sM U;have e17:=C.pr tN U;have e18:=C.sm tO U;have i7:=X.lt;have i8:(q4:Int)<(xm:Int):=U;have i9:(v6:Int)<(N0:Int):=U;have i10:(M5:Int)<(ym:Int):=U;clear b0 b1 b2' b3 b6 b7 Mu X Z6 r7 uU zq ex ew rU rV sM tN tO Xb Eo;go_wp2_with fail;refine Lt.begins (λw':H=>w' ⟨W,2,G⟩=A (O (A ⟨Aq,Ar,G⟩) ym yk)/\w' ⟨W+1,2,G⟩=A (O (A ⟨Au,Av,G⟩) xm xk)/\w' ⟨Aq,Ar+M5,G⟩=A (Y aO xv)/\w' ⟨Au,Av+q4,G⟩=A (Y aO wv)/\w' zb=A (Y Z T0)/\w' ⟨zb,1,G⟩=A (Y Z T1)/\w' ⟨zb,2,G⟩=A (Y Z T2)/\w' ⟨gw,5,G⟩=A (Y Z P)/\w' ⟨gw,6,G⟩=A (Y Z Q)/\w' ⟨bo,2,G⟩=A (O g N0 N0)/\w' ⟨g,v6,G⟩=A (Y cr zv)) (λj=>j==55) kr ?_;have hS:(λw':H=>w' ⟨W,2,G⟩=A (O (A ⟨Aq,Ar,G⟩) ym yk)/\w' ⟨W+1,2,G⟩=A (O (A ⟨Au,Av,G⟩) xm xk)/\w' ⟨Aq,Ar+M5,G⟩=A (Y aO xv)/\w' ⟨Au,Av+q4,G⟩=A (Y aO wv)/\w' zb=A (Y Z T0)/\w' ⟨zb,1,G⟩=A (Y Z T1)/\w' ⟨zb,2,G⟩=A (Y Z T2)/\w' ⟨gw,5,G⟩=A (Y Z P)/\w' ⟨gw,6,G⟩=A (Y Z Q)/\w' ⟨bo,2,G⟩=A (O g N0 N0)/\w' ⟨g,v6,G⟩=A (Y cr zv)) wr.drew:=⟨f2,g2,cx,cw,m0,m1,m2,z5,z6,t2,cz⟩;refine bR hS [0,2,3,5,7,9,12,14,19,21,22,24,26,29,32,37,39,40,42,44,46,1,4,10,15,20,23,27,30,38,41,47,6,25,43,8,28,45,11,31,48,13,33,49,16,34,50,17,35,51,18,36,52,53,54] (λ_ h=>aw h.1 (aw h.2.1 (aw h.2.2.1 (aw h.2.2.2.1 (aw h.2.2.2.2.1 (aw h.2.2.2.2.2.1 (aw h.2.2.2.2.2.2.1 (aw h.2.2.2.2.2.2.2.1 (aw h.2.2.2.2.2.2.2.2.1 (aw h.2.2.2.2.2.2.2.2.2.1 h.2.2.2.2.2.2.2.2.2.2)))))))))) (bL 55 λK hK=> ?_);go_simp;refine jg hK ?_;clear hK K;refine bW ?_;clear hS f2 g2 cx cw m0 m1 m2 z5 z6 t2 cz;go_wp2_with fail;go_roundw
             case rel=>exact⟨c+1,U,Q2T,by rw[Aw.I,show cr.wrap (zv+pv)=wrap32 (zv+pv)from Q3z];exact(zP vM.I _).drew,(rQ.I.set (aM rfl) _ _).drew⟩
             case measure=>exact Q5q
            .obtain rfl:c=Ch:=U;go_wp2_with fail;go_roundw
             case rel=>exact⟨o+1,U,Q2T,by rw[HZO.I];exact vM.I,rQ.I⟩
             case measure=>exact Q5q
          .obtain rfl:o=ZY:=U;go_wp2_with fail;go_roundw
           case rel=>exact⟨m+1,U,Q2T,mO.I,nh.I⟩
           case measure=>exact Q5q
        .obtain rfl:m=N:=U;go_wp2_with fail;go_roundw
         case rel=>exact⟨j+1,U,Q2T,by rw[ade.I];exact iT.I,rP.I.trans' lH.I U⟩
         case measure=>exact Q5q
      .obtain rfl:j=ln:=U;exact Q1w
    .obtain rfl:k=RC:=U;obtain⟨_,_,a3,_,a5,_⟩:=tM.I wr HK.I;obtain⟨r0,r1,r2,r3,r4,r5⟩:=aY a3;obtain⟨y0,y1,y2,y3,y4,y5⟩:=aY a5;have xG:=V a3;have Ep:=V (show iter FI Z0 k=C.Je y.z x.z N ZY Ch PL k K (λi=>jc R0 C0 (i/Q:Nat) (i%Q:Nat) K s p) (dz N0 0) by rw[Mr.I,Me.I];rfl);have oG:=V (Below.gh Gp.I HK.I (λb hb=>⟨U,U⟩));have mU:=V (HK.I.gH oZ.I.aN (λa ha _=>Q3X));have cU:=V (show R=(0,⟨[(ZY:Int),Ch,K,K],y.e+x.e,iter FI Z0 k⟩) by rw[Ma.I,xJ.I,Eh.I,Mp.I,Ep.I]);have il:=V (ai.owned jO.I (by rw[Ep.I];exact C.am8 y.z x.z N ZY Ch PL k K (λi=>jc R0 C0 (i/Q:Nat) (i%Q:Nat) K s p) (C.iN.Qi N0)) U);have PT:W.heap.size+1+1<iY.heap.size:=Ea.I;clear a3 a5;go_wp2_with fail;rw[<-dB.I];rw[cU.I];refine aZ (v:=aL #[aF #[O iY 4 4,Y Z (y.e+x.e),O g N0 N0],Y Z 0]) ?_ rfl ⟨_,rfl,⟨_,_,_,_,_,_,rfl,?_,?_,(λa ha=>Q4V),(λa ha=>Q3E)⟩,cL oG.I U _ _ _⟩
     .simp[aW,results270,go_sem,cT xG.I]
     .exact Q2c
     .exact Q2o
  .have Mk:=V (rE.I.symm.trans (aR hb));obtain⟨q,hq⟩:=J ((C.fresh F0 (y.e+x.e) [(ZY:Int),Ch,K,K]).1);have FN:=V (Qh F0 (y.e+x.e) _ 4 4 _ _ gG.I hb);have Gn:=V (C.Qj hq hb);rw[hq]at FN hb;have pk:(q != 0)=true:=Q50;clear hb hq;go_wp2_with fail;refine bY FN.I λw9 hb=> ?_;have ny:=kT.bU hb;clear hb r0 r1 r2 r3 r4 r5 f1 g1 z5 z6;go_upto_region 9 with fail;have hA:=bZ w9 (cV G 0 0 0 G 0 0);have tP:=V (ny.I.alloc (cV G 0 0 0 G 0 0));obtain⟨bo,cy⟩:=J w9.heap.size;rw[cy]at hA⊢;clear cy ny;generalize li w9 (cV G 0 0 0 G 0 0)=fU at*;obtain⟨r0,r1,r2,r3,r4,r5⟩:=aY tP.F.2.2.1;obtain⟨y0,y1,y2,y3,y4,y5⟩:=aY hA;go_wp2_with fail;rw[<-dB.I];rw[Mk.I,Gn.I];refine aZ (v:=aL #[aF #[O G 0 0,Y Z 0,O G 0 0],Y Z q]) ?_ rfl ⟨_,rfl,dM.zero _ _ _,cL tP.F.2.2.2 U _ _ _⟩;simp[aW,results270,go_sem,cT tP.F.2.2.1]
 .obtain rfl:(Z7,az.zero)=R:=by rw[<-HR.I];unfold C.weight;rw[HZ.I,aR hz]
  have cB:(Z7 != 0)=true:=Q37;clear hz;go_wp2_with fail;rw[<-dB.I];refine aZ (v:=aL #[aF #[O G 0 0,Y Z 0,O G 0 0],Y Z Z7]) ?_ rfl ⟨_,rfl,dM.zero _ _ _,cL K7.F.2.2.2 U _ _ _⟩;simp[aW,results270,go_sem,cT K7.F.2.2.1]
end
end Go.Proofs.YtcpmhoodeieanaaGreatDoor
