/-
  Part 9 of the proof that TopAsk answers true: laws of the functions that it calls, on any memory that holds their arguments.
-/
import Derived.Test.YtcpmhoodeieanaaGreatDoorZH
set_option maxRecDepth 100000
set_option maxHeartbeats 20000000
set_option linter.unusedVariables false
set_option linter.unusedSimpArgs false
open Go.Lib renaming hid→V
open Go.IntKind renaming i64→Z,i8→aO,i32→cr,u64→cD
open Go.Value renaming int→Y,slice→O,agg→aF,bool→aK,tuple→aL,pointer→aP
open Option renaming none→G,some→A
open Go renaming World→H,Value→aj,Calls→aA,results→aW,bodyPost_ret→aZ,lt_of_block→bH,heap_alloc_new→bZ,TypeId→dy,Ending→dN,maxLen→eS,info_parts→fB,bodyPost→gW,step_append_lies→lM
open Bool renaming false→ae,and_eq_true→fS
open Go.Obj renaming cells→ag
open Go.Proofs.Tryz renaming prog→aq
open And renaming intro→aw
open Go.RowKit renaming Below→ay,intOf→aX,wrap64→cM
open Or renaming inl→aM,inr→bJ
open Nat renaming le_refl→bu,zero_le→cK,le_trans→eH,add_zero→eL,lt_of_lt_of_le→iP,mul_pos→kZ,mul_le_mul→mq,le_succ→nH
open Go.World renaming size_alloc→bF
open Go.Ending renaming returned→bG
open List renaming getElem?_eq_getElem→cR,replicate→dz,setIfInBounds_toArray→dC,set_cons_zero→dD,set_cons_succ→dE,length_append→dG,getD→dV,getElem?_eq_some_iff→fX,getD_eq_getElem?_getD→gB,mem_cons→jy,getElem_mem→jZ,not_mem_nil→mj,getD_cons_zero→nC,getD_cons_succ→n7,length_cons→n8,take_of_length_le→oQ
open Go.IntWalk renaming i64_in→dv,wrap64_in→iZ
open Go.RowKit.Below renaming refl→eG
open Go.Act renaming put→eR
open Go.Value renaming oneCell'→fV
open Go.World renaming ownsRow_nil→gP,size_setCell→jR,block_lt_of_cell?→jY,cell?→kY,setCell→ss,alloc→li
open Int renaming natCast_mul→gQ,mul_assoc→pU
open Array renaming toList→jf
open Go.Exit renaming inBlock→j6
open Go.IntKind renaming wrap_u64→pT
open Decidable renaming byContradiction→oP
namespace Go.Proofs.YtcpmhoodeieanaaGreatDoor
open Go.RowKit Go.Proofs.Tryz
variable {cs:Array aj} {w w':H} {CS:List (Array aj)} {xs:List aj} {ps:List bD} {c l n sz:Nat} {S:Nat->Prop} {α:Type} {a a0 a2 b:aC} {ds zs:ah} {v x y z:aj} {e:dN} {t:dy} {k:IntKind}
section
attribute [local go_sem ↓] wp_at_zero wp_at_succ
theorem aid (t:az) (v:aj) (w:H) (h:fu aO w v t):aA aq 197 #[v] w (Dr aO (Z4.flat t) w):=by
 obtain⟨a,l,c,b,m,k,rfl,h0,h1⟩:=h;have M:=V (jr a l c t.d t.e b m k t.z);have KZ:=V (aE.fG w (ag #[O a l c,Y Z t.e,O b m k] 57) (ag #[O G 0 0,Y Z 0,O G 0 0] 57));have KB:=V (h0.bt.and h1.bt);have OQ:=V h0.bA;obtain⟨R,hR⟩:=J (Z4.flat t);rw[hR];obtain⟨Z3,hA⟩:=J (decide (T.aH t.d t.e t.z));rw[hA]at M;unfold aS;unfold aS at M;clear h0 h1
 cases Z3
 .have hb:=kH hA;obtain rfl:(1,az.zero)=R:=by rw[<-hR];unfold Z4.flat;rw[aI hb]
  clear hR hA hb;go_enter func197,ntmps197;go_wp2_with fail;refine bY (M.I _ (KB.aQ KZ.F.2.2).1 (KB.aQ KZ.F.2.2).2) λw2 hb=> ?_;have K2:=V (KZ.I.step hb).aN;have g0:=aY K2.I.2.1;clear hb;go_wp2_with fail;refine aZ (v:=aL #[aF #[O G 0 0,Y Z 0,O G 0 0],Y Z 1]) ?_ rfl ⟨_,rfl,⟨dM.zero _ _ _,nM.zero⟩,cL K2.I.2.2 U _ _ _⟩;simp[aW,results197,go_sem,cT K2.I.2.1]
 .have ht:=eZ hA;obtain⟨sd1,sd4,z8,z1⟩:=T.sI ht;rw[OQ.I]at sd1 sd4;have my:=Sh.iA ht.1;have m1:=my.one;have m2:=my.le;rw[<-my.eq]at m1 m2;have Dt:=my.get (k:=0) (by rw[OQ.I];omega);obtain⟨S,hS⟩:=J (Sh.size t.d);obtain⟨D,hD⟩:=J (t.d.getD 0 0);have hr:Z4.shape t [D,S/D]=R:=by rw[<-hR,<-hS,<-hD];unfold Z4.flat;rw[aR ht]
  have HS:=V (λw h=>hS▸Hj a l c t.d w h);rw[hS]at m1 m2;rw[hD]at Dt;have HD:=V hD;clear hR hA ht my hS hD;have q0:0<=S/D:=Int.ediv_nonneg U U;have q1:S/D<=8192:=Int.ediv_le_of_le_mul U (by
   have:=Int.mul_le_mul_of_nonneg_left (show(1:Int)<=D from Dt.1) (show(0:Int)<=8192 by omega);omega)
  have qd:S.tdiv D=S/D:=Int.tdiv_eq_ediv_of_nonneg U;have qw:Z.wrap (S/D)=S/D:=dv _ U;have qn:¬D=0:=U;obtain⟨yJ,Kv⟩:=Dt;go_enter func197,ntmps197;go_wp2_with fail;refine bY (M.I _ (KB.aQ KZ.F.2.2).1 (KB.aQ KZ.F.2.2).2) λw2 hb=> ?_;have K2:=KZ.bU hb;obtain⟨f0,f1,f2,_⟩:=aY K2.F.1;have dY:=(KB.aQ K2.F.2.2).1;clear hb KZ M;go_wp2_with fail;obtain⟨p0,o0,rfl,e0⟩:=dY.cells U;have f3:=e0 0 U;have Ua:(0:Int)<(l:Int):=U;have kM:0<l:=U;rw[HD.I,eL]at f3;have SW:=V (HS.I w2.drew (dY.bI 1));clear e0 dY HS;refine Lt.begins (λw':H=>w' w=A (O (A ⟨p0,o0,G⟩) l c)/\w' ⟨w,1,G⟩=A (Y Z t.e)/\w' ⟨w,2,G⟩=A (O b m k)/\w' ⟨p0,o0,G⟩=A (Y Z D)) (λj=>j==17||j==18) kr ?_;have hS:(λw':H=>w' w=A (O (A ⟨p0,o0,G⟩) l c)/\w' ⟨w,1,G⟩=A (Y Z t.e)/\w' ⟨w,2,G⟩=A (O b m k)/\w' ⟨p0,o0,G⟩=A (Y Z D)) w2.drew:=⟨f0,f1,f2,f3⟩;refine kq hS 0 (λ_ h=>aw h.1 (aw h.2.1 (aw h.2.2.1 h.2.2.2))) ?_;refine kq hS 1 (λ_ h=>aw h.1 (aw h.2.1 (aw h.2.2.1 h.2.2.2))) ?_;refine kq hS 2 (λ_ h=>aw h.1 (aw h.2.1 (aw h.2.2.1 h.2.2.2))) ?_;refine kq hS 3 (λ_ h=>aw h.1 (aw h.2.1 (aw h.2.2.1 h.2.2.2))) ?_;refine kq hS 4 (λ_ h=>aw h.1 (aw h.2.1 (aw h.2.2.1 h.2.2.2))) ?_;refine kq hS 5 (λ_ h=>aw h.1 (aw h.2.1 (aw h.2.2.1 h.2.2.2))) ?_;refine kq hS 6 (λ_ h=>aw h.1 (aw h.2.1 (aw h.2.2.1 h.2.2.2))) ?_;refine kq hS 8 (λ_ h=>aw h.1 (aw h.2.1 (aw h.2.2.1 h.2.2.2))) ?_;refine kq hS 9 (λ_ h=>aw h.1 (aw h.2.1 (aw h.2.2.1 h.2.2.2))) ?_;refine kq hS 10 (λ_ h=>aw h.1 (aw h.2.1 (aw h.2.2.1 h.2.2.2))) ?_;refine kq hS 11 (λ_ h=>aw h.1 (aw h.2.1 (aw h.2.2.1 h.2.2.2))) ?_;refine Lt.all (rs:=[7]) kr bK (λi hq=> ?_);obtain rfl:i=7:=Q2X;clear hq;refine Lt.step rfl (λK hK=> ?_);go_simp;refine SW.I.mono ?_;rintro e' w' ⟨rfl,hw⟩;rw[hw];clear hw;refine bB hK hS ?_;refine kq hS 12 (λ_ h=>aw h.1 (aw h.2.1 (aw h.2.2.1 h.2.2.2))) ?_;refine Lt.all (rs:=[13]) kr bK (λi hq=> ?_);obtain rfl:i=13:=Q2X;clear hq;refine Lt.step rfl (λK hK=> ?_);go_simp;have bX:(λw':H=>w' w=A (O (A ⟨p0,o0,G⟩) l c)/\w' ⟨w,1,G⟩=A (Y Z t.e)/\w' ⟨w,2,G⟩=A (O b m k)/\w' ⟨p0,o0,G⟩=A (Y Z D)) ((li w2 (ag #[Y Z D,Y Z (S/D)] 3)).drew):=⟨fq hS.1 _,fq hS.2.1 _,fq hS.2.2.1 _,fq hS.2.2.2 _⟩;refine bB hK bX ?_;have eX:ay w2 w2 ((li w2 (ag #[Y Z D,Y Z (S/D)] 3)).drew):=(Bq (eG _ _) _).bI 1;have KA:=K2.bU eX;have RN:=V (ai.bI (n:=1) (ai.new w2 Z 3 (0,0) [D,S/D] (λz hz=>by
   rcases jy.1 hz with rfl|hz
   .exact gF U U
   .obtain rfl:z=S/D:=by simpa using hz
    exact gF U U) bK))
  have SH:=V (aaL t (aS (A ⟨p0,o0,G⟩) l c t.e b m k) w2 2 2 [D,S/D] ((li w2 (ag #[Y Z D,Y Z (S/D)] 3)).drew) ⟨_,_,_,_,_,_,rfl,(KB.aQ KA.F.2.2).1,(KB.aQ KA.F.2.2).2⟩ RN.I);rw[hr]at SH;unfold aS at SH;clear K2 eX RN SW;generalize(li w2 (ag #[Y Z D,Y Z (S/D)] 3)).drew=w3 at*;refine Lt.all (rs:=[14]) kr bK (λi hq=> ?_);obtain rfl:i=14:=Q2X;clear hq;refine Lt.step rfl (λK hK=> ?_);go_simp;refine SH.I.mono ?_;rintro e' w4 ⟨v',rfl,⟨⟨a',l',c',b',m',k',rfl,r0,r1,r2,r3⟩,Ks⟩,hb⟩;have T4:=V (Ks _ _ _ _ _ _ _ rfl);clear Ks;have iU:(λw':H=>w' w=A (O (A ⟨p0,o0,G⟩) l c)/\w' ⟨w,1,G⟩=A (Y Z t.e)/\w' ⟨w,2,G⟩=A (O b m k)/\w' ⟨p0,o0,G⟩=A (Y Z D)) w4:=⟨hb.cell_of bX.1,hb.cell_of bX.2.1,hb.cell_of bX.2.2.1,hb.cell_of bX.2.2.2⟩;have K4:=V (KA.I.step hb).aN;have ja:=bH KA.F.2.1;refine hK.I _ _ ⟨λ_=>iU,?_⟩;clear hS bX f0 f1 f2 f3;have hS:=iU;clear iU;have N1:=V r2;have N2:=V r3;have T0:=V r0;have T1:=V r1;clear r0 r1 r2 r3 hb SH KA;unfold aS;clear hK K;try simp only[eR,dC,dD,dE]
  refine kq hS 15 (λ_ h=>aw h.1 (aw h.2.1 (aw h.2.2.1 h.2.2.2))) ?_;refine kq hS 16 (λ_ h=>aw h.1 (aw h.2.1 (aw h.2.2.1 h.2.2.2))) ?_;have g0:=aY K4.I.2.1;refine Lt.all (rs:=[17]) kr bK (λi hq=> ?_);obtain rfl:i=17:=Q2X;clear hq;refine Lt.step rfl (λK hK=> ?_);go_simp;refine jg hK ?_;refine Lt.all (rs:=[18]) kr bK (λi hq=> ?_);obtain rfl:i=18:=Q2X;clear hq;refine Lt.step rfl (λK hK=> ?_);go_simp;refine jg hK ?_;refine Lt.over kr ?_ _;go_wp2_with fail;refine aZ (v:=aL #[aF #[O a' l' c',Y Z R.2.e,O b' m' k'],Y Z R.1]) ?_ rfl ⟨_,rfl,⟨⟨_,_,_,_,_,_,rfl,T0.I.eJ (λx hx=>E (N1.I x hx)),T1.I.eJ (λx hx=>E (N2.I x hx)),(λx hx=>E (N1.I x hx)),(λx hx=>E (N2.I x hx))⟩,nM.mk T4.I⟩,cL K4.I.2.2 U _ _ _⟩;simp[aW,results197,go_sem,cT K4.I.2.1]
theorem amd (x w b:az) (s p:Int) (vx vw vb:aj) (W:H) (hx:fu aO W vx x) (hw:fu aO W vw w) (hb:fu aO W vb b):
 aA aq 233 #[vx,vw,vb,Y Z s,Y Z p] W (oY cr (C.forward x w b s p) W):=by
 obtain⟨xa,xl,xc,xp,xm,xk,rfl,x0,x1⟩:=hx;obtain⟨wa,wl,wj,wp,wm,wk,rfl,w0,w1⟩:=hw;obtain⟨ba,bl,bc,bp,bm,bk,rfl,b0,b1⟩:=hb;have K4:=V (aE.IK W (bj xa xl xc x.e xp xm xk) (bj wa wl wj w.e wp wm wk) (bj ba bl bc b.e bp bm bk) (cV G 0 0 0 G 0 0));have KR:=V ((x0.bt.and x1.bt).and ((w0.bt.and w1.bt).and (b0.bt.and b1.bt)));obtain⟨R,hR⟩:=J (C.forward x w b s p);rw[hR];have HR:=V hR;have TM:=V (jr ba bl bc b.d b.e bp bm bk b.z);obtain⟨MB,WL⟩:=J (decide (T.aH b.d b.e b.z));rw[WL]at TM;have Qm:=V WL;unfold aS;unfold aS at TM;clear x0 x1 w0 w1 b0 b1 hR WL;have RW:=KR.aQ K4.F.2.2.2.2;obtain⟨h0,h1,h2⟩:=bP K4.F.2.2.1;have Lf:=V (TM.I _ RW.2.2.1 RW.2.2.2);clear TM RW;go_enter func233,ntmps233
 let pq:=gW aq Tryz.f233 (λ_ _=>True)
 generalize dS:gW aq Tryz.f233 (oY cr R W)=BP;have dB:=V dS;have jM:=oz dS;clear dS;go_wp2_with fail;refine bY Lf.I λw5 hb=> ?_;have K5:=K4.bU hb;clear K4 Lf hb h0 h1 h2;obtain⟨r0,r1,r2,r3,r4,r5⟩:=aY K5.F.2.2.2.1
 cases MB
 .obtain rfl:(1,az.zero)=R:=by rw[<-HR.I];unfold C.forward;rw[aR (kH Qm.I)]
  go_wp2_with fail;rw[<-dB.I];refine aZ (v:=aL #[aF #[O G 0 0,Y Z 0,O G 0 0],Y Z 1]) ?_ rfl ⟨_,rfl,dM.zero _ _ _,cL K5.F.2.2.2.2 U _ _ _⟩;simp[aW,results233,go_sem,cT K5.F.2.2.2.1]
 have KA:=V (K5.I.alloc (ag #[O xa xl xc,Y Z x.e,O xp xm xk,O wa wl wj,Y Z w.e,O wp wm wk] 57));have RW:=KR.aQ KA.F.2.2.2.2;have DM:=V (Qe [x,w] w5.heap.size 2 _ rfl eM (rJ.two (bZ w5 (ag #[O xa xl xc,Y Z x.e,O xp xm xk,O wa wl wj,Y Z w.e,O wp wm wk] 57)) RW.1.1 RW.1.2 RW.2.1.1 RW.2.1.2));obtain⟨Z7,hZ⟩:=J (D.aH 4 [x,w]);rw[hZ]at DM;have HZ:=V hZ;clear hZ RW;obtain⟨f0,f1,f2⟩:=bP K5.F.1;obtain⟨g0,g1,g2⟩:=bP K5.F.2.1;go_wp2_with fail;refine bY DM.I λw6 hb=> ?_;have K7:=KA.bU hb;clear K5 KA DM hb f0 f1 f2 g0 g1 g2 r0 r1 r2 r3 r4 r5;obtain⟨r0,r1,r2,r3,r4,r5⟩:=aY K7.F.2.2.2.1;by_cases hz:Z7=0
 .subst hz;have my:=D.D3 HZ.I;obtain⟨mx,lx⟩:=my x bK;obtain⟨mw,lw⟩:=my w bK;obtain⟨N,C0,P,Q,ex,n1,c1,p1,q1,n2,c2,p2,q2,iQ,lD,xF⟩:=D.four mx lx;obtain⟨ZY,C1,D0,D1,ew,o1,c3,k1,k3,o2,c4,k2,k4,eI,nQ,tH⟩:=D.four mw lw;have RW:=KR.aQ K7.F.2.2.2.2;have fP:=RW.1.1.bA;have mI:=RW.2.1.1.bA;rw[ex]at fP;rw[ew]at mI;obtain rfl:xl=4:=fP.symm;obtain rfl:wl=4:=mI.symm;obtain⟨xb,xo,rfl,gY⟩:=RW.1.1.cells U;obtain⟨wb,wo,rfl,kQ⟩:=RW.2.1.1.cells U;have iX:=gY 0 U;have gM:=gY 1 U;have qC:=gY 2 U;have qD:=gY 3 U;have kR:=kQ 0 U;have kS:=kQ 1 U;have uQ:=kQ 2 U;have uR:=kQ 3 U;rw[ex]at iX gM qC qD;rw[ew]at kR kS uQ uR;simp only[eL,nC,n7]at iX gM qC qD kR kS uQ uR;have HX:=V (aw ex ew);have KS:Hid (aE w6 (λw':H=>w' W=A (O (A ⟨xb,xo,G⟩) 4 xc)/\w' ⟨W+1,0,G⟩=A (O (A ⟨wb,wo,G⟩) 4 wj)/\w' ⟨xb,xo,G⟩=A (Y Z N)/\w' ⟨xb,xo+1,G⟩=A (Y Z C0)/\w' ⟨xb,xo+2,G⟩=A (Y Z P)/\w' ⟨xb,xo+3,G⟩=A (Y Z Q)/\w' ⟨wb,wo,G⟩=A (Y Z ZY)/\w' ⟨wb,wo+1,G⟩=A (Y Z C1)/\w' ⟨wb,wo+2,G⟩=A (Y Z D0)/\w' ⟨wb,wo+3,G⟩=A (Y Z D1))):=V ((aE.cell (K7.F.1 |>λh=>bh h 0 rfl)).and ((aE.cell (K7.F.2.1 |>λh=>bh h 0 rfl)).and ((aE.cell iX).and ((aE.cell gM).and ((aE.cell qC).and ((aE.cell qD).and ((aE.cell kR).and ((aE.cell kS).and ((aE.cell uQ).and (aE.cell uR))))))))));clear ex ew gY kQ iX gM qC qD kR kS uQ uR RW fP mI my mx mw lx lw;obtain⟨S1,dp⟩:∃S1:H->Prop,S1=(λw':H=>w' W=A (O (A ⟨xb,xo,G⟩) 4 xc)/\w' ⟨W+1,0,G⟩=A (O (A ⟨wb,wo,G⟩) 4 wj)/\w' ⟨xb,xo,G⟩=A (Y Z N)/\w' ⟨xb,xo+1,G⟩=A (Y Z C0)/\w' ⟨xb,xo+2,G⟩=A (Y Z P)/\w' ⟨xb,xo+3,G⟩=A (Y Z Q)/\w' ⟨wb,wo,G⟩=A (Y Z ZY)/\w' ⟨wb,wo+1,G⟩=A (Y Z C1)/\w' ⟨wb,wo+2,G⟩=A (Y Z D0)/\w' ⟨wb,wo+3,G⟩=A (Y Z D1)):=⟨_,rfl⟩;rw[<-dp]at KS;go_wp2_with fail;refine cS S1 (eE (KS.aQ (below_drewN w6 1)) λhS=>bR hS [0,4,8,12,1,5,9,13,2,6,10,14,3,7,11,15,16,17,18,19] (λ_ h=>Q34) ?_);refine bW ?_;have K8:=V K7.I.draw;have kC:=V KS.I.draw;clear K7 KS hS r0 r1 r2 r3 r4 r5;generalize w6.drew=w7 at*;obtain⟨VP,zk⟩:=J (bO P D0 s p);obtain⟨VQ,zm⟩:=J (bO Q D0 s p);obtain⟨OK,zn⟩:=J (decide (0<VP)&&decide (0<VQ));have OV:=V (WA P Q D0 s p);rw[zk,zm,zn]at OV;have xM:=V zk;have xN:=V zm;have Ec:=V zn;clear zk zm zn;have kx:=V (show(if ¬(0<VP/\0<VQ)\/(C1:Int)≠C0\/(D1:Int)≠D0\/b.d.length≠1\/C.g b.d 0≠ZY then(2,az.zero)
   else if(C.fresh ((C0:Int)*D0*D0) (x.e+w.e) [(N:Int),ZY,VP,VQ]).1 ≠0 then C.fresh ((C0:Int)*D0*D0) (x.e+w.e) [(N:Int),ZY,VP,VQ]
   else(0,⟨[(N:Int),ZY,VP,VQ],x.e+w.e,C.Jc x w b (x.e+w.e) N C0 (P*Q) ZY VP.toNat VQ.toNat D0 (λp' q'=>jc P Q p' q' D0 s p) (dz (N*ZY*VP.toNat*VQ.toNat) 0)⟩))=R by
   have h:=HR.I;unfold C.forward at h;rw[aI (λh=>h (eZ Qm.I)),HZ.I,aI bK,HX.I.1,HX.I.2]at h;unfold C.g C.nat at h;simp only[nC,n7,Int.toNat_natCast]at h;rw[xM.I,xN.I]at h;exact h)
  go_upto_region 7 with fail;go_cut [17,18] (λa c wx=>∃gw,a=aP (A ⟨gw,0,G⟩)/\c=aK OK/\wx.heap[gw]? =A (mF P Q D0 s p VP VQ)/\ay w7 w7 wx)
  case first=>
   as_aux_lemma=>
   refine cS S1 (eE (kC.aQ (below_drewN w7 1)) λhS=> ?_);have wJ:ay w7 w7 w7.drew:=(eG _ w7).bI 1;refine bR hS [0,4,8,9,10,1,5,2,6,3,7] (λ_ h=>Q34) ?_;refine lI 11 15 (λK hK=> ?_) (λK hK=> ?_)
   .go_simp;refine bY (OV.I _) λw8 hb=> ?_;have ej:ay w7 w7 w8:=wJ.step hb;refine bB hK (kC.aQ ej) ?_;refine cQ (kC.aQ ej) [12,13,14] (bL 15 λK hK=> ?_);go_simp;refine cY hK (kC.aQ (ej.step (aD w8 _))) 16 λK hK=> ?_;go_simp;refine bB hK (kC.aQ (ej.step (aD w8 _))) ?_;exact Q1E
   .go_simp;refine cY hK (kC.aQ (wJ.step (aD w7.drew _))) 11 λK hK=> ?_;go_simp;refine bY (OV.I _) λw8 hb=> ?_;have ej:ay w7 w7 w8:=(wJ.step (aD w7.drew _)).step hb;have lV:w8.heap[w7.heap.size]? =A (mF 0 0 0 0 0 0 0):=bV (bZ w7.drew _) hb;refine bB hK (kC.aQ ej) ?_;refine cQ (kC.aQ ej) [12,13,14] ?_;obtain⟨q0,q1,q2,q3,q4,q5,q6⟩:=bE lV;have i0:=cE lV 0;have i1:=cE lV 1;have i2:=cE lV 2;have i3:=cE lV 3;have i4:=cE lV 4;have i5:=cE lV 5;have i6:=cE lV 6;refine bL 16 λK hK=> ?_;go_simp;refine bB hK (kC.aQ (nt ej (bu _) _ _ _ _ _ _ _)) ?_;exact Q1l
  case rest=>
   obtain⟨gw,rfl,rfl,Lj,dR⟩:=hcut;obtain⟨w8,rfl⟩:∃w8:H,w8=wc:=⟨_,rfl⟩;have K9:=K8.bU dR;have Ed:=kC.bU dR;have HG:=V (aE.block Lj);clear K8 kC dR Lj OV;have hS:=Ed.F;rw[dp]at hS;obtain⟨s0,s1,s2,s3,s4,s5,s6,s7,s8,s9⟩:=hS;obtain⟨h0,h1,h2⟩:=bP K9.F.2.2.1;obtain⟨z0,z1,z2,z3,z4,z5,z6⟩:=bE HG.I.aN;obtain⟨r0,r1,r2,r3,r4,r5⟩:=aY K9.F.2.2.2.1;have iL:b.d.length=bl:=KR.F.2.2.1.bA;obtain⟨mW,g7⟩:=J (decide (¬(0<VP/\0<VQ)\/(C1:Int)≠C0\/(D1:Int)≠D0\/b.d.length≠1\/C.g b.d 0≠ZY));have Ee:=V g7;obtain⟨B0,oM⟩:=J (C.g b.d 0);rw[iL,oM]at g7;go_upto_region 8 with fail;go_cut [105] (λa wx=>a=aK mW/\w8=wx)
   case first=>
    as_aux_lemma=>
    cases OK
    .obtain rfl:true=mW:=by rw[<-g7];exact(dI (aM (show ¬(0<VP/\0<VQ)from λh=>Q3K))).symm
     clear iL g7 oM;exact Q2w
    obtain⟨ph,mT⟩:0<VP/\0<VQ:=Q4w;by_cases iJ:C1=C0
    case neg=>
     obtain rfl:true=mW:=Q4a;have ye:((C1:Int) != (C0:Int))=true:=Q2R;clear iL iJ g7 oM;exact Q2w
    have e1:((C1:Int) != (C0:Int))=ae:=Q2R;by_cases jH:D1=D0
    case neg=>
     obtain rfl:true=mW:=Q3W;have ye:((D1:Int) != (D0:Int))=true:=Q2R;clear iL iJ jH g7 oM;exact Q2w
    have e2:((D1:Int) != (D0:Int))=ae:=Q2R;by_cases kf:bl=1
    case neg=>
     obtain rfl:true=mW:=by rw[<-g7];exact(dI (bJ (bJ (bJ (aM kf))))).symm
     have ye:((bl:Int) != 1)=true:=Q2R;clear iL iJ jH kf g7 oM;exact Q2w
    subst kf;obtain⟨bb,bo0,rfl,D5⟩:=(KR.aQ K9.F.2.2.2.2).2.2.1.cells U;have cb:=D5 0 U;simp only[eL]at cb;have Jg:b.d.getD 0 0=B0:=oM;rw[Jg]at cb;by_cases oK:B0=ZY
    case neg=>
     obtain rfl:true=mW:=by rw[<-g7];exact(dI (bJ (bJ (bJ (bJ oK))))).symm
     have ye:(B0 != (ZY:Int))=true:=by simpa using oK
     exact Q2g
    have e4:(B0 != (ZY:Int))=ae:=by simpa using oK
    obtain rfl:ae=mW:=by rw[<-g7];exact(eP (by
     rintro(h|h|h|h|h)
     .exact h ⟨ph,mT⟩
     .exact h U
     .exact h U
     .exact h rfl
     .exact h oK)).symm
    exact Q2g
   case rest=>
   obtain⟨rfl,jm⟩:=hcut;rw[<-jm];clear jm g7
   cases mW
   case true=>
    obtain rfl:(2,az.zero)=R:=Q4O;clear iL oM;go_wp2_with fail;rw[<-dB.I];refine aZ (v:=aL #[aF #[O G 0 0,Y Z 0,O G 0 0],Y Z 2]) ?_ rfl ⟨_,rfl,dM.zero _ _ _,cL K9.F.2.2.2.2 U _ _ _⟩;simp[aW,results233,go_sem,cT K9.F.2.2.2.1]
   have lF:=kH Ee.I;obtain⟨ph,mT⟩:0<VP/\0<VQ:=oP λh=>lF (aM h);have iJ:C1=C0:=oP λh=>lF (bJ (aM U));have jH:D1=D0:=oP λh=>lF (bJ (bJ (aM U)));have kf:bl=1:=oP λh=>lF (bJ (bJ (bJ (aM U))));have oK:B0=ZY:=oP λh=>lF (bJ (bJ (bJ (bJ U))));have vU:=V (show(if(C.fresh ((C0:Int)*D0*D0) (x.e+w.e) [(N:Int),ZY,VP,VQ]).1 ≠0 then C.fresh ((C0:Int)*D0*D0) (x.e+w.e) [(N:Int),ZY,VP,VQ]
    else(0,⟨[(N:Int),ZY,VP,VQ],x.e+w.e,C.Jc x w b (x.e+w.e) N C0 (P*Q) ZY VP.toNat VQ.toNat D0 (λp' q'=>jc P Q p' q' D0 s p) (dz (N*ZY*VP.toNat*VQ.toNat) 0)⟩))=R by
    have h:=kx.I;rwa[aI lF]at h)
   have Jg:b.d.getD 0 0=B0:=oM;subst iJ jH kf oK;obtain⟨bb,bo0,rfl,D5⟩:=(KR.aQ K9.F.2.2.2.2).2.2.1.cells U;have cb:=0;clear lF D5;have jW:=V (aw iL Jg);obtain⟨Vp,rfl⟩:∃n:Nat,VP=(n:Int):=⟨VP.toNat,U⟩;obtain⟨Vq,rfl⟩:∃n:Nat,VQ=(n:Int):=⟨VQ.toNat,U⟩;obtain⟨_,y2,y3,y4,_,_,_,_,y5⟩:=oy (show 1<=bO P D1 s p by rw[xM.I];omega);obtain⟨_,u2,_,_,_,_,_,_,u5⟩:=oy (show 1<=bO Q D1 s p by rw[xN.I];omega);rw[xM.I]at y5;rw[xN.I]at u5;obtain⟨F1,uS⟩:=J (C1*D1);obtain⟨F0,qN⟩:=J (F1*D1);have b1:F1<=4096*5:=by rw[<-uS];exact mq c4 U
   have b2:F0<=4096*5*5:=Q4S;have sF:Z.wrap ((C1:Int)*(D1:Int))=(F1:Int):=C.pr uS U;have m6:Z.wrap ((F1:Int)*(D1:Int))=(F0:Int):=C.pr qN U;have hF:(C1:Int)*D1*D1=F0:=Q5p;obtain⟨Dc,vD⟩: -128<=x.e+w.e/\x.e+w.e<=128:=U;rw[hF]at vU;have rE:=V (show(if(C.fresh F0 (x.e+w.e) [(N:Int),ZY,Vp,Vq]).1 ≠0 then C.fresh F0 (x.e+w.e) [(N:Int),ZY,Vp,Vq]
    else(0,⟨[(N:Int),ZY,Vp,Vq],x.e+w.e,C.Jc x w b (x.e+w.e) N C1 (P*Q) ZY Vp Vq D1 (λp' q'=>jc P Q p' q' D1 s p) (dz (N*ZY*Vp*Vq) 0)⟩))=R from by
     have h:=vU.I;simpa using h)
   have gZ:ai Z (li w8 (mr N ZY Vp Vq)) w8 4 [(N:Int),ZY,Vp,Vq]:=ai.new w8 Z 3 (0,0) [(N:Int),ZY,Vp,Vq] (λz hz=>by
    simp only[jy,mj,or_false]at hz;rcases hz with rfl|rfl|rfl|rfl<;>exact gF U U) bK
   have gG:=V gZ;have ff:=V (K9.I.alloc (mr N ZY Vp Vq));have wK:=V (HG.I.alloc (mr N ZY Vp Vq));clear gZ uS qN hF iL oM Jg vU kx;obtain⟨_,f1,_⟩:=bP K9.F.1;obtain⟨_,g1,_⟩:=bP K9.F.2.1;by_cases hb:(C.fresh F0 (x.e+w.e) [(N:Int),ZY,Vp,Vq]).1 =0
   .obtain⟨hf,kM,j8,dQ⟩:=C.Qk hb;obtain⟨N0,rG⟩:=J (N*ZY*Vp*Vq);have fy:Sh.size [(N:Int),ZY,Vp,Vq]=N0:=by
     exact Q1V
    have h8:=(Sh.iA dQ).le;rw[<-(Sh.iA dQ).eq,fy]at h8;rw[fy]at dQ;have Ma:=V (rE.I.symm.trans (aI (λh=>h hb)));have FY:=V (Qg F0 (x.e+w.e) _ 4 4 _ N0 _ gG.I hf kM j8 fy U U);have xJ:=V rG;clear hb hf fy rG rE;go_wp2_with fail;refine FY.I.mono ?_;rintro e' w9 ⟨g,rfl,ho,hb⟩;have kT:=ff.bU hb;have Ef:=V (wK.I.step hb);have lr:=V (gG.I.below hb);have HO:=V ho;have hg:=ho.lt g rfl;clear hb ho s0 s1 s2 s3 s4 s5 s6 s7 s8 s9 z0 z1 z2 z3 z4 z5 z6 h0 h1 h2 r0 r1 r2 r3 r4 r5 cb f1 g1;go_upto_region 11 with fail;have hA:=bZ w9 (cV w8 4 4 (x.e+w.e) g N0 N0);have ny:=V (kT.I.alloc (cV w8 4 4 (x.e+w.e) g N0 N0));have Eg:=V (Ef.I.alloc (cV w8 4 4 (x.e+w.e) g N0 N0));have WM:=V (HO.I.alloc (cV w8 4 4 (x.e+w.e) g N0 N0));have acX:=V (lr.I.below (aD w9 (cV w8 4 4 (x.e+w.e) g N0 N0)));obtain⟨bo,cy⟩:=J w9.heap.size;rw[cy]at hA hg⊢;clear cy kT Ef HO lr;have WJ:g<bo:=hg.2;have Mb:W.heap.size+1+1+1<g/\gw<g:=by
     have h1:=bH K9.F.2.2.2.1;have h2:=hg.1;have h3:=bH HG.I.aN;rw[bF]at h2;omega
    obtain⟨acY,acZ⟩:=Mb;have Ea:=V (show W.heap.size+1+1+1<w8.heap.size from bH K9.F.2.2.2.1);generalize li w9 (cV w8 4 4 (x.e+w.e) g N0 N0)=fU at*;have jN:x.z.length=xm:=KR.F.1.2.bA;have rW:w.z.length=wm:=KR.F.2.1.2.bA;have xE:b.z.length=bm:=KR.F.2.2.2.bA;have vJ:b.z.length=ZY:=C.ama (eZ Qm.I) jW.I.1 jW.I.2;obtain⟨PL,mV⟩:=J (P*Q);rw[iQ,jN]at lD;rw[eI,rW]at nQ;rw[mV]at iQ;rw[jN]at iQ;rw[rW]at eI;rw[xE]at vJ;have Eh:=V mV;have Mc:0<PL:=by rw[<-mV];exact kZ p1 q1
    have ad3:0<xm:=by rw[<-iQ];exact kZ n1 (kZ c1 Mc)
    have ad4:0<wm:=by rw[<-eI];exact kZ o1 (kZ c3 (kZ k1 k3))
    have kN:PL<=256:=by rw[<-mV];exact mq (show P<=16 by omega) (show Q<=16 by omega)
    have Md:Z.wrap ((P:Int)*(Q:Int))=(PL:Int):=C.pr mV U;clear jN rW xE mV;have FV:0<N0:=U;obtain rfl:ZY=bm:=vJ.symm;have HF:Hid (di (λb=>b=g) fU (λw':H=>w'.heap[W.heap.size]? =A (bj (A ⟨xb,xo,G⟩) 4 xc x.e xp xm xk)/\w'.heap[W.heap.size+1]? =A (bj (A ⟨wb,wo,G⟩) 4 wj w.e wp wm wk)/\w'.heap[W.heap.size+1+1]? =A (bj (A ⟨bb,bo0,G⟩) 1 bc b.e bp ZY bk)/\w'.heap[W.heap.size+1+1+1]? =A (cV G 0 0 0 G 0 0)/\w'.heap[gw]? =A (mF P Q D1 s p Vp Vq)/\w'.heap[bo]? =A (cV w8 4 4 (x.e+w.e) g N0 N0)/\ai aO w' xp xm x.z/\ai aO w' wp wm w.z/\ai aO w' bp ZY b.z)):=V (by
     have hk:=ny.F;have RW:=KR.aQ hk.2.2.2.2;refine(di.block hk.1 U).and ((di.block hk.2.1 U).and ((di.block hk.2.2.1 U).and ((di.block hk.2.2.2.1 U).and ((di.block Eg.I.aN U).and ((di.block hA U).and ((di.row RW.1.2 ?_).and ((di.row RW.2.1.2 ?_).and (di.row RW.2.2.2 ?_))))))))
     .exact Q27
     .intro a ha e;have:=KR.F.2.1.2.bC U ha;omega
     .intro a ha e;have:=KR.F.2.2.2.bC U ha;omega)
    have oZ:=V (acX.I.bt);have ad5:w8.heap.size<g:=Q4o;obtain⟨BL,uT⟩:=J fU.heap.size;have ad6:bo<BL:=Q5f;have Ip:=V uT;have Gp:=V (ny.F.2.2.2.2);have tM:=V (λw' (h:ar BL (λb=>b=g) fU w')=>HF.I w' (by rw[uT];exact h));have hWB:W.heap.size+1+1+1<BL:=U;obtain⟨BO,Ei⟩:=J ((li w8 (mr N ZY Vp Vq)).heap.size);rw[Ei]at WM hg;have zI:=hg.1;obtain⟨FQ,hFQ⟩:∃FQ:Nat->List Int->Nat->List Int,FQ=C.acR x w b (x.e+w.e) N C1 PL ZY Vp Vq D1 (λp' q'=>jc P Q p' q' D1 s p):=⟨_,rfl⟩;have HFQ:=V hFQ;obtain⟨Z0,zp⟩:=J (dz N0 (0:Int));rw[zp]at WM;have Me:=V zp;clear uT Ei hFQ zp hA hg K9 ff Ed HG wK gG FY ny Eg acX;obtain⟨_,_,a0,a1,a2,a3,_⟩:=HF.I.aN;obtain⟨z0,z1,z2,z3,z4,z5,z6⟩:=bE a2;obtain⟨t0,t1,t2⟩:=bP a3;clear a0 a1 a2 a3;go_wp2_with fail;clear z0 z1 z2 z3 z4 z5 z6 t0 t1 t2 Md;go_loopw [139] (λi wr=>∃k:Nat,k<=Vp/\i=Y Z (k:Int)/\wr.ownsRow BO 21 1 (O g N0 N0) N0 ((iter (λz p=>iter (FQ p) z Vq) Z0 k).map (Y cr))/\ar BL (λb=>b=g) fU wr) (λi _=>Vp-(aX i).toNat)
    case atStart=>exact⟨0,cK _,rfl,WM.I,ar.cP _ _ _⟩
    case round=>
     as_aux_lemma=>
     obtain⟨k,hk,rfl,aV,cA⟩:=hrel;have jO:=V aV;have HK:=V cA;clear aV cA;by_cases aT:k<Vp
     .obtain⟨_,_,_,_,a4,_⟩:=tM.I wr HK.I;obtain⟨z0,z1,z2,z3,z4,z5,z6⟩:=bE a4;clear a4;go_wp2_with fail;clear z0 z1 z2 z3 z4 z5 z6;go_loopw [144] (λi wr=>∃q:Nat,q<=Vq/\i=Y Z (q:Int)/\wr.ownsRow BO 21 1 (O g N0 N0) N0 ((iter (FQ k) (iter (λz p=>iter (FQ p) z Vq) Z0 k) q).map (Y cr))/\ar BL (λb=>b=g) fU wr) (λi _=>Vq-(aX i).toNat)
      case atStart=>exact⟨0,cK _,rfl,jO.I,HK.I⟩
      case round=>
       as_aux_lemma=>
       clear jO HK;obtain⟨q,hq,rfl,aV,cA⟩:=hrel;have jP:=V aV;have jF:=V cA;clear aV cA;by_cases fC:q<Vq
       .obtain⟨_,_,_,_,a4,_⟩:=tM.I wr jF.I;obtain⟨z0,z1,z2,z3,z4,z5,z6⟩:=bE a4;have WN:=V (acU P Q D1 s p Vp Vq k q wr);have Ej:BL<=wr:=by have:=jF.I.size;rw[Ip.I]at this;exact this
        obtain⟨L,hL⟩:=J (jc P Q k q D1 s p);have Mf:=V (λt (h:t∈L)=>acV (rows:=P) (aU:=Q) (r:=k) (c:=q) (k:=D1) (s:=s) (p:=p) (hL▸h));have Ek:L.length<=25:=by rw[<-hL];exact acL _ _ _ _ _ _ _
        rw[hL]at WN;have HL:=V hL;clear a4 hL;go_wp2_with fail;refine WN.I.mono ?_;rintro e' w2 ⟨la,ln,lc,rfl,hl,hb⟩;have nz:=V (jF.I.trans' (ar.cZ (S:=λb=>b=g) hb) Ej);have rZ:=V (Own.kept jP.I (ar.cZ (S:=λ_=>False) hb) (λb e=>Q47));have El:(iter (FQ k) (iter (λz p=>iter (FQ p) z Vq) Z0 k) q).length=N0:=by simpa using rZ.I.1
        have cg:=vI rZ.I 0 U El;have iB:ln<=25:=Q5o;obtain⟨B2,xD⟩:=J w2.heap.size;have Em:BL<=B2:=E hb.size;have vN:=V (λw' (h:ar B2 (λb=>b=g) w2 w')=>aw (tM.I w' (nz.I.trans' h Em)) (oq.WE hl h U cg));obtain⟨ZQ,WO⟩:=J (iter (FQ k) (iter (λz p=>iter (FQ p) z Vq) Z0 k) q);obtain⟨FO,WQ⟩:∃FO:Nat->List Int->Nat->List Int,FO=C.acQ x w b (x.e+w.e) C1 PL ZY Vp Vq D1 L k q:=⟨_,rfl⟩;have Mg:=V (show iter (FQ k) (iter (λz p=>iter (FQ p) z Vq) Z0 k) (q+1)=iter (λz m=>iter (FO m) z ZY) ZQ N by
         rw[WQ,<-WO,<-HL.I,HFQ.I];rfl)
        rw[WO]at rZ;have HFO:=V WQ;have dA:=V xD;clear WN hl hb Ek El cg WO WQ xD jF jP Ej z0 z1 z2 z3 z4 z5 z6;go_wp2_with fail;go_loopw [152] (λi wr=>∃m:Nat,m<=N/\i=Y Z (m:Int)/\wr.ownsRow BO 21 1 (O g N0 N0) N0 ((iter (λz m=>iter (FO m) z ZY) ZQ m).map (Y cr))/\ar B2 (λb=>b=g) w2 wr) (λi _=>N-(aX i).toNat)
        case atStart=>exact⟨0,cK _,rfl,rZ.I,ar.cP _ _ _⟩
        case round=>
         as_aux_lemma=>
         clear rZ;obtain⟨m,hm,rfl,aV,cA⟩:=hrel;have lJ:=V aV;have lu:=V cA;clear aV cA;by_cases An:m<N
         .go_wp2_with fail;go_loopw [156] (λi wr=>∃o:Nat,o<=ZY/\i=Y Z (o:Int)/\wr.ownsRow BO 21 1 (O g N0 N0) N0 ((iter (FO m) (iter (λz m=>iter (FO m) z ZY) ZQ m) o).map (Y cr))/\ar B2 (λb=>b=g) w2 wr) (λi _=>ZY-(aX i).toNat)
          case atStart=>exact⟨0,cK _,rfl,lJ.I,lu.I⟩
          case round=>
           as_aux_lemma=>
           clear lJ lu;obtain⟨o,ho,rfl,aV,cA⟩:=hrel;have lT:=V aV;have rP:=V cA;clear aV cA;by_cases zO:o<ZY
           .skip
            obtain⟨⟨_,_,a2,_,_,a5,_,_,a8⟩,_⟩:=vN.I wr rP.I;obtain⟨pb,po,rfl,eb⟩:=a8.cells U;have ck:=eb o zO;have II:=jv a8.wf o;obtain⟨_,h1,h2⟩:=bP a2;obtain⟨_,t1,_⟩:=bP a5;have Ao:B2<=wr.drew.heap.size:=by have:=rP.I.size;rw[dA.I]at this;exact this
            have ad7:g<B2:=U;have Ap:=V rP.I.drew;have Mh:=V lT.I.drew;obtain⟨v,hv⟩:=J (b.z.getD o 0);rw[hv]at ck II;obtain⟨SC,WS⟩:∃SC:Int->Nat->Int,SC=C.acP x.z w.z C1 PL D1 m o L:=⟨_,rfl⟩;have Qo:=V (show ∀Z7,FO m Z7 o=Z7.set (C.oi ZY Vp Vq m o k q) (cr.wrap (iter SC (Rd.align v b.e (x.e+w.e)) C1))from λZ7=>by rw[HFO.I,<-hv,WS];rfl);have WU:=V WS;have AL:=V (Sx v b.e (x.e+w.e));obtain⟨v1,v2⟩:=II;have wv0:Z.wrap v=v:=dv _ U;have hoi:(o:Int)<(ZY:Int):=U;clear a2 a5 a8 eb hv WS rP lT;go_wp2_with fail;refine cS (λw':H=>w' ⟨W+1+1,2,G⟩=A (O (A ⟨pb,po,G⟩) ZY bk)/\w' ⟨W+1+1,1,G⟩=A (Y Z b.e)/\w' ⟨bo,1,G⟩=A (Y Z (x.e+w.e))/\w' ⟨pb,po+o,G⟩=A (Y aO v)) (eE (⟨h2,h1,t1,ck⟩) λhS=>bR hS [0,2,6,8,1,7,9,3,4,5] (λ_ h=>aw h.1 (aw h.2.1 (aw h.2.2.1 h.2.2.2))) ?_);refine bL 10 λK hK=> ?_;go_simp;refine cq ((AL.I _)) ?_;refine bB hK hS ?_;refine bR hS [11] (λ_ h=>aw h.1 (aw h.2.1 (aw h.2.2.1 h.2.2.2))) (bW ?_);clear hS h1 h2 t1 ck wv0 hoi AL;generalize wr.drew=ws at*;obtain⟨s0,xu⟩:=J (Rd.align v b.e (x.e+w.e));rw[xu]at Qo⊢;clear xu v1 v2;go_wp2_with fail;go_loopw [171,27] (λi u wr=>∃c:Nat,c<=C1/\i=Y Z (c:Int)/\u=Y Z (iter SC s0 c)/\ay ws ws wr) (λi _ _=>C1-(aX i).toNat)
            case atStart=>exact⟨0,cK _,rfl,rfl,eG _ _⟩
            case round=>
             as_aux_lemma=>
             obtain⟨c,hc,rfl,rfl,cW⟩:=hrel;have dO:=V cW;clear cW;by_cases Cf:c<C1
             .obtain⟨u0,Gq⟩:=J (iter SC s0 c);obtain⟨AD,Gr⟩:∃AD:Int->Nat->Int,AD=λs j=>C.Jb x.z w.z (C.xi C1 PL m c (L.getD j C.w0)) (C.wi C1 D1 o c (L.getD j C.w0)) s:=⟨_,rfl⟩;have WV:=V (show iter SC s0 (c+1)=iter AD u0 L.length by rw[<-Gq,Gr,WU.I];rfl);have WW:=V Gr;rw[Gq];clear Gq Gr;go_wp2_with fail;go_loopw [176,27] (λi u wr=>∃j:Nat,j<=ln/\i=Y Z (j:Int)/\u=Y Z (iter AD u0 j)/\ay ws ws wr) (λi _ _=>ln-(aX i).toNat)
              case atStart=>exact⟨0,cK _,rfl,rfl,dO.I⟩
              case round=>
               as_aux_lemma=>
               clear dO;obtain⟨j,hj,rfl,rfl,cW⟩:=hrel;have eW:=V cW;clear cW;obtain⟨⟨b0,b1,_,_,_,_,b6,b7,_⟩,mY⟩:=vN.I wr (Ap.I.trans' (ar.cZ (S:=λb=>b=g) eW.I) Ao);by_cases En:j<ln
               .obtain⟨_,_,f2⟩:=bP b0;obtain⟨_,_,g2⟩:=bP b1;have uK:=mY.1;obtain⟨gl,rfl,nk,vL⟩:=mY.2.resolve_left U;obtain⟨l0,l1,l2⟩:=vL j En;rw[Nat.mul_comm 3 j]at l0 l1 l2;have ht:=Mf.I (L.getD j (0,0,0)) Q3U;have Gs:=V (show iter AD u0 (j+1)=C.Jb x.z w.z (C.xi C1 PL m c (L.getD j (0,0,0))) (C.wi C1 D1 o c (L.getD j (0,0,0))) (iter AD u0 j) by
                 show AD (iter AD u0 j) j=_
                 rw[WW.I];rfl)
                obtain⟨u,hu⟩:=J (iter AD u0 j);rw[hu]at Gs⊢;generalize L.getD j (0,0,0)=t at*;obtain⟨ta,tb,tc⟩:=t;obtain⟨i1,i2,i3,i4,i5,i6⟩:=ht;simp only[]at i1 i2 i3 i4 i5 i6 l0 l1 l2;rw[<-gQ,Eh.I]at i2;obtain⟨T0,rfl⟩:∃n:Nat,ta=(n:Int):=⟨ta.toNat,U⟩;obtain⟨T1,rfl⟩:∃n:Nat,tb=(n:Int):=⟨tb.toNat,U⟩;obtain⟨T2,rfl⟩:∃n:Nat,tc=(n:Int):=⟨tc.toNat,U⟩;obtain⟨q1,q2,q3,q4,X⟩:=C.ix (a:=m) (b:=C1) (c:=c) (d:=PL) (e:=T0) (m:=N) (n:=xm) An Cf U iQ;obtain⟨v1,v2,v3,v4,Z6⟩:=C.ix (a:=o) (b:=C1) (c:=c) (d:=D1) (e:=T1) (m:=ZY) (n:=ZY*(C1*D1)) zO Cf U rfl;obtain⟨v5,r7⟩:=J (v4*D1);obtain⟨v6,uU⟩:=J (v5+T2);have Mi:v6<wm:=by
                 exact Q2D
                have ad8:v4<=v5:=Q3S;have WK:=b6.eC;obtain⟨Aq,Ar,rfl,ex⟩:=b6.cells U;obtain⟨Au,Av,rfl,ew⟩:=b7.cells U;have cx:=ex q4 X.lt;have cw:=ew v6 Mi;obtain⟨x1,x2⟩:=jv b6.wf q4;obtain⟨y1,y2⟩:=jv b7.wf v6;have Mj:=V (show iter AD u0 (j+1)=cM (u+x.z.getD q4 0*w.z.getD v6 0) by
                 rw[Gs.I];show cM (u+x.z.getD ((m*C1+c)*PL+T0) 0*w.z.getD (((o*C1+c)*D1+T1)*D1+T2) 0)=_
                 rw[X.e1,X.e2,X.e3,X.e4,Z6.e1,Z6.e2,Z6.e3,Z6.e4,r7,uU])
                exact Q06
               .obtain rfl:j=ln:=U;have uK:=mY.1;clear b0 b1 b6 b7 mY;go_wp2_with fail;go_roundw
                case rel=>exact⟨c+1,U,Q2T,by rw[WV.I,uK],eW.I⟩
                case measure=>exact Q5q
             .obtain rfl:c=C1:=U;obtain⟨⟨_,_,_,_,a4,a5,_⟩,_⟩:=vN.I wr (Ap.I.trans' (ar.cZ (S:=λb=>b=g) dO.I) Ao);have Ak:g<ws:=U;have uV:=V (Ap.I.trans' (ar.cZ (S:=λb=>b=g) dO.I) Ao);have yN:=V (Own.kept Mh.I (ar.cZ (S:=λ_=>False) dO.I) (λb e=>by rw[Jf e];exact⟨Ak,id⟩));obtain⟨z0,z1,z2,z3,z4,z5,z6⟩:=bE a4;obtain⟨t0,t1,t2⟩:=bP a5;obtain⟨M1,rU⟩:∃M,m*ZY=M:=⟨_,rfl⟩;obtain⟨M2,rV⟩:∃M,M1+o=M:=⟨_,rfl⟩;obtain⟨M3,sM⟩:∃M,M2*Vp=M:=⟨_,rfl⟩;obtain⟨M4,tN⟩:∃M,M3+k=M:=⟨_,rfl⟩;obtain⟨M5,tO⟩:∃M,M4*Vq=M:=⟨_,rfl⟩;obtain⟨M6,Qq⟩:∃M,M5+q=M:=⟨_,rfl⟩;have Ic:M6<N0:=by
               have h:=xL (xL (xL An zO) aT) fC;rw[rU,rV,sM,tN,tO,Qq,xJ.I]at h;exact h
              have Ky:N0<=8192:=U;have w1:M4<=M5:=by rw[<-tO];exact Nat.le_mul_of_pos_right _ U
              have Qr:M2<=M3:=Q3R;have e1:=C.pr rU U;have e2:=C.sm rV U;have e3:=C.pr sM U;have e4:=C.sm tN U;have e5:=C.pr tO U;have e6:=C.sm Qq U;have e7:(M1:Int)+(o:Int)=(M2:Int):=U;have e8:(M3:Int)+(k:Int)=(M4:Int):=U;have e9:(M5:Int)+(q:Int)=(M6:Int):=U;have fz:=yN.I.frozenAt M6;have Eo:(iter (FO m) (iter (λz m=>iter (FO m) z ZY) ZQ m) o).length=N0:=by simpa using yN.I.1
              have cz:=vI yN.I M6 Ic Eo;have WX:(M6:Int)<(N0:Int):=U;obtain⟨sv,Ae⟩:=J (iter SC s0 c);have Aw:=V (show iter (FO m) (iter (λz m=>iter (FO m) z ZY) ZQ m) (o+1)=(iter (FO m) (iter (λz m=>iter (FO m) z ZY) ZQ m) o).set M6 (cr.wrap sv) by
               show FO m _ o=_
               rw[Qo.I,Ae];show List.set _ (((m*ZY+o)*Vp+k)*Vq+q) _=_
               rw[rU,rV,sM,tN,tO,Qq])
              rw[Ae];clear a4 a5 rU rV sM tN tO Qq Eo Ae z0 z1 z2 z3 z4 t0 t1;go_wp2_with fail;go_roundw
              case rel=>exact⟨o+1,U,Q2T,Q3H,uV.I.set (aM rfl) _ _⟩
              case measure=>exact Q5q
           .obtain rfl:o=ZY:=U;go_wp2_with fail;go_roundw
            case rel=>exact⟨m+1,U,Q2T,lT.I,rP.I⟩
            case measure=>exact Q5q
         .obtain rfl:m=N:=U;go_wp2_with fail;go_roundw
          case rel=>exact⟨q+1,U,Q2T,by rw[Mg.I];exact lJ.I,nz.I.trans' lu.I Em⟩
          case measure=>exact Q5q
       .obtain rfl:q=Vq:=U;exact Q1R
     .obtain rfl:k=Vp:=U;obtain⟨_,_,_,a3,_,a5,_⟩:=tM.I wr HK.I;obtain⟨r0,r1,r2,r3,r4,r5⟩:=aY a3;obtain⟨y0,y1,y2,y3,y4,y5⟩:=aY a5;have xG:=V a3;have Ep:=V (show iter (λz p=>iter (FQ p) z Vq) Z0 k=C.Jc x w b (x.e+w.e) N C1 PL ZY k Vq D1 (λp' q'=>jc P Q p' q' D1 s p) (dz N0 0) by rw[HFQ.I,Me.I];rfl);have oG:=V (Below.gh Gp.I HK.I (λb hb=>⟨U,U⟩));have mU:=V (HK.I.gH oZ.I.aN (λa ha _=>by cases ha;exact⟨by show w8.heap.size<BL;omega,by show w8.heap.size≠g;omega⟩));have cU:=V (show R=(0,⟨[(N:Int),ZY,k,Vq],x.e+w.e,iter (λz p=>iter (FQ p) z Vq) Z0 k⟩) by rw[Ma.I,xJ.I,Eh.I,Ep.I]);have il:=V (ai.owned jO.I (by rw[Ep.I];exact C.am6 x w b (x.e+w.e) N C1 PL ZY k Vq D1 (λp' q'=>jc P Q p' q' D1 s p) (C.iN.Qi N0)) U);have PT:W.heap.size+1+1+1<w8.heap.size:=Ea.I;clear a3 a5;go_wp2_with fail;rw[<-dB.I];rw[cU.I];refine aZ (v:=aL #[aF #[O w8 4 4,Y Z (x.e+w.e),O g N0 N0],Y Z 0]) ?_ rfl ⟨_,rfl,⟨_,_,_,_,_,_,rfl,?_,?_,(λa ha=>by cases ha;show W.heap.size<=w8;omega),(λa ha=>Q3E)⟩,cL oG.I U _ _ _⟩
      .simp[aW,results233,go_sem,cT xG.I]
      .exact mU.I.eJ (λa ha=>by cases ha;show w8.heap.size≠W.heap.size+1+1+1;omega)
      .exact il.I.eJ (λa ha=>by cases ha;show g≠W.heap.size+1+1+1;omega)
   .have Mk:=V (rE.I.symm.trans (aR hb));obtain⟨q,hq⟩:=J ((C.fresh F0 (x.e+w.e) [(N:Int),ZY,Vp,Vq]).1);have FN:=V (Qh F0 (x.e+w.e) _ 4 4 _ _ gG.I hb);have Gn:=V (C.Qj hq hb);rw[hq]at FN hb;have pk:(q != 0)=true:=Q50;clear hb hq;go_wp2_with fail;refine bY FN.I λw9 hb=> ?_;have kT:=ff.bU hb;clear hb s0 s1 s2 s3 s4 s5 s6 s7 s8 s9 z0 z1 z2 z3 z4 z5 z6 h0 h1 h2 r0 r1 r2 r3 r4 r5 cb f1 g1;go_upto_region 11 with fail;have hA:=bZ w9 (cV G 0 0 0 G 0 0);have ny:=V (kT.I.alloc (cV G 0 0 0 G 0 0));obtain⟨bo,cy⟩:=J w9.heap.size;rw[cy]at hA⊢;clear cy kT;generalize li w9 (cV G 0 0 0 G 0 0)=fU at*;obtain⟨r0,r1,r2,r3,r4,r5⟩:=aY ny.F.2.2.2.1;obtain⟨y0,y1,y2,y3,y4,y5⟩:=aY hA;obtain rfl:=Mk.I;go_wp2_with fail;rw[<-dB.I];rw[Gn.I];refine aZ (v:=aL #[aF #[O G 0 0,Y Z 0,O G 0 0],Y Z q]) ?_ rfl ⟨_,rfl,dM.zero _ _ _,cL ny.F.2.2.2.2 U _ _ _⟩;simp[aW,results233,go_sem,cT ny.F.2.2.2.1]
 .obtain rfl:(Z7,az.zero)=R:=by rw[<-HR.I];unfold C.forward;rw[aI (λh=>h (eZ Qm.I)),HZ.I,aR hz]
  have cB:(Z7 != 0)=true:=Q37;clear hz;go_wp2_with fail;rw[<-dB.I];refine aZ (v:=aL #[aF #[O G 0 0,Y Z 0,O G 0 0],Y Z Z7]) ?_ rfl ⟨_,rfl,dM.zero _ _ _,cL K7.F.2.2.2.2 U _ _ _⟩;simp[aW,results233,go_sem,cT K7.F.2.2.2.1]
def Nv (ok:Nat->Prop) (u:H) (cs:Array aj) (x:Unit):Prop:=∃a l c e wa wl wc ma ml mc b l2 c2 e2 ba bl bc,cs=#[O a l c,Y Z e,O wa wl wc,O ma ml mc,O b l2 c2,Y Z e2,O ba bl bc]/\wl<=100000/\bl<=100000
theorem G7:Carry Nv 7 where
 size:=by rintro ok w cs x ⟨_,_,_,_,_,_,_,_,_,_,_,_,_,_,_,_,_,rfl,_⟩;rfl
 one:=by rintro ok w cs x ⟨_,_,_,_,_,_,_,_,_,_,_,_,_,_,_,_,_,rfl,_⟩;simp[fV]
 move:=λh _ _=>h
theorem aeI:(aq.info? 105).map (λi=>(i.zero,i.size,i.bytes))=A (A (aF #[O G 0 0,Y Z 0,O G 0 0,O G 0 0,O G 0 0,Y Z 0,O G 0 0]),7,136):=Q2Q
def Nw (w:H) (e:dN) (w':H):Prop:=∃a l c r,e=bG (aL #[O a l c,Y Z r])/\cH Nv 7 (λ_=>True) w' a l (dz l ())/\l<=12/\ay w w w'
theorem Nw.nil {r:Int} (h:e=bG (aL #[O G 0 0,Y Z r])) (hb:ay w w w'):Nw w e w':=⟨_,_,_,_,h,cH.nil _ _ _ _ _,U,hb⟩
def Rz (pa:aC) (pl pc S:Nat) (w6:H) (b3 b5 b6 b8 b9 eO eK ep:Bool) (v55 v57 v58 v60 v61 v62 v14:aj) (w:H):Prop:=
 ay w6 w6 w/\(b3=true->∃a l c,v55=O a l c)/\(b5=true->∃a l c,v57=O a l c/\l<=100000)/\(b6=true->∃a l c a2 l2 c2,v58=aF #[O a l c,Y Z (-7),O a2 l2 c2]/\l2<=100000)/\(b8=true->v60=Y Z (S:Int))/\(b9=true->∃a l c,v61=O a l c/\l<=100000)/\
  (eO=true->∃ma ml mc a l c a2 l2 c2,v62=aF #[O pa pl pc,Y Z (-7),O G 0 0,O ma ml mc,O a l c,Y Z (-7),O a2 l2 c2]/\ml<=100000/\l2<=100000)/\(eK=true->ep=ae->∃x,v14=aP (A ⟨x,0,G⟩)/\w6.heap.size<=x/\w.heap[x]? =A (jq G 0 0 0 G 0 0 G 0 0 G 0 0 0 G 0 0))/\
  (ep=true->∃x ma ml mc a l c a2 l2 c2,v14=aP (A ⟨x,0,G⟩)/\w6.heap.size<=x/\w.heap[x]? =A (jq pa pl pc (-7) G 0 0 ma ml mc a l c (-7) a2 l2 c2)/\ml<=100000/\l2<=100000)/\(ep=true->eK=true)
theorem Rz.alloc {pa:aC} {pl pc S:Nat} {w6:H} {b3 b5 b6 b8 b9 eO eK ep:Bool} {v55 v57 v58 v60 v61 v62 v14:aj} (h:Rz pa pl pc S w6 b3 b5 b6 b8 b9 eO eK ep v55 v57 v58 v60 v61 v62 v14 w) (o:Obj):Rz pa pl pc S w6 b3 b5 b6 b8 b9 eO eK ep v55 v57 v58 v60 v61 v62 v14 (li w o):=by
 obtain⟨g0,g3,g5,g6,g8,g9,g10,g11,g12,g13⟩:=h;refine⟨g0.step (aD w o),g3,g5,g6,g8,g9,g10,λe e2=> ?_,λe=> ?_,g13⟩
 .obtain⟨x,h1,h2,h3⟩:=g11 e e2;exact⟨x,h1,h2,dX h3 _⟩
 .obtain⟨x,ma,ml,mc,a,l,c,a2,l2,c2,h1,h2,h3,h4⟩:=g12 e;exact⟨x,ma,ml,mc,a,l,c,a2,l2,c2,h1,h2,dX h3 _,h4⟩
theorem apu (m:Mod) (ok:Nat->Prop) (xa:aC) (xl xm:Nat) (au:Int) (w:H) (h:cH iM 7 ok w xa xl m.L) (gD:P.Z4 au):aA aq 37 #[aF (m.cells xa xl xm),Y cD au] w (Nw w):=by
 have KB:=V (aE.fg w (ag (m.cells xa xl xm) 25));have SH:=V (YB m ok xa xl xm _ (h.below gL U KB.F.2));have HX:=V (h.bt gL U);obtain⟨f0,f1,f2,f3⟩:=eQ KB.F.1;have HL:=V h.1;have hl:=h.2.1;have iw:=V gD;clear h gD;go_enter func37,ntmps37;go_wp2_with fail;refine SH.I.mono ?_;rintro e w2 ⟨a,l,c,n,r,rfl,hb,hr⟩;have K2:=KB.bU hb;have HR:=V hr;clear hb hr f0 f1 f2 f3 KB SH;obtain⟨f0,f1,f2,f3⟩:=eQ K2.F.1;by_cases jl:r=0
 case neg=>
  have e1:(r != 0)=true:=Q4X;go_wp2_with fail;exact aZ (v:=aL #[O G 0 0,Y Z r]) (by simp[aW,results37]) rfl (Nw.nil rfl K2.F.2)
 subst jl;obtain⟨uZ,DS,iq,iB,oX⟩:=HR.I rfl;obtain⟨-,-,-,-,-,-,BG,BH,mf⟩:=Mod.nT uZ;have BJ:=V mf;rw[HL.I]at BG BH;have lp:=V (iq.bt lX U);have BQ:=V (show l=xl+1 by have:=iq.1;have:=HL.I;omega);have D9:=V oX;have Cj:=V (λw' (hb:ay w2 w2 w')=>HX.I w' (K2.F.2.step hb));have dA:=V K2.F.2;clear uZ iq iB oX mf HX HR;go_wp2_with fail;clear f0 f1 f2 f3 K2;go_loopw [28,9,10,11,12,13,14,15] (λi v9 _ _ _ _ _ _ wr=>∃(k:Nat) (vd:aj) (L:List Unit) (CS:List (Array aj)),k<=xl/\i=Y Z k/\vd=v9/\gy Nv 7 105 w2.heap.size (λ_=>False) wr vd L CS/\L.length<=k/\ay w2 w2 wr) (λi _ _ _ _ _ _ _ _=>xl-(aX i).toNat)
 case atStart=>exact⟨0,_,[],[],cK _,rfl,rfl,gy.nil _ _ _ _ _ _,bu _,eG _ _⟩
 case round=>
  obtain⟨k,vd,L,CS,hk,rfl,rfl,nS,ik,hb⟩:=hrel;have HM:=V nS;have HB:=V hb;have D7:=hb.size;clear nS hb;by_cases aT:k<xl
  case neg=>
   obtain rfl:k=xl:=U;obtain⟨pa,pc,rfl,pJ,iq,-⟩:=HM.I.on G7 U rfl U (ok:=λ_=>True) (λ_ _ _=>trivial) (λ_ _ _=>trivial);have apv:=V iq;have hL:L=dz L.length ():=List.ext_getElem bK (λi h1 h2=>rfl);clear iq;go_wp2_with fail;exact aZ (v:=aL #[O pa L.length pc,Y Z 0]) (by simp[aW,results37]) rfl ⟨_,_,_,_,rfl,hL▸apv.I,U,dA.I.step HB.I⟩
  obtain⟨x,hx⟩:∃x,m.L[k]? =A x:=⟨m.L[k]' Q30,Q2W⟩;obtain⟨b,off,cs,rfl,_,hE,hcs⟩:=(Cj.I _ HB.I).get hx;obtain rfl:cs=x.cells:=hE;have g0:=hcs 0 (Y Z x.aB) rfl;have g1:=hcs 1 (Y Z x.I) rfl;have g2:=hcs 2 (Y Z x.k) rfl;have g3:=hcs 3 (Y Z x.s) rfl;have g4:=hcs 4 (Y Z x.aG) rfl;have g5:=hcs 5 (Y Z x.aJ) rfl;have g6:=hcs 6 (aK x.fz) rfl;simp only[eL]at g0;have gJ:=Mod.yY BJ.I hx;obtain⟨D,hD⟩:∃D,DS[k]? =A D:=⟨DS[k]'(by have:=(lp.I _ HB.I).1;have:=BQ.I;omega),Q2W⟩;obtain⟨ab,ao,cs2,rfl,_,⟨da,dl,dc,rfl,hdr⟩,EF⟩:=(lp.I _ HB.I).get hD;have hdd:=D9.I D (List.mem_of_getElem? hD);have jU:=hdr.1.bA;have kU:wr ⟨ab,ao+k,G⟩=A (O da dl dc):=Q4e;have gN:=aD wr (bQ x.aB x.I x.k x.s x.aG x.aJ x.fz);have HS:=V (show(li wr (bQ x.aB x.I x.k x.s x.aG x.aJ x.fz)).heap[wr.heap.size]? =A (bQ x.aB x.I x.k x.s x.aG x.aJ x.fz)/\(li wr (bQ x.aB x.I x.k x.s x.aG x.aJ x.fz)) ⟨ab,ao+k,G⟩=A (O da dl dc)from⟨bZ wr _,gN.cell_of kU⟩);have DM:=V (λw' hb=>aeG x _ D da dl dc w' gJ ((hdr.1.below gN).below hb) U);have pK:=V (HB.I.step gN);have PX:=V (HM.I.Nt G7 _ gN);have i2:(k:Int)<(l:Int):=E BQ.I;have i2n:k<l:=E BQ.I;obtain⟨xo,m7⟩:=J wr.heap.size;rw[m7]at HS;clear hx hD gJ hcs EF hdr kU gN HM HB;go_upto_region 8 with fail;try rw[m7]
  clear g0 g1 g2 g3 g4 g5 g6 m7;generalize li wr (bQ x.aB x.I x.k x.s x.aG x.aJ x.fz)=w5 at*;refine cS (λw':H=>w'.heap[xo]? =A (bQ x.aB x.I x.k x.s x.aG x.aJ x.fz)/\w' ⟨ab,ao+k,G⟩=A (O da dl dc)) ?_;have hS:w5.drew.heap[xo]? =A (bQ x.aB x.I x.k x.s x.aG x.aJ x.fz)/\w5.drew ⟨ab,ao+k,G⟩=A (O da dl dc):=HS.I;refine bR hS [0,1,2,3,4] (λ_ h=>aw (bE h.1) (aw h.1 h.2)) (bL 5 λK hK=> ?_);go_simp;refine(DM.I _ (below_drewN w5 1)).mono ?_;rintro e' w6 ⟨pa,pl,pc,W,q,rfl,hr,pJ,qA,hq,hb⟩;have cO:=(below_drewN w5 1).step hb;have HW:=V hr;have eW:=V (pK.I.step cO);have Cx:=V (PX.I.Nt G7 _ cO);have py:=aw (bV HS.I.1 cO) (cO.cell_of HS.I.2);clear hr qA hb cO hS HS DM pK PX;refine bB hK py ?_;clear hK K;refine cQ py [6,7,8,9,10] (bW ?_);clear py;have m9:=eW.I.size;have kg:=V (show w6.ownsRow w2.heap.size 105 7 vd L.length (CS.flatMap jf)from Cx.I.2.2);obtain⟨i0,hi,cF,cG,cB⟩:=fB aeI;by_cases kN:pl=0
  .subst kN;have BK:=V (show Nv (qt (λ_=>False) vd) w6 #[O G 0 0,Y Z 0,O G 0 0,O G 0 0,O G 0 0,Y Z 0,O G 0 0] ()from⟨_,_,_,_,_,_,_,_,_,_,_,_,_,_,_,_,_,rfl,U,U⟩);go_wp2_with (at_builtin;refine ko _ rfl _ _ 46 rfl w2.heap.size 105 i0 (aF #[O G 0 0,Y Z 0,O G 0 0,O G 0 0,O G 0 0,Y Z 0,O G 0 0]) 7 136 underlying46 hi cF cG cB rfl eM vd L.length (CS.flatMap jf) rfl (kg.I.alloc _) ⟨w6,0,G⟩ 1 1 [O G 0 0,Y Z 0,O G 0 0,O G 0 0,O G 0 0,Y Z 0,O G 0 0] rfl rfl ?c1 ?c2 ?c3 ?c4 ?c5 ?c6 ?_)
   try(case c1=>exact xy w6 #[O G 0 0,Y Z 0,O G 0 0,O G 0 0,O G 0 0,Y Z 0,O G 0 0] _)
   try(case c2=>simp[fV])
   try(case c3=>unfold eS;omega)
   try(case c4=>omega)
   try(case c5=>(try simp only[bF]);omega)
   try(case c6=>omega)
   intro g1 c1 w7 cC bM cN ei fC;have uD:=V (gy.app G7 Cx.I BK.I (n:=L.length+1) rfl cC bM Q3B);have kP:=V (Below.gh eW.I (App.slot (B:=w2) m9 (λb h=>(kg.I.lt b h).1) bM (λ_=>False)) (λb h=>⟨h,id⟩));clear cC bM cN Cx kg BK;go_wp2_with fail;exact⟨⟨k+1,_,_,_,U,Q2T,rfl,uD.I,Q2R,kP.I⟩,by simp[aX];omega⟩
  have e9:((pl:Int)==0)=ae:=Q2R;have MD:=V (Ns pa pl pc W w6 HW.I);generalize gN:decide (0<Sh.size W)=bb at*;go_wp2_with fail;refine cq MD.I ?_
  cases bb
  .go_wp2_with fail;exact aZ (v:=aL #[O G 0 0,Y Z 1]) (by simp[aW,results37]) rfl (Nw.nil rfl (dA.I.step eW.I))
  have SZ:=V (λw' hb=>Ry pa pl pc W w' (HW.I.below hb));have dQ:=Sh.iA (eZ gN);go_upto_region 13 with fail;refine cS (λ_:H=>True) ?_;refine cQ trivial [0,2,4,7,1] ?_;obtain⟨Qn,rfl⟩:=Int.eq_ofNat_of_zero_le hq.1;obtain⟨S,hS⟩:∃S:Nat,Sh.size W=S:=⟨(Sh.size W).toNat,by have:=eZ gN;omega⟩;have bX:S<=100000:=by have:=dQ.eq;have:=dQ.le;omega
  have hQ2:Qn<=100000:=U;rw[hS]at SZ;have vX:=V Cx.I;have apw:=λw:H=>run_make_row' (P:=aq) 52 106 (Y aO 0) 1 underlying52 tA rfl Z Z Qn U U w;have apx:=λw:H=>run_make_row' (P:=aq) 103 21 (Y cr 0) 4 underlying103 Dq rfl Z Z S U U w;clear gN dQ hS MD kg i0 hi cF cG cB hq;refine Lt.apn _ (Rz pa pl pc S w6) (by decide+kernel) ?h3 ?h5 ?h6 ?h8 ?h9 ?h10 ?h11 ?h12 ?he u55 u57 u58 u60 u61 u62 u14 _ (by simp only[Lt.fr,eR,dC,dD,dE]) ?hg
  case hg=>exact⟨below_drewN w6 1,nofun,nofun,nofun,nofun,nofun,nofun,nofun,nofun,nofun⟩
  case h3=>
   intro b5 b6 b8 b9 eO eK ep v55 v57 v58 v60 v61 v62 v14 wq h;have HG:=V h;clear h;refine Lt.step rfl (λK hK=> ?_);simp only[Lt.fr,eR,dC,dD,dE];go_simp;obtain⟨g0,g3,g5,g6,g8,g9,g10,g11,g12,g13⟩:=HG.I.alloc (ag #[Y Z (Qn:Int)] 3);refine hK.I _ _ ⟨(O wq 1 1),v57,v58,v60,v61,v62,v14,?_,g0,λ_=>⟨_,_,_,rfl⟩,g5,g6,g8,g9,g10,g11,g12,g13⟩;exact Q1k
  case h5=>
   intro b3 b6 b8 b9 eO eK ep v55 v57 v58 v60 v61 v62 v14 wq h;have HG:=V h;clear h;refine Lt.step rfl (λK hK=> ?_);simp only[Lt.fr,eR,dC,dD,dE];go_simp;obtain⟨g0,g3,g5,g6,g8,g9,g10,g11,g12,g13⟩:=HG.I.alloc (ag (madeCells #[Y aO 0] Qn) 106);refine hK.I _ _ ⟨v55,(O wq Qn Qn),v58,v60,v61,v62,v14,?_,g0,g3,λ_=>⟨_,_,_,rfl,hQ2⟩,g6,g8,g9,g10,g11,g12,g13⟩;exact Q1k
  case h6=>
   intro b8 b9 eO eK ep v55 v57 v58 v60 v61 v62 v14 wq h;have HG:=V h;clear h;obtain⟨a5,l5,c5,rfl⟩:=HG.I.2.1 rfl;obtain⟨a7,l7,c7,rfl,h7⟩:=HG.I.2.2.1 rfl;refine Lt.step rfl (λK hK=> ?_);simp only[Lt.fr,eR,dC,dD,dE];go_simp;obtain⟨g0,g3,g5,g6,g8,g9,g10,g11,g12,g13⟩:=HG.I;refine hK.I _ _ ⟨O a5 l5 c5,O a7 l7 c7,aF #[O a5 l5 c5,Y Z (-7),O a7 l7 c7],v60,v61,v62,v14,?_,g0,g3,g5,λ_=>⟨_,_,_,_,_,_,rfl,h7⟩,g8,g9,g10,g11,g12,g13⟩;exact Q1k
  case h8=>
   intro b3 b5 b6 b9 eO eK ep v55 v57 v58 v60 v61 v62 v14 wq h;have HG:=V h;clear h;refine Lt.step rfl (λK hK=> ?_);simp only[Lt.fr,eR,dC,dD,dE];go_simp;refine cq (SZ.I _ HG.I.1) ?_;obtain⟨g0,g3,g5,g6,g8,g9,g10,g11,g12,g13⟩:=HG.I;refine hK.I _ _ ⟨v55,v57,v58,Y Z (S:Int),v61,v62,v14,?_,g0,g3,g5,g6,λ_=>rfl,g9,g10,g11,g12,g13⟩;exact Q1k
  case h9=>
   intro b3 b5 b6 eO eK ep v55 v57 v58 v60 v61 v62 v14 wq h;have HG:=V h;clear h;obtain rfl:=HG.I.2.2.2.2.1 rfl;refine Lt.step rfl (λK hK=> ?_);simp only[Lt.fr,eR,dC,dD,dE];go_simp;obtain⟨g0,g3,g5,g6,g8,g9,g10,g11,g12,g13⟩:=HG.I.alloc (ag (madeCells #[Y cr 0] S) 21);refine hK.I _ _ ⟨v55,v57,v58,Y Z (S:Int),(O wq S S),v62,v14,?_,g0,g3,g5,g6,g8,λ_=>⟨_,_,_,rfl,bX⟩,g10,g11,g12,g13⟩;exact Q1k
  case h10=>
   intro b3 b5 b8 eK ep v55 v57 v58 v60 v61 v62 v14 wq h;have HG:=V h;clear h;obtain⟨a5,l5,c5,a7,l7,c7,rfl,h7⟩:=HG.I.2.2.2.1 rfl;obtain⟨a6,l6,c6,rfl,h6⟩:=HG.I.2.2.2.2.2.1 rfl;refine Lt.step rfl (λK hK=> ?_);simp only[Lt.fr,eR,dC,dD,dE];go_simp;obtain⟨g0,g3,g5,g6,g8,g9,g10,g11,g12,g13⟩:=HG.I;refine hK.I _ _ ⟨v55,v57,aF #[O a5 l5 c5,Y Z (-7),O a7 l7 c7],v60,O a6 l6 c6,aF #[O pa pl pc,Y Z (-7),O G 0 0,O a6 l6 c6,O a5 l5 c5,Y Z (-7),O a7 l7 c7],v14,?_,g0,g3,g5,g6,g8,g9,λ_=>⟨_,_,_,_,_,_,_,_,_,rfl,h6,h7⟩,g11,g12,g13⟩;exact Q1k
  case h11=>
   intro b3 b5 b6 b8 b9 eO ep v55 v57 v58 v60 v61 v62 v14 wq h;have HG:=V h;clear h;refine Lt.step rfl (λK hK=> ?_);simp only[Lt.fr,eR,dC,dD,dE];go_simp;obtain⟨g0,g3,g5,g6,g8,g9,g10,g11,g12,g13⟩:=HG.I.alloc (jq G 0 0 0 G 0 0 G 0 0 G 0 0 0 G 0 0);refine hK.I _ _ ⟨v55,v57,v58,v60,v61,v62,aP wq,?_,g0,g3,g5,g6,g8,g9,g10,λ_ _=>⟨_,rfl,HG.I.1.size,bZ wq _⟩,λe=>absurd (g13 e) bK,λ_=>rfl⟩;exact Q1k
  case h12=>
   intro v55 v57 v58 v60 v61 v62 v14 wq h;have HG:=V h;clear h;obtain⟨ma,ml,mc,a5,l5,c5,a7,l7,c7,rfl,h6,h7⟩:=HG.I.2.2.2.2.2.2.1 rfl;obtain⟨x0,rfl,uC,je⟩:=HG.I.2.2.2.2.2.2.2.1 rfl rfl;obtain⟨f0,f1,f2,f3,f4,f5,f6⟩:=bE je;have z0:=λj=>cE je j;refine Lt.step rfl (λK hK=> ?_);simp only[Lt.fr,eR,dC,dD,dE];go_simp;obtain⟨g0,g3,g5,g6,g8,g9,g10,g11,g12,g13⟩:=HG.I;have fE:=FC (y0:=O pa pl pc) (y1:=Y Z (-7)) (y2:=O G 0 0) (y3:=O ma ml mc) (y4:=O a5 l5 c5) (y5:=Y Z (-7)) (y6:=O a7 l7 c7) je;have rT:=(ar.cP w6 (λ_=>False) wq).vS (bJ uC) (O pa pl pc) (Y Z (-7)) (O G 0 0) (O ma ml mc) (O a5 l5 c5) (Y Z (-7)) (O a7 l7 c7);have dR:=Below.gh g0 rT (λb h=>⟨h,id⟩);refine hK.I _ _ ⟨v55,v57,v58,v60,v61,_,aP x0,?_,dR,g3,g5,g6,g8,g9,g10,λ_ h=>Bool.noConfusion h,λ_=>⟨x0,_,_,_,_,_,_,_,_,_,rfl,uC,fE,h6,h7⟩,λ_=>rfl⟩;exact Q1k
  case he=>
   intro v55 v57 v58 v60 v61 v62 v14 wq h;obtain⟨dR,-,-,-,-,-,-,-,g12,-⟩:=h;obtain⟨x0,ma,ml,mc,a5,l5,c5,a7,l7,c7,rfl,uC,je,h6,h7⟩:=g12 rfl;have HBq:=V (eW.I.step dR);have HMq:=V (vX.I.Nt G7 _ dR);have qQ:=V je;have atk:=bH je;have hxw:w2.heap.size<=x0:=eH m9 uC;obtain⟨f0,f1,f2,f3,f4,f5,f6⟩:=bE je;have HVx:=V (λb e=>(Cx.I.2.2.lt b e).2);clear dR g12 je eW vX Cx SZ apw apx;simp only[Lt.fr,eR,dC,dD,dE];go_wp2_with fail;clear f0 f1 f2 f3 f4 f5 f6;obtain⟨C,hC⟩:=J wq.heap.size;have HC:=V hC;have FK:x0<C:=U;clear hC;have u1:Z.wrap ((k:Int)+1)=(k:Int)+1:=dv _ U;have u2:cD.wrap ((k:Int)+1)=(k:Int)+1:=Q36;go_loopw [66,15] (λi _ wx=>∃(j:Nat) (vz:aj) (xs:List aj),j<=ml/\i=Y Z j/\wx.heap[x0]? =A (ag #[O pa pl pc,Y Z (-7),vz,O ma ml mc,O a5 l5 c5,Y Z (-7),O a7 l7 c7] 105 (0,0))/\wx.ownsRow C 106 1 vz j xs/\ar C (λb=>b=x0) wq wx) (λi _ _=>ml-(aX i).toNat)
   case atStart=>exact⟨0,_,[],cK _,rfl,qQ.I,gP _ _ _ _,ar.cP _ _ _⟩
   case round=>
    obtain⟨j,vz,xs,hj,rfl,hx,aV,fH⟩:=hrel;have FM:C<=wr:=Q3v;have HX:=V hx;have yX:=V fH;have iR:=V aV;clear hx fH aV;by_cases gS:j<ml
    .have RB:=V (λw'=>apr au ((k:Int)+1) (j:Int) w' iw.I ⟨U,U⟩ ⟨U,U⟩);have u3:cD.wrap (j:Int)=(j:Int):=Q36;have i3:(j:Int)<(ml:Int):=U;go_upto_region 17 with fail;refine Lt.begins (λw':H=>w'.heap[x0]? =A (ag #[O pa pl pc,Y Z (-7),vz,O ma ml mc,O a5 l5 c5,Y Z (-7),O a7 l7 c7] 105 (0,0))) (λq=>q==16) kr ?_;have hS:wr.drew.heap[x0]? =A (ag #[O pa pl pc,Y Z (-7),vz,O ma ml mc,O a5 l5 c5,Y Z (-7),O a7 l7 c7] 105 (0,0)):=HX.I;refine bR hS [0,3,4,7,1,5,8,2,6] (λ_ h=>bE h) (bL 9 λK hK=> ?_);go_simp;refine(RB.I _).mono ?_;rintro e' w' ⟨⟨z,rfl⟩,rfl⟩;obtain⟨z1,atl⟩:∃y,Z.wrap (z-31)=y:=⟨_,rfl⟩;obtain⟨z2,apy⟩:∃y,aO.wrap z1=y:=⟨_,rfl⟩;refine bB hK hS ?_;clear hK K;refine cQ hS [10,11] (bL 12 λK hK=> ?_);go_simp;have Fn:=dX hS (ag #[Y aO z2] 106);refine bB hK Fn ?_;clear hK K;obtain⟨i0,hi,cF,cG,cB⟩:=fB tA;refine bL 13 λK hK=> ?_;refine lM _ cJ _ _ _ cJ C 106 i0 _ 1 1 underlying52 hi cF cG cB rfl U vz j xs cJ (iR.I.drew.alloc _) ⟨wr,0,G⟩ 1 1 [Y aO z2] cJ cJ (kJ wr.drew _ _) Q35 U Q2V U Q2R _ rfl ?_;intro g1 fh w7 cC bM cN ei;have dh:=λb (h:vz.ownBlock=A b)=>(iR.I.lt b h).1;have iD:=gI bM (dX hS _) (λh=>E (dh _ h));have yH:C<=g1:=by
      exact Q2P
     obtain⟨f1,f2,f3,f4⟩:=App.field 2 hS FK (show C<=wr.drew.heap.size from FM) dh cC bM yH;simp only[dC,dD,dE]at f1;have HF:=V (aw f1 (aw f2 ((yX.I.bI 1).trans' f3 (bu _))));obtain⟨r0,r1,r2,r3,r4,r5,r6⟩:=bE iD;have zz:=cE iD 2;clear Fn cC bM cN ei dh f1 f2 f3 f4;refine bB hK iD ?_;clear hK K;refine cQ iD [14,15] (bL 16 λK hK=> ?_);go_simp;refine jg hK ?_;clear hK K;refine bW ?_;clear iD hS r0 r1 r2 r3 r4 r5 r6 zz;generalize ss w7 ⟨x0,2,G⟩ (O g1 (j+1) fh)=w8 at*;exact Q1F
    .obtain rfl:j=ml:=U;obtain⟨ba,bc,rfl⟩:∃a c,vz=O a j c:=by
      rcases iR.I.2 with⟨h,h2⟩|⟨g,c,cur,h,_⟩
      .exact⟨_,_,by rw[h,h2]⟩
      .exact⟨_,_,h⟩
     have ej:ay w2 w2 wr:=Below.gh HBq.I yX.I (λb h=>⟨by have:=HBq.I.size;have h1:C=wq.heap.size:=HC.I.symm;omega,U⟩);have uJ:=V ej;have YC:=V (HMq.I.move G7 (P':=λ_=>False) yX.I (λb e=>⟨by have:=(HMq.I.2.2.lt b e).2;have h1:wq.heap.size=C:=HC.I;omega,λe2=>by
      have h3:b<w6:=HVx.I b e;have e2:b=x0:=e2;omega⟩) (λb hb _ h=>h.elim))
     have YD:=V (show wr.ownsRow w2.heap.size 105 7 vd L.length (CS.flatMap jf)from YC.I.2.2);have BK:=V (show Nv (qt (λ_=>False) vd) wr #[O pa pl pc,Y Z (-7),O ba j bc,O ma j mc,O a5 l5 c5,Y Z (-7),O a7 l7 c7] ()from⟨_,_,_,_,_,_,_,_,_,_,_,_,_,_,_,_,_,rfl,U,h7⟩);have PF:=ej.size;obtain⟨f0,f1,f2,f3,f4,f5,f6⟩:=bE HX.I;obtain⟨i0,hi,cF,cG,cB⟩:=fB aeI;go_wp2_with (at_builtin;refine ko _ rfl _ _ 46 rfl w2.heap.size 105 i0 (aF #[O G 0 0,Y Z 0,O G 0 0,O G 0 0,O G 0 0,Y Z 0,O G 0 0]) 7 136 underlying46 hi cF cG cB rfl eM vd L.length (CS.flatMap jf) rfl (YD.I.alloc _) ⟨wr,0,G⟩ 1 1 [O pa pl pc,Y Z (-7),O ba j bc,O ma j mc,O a5 l5 c5,Y Z (-7),O a7 l7 c7] rfl rfl ?c1 ?c2 ?c3 ?c4 ?c5 ?c6 ?_)
     try(case c1=>exact xy wr #[O pa pl pc,Y Z (-7),O ba j bc,O ma j mc,O a5 l5 c5,Y Z (-7),O a7 l7 c7] _)
     try(case c2=>simp[fV])
     try(case c3=>unfold eS;omega)
     try(case c4=>omega)
     try(case c5=>(try simp only[bF]);omega)
     try(case c6=>omega)
     intro g1 c1 w7 cC bM cN ei fC;have uD:=V (gy.app G7 YC.I BK.I (n:=L.length+1) rfl cC bM Q3B);have kP:=V (Below.gh uJ.I (App.slot (B:=w2) PF (λb h=>(YD.I.lt b h).1) bM (λ_=>False)) (λb h=>⟨h,id⟩));clear cC bM cN YC YD BK f0 f1 f2 f3 f4 f5 f6;go_wp2_with fail;first
      |exact⟨⟨k+1,_,_,_,U,Q2T,rfl,uD.I,Q2R,kP.I⟩,by simp[aX];omega⟩
      |(go_roundw
        case rel=>exact⟨k+1,_,_,_,U,Q2T,rfl,uD.I,Q2R,kP.I⟩
        case measure=>simp[aX];omega)
def YE (w:H) (e:dN) (w':H):Prop:=∃a l c a2 l2 c2 x a3 l3 c3 r,e=bG (aL #[O a l c,aF #[O a2 l2 c2,Y Z x,O a3 l3 c3],Y Z r])/\ay w w w'
theorem JM {g:Nat} {x0 x1 x2 x3 x4 x5 x6 x7 x8:aj} {T:dy} (h:w.heap[g]? =A (ag #[x0,x1,x2,x3,x4,x5,x6,x7,x8] T (0,0))):
 w g=A x0/\w ⟨g,1,G⟩=A x1/\w ⟨g,2,G⟩=A x2/\w ⟨g,3,G⟩=A x3/\w ⟨g,4,G⟩=A x4/\w ⟨g,5,G⟩=A x5/\w ⟨g,6,G⟩=A x6/\w ⟨g,7,G⟩=A x7/\w ⟨g,8,G⟩=A x8:=
 ⟨bh h 0 rfl,bh h 1 rfl,bh h 2 rfl,bh h 3 rfl,bh h 4 rfl,bh h 5 rfl,bh h 6 rfl,bh h 7 rfl,bh h 8 rfl⟩
theorem Sh.size_le (d:ah):0<=Sh.size d/\Sh.size d<=8192:=by
 by_cases h:0<Sh.size d
 .have h2:=Sh.iA h;have:=h2.le;have:=h2.eq;omega
 .rw[Sh.Sj h];omega
theorem apz (m:Mod) (ok:Nat->Prop) (xa:aC) (xl xm:Nat) (w:H) (h:cH iM 7 ok w xa xl m.L):aA aq 11 #[aF #[Y Z m.a,Y Z m.b,Y Z m.c,O xa xl xm,Y cD 0,O G 0 0,Y Z 0,O G 0 0,Y Z 0]] w (YE w):=by
 have KB:=V (aE.fG w (ag #[Y Z m.a,Y Z m.b,Y Z m.c,O xa xl xm,Y cD 0,O G 0 0,Y Z 0,O G 0 0,Y Z 0] 61) (bj G 0 0 0 G 0 0));have SH:=V (YB m ok xa xl xm _ (h.below gL U KB.F.2.2));have HX:=V (h.bt gL U);obtain⟨f0,f1,f2,f3,f4,f5,f6,f7,f8⟩:=JM KB.F.1;have HL:=V h.1;have hl:=h.2.1;clear h;go_enter func11,ntmps11
 let pq:=gW aq Tryz.f11 (λ_ _=>True)
 generalize dS:gW aq Tryz.f11 (YE w)=BP;have dB:=V dS;have jM:=oz dS;clear dS;go_wp2_with fail;refine SH.I.mono ?_;rintro e w2 ⟨a,l,c,n,r,rfl,hb,hr⟩;have K2:=KB.bU hb;have HR:=V hr;clear hb hr f0 f1 f2 f3 f4 f5 f6 f7 f8 KB SH;have y0:=aY K2.F.2.1;have END:=V (λw' (hb:ay w2 w2 w') a l c r=>(⟨a,l,c,_,_,_,_,_,_,_,r,rfl,cL (K2.F.2.2.step hb) (nH _) _ _ _⟩:YE w (bG (aL #[O a l c,aF #[O G 0 0,Y Z 0,O G 0 0],Y Z r])) (ss (ss (ss w' ⟨w+1,0,G⟩ (O G 0 0)) ⟨w+1,1,G⟩ (Y Z 0)) ⟨w+1,2,G⟩ (O G 0 0))));by_cases jl:r=0
 case neg=>
  have e1:(r != 0)=true:=Q4X;go_wp2_with fail;rw[<-dB.I];refine aZ (v:=aL #[O G 0 0,aF #[O G 0 0,Y Z 0,O G 0 0],Y Z r]) ?_ rfl (END.I _ (eG _ _) _ _ _ _);simp[aW,results11,go_sem,cT K2.F.2.1]
 subst jl;obtain⟨uZ,DS,iq,iB,oX⟩:=HR.I rfl;obtain⟨Vi,Vj,Vk,Vl,Vm,Vn,BG,BH,mf⟩:=Mod.nT uZ;rw[HL.I]at BG BH;have lp:=V (iq.bt lX U);have ik:l=xl+1:=by have:=iq.1;have:=HL.I;omega
 have Cj:=V (λw' (hb:ay w2 w2 w')=>HX.I w' (K2.F.2.2.step hb));have Vz:=V (λ(i:Nat) (h1:1<=i) (h2:i<=xl) w' (hb:ay w2 w2 w')=>aps m ok xa xl xm i w' (Cj.I w' hb) h1 h2);clear uZ iq iB oX mf HX HR y0;go_wp2_with fail;go_loopw [35,8,9,10,11,12,13] (λi s8 _ _ _ _ _ wr=>∃(k:Nat) (sz:Nat),k<=l/\i=Y Z k/\s8=Y Z sz/\sz<=k*20000/\ay w2 w2 wr) (λi _ _ _ _ _ _ _=>l-(aX i).toNat)
 case atStart=>exact⟨0,0,cK _,rfl,rfl,bu _,eG _ _⟩
 case round=>
  as_aux_lemma=>
  obtain⟨k,sz,hk,rfl,rfl,dQ,hb⟩:=hrel;have HB:=V hb;have D7:=hb.size;clear hb;by_cases aT:k<l
  case neg=>
   obtain rfl:k=l:=U;obtain⟨f0,f1,f2,f3,f4,f5,f6,f7,f8⟩:=JM (bV K2.F.1 HB.I);have y0:=aY (bV K2.F.2.1 HB.I);have RI:=V (apu m ok xa xl xm 0 wr (Cj.I wr HB.I) ⟨U,U⟩);by_cases h7:(700:Int)<(sz:Int)
   .go_wp2_with fail;rw[<-dB.I];refine aZ (v:=aL #[O G 0 0,aF #[O G 0 0,Y Z 0,O G 0 0],Y Z 10]) ?_ rfl (END.I _ HB.I _ _ _ _);simp[aW,results11,go_sem,cT (bV K2.F.2.1 HB.I)]
   go_wp2_with fail;refine RI.I.mono ?_;rintro e' w5 ⟨pa,pl,pc,r,rfl,iq,kN,hb⟩;have dO:=V (HB.I.step hb);have HP:=V iq;clear f0 f1 f2 f3 f4 f5 f6 f7 f8 y0 hb iq RI;obtain⟨f0,f1,f2,f3,f4,f5,f6,f7,f8⟩:=JM (bV K2.F.1 dO.I);by_cases gZ:r=0
   case neg=>
    have e1:(r != 0)=true:=by simpa using gZ
    have y0:=aY (bV K2.F.2.1 dO.I);go_wp2_with fail;rw[<-dB.I];refine aZ (v:=aL #[O G 0 0,aF #[O G 0 0,Y Z 0,O G 0 0],Y Z r]) ?_ rfl (END.I _ dO.I _ _ _ _);simp[aW,results11,go_sem,cT (bV K2.F.2.1 dO.I)]
   subst gZ;go_wp2_with fail;clear f0 f1 f2 f3 f4 f5 f6 f7 f8;go_loopw [101,15,16,17,18] (λi Nx _ _ _ wr=>∃(k kk:Nat),k<=pl/\i=Y Z k/\Nx=Y Z kk/\kk<=k*200000/\w5=wr) (λi _ _ _ _ _=>pl-(aX i).toNat)
   case atStart=>exact⟨0,0,cK _,rfl,rfl,bu _,rfl⟩
   case round=>
    as_aux_lemma=>
    obtain⟨k,kk,hk,rfl,rfl,fH,rfl⟩:=hrel;by_cases aT:k<pl
    case neg=>
     obtain rfl:k=pl:=U;obtain⟨f0,f1,f2,f3,f4,f5,f6,f7,f8⟩:=JM (bV K2.F.1 dO.I);have f9:=(aD w5 (mr 1 m.a m.b m.c)).cell_of f8;have gU:=V (show ai Z (li w5 (mr 1 m.a m.b m.c)) w5 4 [1,m.a,m.b,m.c]from ai.new w5 Z 3 (0,0) [1,m.a,m.b,m.c] (λz hz=>by
      simp only[jy,mj,or_false]at hz;rcases hz with rfl|rfl|rfl|rfl<;>exact gF U U) bK)
     have cO:=(aD w5 (mr 1 m.a m.b m.c)).step (aD _ (bj w5 4 4 0 G 0 0));have eW:=V (dO.I.step cO);have je:=bZ (li w5 (mr 1 m.a m.b m.c)) (bj w5 4 4 0 G 0 0);rw[bF]at je;have qQ:=V je;have oD:=V (gU.I.below (aD _ (bj w5 4 4 0 G 0 0)));clear cO je gU;go_upto_region 41 with fail;clear f0 f1 f2 f3 f4 f5 f6 f7 f8 f9;obtain⟨xb,je⟩:∃u,w5.heap.size+1=u:=⟨_,rfl⟩;have atn:=dO.I.size;have mI:=bH K2.F.2.1;try rw[je]
     rw[je]at qQ;generalize li (li w5 (mr 1 m.a m.b m.c)) (bj w5 4 4 0 G 0 0)=w6 at*;have fP:=bH qQ.I;have SZ6:=V (Ry w5 4 4 [1,m.a,m.b,m.c] w6 oD.I);have YF:=Sh.size_le [1,m.a,m.b,m.c];obtain⟨S,hS⟩:∃S:Nat,Sh.size [1,m.a,m.b,m.c]=S:=⟨(Sh.size [1,m.a,m.b,m.c]).toNat,U⟩;rw[hS]at SZ6 YF;have aeJ:=V (bV K2.F.1 eW.I);have A5:=bH aeJ.I;obtain⟨f0,f1,f2,-⟩:=aY qQ.I;clear hS;go_wp2_with fail;refine cq SZ6.I ?_;go_wp2_with fail;clear f0 f1 f2;obtain⟨C,hC⟩:=J w6.heap.size;have HC:=V hC;have FK:xb<C:=U;have hnC:w.heap.size<C:=U;clear hC;go_loopw [209,20,21] (λi _ _ wx=>∃(j:Nat) (vz:aj) (xs:List aj),j<=S/\i=Y Z j/\wx.heap[xb]? =A (ag #[O w5 4 4,Y Z 0,vz] 57 (0,0))/\wx.ownsRow C 106 1 vz j xs/\ar C (λb=>b=xb) w6 wx) (λi _ _ _=>S-(aX i).toNat)
     case atStart=>exact⟨0,_,[],cK _,rfl,qQ.I,gP _ _ _ _,ar.cP _ _ _⟩
     case round=>
      as_aux_lemma=>
      obtain⟨j,vz,xs,hj,rfl,hx,aV,fH⟩:=hrel;have FM:C<=wr:=Q3v;have zB:=fH.bC (g:=w) hnC U aeJ.I;have f7:=bh zB 7 (v:=O G 0 0) rfl;by_cases gS:j<S
      .have HX:=V hx;have yX:=V fH;have iR:=V aV;obtain⟨q0,q1,q2,-⟩:=aY HX.I;have i3:(j:Int)<(S:Int):=U;have hjn:¬(j:Int)<0:=U;clear hx fH aV zB;obtain⟨z2,apy⟩:∃y,aO.wrap ((j:Int)*7%90)=y:=⟨_,rfl⟩;go_upto_region 47 with fail;clear f7;obtain⟨i0,hi,cF,cG,cB⟩:=fB tA;go_wp2_with (at_builtin;refine ko _ rfl _ _ 52 rfl C 106 i0 (Y aO 0) 1 1 underlying52 hi cF cG cB rfl eM vz j xs rfl (iR.I.alloc _) ⟨wr,0,G⟩ 1 1 [Y aO z2] rfl rfl ?c1 ?c2 ?c3 ?c4 ?c5 ?c6 ?_)
       try(case c1=>exact kJ wr _ _)
       try(case c2=>simp[fV])
       try(case c3=>unfold eS;omega)
       try(case c4=>omega)
       try(case c5=>(try simp only[bF]);omega)
       try(case c6=>omega)
       intro g1 c1 w7 cC bM cN ei fC;have dh:=λb (h:vz.ownBlock=A b)=>(iR.I.lt b h).1;have iD:=gI bM (dX HX.I _) (λh=>E (dh _ h));obtain⟨YG,g2',g3',g4'⟩:=App.field 2 HX.I FK FM dh cC bM ei;simp only[dC,dD,dE]at YG;have HF:=V (aw YG (aw g2' (yX.I.trans' g3' (bu _))));obtain⟨r0,r1,r2,-,-,zz⟩:=aY iD;clear cC bM cN ei fC dh iD YG g2' g3' g4' q0 q1 q2;exact Q1F
      .obtain rfl:j=S:=U;obtain⟨va,vc,rfl⟩:∃a c,vz=O a j c:=by
        rcases aV.2 with⟨h,h2⟩|⟨g,c,cur,h,_⟩
        .exact⟨_,_,by rw[h,h2]⟩
        .exact⟨_,_,h⟩
       have sO:=fH.bC (g:=w+1) U U (bV K2.F.2.1 eW.I);have cW:ay w w wr:=Below.gh (K2.F.2.2.step eW.I) fH (λb h=>⟨U,U⟩);have HW:=V cW;have HX:=V hx;have HT:=V sO;clear hx aV fH zB f7 cW sO;go_upto_region 49 with fail;refine cS (λw':H=>w'.heap[xb]? =A (bj w5 4 4 0 va j vc)) ?_;have hS:wr.drew.heap[xb]? =A (bj w5 4 4 0 va j vc):=HX.I;have hT:wr.drew.heap[w.heap.size+1]? =A (bj G 0 0 0 G 0 0):=HT.I;have hWd:ay w w wr.drew:=HW.I.step (below_drewN wr 1);have mI:(wr.drew).heap.size=wr.heap.size:=rfl;generalize wr.drew=w8 at*;refine bR hS [0,1,2] (λ_ h=>aY h) ?_;have r0:=aY hT;refine bL 3 λK hK=> ?_;go_simp;have bX:=((ar.cP w8 (λb=>b=w.heap.size+1) w8).eJ (g:=w+1) (aM rfl) (O w5 4 4) (Y Z 0) (O va j vc)).bC (bH hS) U hS;have ht:=oV (a:=O w5 4 4) (b:=Y Z 0) (c:=(O va j vc)) hT;have hE:=cL (r:=w+1) hWd (nH _) (O w5 4 4) (Y Z 0) (O va j vc);clear r0 hT hWd;generalize ss (ss (ss w8 ⟨w+1,0,G⟩ (O w5 4 4)) ⟨w+1,1,G⟩ (Y Z 0)) ⟨w+1,2,G⟩ (O va j vc)=w9 at*;have JJ:=V ht;have Lv:=V hE;clear ht hE;refine bB hK bX ?_;refine cQ bX [4] (bW ?_);clear bX;obtain⟨r0,r1,r2,-⟩:=aY JJ.I;go_wp2_with fail;rw[<-dB.I];refine aZ (v:=aL #[O pa k pc,aF #[O w5 4 4,Y Z 0,O va j vc],Y Z 0]) ?_ rfl ⟨_,_,_,_,_,_,_,_,_,_,_,rfl,Lv.I⟩;simp[aW,results11,go_sem,r0,r1,r2]
    have hL:(dz pl ())[k]? =A ():=by rw[List.getElem?_replicate,aR aT]
    obtain⟨pb,po,cs,rfl,_,⟨q1,q2,q3,q4,wa,wl,wc,q5,q6,q7,q8,q9,q10,q11,ba,bl,bc,rfl,mI,vJ⟩,hcs⟩:=HP.I.get hL;have g2:=hcs 2 (O wa wl wc) rfl;have g6:=hcs 6 (O ba bl bc) rfl;have f5:=bh (bV K2.F.1 dO.I) 5 (v:=O G 0 0) rfl;clear hL hcs;have k1:(k:Int)<(pl:Int):=U;obtain⟨B0,oM⟩:=J (k*200000);rw[oM]at fH;have FZ:B0<=2400000:=U;obtain⟨B1,xD⟩:=J (B0+100000);have Br:B1<=2500000:=U;have Q8:=V (show ∀x j,x<=B1+j->j<=100000->x<=(k+1)*200000 from λx j h1 h2=>U);have dA:=V (show ∀x j,x<=B0+j->j<=100000->x<=B1+0 from λx j h1 h2=>U);clear oM xD;go_wp2_with fail;go_loopw [111,15,17] (λi Nx _ wx=>∃(j k2:Nat),j<=wl/\i=Y Z j/\Nx=Y Z k2/\k2<=B0+j/\w5=wx) (λi _ _ _=>wl-(aX i).toNat)
    case atStart=>exact⟨0,kk,cK _,rfl,rfl,Nat.le_add_right_of_le fH,rfl⟩
    case round=>
     as_aux_lemma=>
     obtain⟨j,k2,hj,rfl,rfl,ig,rfl⟩:=hrel;by_cases gS:j<wl
     .have P1:¬(k2:Int)<0:=U;have w1:cM ((k2:Int)+1)=((k2+1:Nat):Int):=by rw[iZ _ ⟨U,U⟩];omega
      go_wp2_with fail;go_roundw
      case rel=>exact⟨j+1,k2+1,U,Q2T,by first|go_num|rfl,Nat.succ_le_succ ig,Q4L⟩
      case measure=>exact Q5q
     .obtain rfl:j=wl:=U;go_wp2_with fail;go_loopw [150,15,18] (λi Nx _ wx=>∃(j2 k3:Nat),j2<=bl/\i=Y Z j2/\Nx=Y Z k3/\k3<=B1+j2/\w5=wx) (λi _ _ _=>bl-(aX i).toNat)
      case atStart=>exact⟨0,k2,cK _,rfl,rfl,dA.I _ _ ig mI,rfl⟩
      case round=>
       as_aux_lemma=>
       obtain⟨j2,k3,Rl,rfl,rfl,IY,rfl⟩:=hrel;by_cases ato:j2<bl
       .have P1:¬(k3:Int)<0:=U;go_wp2_with fail;go_roundw
        case rel=>exact⟨j2+1,k3+1,U,Q2T,by first|go_num|rfl,Nat.succ_le_succ IY,Q4L⟩
        case measure=>exact Q5q
       .obtain rfl:j2=bl:=U;go_wp2_with fail;go_roundw
        case rel=>exact⟨k+1,k3,U,Q2T,rfl,Q8.I _ _ IY vJ,Q4L⟩
        case measure=>exact Q5q
  obtain⟨D,hD⟩:∃D,DS[k]? =A D:=⟨DS[k]'(E ((lp.I _ HB.I).1)),Q2W⟩;obtain⟨ab,ao,cs2,rfl,_,⟨da,dl,dc,rfl,hdr⟩,EF⟩:=(lp.I _ HB.I).get hD;have kU:wr ⟨ab,ao+k,G⟩=A (O da dl dc):=Q4e;have vQ:=V hdr.1;have SZ:=V (λw' hb=>Ry da dl dc D w' (vQ.I.below hb));have YF:=Sh.size_le D;obtain⟨SD,Cp⟩:∃SD:Nat,Sh.size D=SD:=⟨(Sh.size D).toNat,U⟩;rw[Cp]at SZ YF;clear hD EF hdr Cp;by_cases Gy:k=0
  .subst Gy;simp only[eL]at kU;go_wp2_with fail;refine cq (SZ.I _ (eG _ _)) ?_;have w1:Z.wrap ((SD:Int)+0)=(SD:Int):=dv _ U;go_wp2_with fail;go_roundw
   case rel=>exact⟨1,sz+SD,U,rfl,Q2T,U,HB.I⟩
   case measure=>exact Q5q
  .have k0:(0:Int)<(k:Int):=U;have zB:=bV K2.F.1 HB.I;obtain⟨f0,f1,f2,f3,f4,f5,f6,f7,f8⟩:=JM zB;have DM:=V (Vz.I k U U wr HB.I);go_wp2_with fail;refine DM.I.mono ?_;rintro e' w3 ⟨pa,pl,pc,W,q,rfl,hr,pJ,qA,hq,hb⟩;have gV:=V (HB.I.step hb);have SZ3:=V (Ry pa pl pc W w3 hr);have SZd:=V (SZ.I w3 hb);have hW8:=Sh.size_le W;obtain⟨SW,hSW⟩:∃SW:Nat,Sh.size W=SW:=⟨(Sh.size W).toNat,U⟩;rw[hSW]at SZ3 hW8;have atp:pl<=140737488351232:=hr.eC;obtain⟨N,rfl⟩:∃N,k=N+1:=⟨k-1,U⟩;obtain⟨x,hx⟩:∃x,m.L[N]? =A x:=⟨m.L[N]'(by rw[HL.I];omega),Q2W⟩;obtain⟨lb,lo,cs,rfl,_,hE,hcs⟩:=(Cj.I w3 gV.I).get hx;obtain rfl:cs=x.cells:=hE;have g0:=hcs 0 (Y Z x.aB) rfl;simp only[eL]at g0;have apA:=bV K2.F.1 gV.I;clear f0 f1 f2 f3 f4 f5 f6 f7 f8 hb hr qA hSW hx hcs DM zB SZ kU;obtain⟨f0,f1,f2,f3,f4,f5,f6,f7,f8⟩:=JM apA;have j4:Z.wrap ((N:Int)+1-1)=(N:Int):=Q3l;have j5:Z.wrap (N:Int)=(N:Int):=dv _ U;have i1:(N:Int)<(xl:Int):=U;go_wp2_with fail;refine cq SZ3.I ?_;have e0:pl=0\/pl≠0:=U;rcases e0 with rfl|e0
   .have e1:x.aB=1\/x.aB=2\/(x.aB≠1/\x.aB≠2):=U;have y0:=aY (bV K2.F.2.1 gV.I);rcases e1 with e1|e1|⟨e1,e2⟩
    .have e3:(x.aB==1)=true:=by simpa using e1
     exact Q18
    .have e3:(x.aB==1)=ae:=by simp;omega
     have e4:(x.aB==2)=true:=by simpa using e1
     exact Q18
    .have e3:(x.aB==1)=ae:=by simpa using e1
     have e4:(x.aB==2)=ae:=by simpa using e2
     exact Q0E
   .have e1:((pl:Int)==0)=ae:=by simp;omega
    exact Q0E
end
namespace Fw
def adf (t:az) (k s:Int):Int×az:=(T.err t.d t.e t.z k s,⟨T.qK t.d t.e t.z k s,T.Oo t.d t.e t.z k s,T.Oq t.d t.e t.z k s⟩)
def last (l:List az):az:=l.getD (l.length-1) az.zero
def jB (x:Lay) (p:bD) (l:List az):Bool×Int×az:=
 if x.aB=1 then(true,D.forward (last l) p.w p.b)
 else if x.aB=2 then(true,C.forward (last l) p.w p.b x.s x.aG)
 else if x.aB=4 then(true,adf (last l) x.k x.s)
 else if x.aB=7 then(true,Z4.add (last l) (l.getD x.aJ.toNat az.zero))
 else(ae,0,az.zero)
def gives (x:Lay) (p:bD) (l:List az) (au stream:Int):Int×az×List Int:=
 if(jB x p l).2.1 ≠0 then((jB x p l).2.1,az.zero,[])
 else if(jB x p l).1 =true then((T.small (jB x p l).2.2 8 au stream).1,(T.small (jB x p l).2.2 8 au stream).2,[])
 else if x.aB=3 then(T.err (last l).d (last l).e (last l).z x.k x.s,⟨T.qK (last l).d (last l).e (last l).z x.k x.s,T.Dd (last l).d (last l).e (last l).z x.k x.s,T.De (last l).d (last l).e (last l).z x.k x.s⟩,T.Df (last l).d (last l).e (last l).z x.k x.s)
 else if x.aB=5 then((Z4.Bp (last l)).1,(Z4.Bp (last l)).2,[])
 else((Z4.flat (last l)).1,(Z4.flat (last l)).2,[])
end Fw
def Ji (r:Bool×Int×az) (w:H) (e:dN) (w':H):Prop:=∃v,e=bG (aL #[v,aK r.1,Y Z r.2.1])/\fu cr w' v r.2.2 /\ay w w w'
theorem ai.Qs {bo T:Nat} {l0 c0 l2 c2:Nat} (h:ai Z w a l ds) (hb:w.heap[bo]? =A (ag #[O a0 l0 c0,Y Z 0,O a2 l2 c2] T (0,0))) (cI:∀d∈ds,d≠0):∀x,a=A x->0<l->x.block≠bo:=by
 obtain⟨h1,h2,h3,h4⟩:=h;intro x hx h0 e;rcases h4 with h4|⟨b,off,rfl,hc⟩
 .omega
 cases hx;obtain rfl:b=bo:=e;have:=hc 0 h0;unfold kY at this;simp only[hb]at this;have hd:ds.getD 0 0≠0:=by
  rw[gB,cR U];exact cI _ (jZ _)
 match off,this with
 |0,this=>simp at this
 |1,this=>simp at this;exact hd (by simpa using this.symm)
 |2,this=>simp at this
 |n+3,this=>simp at this
theorem ai.Qt {bo T:Nat} {l0 c0 l2 c2:Nat} {z:Int} (hk:k≠Z) (h:ai k w a l ds) (hb:w.heap[bo]? =A (ag #[O a0 l0 c0,Y Z z,O a2 l2 c2] T (0,0))):∀x,a=A x->0<l->x.block≠bo:=by
 obtain⟨h1,h2,h3,h4⟩:=h;intro x hx h0 e;rcases h4 with h4|⟨b,off,rfl,hc⟩
 .omega
 cases hx;obtain rfl:b=bo:=e;have:=hc 0 h0;unfold kY at this;simp only[hb]at this
 match off,this with
 |0,this=>simp at this
 |1,this=>simp at this;exact hk this.1.symm
 |2,this=>simp at this
 |n+3,this=>simp at this
theorem ai.nA {g:Nat} (h:ai k w a n zs) (hp:∀x,a=A x->0<n->x.block≠g):ai k (ss (ss (ss w g x) ⟨g,1,G⟩ y) ⟨g,2,G⟩ z) a n zs:=by
 rcases Nat.eq_zero_or_pos n with h0|h0
 .subst h0;obtain⟨h1,h2,h3,h4⟩:=h;exact⟨h1,h2,h3,aM rfl⟩
 .exact h.eJ λx hx=>hp x hx h0
theorem T.ami (d:ah) (e:Int) (z:ah) (k s:Int):∀x∈T.qK d e z k s,x≠0:=by
 intro x hx;unfold T.qK at hx;split at hx
 .rename_i he;unfold T.err at he;split at he
  .cases he
  .rename_i ht;split at he
   .rename_i ho;obtain⟨_,_,f3,f4,_,_,_,_,_,g1,g2,_⟩:=T.facts (Decidable.not_not.1 ht) ho;unfold T.tj at hx;simp only[jy,mj,or_false]at hx;rcases hx with rfl|rfl|rfl|rfl<;>omega
   .cases he
 .simp at hx
theorem tS {b:Nat} (h:w'.heap[b]? =w.heap[b]?) (j:Nat):w' ⟨b,j,G⟩=w ⟨b,j,G⟩:=by unfold kY;simp only[h]
section
attribute [local go_sem ↓] wp_at_zero wp_at_succ
theorem amj (x:Lay) (p:bD) (l:List az) (cs:Array aj) (ok:Nat->Prop) (la:aC) (n lc:Nat) (W:H) (hp:jL W cs p) (hl:cH vV 3 ok W la n l) (hn:0<n) (hf:x.aB=7->0<=x.aJ/\x.aJ<(n:Int)):
 aA aq 193 #[aF x.cells,aF cs,O la n lc] W (Ji (Fw.jB x p l) W):=by
 obtain⟨n1,rfl⟩:∃n1,n=n1+1:=⟨n-1,U⟩;have ik:=hl.1;have iB:=hl.2.1;obtain⟨t,ht⟩:=J (Fw.last l);have aT:l[n1]? =A t:=by
  exact Q2d
 have HM:=V (hl.bt FF U);obtain⟨lb,lo,tcs,rfl,_,sN,l8⟩:=hl.get aT;obtain⟨ta,tl,tc,tp,tm,tk,rfl,r1,r2⟩:=sN;have y0:W ⟨lb,lo+n1*3,G⟩=A (O ta tl tc):=l8 0 _ rfl;have y1:W ⟨lb,lo+n1*3+1,G⟩=A (Y Z t.e):=l8 1 _ rfl;have y2:W ⟨lb,lo+n1*3+2,G⟩=A (O tp tm tk):=l8 2 _ rfl;obtain⟨a1,l1,u1,a2,l2,u2,a3,l3,u3,a4,l4,u4,a5,l5,u5,rfl,p1,p2,p3,p4,p5⟩:=hp;have KR:=V ((r1.1.bt.and r2.1.bt).and ((p1.bt.and p2.bt).and (p4.bt.and p5.bt)));obtain⟨R,hR⟩:=J (Fw.jB x p l);rw[hR];have HR:=V hR;have HT:=V ht;unfold Lay.cells;have HY0:=V y0;have y0:=fq (fq (fq y0 (bQ x.aB x.I x.k x.s x.aG x.aJ x.fz)) (jq a1 l1 u1 p.w.e a2 l2 u2 a3 l3 u3 a4 l4 u4 p.b.e a5 l5 u5)) (cV G 0 0 0 G 0 0);have y1:=fq (fq (fq y1 (bQ x.aB x.I x.k x.s x.aG x.aJ x.fz)) (jq a1 l1 u1 p.w.e a2 l2 u2 a3 l3 u3 a4 l4 u4 p.b.e a5 l5 u5)) (cV G 0 0 0 G 0 0);have y2:=fq (fq (fq y2 (bQ x.aB x.I x.k x.s x.aG x.aJ x.fz)) (jq a1 l1 u1 p.w.e a2 l2 u2 a3 l3 u3 a4 l4 u4 p.b.e a5 l5 u5)) (cV G 0 0 0 G 0 0);have K4:=V (aE.IK W (bQ x.aB x.I x.k x.s x.aG x.aJ x.fz) (jq a1 l1 u1 p.w.e a2 l2 u2 a3 l3 u3 a4 l4 u4 p.b.e a5 l5 u5) (cV G 0 0 0 G 0 0) (bj ta tl tc t.e tp tm tk));have K5:Hid (aE (li (li (li (li (li W (bQ x.aB x.I x.k x.s x.aG x.aJ x.fz)) (jq a1 l1 u1 p.w.e a2 l2 u2 a3 l3 u3 a4 l4 u4 p.b.e a5 l5 u5)) (cV G 0 0 0 G 0 0)) (bj ta tl tc t.e tp tm tk)) (cV G 0 0 0 G 0 0)) _):=V ((K4.I.alloc (cV G 0 0 0 G 0 0)).and (aE.new (li (li (li (li W (bQ x.aB x.I x.k x.s x.aG x.aJ x.fz)) (jq a1 l1 u1 p.w.e a2 l2 u2 a3 l3 u3 a4 l4 u4 p.b.e a5 l5 u5)) (cV G 0 0 0 G 0 0)) (bj ta tl tc t.e tp tm tk)) (cV G 0 0 0 G 0 0)));rw[bF,bF,bF,bF]at K5;have RW:=KR.aQ K5.F.1.2.2.2.2;obtain⟨b0,b1,b2,b3,b4,b5,b6⟩:=bE K5.F.1.1;obtain⟨d0,d1,d2,d3,d4,d5,d6⟩:=bE K5.F.1.2.1;obtain⟨g0,g1,g2⟩:=bP K5.F.1.2.2.2.1;clear hR ht aT hl l8 r1 r2 p1 p2 p3 p4 p5 ik;have ne:=λk (h:¬x.aB=k)=>(show(x.aB==k)=ae by simpa using h);have ne:=λk (h:¬x.aB=k)=>(show(x.aB==k)=ae by simpa using h);have ne:=λk (h:¬x.aB=k)=>(show(x.aB==k)=ae by simpa using h);have ne:=λk (h:¬x.aB=k)=>(show(x.aB==k)=ae by simpa using h);by_cases k1:x.aB=1
 .have e1:(x.aB==1)=true:=by simpa using k1
  obtain⟨Q,hQ⟩:=J (D.forward t p.w p.b);obtain⟨TE,TN⟩:=Q;obtain rfl:(true,TE,TN)=R:=by rw[<-HR.I,<-hQ];unfold Fw.jB;rw[aR k1,HT.I]
  have DF:=V (akD t p.w p.b _ _ _ _ (show fu aO _ (aS ta tl tc t.e tp tm tk) t from⟨_,_,_,_,_,_,rfl,RW.1.1,RW.1.2⟩) (show fu aO _ (aS a1 l1 u1 p.w.e a2 l2 u2) p.w from⟨_,_,_,_,_,_,rfl,RW.2.1.1,RW.2.1.2⟩) (show fu aO _ (aS a4 l4 u4 p.b.e a5 l5 u5) p.b from⟨_,_,_,_,_,_,rfl,RW.2.2.1,RW.2.2.2⟩));rw[hQ]at DF;clear hQ ne k1;exact Q07
 have e1:(x.aB==1)=ae:=ne 1 k1;by_cases k2:x.aB=2
 .have e2:(x.aB==2)=true:=by simpa using k2
  obtain⟨Q,hQ⟩:=J (C.forward t p.w p.b x.s x.aG);obtain⟨TE,TN⟩:=Q;obtain rfl:(true,TE,TN)=R:=by rw[<-HR.I,<-hQ];unfold Fw.jB;rw[aI k1,aR k2,HT.I]
  have DF:=V (amd t p.w p.b x.s x.aG _ _ _ _ (show fu aO _ (aS ta tl tc t.e tp tm tk) t from⟨_,_,_,_,_,_,rfl,RW.1.1,RW.1.2⟩) (show fu aO _ (aS a1 l1 u1 p.w.e a2 l2 u2) p.w from⟨_,_,_,_,_,_,rfl,RW.2.1.1,RW.2.1.2⟩) (show fu aO _ (aS a4 l4 u4 p.b.e a5 l5 u5) p.b from⟨_,_,_,_,_,_,rfl,RW.2.2.1,RW.2.2.2⟩));rw[hQ]at DF;clear hQ ne k1 k2;exact Q07
 have e2:(x.aB==2)=ae:=ne 2 k2;by_cases k4:x.aB=4
 .have e4:(x.aB==4)=true:=by simpa using k4
  obtain⟨Q,hQ⟩:=J (Fw.adf t x.k x.s);obtain⟨TE,TN⟩:=Q;obtain rfl:(true,TE,TN)=R:=by rw[<-HR.I,<-hQ];unfold Fw.jB;rw[aI k1,aI k2,aR k4,HT.I]
  have DF:=V (agS ta tl tc t.d t.e tp tm tk t.z x.k x.s _ RW.1.1 RW.1.2);have uP:=V (show ∀d∈TN.d,d≠0 by have h:=T.ami t.d t.e t.z x.k x.s;rw[show TN.d=T.qK t.d t.e t.z x.k x.s from(congrArg (λq=>q.2.d) hQ).symm];exact h);rw[show T.qK t.d t.e t.z x.k x.s=TN.d from congrArg (λq=>q.2.d) hQ,show T.Oo t.d t.e t.z x.k x.s=TN.e from congrArg (λq=>q.2.e) hQ,show T.Oq t.d t.e t.z x.k x.s=TN.z from congrArg (λq=>q.2.z) hQ,show T.err t.d t.e t.z x.k x.s=TE from congrArg (λq=>q.1) hQ]at DF;clear hQ ne k1 k2 k4;go_enter func193,ntmps193
  let pq:=gW aq Tryz.f193 (λ_ _=>True)
  generalize dS:gW aq Tryz.f193 (Ji (true,TE,TN) W)=BP;have dB:=V dS;have jM:=oz dS;clear dS;go_wp2_with fail;refine DF.I.mono ?_;rintro e' w6 ⟨ra,rl,rc,rb,rm,rk,rfl,q1,q2,hb⟩;have K6:=K5.bU hb;have dQ:=bH K5.F.2;have HA:=V (show ai Z w6 ra rl TN.d/\ai cr w6 rb rm TN.z/\(∀x,ra=A x->0<rl->x.block≠W.heap.size+1+1+1+1)/\(∀x,ra=A x->0<rl->x.block≠W.heap.size+1+1)/\(∀x,rb=A x->0<rm->x.block≠W.heap.size+1+1+1+1)/\(∀x,rb=A x->0<rm->x.block≠W.heap.size+1+1)from⟨q1,q2,q1.Qs K6.F.2 uP.I,q1.Qs K6.F.1.2.2.1 uP.I,q2.Qt eM K6.F.2,q2.Qt eM K6.F.1.2.2.1⟩);clear q1 q2;unfold aS;clear b0 b1 b2 b3 b4 b5 b6 d0 d1 d2 d3 d4 d5 d6 g0 g1 g2 y0 y1 y2 hb DF RW;obtain⟨r0,r1,r2,r3,r4,r5⟩:=aY K6.F.1.2.2.1;obtain⟨z0,z1,z2,z3,z4,z5⟩:=aY K6.F.2;exact Q2t
 have e4:(x.aB==4)=ae:=ne 4 k4;by_cases k7:x.aB=7
 .have e7:(x.aB==7)=true:=by simpa using k7
  obtain⟨j1,j2⟩:=hf k7;have j3:x.aJ<(n1:Int)+1:=U;have ik:=HM.I.aN.1;obtain⟨u,hu⟩:∃u,l[x.aJ.toNat]? =A u:=⟨l[x.aJ.toNat]'U,Q2W⟩;have tD:l.getD x.aJ.toNat az.zero=u:=by rw[gB,hu];rfl
  obtain⟨lb',lo',ucs,e,_,hue,Qu⟩:=(HM.I.jD K5.F.1.2.2.2.2).get hu
  cases e;obtain⟨va,vl,vc,vp,vm,vk,rfl,q1,q2⟩:=hue;obtain⟨Q,hQ⟩:=J (Z4.add t u);obtain⟨TE,TN⟩:=Q;obtain rfl:(true,TE,TN)=R:=by rw[<-HR.I,<-hQ];unfold Fw.jB;rw[aI k1,aI k2,aI k4,aR k7,HT.I,tD]
  have HQ:=V hQ;clear hQ ne k1 k2 k4 k7 hf hu tD ik;go_enter func193,ntmps193
  let pq:=gW aq Tryz.f193 (λ_ _=>True)
  generalize dS:gW aq Tryz.f193 (Ji (true,TE,TN) W)=BP;have dB:=V dS;have jM:=oz dS;clear dS;go_wp2_with fail;generalize li (li (li (li (li W (bQ x.aB x.I x.k x.s x.aG x.aJ x.fz)) (jq a1 l1 u1 p.w.e a2 l2 u2 a3 l3 u3 a4 l4 u4 p.b.e a5 l5 u5)) (cV G 0 0 0 G 0 0)) (bj ta tl tc t.e tp tm tk)) (cV G 0 0 0 G 0 0)=w5 at*;have v0:w5 ⟨lb,lo+x.aJ.toNat*3,G⟩=A (O va vl vc):=Qu 0 _ rfl;have v1:w5 ⟨lb,lo+x.aJ.toNat*3+1,G⟩=A (Y Z u.e):=Qu 1 _ rfl;have v2:w5 ⟨lb,lo+x.aJ.toNat*3+2,G⟩=A (O vp vm vk):=Qu 2 _ rfl;have Xc:=V v0;have Gd:=V v1;have ze:=V v2;have as1:lb<W:=jY W _ HY0.I;have wJ:ay w5 w5 w5.drew:=(eG _ w5).bI 1;have Xd:lb<w5:=E (bH K5.F.1.1);have DF:=V (aaN t u _ _ w5.drew (show fu aO w5.drew (aS ta tl tc t.e tp tm tk) t from⟨_,_,_,_,_,_,rfl,RW.1.1.below wJ,RW.1.2.below wJ⟩) (show fu aO w5.drew (aS va vl vc u.e vp vm vk) u from⟨_,_,_,_,_,_,rfl,q1.1.below wJ,q2.1.below wJ⟩));rw[HQ.I]at DF;unfold aS at DF;clear v0 v1 v2 Qu q1 q2 b0 b1 b2 b3 b4 b5 b6 d0 d1 d2 d3 d4 d5 d6 g0 g1 g2 y0 y1 y2 RW;refine cS (λw':H=>w'.heap[W.heap.size]? =A (bQ x.aB x.I x.k x.s x.aG x.aJ x.fz)/\w'.heap[W.heap.size+1+1+1]? =A (bj ta tl tc t.e tp tm tk)/\w'.heap[lb]? =w5.heap[lb]?) (eE (⟨K5.F.1.1,K5.F.1.2.2.2.1,rfl⟩) λhS=>bR hS [0,1,2,3,4,5] (λ_ h=>aw (bE h.1) (aw (bP h.2.1) (aw ((tS h.2.2 _).trans Xc.I) (aw ((tS h.2.2 _).trans Gd.I) (aw ((tS h.2.2 _).trans ze.I) (aw h.1 (aw h.2.1 h.2.2))))))) ?_);refine bL 6 λK hK=> ?_;go_simp;refine DF.I.mono ?_;rintro e' w6 ⟨v,rfl,hv,hb⟩;have cO:ay w5 w5 w6:=wJ.step hb;have K6:=K5.bU cO;have dQ:=bH K5.F.2;obtain⟨ra,rl,rc,rb,rm,rk,rfl,q1,q2,q3,q4⟩:=hv;have pZ:W.heap.size+1+1+1+1<w5.drew.heap.size:=dQ;have HA:=V (show ai Z w6 ra rl TN.d/\ai cr w6 rb rm TN.z/\(∀x,ra=A x->0<rl->x.block≠W.heap.size+1+1+1+1)/\(∀x,ra=A x->0<rl->x.block≠W.heap.size+1+1)/\(∀x,rb=A x->0<rm->x.block≠W.heap.size+1+1+1+1)/\(∀x,rb=A x->0<rm->x.block≠W.heap.size+1+1)from⟨q1,q2,λx hx _=>E (q3 x hx),λx hx _=>E (q3 x hx),λx hx _=>E (q4 x hx),λx hx _=>E (q4 x hx)⟩);have py:(λw':H=>w'.heap[W.heap.size]? =A (bQ x.aB x.I x.k x.s x.aG x.aJ x.fz)/\w'.heap[W.heap.size+1+1+1]? =A (bj ta tl tc t.e tp tm tk)/\w'.heap[lb]? =w5.heap[lb]?) w6:=⟨K6.F.1.1,K6.F.1.2.2.2.1,cO.block lb Xd⟩;obtain⟨z0,z1,z2,z3,z4,z5⟩:=aY K6.F.2;clear q1 q2 q3 q4 pZ hb DF;unfold aS;refine bB hK py ?_;refine bR py [7,8,9] (λ_ h=>aw (bE h.1) (aw (bP h.2.1) (aw ((tS h.2.2 _).trans Xc.I) (aw ((tS h.2.2 _).trans Gd.I) (aw ((tS h.2.2 _).trans ze.I) (aw h.1 (aw h.2.1 h.2.2))))))) (bL 10 λK hK=> ?_);go_simp;refine bB hK (⟨jQ py.1 U,jQ py.2.1 U,(((ar.cP w6 (λb=>b=W.heap.size+1+1+1+1) w6).eJ (aM rfl) _ _ _).block lb (iP Xd cO.size) U).trans py.2.2⟩) ?_;refine bR (⟨jQ py.1 U,jQ py.2.1 U,(((ar.cP w6 (λb=>b=W.heap.size+1+1+1+1) w6).eJ (aM rfl) _ _ _).block lb (iP Xd cO.size) U).trans py.2.2⟩) [11] (λ_ h=>aw (bE h.1) (aw (bP h.2.1) (aw ((tS h.2.2 _).trans Xc.I) (aw ((tS h.2.2 _).trans Gd.I) (aw ((tS h.2.2 _).trans ze.I) (aw h.1 (aw h.2.1 h.2.2))))))) (bW ?_);clear hS py;obtain⟨r0,r1,r2,r3,r4,r5⟩:=aY K6.F.1.2.2.1;exact Q2t
 have e7:(x.aB==7)=ae:=ne 7 k7;obtain rfl:(ae,0,az.zero)=R:=by rw[<-HR.I];unfold Fw.jB;rw[aI k1,aI k2,aI k4,aI k7]
 clear k1 k2 k4 k7 ne hf;go_enter func193,ntmps193
 let pq:=gW aq Tryz.f193 (λ_ _=>True)
 generalize dS:gW aq Tryz.f193 (Ji (ae,0,az.zero) W)=BP;have dB:=V dS;have jM:=oz dS;clear dS;go_wp2_with fail;obtain⟨r0,r1,r2,r3,r4,r5⟩:=aY K5.F.1.2.2.1;obtain⟨z0,z1,z2,z3,z4,z5⟩:=aY K5.F.2;rw[<-dB.I];refine aZ (v:=aL #[aF #[O G 0 0,Y Z 0,O G 0 0],aK ae,Y Z 0]) ?_ rfl ⟨_,rfl,⟨_,_,_,_,_,_,rfl,ai.zero _ _ _,ai.zero _ _ _⟩,K5.F.1.2.2.2.2⟩;simp[aW,results193,go_sem,r0,r1,r2]
def adg (r:Int×az×List Int) (w:H) (e:dN) (w':H):Prop:=∃(a:aC) (l c:Nat) (ex:Int) (b:aC) (m k:Nat) (g:aC) (n h:Nat),e=bG (aL #[aS a l c ex b m k,O g n h,Y Z r.1])/\
 (r.1 =0->dM aO w.heap.size w' (aS a l c ex b m k) r.2.1 /\(r.2.1.d.length=2->nM (aS a l c ex b m k))/\ai Z w' g n r.2.2 /\∀x,g=A x->w.heap.size<=x.block)/\ay w w w'
theorem amk (x:Lay) (p:bD) (l:List az) (cs:Array aj) (ok:Nat->Prop) (la:aC) (n lc:Nat) (au stream:Int) (W:H) (hp:jL W cs p) (hl:cH vV 3 ok W la n l) (hn:0<n) (hf:x.aB=7->0<=x.aJ/\x.aJ<(n:Int)) (tC:P.Z4 au) (tD:P.Z4 stream):
 aA aq 144 #[aF x.cells,aF cs,O la n lc,Y cD au,Y cD stream] W (adg (Fw.gives x p l au stream) W):=by
 have FSv:=V (λw hp hl=>amj x p l cs ok la n lc w hp hl hn hf);have HPK:=V (λw' (b:ay W W w')=>hp.below b);obtain⟨n1,rfl⟩:∃n1,n=n1+1:=⟨n-1,U⟩;have ik:=hl.1;have iB:=hl.2.1;obtain⟨t,ht⟩:=J (Fw.last l);have aT:l[n1]? =A t:=by
  exact Q2d
 have HM:=V (hl.bt FF U);obtain⟨lb,lo,tcs,rfl,_,sN,l8⟩:=hl.get aT;obtain⟨ta,tl,tc,tp,tm,tk,rfl,r1,r2⟩:=sN;have y0:W ⟨lb,lo+n1*3,G⟩=A (O ta tl tc):=l8 0 _ rfl;have y1:W ⟨lb,lo+n1*3+1,G⟩=A (Y Z t.e):=l8 1 _ rfl;have y2:W ⟨lb,lo+n1*3+2,G⟩=A (O tp tm tk):=l8 2 _ rfl;have KY:=V ((aE.cell y0).and ((aE.cell y1).and (aE.cell y2)));have KR:=V (r1.1.bt.and r2.1.bt);obtain⟨a1,l1,u1,a2,l2,u2,a3,l3,u3,a4,l4,u4,a5,l5,u5,rfl,-⟩:=hp;obtain⟨R,hR⟩:=J (Fw.gives x p l au stream);rw[hR];unfold Fw.gives at hR;obtain⟨S,hS⟩:=J (Fw.jB x p l);rw[hS]at hR FSv;rw[ht]at hR;obtain⟨SH,SE,SN⟩:=S;have HR:=V hR;unfold Lay.cells;unfold Lay.cells at FSv;have K3:=V (aE.lj W (bQ x.aB x.I x.k x.s x.aG x.aJ x.fz) (jq a1 l1 u1 p.w.e a2 l2 u2 a3 l3 u3 a4 l4 u4 p.b.e a5 l5 u5) (bj G 0 0 0 G 0 0));have b0:=bE K3.F.1;have d0:=bE K3.F.2.1;have FS3:=V (FSv.I _ (HPK.I _ K3.F.2.2.2) (HM.I.jD K3.F.2.2.2));clear hR ht aT hl l8 ik hS hf y0 y1 y2 FSv;go_enter func144,ntmps144
 let pq:=gW aq Tryz.f144 (λ_ _=>True)
 generalize dS:gW aq Tryz.f144 (adg R W)=BP;have dB:=V dS;have jM:=oz dS;clear dS;go_wp2_with fail;refine FS3.I.mono ?_;rintro e' w4 ⟨v,rfl,hv,hb⟩;obtain⟨sa,sl,sc,sp,sm,sk,rfl,s1,s2⟩:=hv;unfold aS;have K4:=K3.bU hb;have KS:=V (s1.bt.and s2.bt);go_upto_region 2 with fail;have hA:=bZ w4 (cV sa sl sc SN.e sp sm sk);have K5:=V (K4.I.alloc (cV sa sl sc SN.e sp sm sk));have KS5:=V (KS.I.alloc (cV sa sl sc SN.e sp sm sk));have KA:=V (aE.block hA);obtain⟨bo,cy⟩:=J w4.heap.size;rw[cy]at hA KA⊢;have as3:W.heap.size+1+1<bo:=by rw[<-cy];exact bH K4.F.2.2.1
 clear cy;generalize li w4 (cV sa sl sc SN.e sp sm sk)=w5 at*;have g0:=bP hA;have r0:=aY K5.F.2.2.1;clear hA;by_cases he:SE=0
 case neg=>
  have ye:(SE != 0)=true:=Q3d;obtain rfl:(SE,az.zero,[])=R:=by rw[<-HR.I,aR he]
  go_wp2_with fail;rw[<-dB.I];refine aZ (v:=aL #[aF #[O G 0 0,Y Z 0,O G 0 0],O G 0 0,Y Z SE]) ?_ rfl ⟨G,0,0,0,G,0,0,G,0,0,rfl,λh=>absurd h he,cL K5.F.2.2.2 U _ _ _⟩;simp[aW,results144,go_sem,cT K5.F.2.2.1]
 subst he
 cases SH
 .obtain⟨y0,y1,y2⟩:=KY.aQ K5.F.2.2.2;have K6:=V ((K5.I.alloc (bj ta tl tc t.e tp tm tk)).and (aE.new w5 (bj ta tl tc t.e tp tm tk)));have RW:=KR.aQ K6.F.1.2.2.2;have b0:=bE K6.F.1.1;have pZ:W.heap.size+1+1<w5.heap.size:=E (bH KA.F);have hW5:W.heap.size<=w5:=K5.F.2.2.2.size;have Xe:=V (show(if x.aB=3 then(T.err t.d t.e t.z x.k x.s,(⟨T.qK t.d t.e t.z x.k x.s,T.Dd t.d t.e t.z x.k x.s,T.De t.d t.e t.z x.k x.s⟩:az),T.Df t.d t.e t.z x.k x.s)else if x.aB=5 then((Z4.Bp t).1,(Z4.Bp t).2,[])else((Z4.flat t).1,(Z4.flat t).2,[]))=R from by have h:=HR.I;rwa[aI bK,aI bK]at h);by_cases k3:x.aB=3
  .have e3:(x.aB==3)=true:=by simpa using k3
   have MX:=V (agU ta tl tc t.d t.e tp tm tk t.z x.k x.s _ RW.1 RW.2);obtain⟨Q,hQ⟩:∃Q:Int×az×List Int,(T.err t.d t.e t.z x.k x.s,(⟨T.qK t.d t.e t.z x.k x.s,T.Dd t.d t.e t.z x.k x.s,T.De t.d t.e t.z x.k x.s⟩:az),T.Df t.d t.e t.z x.k x.s)=Q:=⟨_,rfl⟩;have Fg:T.err t.d t.e t.z x.k x.s=0->(T.qK t.d t.e t.z x.k x.s).length=4:=λh=>by unfold T.qK;rw[aR h];rfl
   obtain⟨TE,TN,TG⟩:=Q;obtain rfl:(TE,TN,TG)=R:=by rw[<-Xe.I,aR k3,hQ]
   rw[show T.qK t.d t.e t.z x.k x.s=TN.d from congrArg (λq=>q.2.1.d) hQ,show T.Dd t.d t.e t.z x.k x.s=TN.e from congrArg (λq=>q.2.1.e) hQ,show T.De t.d t.e t.z x.k x.s=TN.z from congrArg (λq=>q.2.1.z) hQ,show T.err t.d t.e t.z x.k x.s=TE from congrArg (λq=>q.1) hQ,show T.Df t.d t.e t.z x.k x.s=TG from congrArg (λq=>q.2.2) hQ]at MX;rw[show T.qK t.d t.e t.z x.k x.s=TN.d from congrArg (λq=>q.2.1.d) hQ,show T.err t.d t.e t.z x.k x.s=TE from congrArg (λq=>q.1) hQ]at Fg;have HL4:=V Fg;clear hQ k3 Fg RW;unfold aS at MX;go_wp2_with fail;refine MX.I.mono ?_;rintro e' w7 ⟨ra,rl,rc,rb,rm,rk,rg,rn,rh,wZ,rfl,q1,q2,q3,hb⟩;have K7:=K6.bU hb;have m9:w5.heap.size<(li w5 (bj ta tl tc t.e tp tm tk)).heap.size:=Q2Y;have HQ:=V (show ai Z w7 ra rl TN.d/\ai aO w7 rb rm TN.z/\ai Z w7 rg rn TG from⟨q1,q2,q3⟩);have Qv:=V wZ;clear y0 y1 y2 wZ MX;unfold aS;have r0:=aY K7.F.1.2.2.1;go_wp2_with fail;try simp only[j6,Exit.then]
   rw[<-dB.I];refine aZ (v:=aL #[aF #[O ra rl rc,Y Z TN.e,O rb rm rk],O rg rn rh,Y Z TE]) ?_ rfl ⟨ra,rl,rc,TN.e,rb,rm,rk,rg,rn,rh,rfl,λh=>⟨(dM.stored (B:=(li w5 (bj ta tl tc t.e tp tm tk)).heap.size) ⟨ra,rl,rc,rb,rm,rk,rfl,HQ.I.1,HQ.I.2.1,(Qv.I h).1,(Qv.I h).2.1⟩ U _ _ _).mono U,λh2=>absurd h2 (show ¬TN.d.length=2 by have:=HL4.I h;omega),HQ.I.2.2.eJ (λx hx=>E ((Qv.I h).2.2 x hx)),λx hx=>E ((Qv.I h).2.2 x hx)⟩,cL K7.F.1.2.2.2 U _ _ _⟩;simp[aW,results144,go_sem,cT K7.F.1.2.2.1]
  have e3:(x.aB==3)=ae:=by simpa using k3
  by_cases k5:x.aB=5
  .have e5:(x.aB==5)=true:=by simpa using k5
   have MX:=V (ai5 t _ _ (show fu aO _ (aS ta tl tc t.e tp tm tk) t from⟨_,_,_,_,_,_,rfl,RW.1,RW.2⟩));obtain⟨Q,hQ⟩:∃Q:Int×az,Z4.Bp t=Q:=⟨_,rfl⟩;obtain⟨TE,TN⟩:=Q;obtain rfl:(TE,TN,[])=R:=by rw[<-Xe.I,aI k3,aR k5,hQ]
   exact Q0m
  .have e5:(x.aB==5)=ae:=by simpa using k5
   have MX:=V (aid t _ _ (show fu aO _ (aS ta tl tc t.e tp tm tk) t from⟨_,_,_,_,_,_,rfl,RW.1,RW.2⟩));obtain⟨Q,hQ⟩:∃Q:Int×az,Z4.flat t=Q:=⟨_,rfl⟩;obtain⟨TE,TN⟩:=Q;obtain rfl:(TE,TN,[])=R:=by rw[<-Xe.I,aI k3,aI k5,hQ]
   exact Q0m
 .have SM:=V (TY SN (aS sa sl sc SN.e sp sm sk) 8 au stream w5 ⟨_,_,_,_,_,_,rfl,KS5.F.1,KS5.F.2⟩ tC tD);obtain⟨Q,hQ⟩:=J (T.small SN 8 au stream);obtain⟨TE,TN⟩:=Q;obtain rfl:(TE,TN,[])=R:=by rw[<-HR.I,aI bK,aR rfl,hQ]
  rw[hQ]at SM;unfold aS at SM;clear hQ;go_wp2_with fail;refine SM.I.mono ?_;rintro e' w6 ⟨v,rfl,⟨hv,ip⟩,hb⟩;have K6:=K5.bU hb;have HV:=V hv;obtain⟨ra,rl,rc,rb,rm,rk,rfl,-⟩:=hv;unfold aS;have HC:=V ip;dsimp only
  have pZ:W.heap.size+1+1<w5.heap.size:=E (bH KA.F);have K7:=V (K6.I.alloc (bj ra rl rc TN.e rb rm rk));have HV7:=V (HV.I.below (aD w6 (bj ra rl rc TN.e rb rm rk)));clear ip SM;have r0:=aY K7.F.2.2.1;go_wp2_with fail;try simp only[j6,Exit.then]
  rw[<-dB.I];refine aZ (v:=aL #[aF #[O ra rl rc,Y Z TN.e,O rb rm rk],O G 0 0,Y Z TE]) ?_ rfl ⟨ra,rl,rc,TN.e,rb,rm,rk,G,0,0,rfl,λh=>⟨(HV7.I.stored pZ _ _ _).mono K5.F.2.2.2.size,λ_=>HC.I,ai.zero _ _ _,λx hx=>Q3t⟩,cL K7.F.2.2.2 U _ _ _⟩;simp[aW,results144,go_sem,cT K7.F.2.2.1]
end
namespace Fw
def pO (ps:List bD) (au step:Int):Nat->List Lay->List az->List (List Int)->Int×Int×List az×List (List Int)
 |_,[],T,Z5=>(0,0,T,Z5)
 |i,x::L,T,Z5=>
  if(gives x (ps.getD i bD.nil) T au (ZX.stream step ((i:Int)+1) 0)).1 ≠0 then((gives x (ps.getD i bD.nil) T au (ZX.stream step ((i:Int)+1) 0)).1,(i:Int)+1,[],[])
  else pO ps au step (i+1) L (T++[(gives x (ps.getD i bD.nil) T au (ZX.stream step ((i:Int)+1) 0)).2.1]) (Z5++[(gives x (ps.getD i bD.nil) T au (ZX.stream step ((i:Int)+1) 0)).2.2])
def run (m:Mod) (ps:List bD) (x:az) (au step:Int):Int×Int×List az×List (List Int):=
 if ¬(ZX.within step 0 1000000=true/\m.qT ps=true/\x.ok=true)then(1,0,[],[])
 else if x.d.length≠4\/x.d.tail≠[m.a,m.b,m.c]then(2,0,[],[])
 else pO ps au step 0 m.L [x] [[]]
theorem aml {au step:Int} {L:List Lay} {k:Nat} {x:Lay} {p:bD} (h:L[k]? =A x) (hp:ps[k]? =A p) (T:List az) (Z5:List (List Int)):pO ps au step k (L.drop k) T Z5=
 if(gives x p T au (ZX.stream step ((k:Int)+1) 0)).1 ≠0 then((gives x p T au (ZX.stream step ((k:Int)+1) 0)).1,(k:Int)+1,[],[])
 else pO ps au step (k+1) (L.drop (k+1)) (T++[(gives x p T au (ZX.stream step ((k:Int)+1) 0)).2.1]) (Z5++[(gives x p T au (ZX.stream step ((k:Int)+1) 0)).2.2]):=by
 have hk:=(fX.1 h).1;have e:L[k]=x:=Q3F;have e2:ps.getD k bD.nil=p:=by simp[dV,hp]
 rw[List.drop_eq_getElem_cons hk,e];show(if _ then _ else _)=_
 rw[e2]
def infer (m:Mod) (ps:List bD) (x:az):Int×Int×az:=if(run m ps x 0 0).1 ≠0 then((run m ps x 0 0).1,(run m ps x 0 0).2.1,az.zero)else(0,0,last (run m ps x 0 0).2.2.1)
end Fw
theorem Mod.Qw {m:Mod} (h:m.qT ps=true):m.aH=true:=by
 unfold Mod.qT at h;rw[fS]at h;have h1:=eZ h.1;unfold Mod.iy at h1;by_cases c:m.aH=true
 .exact c
 .rw[aI c]at h1;cases h1
theorem Mod.adh {m:Mod} (h:m.qT ps=true):ps.length=m.L.length:=by
 unfold Mod.qT at h;rw[fS,fS]at h;exact eZ h.2.1
theorem Mod.E9 {m:Mod} (h:m.aH=true):1<=m.L.length/\m.L.length<=12:=by
 unfold Mod.aH ZX.within at h;simp only[fS,decide_eq_true_eq]at h;omega
theorem Mod.LB {m:Mod} (h:m.aH=true) {k:Nat} {x:Lay} (hx:m.L[k]? =A x) (h7:x.aB=7):0<=x.aJ/\x.aJ<(k:Int)+1:=by
 have hl:=Mod.E9 h;have hk:=(fX.1 hx).1;have hm:x.aH ((0+k:Nat):Int)=true:=Mod.yY (by unfold Mod.aH at h;rw[fS]at h;exact h.2) hx;rw[Nat.zero_add]at hm;unfold Lay.aH at hm;rw[aI U,aI U,aI U,aI U,aR h7]at hm;rw[fS]at hm;have h1:=hm.1;unfold ZX.within at h1;simp only[fS,decide_eq_true_eq]at h1;have:cM ((k:Int)-1)=(k:Int)-1:=by rw[<-qR];exact dv _ U
 rw[this]at h1;omega
def Ay (ok:Nat->Prop) (u:H) (cs:Array aj) (x:az):Prop:=vV ok u cs x/\(x.d.length=2->nM (aF cs))
theorem qZ:Carry Ay 3 where
 size h:=FF.size h.1
 one h:=FF.one h.1
 move h kp hk:=⟨FF.move h.1 kp hk,h.2⟩
theorem cH.weak {ZU E':(Nat->Prop)->H->Array aj->α->Prop} {ok:Nat->Prop} {L:List α} (h:cH ZU sz ok w a n L) (he:∀cs x,ZU ok w cs x->E' ok w cs x):cH E' sz ok w a n L:=by
 obtain⟨h1,h2,h3⟩:=h;refine⟨h1,h2,h3.imp id ?_⟩;rintro⟨b,off,rfl,hb,hc⟩;refine⟨b,off,rfl,hb,λi x hx=> ?_⟩;obtain⟨cs,e,hcs⟩:=hc i x hx;exact⟨cs,he _ _ e,hcs⟩
def Qx (r:Int×Int×List az×List (List Int)) (w:H) (e:dN) (w':H):Prop:=∃(ta:aC) (tn tc:Nat) (ga:aC) (gn gc:Nat),e=bG (aL #[aF #[O ta tn tc,O ga gn gc],Y Z r.2.1,Y Z r.1])/\
 cH Ay 3 (λb=>w.heap.size<=b) w' ta tn r.2.2.1 /\cH rO 1 (λb=>w.heap.size<=b) w' ga gn r.2.2.2 /\(∃tb tq da dl dc,r.1 =0->ta=A ⟨tb,tq,G⟩/\w' ⟨tb,tq,G⟩=A (O da dl dc)/\1<=dc)/\ay w w w'
section
attribute [local go_sem ↓] wp_at_zero wp_at_succ
theorem Er {w:H} {g:Nat} {a b:aj} (h:w.heap[g]? =A (ag #[x,y] t (0,0))):(ss (ss w g a) ⟨g,1,G⟩ b).heap[g]? =A (ag #[a,b] t (0,0)):=by
 have h:=dF (f:=1) (dF (f:=0) h a) b;simpa using h
theorem Jj {w wx:H} {r:Nat} (hb:ay w w wx) (h:w.heap.size<=r) (a b:aj):ay w w (ss (ss wx r a) ⟨r,1,G⟩ b):=(hb.setCell h _).setCell h _
theorem ar.Xf {B g:Nat} {a w:H} (h:ar B S a w) (hg:S g\/B<=g) (x y:aj):ar B S a (ss (ss w g x) ⟨g,1,G⟩ y):=(h.set hg 0 x).set hg 1 y
theorem qE {w:H} {g:Nat} (h:w.heap[g]? =A (ag #[x,y] t (0,0))):w g=A x/\w ⟨g,1,G⟩=A y/\w.frozen? ⟨g,0,G⟩=ae/\w.frozen? ⟨g,1,G⟩=ae:=by
 simp[kY,World.frozen?,h]
theorem adi {w:H} {B ZU g:Nat} {T:dy} {fr:Nat×Nat} (h:w.ownsRow B ZU sz v n xs) (hg:w.heap[g]? =A (ag cs T fr)) (hE:ZU≠T):v.ownBlock≠A g:=by
 intro e;rcases h.2 with⟨rfl,_⟩|⟨g',c,cur,rfl,_,h',_⟩
 .cases e
 .have e:A g'=A g:=e;injection e with e;subst e;rw[hg]at h';injection h' with h';injection h' with _ h';exact hE h'.symm
theorem gy.adj {ZU:(Nat->Prop)->H->Array aj->α->Prop} (C:Carry ZU sz) {T:dy} {B g:Nat} {P:Nat->Prop} {w w1:H} {L:List α} {x:α}
 (h:gy ZU sz T B P w v L CS) (hx:ZU (qt P v) w cs x) (hn:n=L.length+1) (aV:w1.ownsRow B T sz (O g n c) n (CS.flatMap jf++cs.toList))
 (eD:w.grownBy w1 v.ownBlock) (lR:v.ownBlock=A g\/g=w.heap.size):gy ZU sz T B P w1 (O g n c) (L++[x]) (CS++[cs]):=by
 subst hn;have kp:ar w (λb=>v.ownBlock=A b) w w1:=
  ⟨eD.os,eD.tape,eD.output,eD.size,λb hb hn=>eD.block b hb (λe=>hn e.symm)⟩
 have hk:∀b,b<w.heap.size->qt P v b->b<w.heap.size/\¬v.ownBlock=A b/\qt P (O g (L.length+1) c) b:=λb hb ho=>⟨hb,ho.1,λe=>by
  have e:A g=A b:=e;injection e with e;subst e;rcases lR with h|h
  .exact ho.1 h
  .omega,ho.2⟩
 refine⟨by rw[dG,dG,h.1];rfl,λi y hy=> ?_,?_⟩
 .exact Q0q
 .rw[List.flatMap_append,dG];simpa using aV
theorem qL.roomy {ZU:dy} {w:H} (h:qL k ZU n zs w e w') (hw:∀z∈zs,(Lit.int k z).wf=true) (hl:n<=140737488351232):
 ∃a c,e=bG (O a n c)/\ai k w' a n zs/\(∀x,a=A x->w.heap.size<=x.block/\x.block<w'.heap.size)/\n<=c/\ay w w w':=by
 obtain⟨v,rfl,ho,hb⟩:=h;have hn:zs.length=n:=Q4I;rcases ho.2 with⟨rfl,h0⟩|⟨g,c,cur,rfl,_⟩
 .rw[h0]at hn⊢;rw[List.length_eq_zero_iff.1 hn];exact⟨G,0,rfl,ai.zero _ _ _,(λx hx=>Q3t),bu _,hb⟩
 .exact⟨_,_,rfl,ai.owned ho hw hl,(λx hx=>Q4D),Hy ho,hb⟩
theorem fR.weak {ok fJ:Nat->Prop} {w:H} (h:fR ok k w a l zs) (hk:∀b,ok b->fJ b):fR fJ k w a l zs:=⟨h.1,λx hx h0=>hk _ (h.2 x hx h0)⟩
theorem fR.below {ok:Nat->Prop} {w:H} (h:fR ok k w a l zs) (hb:ay w w w'):fR ok k w' a l zs:=⟨h.1.below hb,h.2⟩
theorem ar.Jk {w:H} {row:Option Nat} (hg:w.grownBy w' row):ar w (λb=>row=A b) w w':=⟨hg.os,hg.tape,hg.output,hg.size,λb hb hn=>hg.block b hb (λe=>hn e.symm)⟩
theorem fR.grown {ok:Nat->Prop} {w:H} {row:Option Nat} (h:fR ok k w a l zs) (hg:w.grownBy w' row) (hn:∀b,ok b->row≠A b):fR ok k w' a l zs:=
 h.move (ar.Jk hg) (λb hb h=>⟨hb,λe=>hn b h e,h⟩)
theorem amm {w:H} (hn:w.heap.size=n) (cs:Array aj) (t:dy):∀j u,cs.toList[j]? =A u->(li w (ag cs t)).cell? ((⟨n,0,G⟩:Addr).add j)=A u:=by
 subst hn;exact xy w cs t
def Jl (Z3 bo:Nat) (v:aj):Nat->Prop:=λb=>Z3<=b/\b≠bo/\v.ownBlock≠A b
structure rf (Z3 B bo:Nat) (xo yo:aj) (wq:H) (vt:aj) (T:List az) (CT:List (Array aj)) (vg:aj) (Z5:List (List Int)) (CG:List (Array aj)) (w:H):Prop where
 bC:w.heap[bo]? =A (ag #[xo,yo] 163 (0,0))
 t:gy Ay 3 57 B (Jl Z3 bo vg) w vt T CT
 g:gy rO 1 55 B (Jl Z3 bo vt) w vg Z5 CG
 b:B<=w
 o:B<=bo
 k:ar B (λ_=>False) wq w
section
variable {Z3 B bo:Nat} {xo yo:aj} {wq:H} {vt:aj} {T:List az} {CT:List (Array aj)} {vg:aj} {Z5:List (List Int)} {CG:List (Array aj)} {w:H}
theorem rf.off (h:rf Z3 B bo xo yo wq vt T CT vg Z5 CG w):vt.ownBlock≠A bo/\vg.ownBlock≠A bo:=⟨adi h.t.2.2 h.bC eM,adi h.g.2.2 h.bC eM⟩
theorem rf.apart (h:rf Z3 B bo xo yo wq vt T CT vg Z5 CG w):∀b,vt.ownBlock=A b->vg.ownBlock≠A b:=λb e=>Wj h.t.2.2 h.g.2.2 eM e
theorem rf.below (h:rf Z3 B bo xo yo wq vt T CT vg Z5 CG w) (hb:ay w w w'):rf Z3 B bo xo yo wq vt T CT vg Z5 CG w':=
 ⟨bV h.bC hb,h.t.move qZ (ar.cZ (S:=λ_=>False) hb) (λb e=>⟨(h.t.2.2.lt b e).2,id⟩) (λb hb _ ho=>⟨hb,id,ho⟩),
  h.g.move lX (ar.cZ (S:=λ_=>False) hb) (λb e=>⟨(h.g.2.2.lt b e).2,id⟩) (λb hb _ ho=>⟨hb,id,ho⟩),eH h.b hb.size,h.o,h.k.trans' (ar.cZ hb) h.b⟩
theorem rf.ten (h:rf Z3 B bo xo yo wq vt T CT vg Z5 CG w) {g:Nat} {x:az} (hx:Ay (qt (Jl Z3 bo vg) vt) w cs x) (hn:n=T.length+1)
 (aV:w'.ownsRow B 57 3 (O g n c) n (CT.flatMap jf++cs.toList)) (eD:w.grownBy w' vt.ownBlock) (lR:vt.ownBlock=A g\/g=w.heap.size):
 rf Z3 B bo xo yo wq (O g n c) (T++[x]) (CT++[cs]) vg Z5 CG w':=by
 have kp:ar w (λb=>vt.ownBlock=A b) w w':=⟨eD.os,eD.tape,eD.output,eD.size,λb hb hn=>eD.block b hb (λe=>hn e.symm)⟩;refine⟨gI eD h.bC (λe=>h.off.1 e),gy.adj qZ h.t hx hn aV eD lR,?_,eH h.b eD.size,h.o,ar.grown h.k eD h.b (λk e=>(h.t.2.2.lt k e).1)⟩;refine h.g.move lX kp (λb e=>⟨(h.g.2.2.lt b e).2,λe2=>h.apart b e2 e⟩) (λb hb he ho=>⟨hb,ho.2.2,ho.1,ho.2.1,λe=> ?_⟩);have e:A g=A b:=e;injection e with e;subst e;rcases lR with h|h
 .exact ho.2.2 h
 .omega
theorem rf.row (h:rf Z3 B bo xo yo wq vt T CT vg Z5 CG w) {g:Nat} {x:ah} (hx:rO (qt (Jl Z3 bo vt) vg) w cs x) (hn:n=Z5.length+1)
 (aV:w'.ownsRow B 55 1 (O g n c) n (CG.flatMap jf++cs.toList)) (eD:w.grownBy w' vg.ownBlock) (lR:vg.ownBlock=A g\/g=w.heap.size):
 rf Z3 B bo xo yo wq vt T CT (O g n c) (Z5++[x]) (CG++[cs]) w':=by
 have kp:ar w (λb=>vg.ownBlock=A b) w w':=⟨eD.os,eD.tape,eD.output,eD.size,λb hb hn=>eD.block b hb (λe=>hn e.symm)⟩;refine⟨gI eD h.bC (λe=>h.off.2 e),?_,gy.adj lX h.g hx hn aV eD lR,eH h.b eD.size,h.o,ar.grown h.k eD h.b (λk e=>(h.g.2.2.lt k e).1)⟩;refine h.t.move qZ kp (λb e=>⟨(h.t.2.2.lt b e).2,λe2=>h.apart b e e2⟩) (λb hb he ho=>⟨hb,ho.2.2,ho.1,ho.2.1,λe=> ?_⟩);have e:A g=A b:=e;injection e with e;subst e;rcases lR with h|h
 .exact ho.2.2 h
 .omega
theorem rf.store (h:rf Z3 B bo xo yo wq vt T CT vg Z5 CG w) (x y:aj):rf Z3 B bo x y wq vt T CT vg Z5 CG (ss (ss w bo x) ⟨bo,1,G⟩ y):=by
 have kp:ar w (λb=>b=bo) w (ss (ss w bo x) ⟨bo,1,G⟩ y):=(ar.cP w (λb=>b=bo) w).Xf (aM rfl) _ _;refine⟨Er h.bC,h.t.move qZ kp (λb e=>⟨(h.t.2.2.lt b e).2,λe2=>h.off.1 (e2▸e)⟩) (λb hb _ ho=>⟨hb,ho.2.1,ho⟩),h.g.move lX kp (λb e=>⟨(h.g.2.2.lt b e).2,λe2=>h.off.2 (e2▸e)⟩) (λb hb _ ho=>⟨hb,ho.2.1,ho⟩),by rw[jR,jR];exact h.b,h.o,h.k.Xf (bJ h.o) _ _⟩
end
def Qy (r:Int×az×List Int) (w:H) (a b c:aj) (wx:H):Prop:=∃(bo:Nat) (ta:aC) (tl tc:Nat) (ex:Int) (tb:aC) (tm tk:Nat) (g:aC) (n h:Nat),a=aP bo/\b=O g n h/\c=Y Z r.1 /\
 wx.heap[bo]? =A (bj ta tl tc ex tb tm tk)/\
 (r.1 =0->Ay (λb=>w.heap.size<=b) wx #[O ta tl tc,Y Z ex,O tb tm tk] r.2.1 /\fR (λb=>w.heap.size<=b) Z wx g n r.2.2)/\w.heap.size<=bo/\ay w w wx
theorem dM.onC {B:Nat} {e:Int} {m k:Nat} {t:az} (h:dM aO B w (aS a l c e b m k) t) (hc:t.d.length=2->nM (aS a l c e b m k)):Ay (λb=>B<=b) w #[O a l c,Y Z e,O b m k] t:=by
 obtain⟨cs,e1,h1⟩:=h.on;unfold aS at e1;injection e1 with e1;subst e1;exact⟨FF.move h1 (ar.cP w (λ_=>False) w) (λb hb h=>⟨hb,id,h.1⟩),hc⟩
theorem Qy.set {D:Nat} {g:Nat} {ra:aC} {rl rc:Nat} {iO:Int} {rb:aC} {rm rk:Nat} {jw:aC} {rn:Nat} {rt:az} {rg:ah} (hD:g<D)
 (h:dM aO D w (aS ra rl rc iO rb rm rk) rt/\(rt.d.length=2->nM (aS ra rl rc iO rb rm rk))/\ai Z w jw rn rg/\∀x,jw=A x->D<=x.block):
 Ay (λb=>g<=b) (ss (ss (ss w g x) ⟨g,1,G⟩ y) ⟨g,2,G⟩ z) #[O ra rl rc,Y Z iO,O rb rm rk] rt/\fR (λb=>g<=b) Z (ss (ss (ss w g x) ⟨g,1,G⟩ y) ⟨g,2,G⟩ z) jw rn rg:=by
 have kp:ar w (λb=>b=g) w (ss (ss (ss w g x) ⟨g,1,G⟩ y) ⟨g,2,G⟩ z):=(ar.cP w (λb=>b=g) w).eJ (aM rfl) _ _ _;exact⟨qZ.move (h.1.onC h.2.1) kp (λb hb h=>⟨hb,U,U⟩),fR.move (ok:=λb=>D<=b) ⟨h.2.2.1,λx hx _=>h.2.2.2 x hx⟩ kp (λb hb h=>⟨hb,U,U⟩)⟩
theorem Xg:(aq.info? 57).map (λi=>(i.zero,i.size,i.bytes))=A (A (aF #[O G 0 0,Y Z 0,O G 0 0]),3,56):=Q2Q
theorem adk (m:Mod) (ok:Nat->Prop) (xa:aC) (xl xm:Nat) (ps:List bD) (pa:aC) (pl pm:Nat) (x:az) (zu:aC) (tT r8:Nat) (tU:aC) (l9 wL:Nat) (au step:Int) (w:H)
 (h:cH iM 7 ok w xa xl m.L) (hp:pH w pa pl ps) (hd:ai Z w zu tT x.d) (hz:ai aO w tU l9 x.z) (hc:tT<=r8) (hu:P.Z4 au) (fE:(Lit.int Z step).wf=true):
 aA aq 78 #[aF (m.cells xa xl xm),O pa pl pm,aS zu tT r8 x.e tU l9 wL,Y cD au,Y Z step] w (Qx (Fw.run m ps x au step) w):=by
 have K0:=V (aE.lj w (ag (m.cells xa xl xm) 25) (bj zu tT r8 x.e tU l9 wL) (pV G 0 0 G 0 0));have KR:=V ((h.bt gL U).and (hp.bt.and (hd.bt.and hz.bt)));have FN:=V aaQ;have PM:=V (Pz m ok xa xl xm ps pa pl pm);have TM:=V (jr zu tT r8 x.d x.e tU l9 wL x.z);have ST:=V (λl w=>O5 step l 0 w);have oO:=V h.1;have fP:=h.2.1;have jU:=hd.eC;have Es:=V hd.bA;have xH:=V hz.bA;obtain⟨R,hR⟩:=J (Fw.run m ps x au step);rw[hR];unfold Fw.run at hR;obtain⟨QA,hA⟩:∃Z3,ZX.within step 0 1000000=Z3:=⟨_,rfl⟩;obtain⟨QB,hB⟩:∃Z3,m.qT ps=Z3:=⟨_,rfl⟩;obtain⟨QC,hC⟩:∃Z3,x.ok=Z3:=⟨_,rfl⟩;have Ga:decide (T.aH x.d x.e x.z)=QC:=hC;rw[Ga]at TM;rw[hB]at PM;rw[hA,hB,hC]at hR;have HA:=V hA;have HB:=V hB;have HC:=V hC;have HR:=V hR;clear h hp hd hz hR hA hB hC Ga;unfold aS;unfold aS at TM;have f0:=eQ K0.F.1;have r0:=aY K0.F.2.1;obtain⟨a0,a1,a2,a3⟩:=qE K0.F.2.2.1;go_enter func78,ntmps78
 let pq:=gW aq Tryz.f78 (λ_ _=>True)
 generalize dS:gW aq Tryz.f78 (Qx R w)=BP;have dB:=V dS;have jM:=oz dS;clear dS;go_wp2_with fail;refine cq (FN.I _ _ _ _) ?_;rw[HA.I];have bad:∀wx,ay w w wx->∀e i:Int,e≠0->Qx (e,i,[],[]) w (bG (aL #[aF #[O G 0 0,O G 0 0],Y Z i,Y Z e])) wx:=
  λwx hb e i he=>⟨G,0,0,G,0,0,rfl,cH.nil _ _ _ _ _,cH.nil _ _ _ _ _,⟨0,0,G,0,0,λh=>absurd h he⟩,hb⟩
 have Bad:=V bad;clear bad
 cases QA
 .obtain rfl:(1,0,[],[])=R:=by rw[<-HR.I,aR bK]
  go_wp2_with fail;rw[<-dB.I];refine aZ (v:=aL #[aF #[O G 0 0,O G 0 0],Y Z 0,Y Z 1]) ?_ rfl (Bad.I _ K0.F.2.2.2 _ _ eM);obtain⟨t0,t1,_,_⟩:=qE (Er (a:=O G 0 0) (b:=O G 0 0) K0.F.2.2.1);exact Q2A
 go_wp2_with fail;refine bY (PM.I _ (KR.aQ K0.F.2.2.2).1 (KR.aQ K0.F.2.2.2).2.1) λw1 hb=> ?_;have K1:=K0.bU hb;clear hb;have f0:=eQ K1.F.1;have r0:=aY K1.F.2.1;obtain⟨a0,a1,a2,a3⟩:=qE K1.F.2.2.1
 cases QB
 .obtain rfl:(1,0,[],[])=R:=by rw[<-HR.I,aR bK]
  go_wp2_with fail;rw[<-dB.I];refine aZ (v:=aL #[aF #[O G 0 0,O G 0 0],Y Z 0,Y Z 1]) ?_ rfl (Bad.I _ (Jj K1.F.2.2.2 U _ _) _ _ eM);obtain⟨t0,t1,_,_⟩:=qE (Er (a:=O G 0 0) (b:=O G 0 0) K1.F.2.2.1);exact Q2A
 go_wp2_with fail;refine bY (TM.I _ (KR.aQ K1.F.2.2.2).2.2.1 (KR.aQ K1.F.2.2.2).2.2.2) λw2 hb=> ?_;have K2:=K1.bU hb;clear hb;have f0:=eQ K2.F.1;have r0:=aY K2.F.2.1;obtain⟨a0,a1,a2,a3⟩:=qE K2.F.2.2.1
 cases QC
 .obtain rfl:(1,0,[],[])=R:=by rw[<-HR.I,aR bK]
  go_wp2_with fail;rw[<-dB.I];refine aZ (v:=aL #[aF #[O G 0 0,O G 0 0],Y Z 0,Y Z 1]) ?_ rfl (Bad.I _ (Jj K2.F.2.2.2 U _ _) _ _ eM);obtain⟨t0,t1,_,_⟩:=qE (Er (a:=O G 0 0) (b:=O G 0 0) K2.F.2.2.1);exact Q2A
 have cU:=V (show(if x.d.length≠4\/x.d.tail≠[m.a,m.b,m.c]then(2,0,[],[])else Fw.pO ps au step 0 m.L [x] [[]])=R by have:=HR.I;rwa[aI bK]at this);clear HR;go_upto_region 3 with fail;by_cases c4:tT=4
 case neg=>
  have b4:((tT:Int) != 4)=true:=Q2R;obtain rfl:(2,0,[],[])=R:=by rw[<-cU.I,aR (aM (by rw[Es.I];exact c4))]
  clear c4;refine cS (λw':H=>w'.heap[w.heap.size]? =A (ag (m.cells xa xl xm) 25 (0,0))/\w'.heap[w.heap.size+1]? =A (bj zu tT r8 x.e tU l9 wL)) (eE (⟨K2.F.1,K2.F.2.1⟩) λhS=>bR hS [0,1,2,3,4,5,8,6,9,7] (λ_ h=>aw (eQ h.1) (bP h.2)) ?_);refine bL 10 λK hK=> ?_;go_simp;refine bB hK hS ?_;refine bR hS [11,12,13] (λ_ h=>aw (eQ h.1) (bP h.2)) (bW ?_);obtain⟨w3,fZ⟩:∃u,w2.drew=u:=⟨_,rfl⟩;have K3:=V (K2.I.step (w':=w3) (fZ▸below_drewN w2 1));rw[fZ];clear hS fZ;obtain⟨a0,a1,a2,a3⟩:=qE K3.F.2.2.1;exact Q0W
 subst c4;have b4:(((4:Nat):Int) != 4)=ae:=rfl;obtain⟨Mv,Mw,rfl,Xh⟩:=(KR.aQ K2.F.2.2.2).2.2.1.cells U;have iJ:¬r8=1:=U;have gJ:=Mod.nT (Mod.Qw HB.I);obtain⟨Vi,Vj,Vk,Vl,Vm,Vn,BG,BH,-⟩:=gJ;rw[oO.I]at BG BH;have HIn:=V (λ(u:H) (hu:u.heap[w.heap.size]? =A (ag (m.cells xa xl xm) 25 (0,0)))=>(show ai Z u w 3 [m.a,m.b,m.c]from
  ⟨rfl,U,(λz hz=>by
   simp only[jy,mj,or_false]at hz;rcases hz with rfl|rfl|rfl<;>exact gF U U),bJ ⟨w.heap.size,0,rfl,λj hj=>by
   match j,hj with
   |0,_=>exact bh hu 0 rfl
   |1,_=>exact bh hu 1 rfl
   |2,_=>exact bh hu 2 rfl⟩⟩))
 have SM:=V (Ii (A ⟨Mv,Mw+1,G⟩) 3 (r8-1) ((x.d.drop 1).take 3) w 3 3 [m.a,m.b,m.c]);obtain⟨ZU,hE⟩:=J (decide ((x.d.drop 1).take 3=[m.a,m.b,m.c]));rw[hE]at SM;have HE:=V hE;clear hE Xh;refine cS (λw':H=>w'.heap[w.heap.size]? =A (ag (m.cells xa xl xm) 25 (0,0))/\w'.heap[w.heap.size+1]? =A (bj (A ⟨Mv,Mw,G⟩) 4 r8 x.e tU l9 wL)) (eE (⟨K2.F.1,K2.F.2.1⟩) λhS=>bR hS [0,1,2,3,4,5,8,6,9,7] (λ_ h=>aw (eQ h.1) (bP h.2)) ?_);refine bL 10 λK hK=> ?_;go_simp;refine bY (SM.I _ ((KR.aQ (K2.I.bI 1).aN.2.2.2).2.2.1.sub 1 3 U) (HIn.I _ hS.1)) λw3 hb=> ?_;have K3:=V ((K2.I.bI 1).step hb);refine bB hK (⟨K3.F.1,K3.F.2.1⟩) ?_;refine bR (⟨K3.F.1,K3.F.2.1⟩) [11,12,13] (λ_ h=>aw (eQ h.1) (bP h.2)) (bW ?_);clear hS SM;obtain⟨a0,a1,a2,a3⟩:=qE K3.F.2.2.1
 cases ZU
 .obtain rfl:(2,0,[],[])=R:=by
   rw[<-cU.I,aR (bJ (λh=>kH HE.I ?_))];rw[<-h,oQ (by rw[List.length_drop,Es.I];omega)];exact List.drop_one
  exact Q0W
 have fL:=V (show Fw.pO ps au step 0 m.L [x] [[]]=R by
  have h:=cU.I;rwa[aI]at h;rintro(c|c)
  .exact c Es.I
  .apply c;have h:=eZ HE.I;rw[oQ (by rw[List.length_drop,Es.I];omega)]at h;rw[<-h];exact List.drop_one.symm)
 clear cU HE;go_upto_region 5 with fail;have DJ:l9<=8192:=by
  have:=T.E9 (show T.aH x.d x.e x.z from eZ HC.I);rwa[xH.I]at this
 have C4:=V (λw h=>Fc (A ⟨Mv,Mw,G⟩) 4 r8 x.d w h U);have C8:=V (λw h=>aaB tU l9 wL x.z w h U);refine Lt.begins (λw':H=>w'.heap[w.heap.size]? =A (ag (m.cells xa xl xm) 25 (0,0))/\w'.heap[w.heap.size+1]? =A (bj (A ⟨Mv,Mw,G⟩) 4 r8 x.e tU l9 wL)) (λj=>j==7||j==8||j==9) kr ?_;have hS:(λw':H=>w'.heap[w.heap.size]? =A (ag (m.cells xa xl xm) 25 (0,0))/\w'.heap[w.heap.size+1]? =A (bj (A ⟨Mv,Mw,G⟩) 4 r8 x.e tU l9 wL)) w3.drew:=⟨K3.F.1,K3.F.2.1⟩;refine bR hS [0,3,1,4] (λ_ h=>aw (eQ h.1) (bP h.2)) (bL 2 λK hK=> ?_);go_simp;refine(C4.I _ (KR.aQ (K3.I.bI 1).aN.2.2.2).2.2.1).mono ?_;intro e' w4 gv;have KV:=(KR.aQ (K3.I.bI 1).aN.2.2.2).2.2.1.wf;obtain⟨ca,cc,rfl,hca,Et,Qz,hb⟩:=gv.roomy KV U;have K4:=V ((K3.I.bI 1).step hb);have KC:=V hca.bt;refine bB hK (⟨K4.F.1,K4.F.2.1⟩) ?_;refine bR (⟨K4.F.1,K4.F.2.1⟩) [6] (λ_ h=>aw (eQ h.1) (bP h.2)) (bL 5 λK hK=> ?_);go_simp;refine(C8.I _ (KR.aQ K4.F.2.2.2).2.2.2).mono ?_;clear KV gv hca;intro e' w5 gv;obtain⟨cb,ck,rfl,xO,Mx,NL,gi⟩:=gv.roomy (KR.aQ K4.F.2.2.2).2.2.2.wf U;have K5:=K4.bU gi;have QD:=V ((KC.I.step gi).and xO.bt);refine bB hK (⟨K5.F.1,K5.F.2.1⟩) ?_;have r0:=aY K5.F.2.1;refine bL 7 λK hK=> ?_;go_simp;refine jg hK ?_;refine bL 8 λK hK=> ?_;go_simp;refine jg hK ?_;refine bL 9 λK hK=> ?_;go_simp;refine jg hK ?_;refine bW ?_;clear hS gv xO;have k6:ar w5 (λb=>b=w.heap.size+1) w5 (ss (ss w5 ⟨w+1,0,G⟩ (O ca 4 cc)) ⟨w+1,2,G⟩ (O cb l9 ck)):=((ar.cP w5 (λb=>b=w.heap.size+1) w5).set (aM rfl) 0 _).set (aM rfl) 2 _;have CY:(ss (ss w5 ⟨w+1,0,G⟩ (O ca 4 cc)) ⟨w+1,2,G⟩ (O cb l9 ck)).heap[w.heap.size+1]? =A (bj ca 4 cc x.e cb l9 ck):=by
  have h:=dF (f:=2) (dF (f:=0) K5.F.2.1 (O ca 4 cc)) (O cb l9 ck);simpa using h
 have nK:=bH K3.F.2.2.1;have A7:=bH K4.F.2.2.1;have pZ:=bH K5.F.2.2.1;have as7:=gi.size;have as8:w3.heap.size<=w4:=hb.size;have Et:∀y,ca=A y->w3.heap.size<=y.block/\y.block<w4.heap.size:=Et;have adl:=k6.gH QD.F.1 (λy hy _=>by have:=Et y hy;exact⟨U,U⟩);have adn:=k6.gH QD.F.2 (λy hy _=>by have:=Mx y hy;exact⟨U,U⟩);have hm6:=k6.bC U U K5.F.1;have ha6:=k6.bC pZ U K5.F.2.2.1;have cO:=Below.gh K5.F.2.2.2 k6 (λb hb=>⟨U,U⟩);have m9:=k6.size;clear k6;generalize ss (ss w5 ⟨w+1,0,G⟩ (O ca 4 cc)) ⟨w+1,2,G⟩ (O cb l9 ck)=w6 at*;have HI:=V (show(∀y,ca=A y->w.heap.size+1+1+1<=y.block/\y.block<w6.heap.size)/\∀y,cb=A y->w.heap.size+1+1+1<=y.block/\y.block<w6.heap.size from
  ⟨λy hy=>E (Et y hy),λy hy=>E (Mx y hy)⟩)
 have K6:=V ((aE.block ha6).and ((adl.bt.and adn.bt).and (aE.base w6)));have eW:=V cO;obtain⟨B,hB⟩:=J w6.heap.size;have LD:w.heap.size+1+1<B:=U;obtain⟨f0,f1,f2,f3⟩:=eQ hm6;have r0:=aY CY;clear Et Mx hb CY adl adn;obtain⟨-,-,k3⟩:=uy f3;go_wp2_with fail;have L8:=V (show rf (w.heap.size+1+1+1) B (B+1+1) (O B 1 1) (O (A ⟨B+1,0,G⟩) 1 1) w6 (O B 1 1) [x] [#[O ca 4 cc,Y Z x.e,O cb l9 ck]] (O (A ⟨B+1,0,G⟩) 1 1) [[]] [#[O G 0 0]]
  (li (li (li w6 (bj ca 4 cc x.e cb l9 ck)) (ag #[O G 0 0] 55)) (pV B 1 1 (A ⟨B+1,0,G⟩) 1 1))from by
  obtain⟨n0,n1,n2,nb⟩:=(aE.lj w6 (bj ca 4 cc x.e cb l9 ck) (ag #[O G 0 0] 55) (pV B 1 1 (A ⟨B+1,0,G⟩) 1 1)).aN;rw[hB]at n0 n1 n2;refine⟨n2,⟨rfl,λi y hy=> ?_,⟨rfl,bJ ⟨B,1,_,rfl,bu _,n0,bu _,Q3h,rfl,rfl⟩⟩⟩,⟨rfl,λi y hy=> ?_,⟨rfl,bJ ⟨B+1,1,_,rfl,U,n1,bu _,Q3h,rfl,rfl⟩⟩⟩,by have:=nb.size;omega,U,(ar.cZ nb).mono U (λ_ _ h=>h)⟩
  .obtain rfl:i=0:=by
    have:=(fX.1 hy).1;simpa using this
   obtain rfl:x=y:=Q3w;refine⟨_,rfl,⟨_,_,_,_,_,_,rfl,⟨K6.F.2.1.1.below nb,λy hy _=> ?_⟩,⟨K6.F.2.1.2.below nb,λy hy _=> ?_⟩⟩,λh2=>by rw[Es.I]at h2;cases h2⟩
   .have:=HI.I.1 y hy;exact Q1x
   .have:=HI.I.2 y hy;exact Q1x
  .obtain rfl:i=0:=by
    have:=(fX.1 hy).1;simpa using this
   obtain rfl: []=y:=Q3w;exact⟨_,rfl,_,_,_,rfl,fR.nil _ _ _⟩)
 have qy:=V (show ps.length=xl by rw[Mod.adh HB.I,oO.I]);have uI:=V (KR.F.2.1.1);have o7:=V (Mod.Qw HB.I);go_loopw [65,14,15,16,17,18] (λi _ _ _ _ _ wr=>∃(k:Nat) (vt:aj) (T:List az) (CT:List (Array aj)) (vg:aj) (Z5:List (List Int)) (CG:List (Array aj)),k<=xl/\i=Y Z k/\rf (w.heap.size+1+1+1) B (B+1+1) vt vg w6 vt T CT vg Z5 CG wr/\CT[0]? =A #[O ca 4 cc,Y Z x.e,O cb l9 ck]/\T.length=k+1/\Z5.length=k+1/\Fw.pO ps au step k (m.L.drop k) T Z5=R) (λi _ _ _ _ _ _=>xl-(aX i).toNat)
 case atStart=>exact⟨0,_,_,_,_,_,_,cK _,rfl,L8.I,rfl,rfl,rfl,fL.I⟩
 case round=>
  as_aux_lemma=>
  obtain⟨k,vt,T,CT,vg,Z5,CG,hk,rfl,hs,hct,vR,nk,nU⟩:=hrel;have HS:=V hs;have QE:=V hct;have pP:=V vR;have sJ:=V nk;have iW:=V nU;have eV:=V (Below.gh eW.I hs.k (λb hb=>⟨U,id⟩));clear hs hct vR nk nU;obtain⟨ta,tc,rfl,l8,Jm,sO⟩:=HS.I.t.on qZ U (n:=k+1) pP.I U (ok:=λb=>w.heap.size+1+1+1<=b) (λb hb h=>h.1) (λb hb h=>U);obtain⟨ga,gc,rfl,V2,QF,Az⟩:=HS.I.g.on lX U (n:=k+1) sJ.I U (ok:=λb=>w.heap.size+1+1+1<=b) (λb hb h=>h.1) (λb hb h=>U);have tV:=V Jm;have Jo:=V QF;clear Jm QF sO Az;by_cases aT:k<xl
  .obtain⟨y,hy⟩:∃y,m.L[k]? =A y:=⟨m.L[k]'(by rw[oO.I];exact aT),Q2W⟩;obtain⟨p,hp⟩:∃p,ps[k]? =A p:=⟨ps[k]' Q4C,Q2W⟩;have iw:=V (iW.I.symm.trans (Fw.aml hy hp T Z5)).symm;have kN:pl=xl:=by rw[<-uI.I,qy.I]
   obtain⟨yb,yo,cs,rfl,_,hE,hcs⟩:=(KR.aQ eV.I).1.get hy;obtain rfl:cs=y.cells:=hE;have g0:=hcs 0 (Y Z y.aB) rfl;have g1:=hcs 1 (Y Z y.I) rfl;have g2:=hcs 2 (Y Z y.k) rfl;have g3:=hcs 3 (Y Z y.s) rfl;have g4:=hcs 4 (Y Z y.aG) rfl;have g5:=hcs 5 (Y Z y.aJ) rfl;have g6:=hcs 6 (aK y.fz) rfl;simp only[eL]at g0;have Jp:ps.getD k bD.nil=p:=by simp[dV,hp]
   obtain⟨pb,po,FX,y9⟩:=((KR.aQ eV.I).2.1.2.2.resolve_left U);obtain⟨cp,Jq,pJ⟩:=y9 k U;rw[Jp]at Jq;have HPp:=V (λw' (b:ay wr wr w')=>Jq.below b);obtain⟨a1,l1,c1,a2,l2,c2,a3,l3,c3,a4,l4,c4,a5,l5,c5,rfl,-⟩:=Jq;have hfm:=V (Mod.LB o7.I hy);have FG:=V (λw' hp' EM=>amk y p T #[O a1 l1 c1,Y Z p.w.e,O a2 l2 c2,O a3 l3 c3,O a4 l4 c4,Y Z p.b.e,O a5 l5 c5] (λb=>w.heap.size+1+1+1<=b) ta (k+1) tc au (ZX.stream step ((k:Int)+1) 0) w' hp' EM U (λh7=>E (hfm.I h7)) hu (ZX.O0 _ _ _));subst FX;have KT:=V (tV.I.bt qZ U);generalize Fw.gives y p T au (ZX.stream step ((k:Int)+1) 0)=r at*;obtain⟨re,rt,rg⟩:=r;have i7:Z.wrap ((k:Int)+1)=(k:Int)+1:=dv _ U;have cA:(k:Int)<(pl:Int):=U;have P1:k<pl:=U;clear hy hp Jp y9 hcs kN;go_upto_region 10 with fail;clear g0;obtain⟨wy,F9⟩:∃u,li wr (bQ y.aB y.I y.k y.s y.aG y.aJ y.fz)=u:=⟨_,rfl⟩;have yg:ay wr wr wy:=F9▸aD wr _;have Xi:wy.heap[wr.heap.size]? =A (bQ y.aB y.I y.k y.s y.aG y.aJ y.fz):=F9▸bZ wr _;have AA:=V (HS.I.below yg);have Xj:∀j v,(#[O a1 l1 c1,Y Z p.w.e,O a2 l2 c2,O a3 l3 c3,O a4 l4 c4,Y Z p.b.e,O a5 l5 c5]:Array aj)[j]? =A v->wy ⟨pb,po+k*7+j,G⟩=A v:=λj v hv=>yg.cell_of (pJ j v hv);have Xk:=V ((KT.I.step yg).mono (λu h=>h.weak (λcs x h=>h.1)));have Xl:=V (λw' (b:ay wy wy w')=>HPp.I w' (yg.step b));have HBy:=V (eV.I.step yg);have rL:=AA.I.b;rw[F9];unfold Lay.cells at FG;clear F9 pJ HS tV Jo eV uI;go_cut [16,17,18] (λa b c wx=>Qy (re,rt,rg) wy a b c wx)
   case first=>
    as_aux_lemma=>
    refine cS (λw':H=>w'.heap[wr.heap.size]? =A (bQ y.aB y.I y.k y.s y.aG y.aJ y.fz)/\w'.heap[B+1+1]? =A (pV ta (k+1) tc ga (k+1) gc)/\∀j v,(#[O a1 l1 c1,Y Z p.w.e,O a2 l2 c2,O a3 l3 c3,O a4 l4 c4,Y Z p.b.e,O a5 l5 c5]:Array aj)[j]? =A v->w' ⟨pb,po+k*7+j,G⟩=A v) (eE (⟨Xi,AA.I.bC,Xj⟩) λhS=> ?_);have mX:=V (λu (hu:ay wy wy u)=>(show(λw':H=>w'.heap[wr.heap.size]? =A (bQ y.aB y.I y.k y.s y.aG y.aJ y.fz)/\w'.heap[B+1+1]? =A (pV ta (k+1) tc ga (k+1) gc)/\∀j v,(#[O a1 l1 c1,Y Z p.w.e,O a2 l2 c2,O a3 l3 c3,O a4 l4 c4,Y Z p.b.e,O a5 l5 c5]:Array aj)[j]? =A v->w' ⟨pb,po+k*7+j,G⟩=A v) u from⟨bV Xi hu,bV AA.I.bC hu,λj v hv=>hu.cell_of (Xj j v hv)⟩));refine Lt.takes Q2U hS [0,1,2,5,7,8,9,3,6,10,4] kr rfl ?_;repeat(first|((refine Lt.more (v:= ?_) rfl (aM ⟨Q3u,?_⟩) ?_;rotate_left;(intro w' hw';obtain⟨b0,b1,hp⟩:=hw';obtain⟨s0,s1,s2,s3,s4,s5,s6⟩:=bE b0;obtain⟨s7,s8⟩:=nj b1;have p0:=hp 0 _ rfl;have p1:=hp 1 _ rfl;have p2:=hp 2 _ rfl;have p3:=hp 3 _ rfl;have p4:=hp 4 _ rfl;have p5:=hp 5 _ rfl;have p6:=hp 6 _ rfl;simp only[eL]at p0;clear hp;go_simp;try with_reducible rfl);try simp only[eR,dC,dD,dE]))|((refine Lt.more (v:=undef) rfl (bJ ⟨Q3u,rfl⟩) ?_;try simp only[eR,dC,dD,dE])))
    refine Lt.done ?_;refine lI 11 17 (λK hK=> ?_) (λK hK=> ?_)
    .go_simp;refine cq (ST.I _ _) ?_;refine bB hK hS ?_;refine lI 12 17 (λK hK=> ?_) (λK hK=> ?_)
     .go_simp;refine(FG.I _ (Xl.I _ (below_drewN wy 1)) (Xk.I.bI 1).aN).mono ?_;rintro e' w8 ⟨ra,rl,rc,iO,rb,rm,rk,jw,rn,rh,rfl,mH,hb⟩;have ej:ay wy wy w8:=((eG _ wy).bI 1).step hb;have AB:=V mH;clear mH hS;unfold aS;refine bB hK (mX.I w8 ej) ?_;refine cQ (mX.I w8 ej) [13,14,15,16] (bL 17 λK hK=> ?_);go_simp;have gK:=λo=>ej.step (aD w8 o);refine cY hK (mX.I _ (gK _)) 18 λK hK=> ?_;go_simp;refine bB hK (mX.I _ (gK _)) ?_;refine cQ (mX.I _ (gK _)) [19,20] (bW ?_);go_wp2_with fail;go_meet
      exact⟨_,ra,rl,rc,iO,rb,rm,rk,jw,rn,rh,rfl,rfl,rfl,bZ w8 _,λh=>⟨((AB.I h).1.below (aD w8 _)).onC (AB.I h).2.1,(AB.I h).2.2.1.below (aD w8 _),λx hx _=>(AB.I h).2.2.2 x hx⟩,ej.size,gK _⟩
     .go_simp;have eX:=(aD wy (bj G 0 0 0 G 0 0)).bI 1;exact Q0n
    .go_simp;have eX:=(aD wy (bj G 0 0 0 G 0 0)).bI 1;refine cY hK (mX.I _ eX) 11 λK hK=> ?_;go_simp;refine cq (ST.I _ _) ?_;exact Q0n
   case rest=>
    obtain⟨tb,ra,rl,rc,iO,rb,rm,rk,jw,rn,rh,rfl,rfl,rfl,sO,mH,htg,dK⟩:=hcut;obtain⟨w9,rfl⟩:∃w9:H,w9=wc:=⟨_,rfl⟩;have Eu:=V (AA.I.below dK);have rS:=V (HBy.I.step dK);have AB:=V mH;have Ev:=V (sO);have V1:=dK.size;have xD:=bH AA.I.bC;have AE:=V (λb e=>(AA.I.t.2.2.lt b e).2);have Aj:=V (λb e=>(AA.I.g.2.2.lt b e).2);clear Xj Xi mH dK;by_cases jn:re=0
    case neg=>
     obtain rfl:(re,(k:Int)+1,[],[])=R:=by rw[<-iw.I,aR jn]
     have e1:(re != 0)=true:=Q3M;obtain⟨a0,a1,a2,a3⟩:=qE ((K6.F.1).trans rfl);have Js:=V (Eu.I.k.bC U id K6.F.1);obtain⟨a0,a1,a2,a3⟩:=qE Js.I;clear sO;go_wp2_with fail;try simp only[j6,Exit.then]
     rw[<-dB.I];refine aZ (v:=aL #[aF #[O G 0 0,O G 0 0],Y Z ((k:Int)+1),Y Z re]) ?_ rfl (Bad.I _ (Jj rS.I U _ _) _ _ jn);obtain⟨t0,t1,_,_⟩:=qE (Er (a:=O G 0 0) (b:=O G 0 0) Js.I);exact Q2A
    subst jn;have qv:=V (show Fw.pO ps au step (k+1) (m.L.drop (k+1)) (T++[rt]) (Z5++[rg])=R by have h:=iw.I;rwa[aI bK]at h);have D6:=V (AB.I rfl);clear iw;go_upto_region 13 with fail;have ri:=V (λ(b:Nat) (hb:wy.heap.size<=b)=>(show Jl (w.heap.size+1+1+1) (B+1+1) (O ga (k+1) gc) b/\Jl (w.heap.size+1+1+1) (B+1+1) (O ta (k+1) tc) b/\Value.ownBlock (O ta (k+1) tc)≠A b/\Value.ownBlock (O ga (k+1) gc)≠A b from by
     have h1:=HBy.I.size;have h2:=AA.I.o;exact⟨⟨U,U,λe=>E (Aj.I _ e)⟩,⟨U,U,λe=>E (AE.I _ e)⟩,λe=>E (AE.I _ e),λe=>E (Aj.I _ e)⟩))
    have Xm:=V (show CT.length=k+1 from by rw[AA.I.t.1,pP.I]);have lr:=V (show fR (λb=>wy.heap.size<=b/\b<w9.heap.size) Z w9 jw rn rg from⟨D6.I.2.1,λx hx h0=>⟨D6.I.2.2 x hx h0,D6.I.2.1.bC h0 hx⟩⟩);clear AA;refine Lt.begins (λw':H=>w'.heap[B+1+1]? =A (pV ta (k+1) tc ga (k+1) gc)/\w'.heap[tb]? =A (bj ra rl rc iO rb rm rk)) (λj=>j==11||j==12||j==13) kr ?_;have hS:(λw':H=>w'.heap[B+1+1]? =A (pV ta (k+1) tc ga (k+1) gc)/\w'.heap[tb]? =A (bj ra rl rc iO rb rm rk)) w9.drew:=⟨Eu.I.bC,Ev.I⟩;refine bR hS [0,2,5,7,1,6] (λ_ h=>aw (nj h.1) (bP h.2)) ?_;refine lI 3 8 (λK hK=> ?_) (λK hK=> ?_)
    .as_aux_lemma=>
     go_simp;have dK:ay w9 w9 (li w9 (bj ra rl rc iO rb rm rk)).drew:=(aD w9 (bj ra rl rc iO rb rm rk)).bI 1;have pj:=V (Eu.I.below dK);refine bB hK (⟨pj.I.bC,bV Ev.I dK⟩) ?_;refine lI 4 8 (λK hK=> ?_) (λK hK=> ?_)
     .as_aux_lemma=>
      obtain⟨i0,hi,cF,cG,cB⟩:=fB Xg;refine lM _ cJ _ _ _ cJ B 57 i0 _ 3 56 underlying161 hi cF cG cB rfl U (O ta (k+1) tc) (k+1) (CT.flatMap jf) cJ (pP.I▸pj.I.t.2.2) ⟨w9,0,G⟩ 1 1 #[O ra rl rc,Y Z iO,O rb rm rk].toList cJ cJ (xy w9 #[O ra rl rc,Y Z iO,O rb rm rk] 57) Q35 U Q2V U pj.I.b _ rfl ?_;intro g1 c1 W1 cC bM cN ei;have jT:=V (pj.I.ten (x:=rt) (cs:=#[O ra rl rc,Y Z iO,O rb rm rk]) (qZ.move D6.I.1 (ar.cZ (S:=λ_=>False) dK) (λb hb h=>⟨hb,id,(ri.I b h).2.2.1,(ri.I b h).1⟩)) (n:=k+2) (by rw[pP.I]) cC bM cN);have Ci:=V (gI bM (bV Ev.I dK) (λe=>Q3I));have gG:=V ((lr.I.below dK).grown bM (λb h=>(ri.I b h.1).2.2.1));have pX:∀b,wy.heap.size<=b/\b<w9.heap.size->g1≠b:=λb h e=>by
       exact Q2N
      have dp:(λw':H=>w'.heap[B+1+1]? =A (pV ta (k+1) tc ga (k+1) gc)/\w'.heap[tb]? =A (bj ra rl rc iO rb rm rk)) W1:=⟨jT.I.bC,Ci.I⟩;refine bB hK dp ?_;refine cQ dp [10] (bL 8 λK hK=> ?_);go_simp;have ej:=aD W1 (ag #[O jw rn rh] 55);have Gk:=V (jT.I.below ej);refine bB hK (⟨Gk.I.bC,bV Ci.I ej⟩) ?_;obtain⟨i0,hi,cF,cG,cB⟩:=fB LC;refine bL 9 λK hK=> ?_;refine lM _ cJ _ _ _ cJ B 55 i0 _ 1 24 underlying95 hi cF cG cB rfl U (O ga (k+1) gc) (k+1) (CG.flatMap jf) cJ (sJ.I▸Gk.I.g.2.2) ⟨W1,0,G⟩ 1 1 [O jw rn rh] cJ cJ (kJ W1 _ _) Q35 U Q2V U Gk.I.b _ rfl ?_;intro g2 c2 W2 fT lh oU fC;have jI:=V (Gk.I.row (x:=rg) (cs:=#[O jw rn rh]) ⟨_,_,_,rfl,(gG.I.below ej).weak (λb h=>⟨(ri.I b h.1).2.2.2,(ri.I b h.1).2.1.1,(ri.I b h.1).2.1.2.1,λe=>pX b h (by injection e)⟩)⟩ (n:=k+2) (by rw[sJ.I]) fT lh oU);refine bB hK (⟨jI.I.bC,gI lh (bV Ci.I ej) (λe=>by have h1:=Aj.I _ e;omega)⟩) ?_;exact Q09
     .as_aux_lemma=>
      go_simp;clear dK;have dK:ay w9 w9 (li (li w9 (bj ra rl rc iO rb rm rk)) (ag #[O jw rn rh] 55)).drew:=((aD w9 (bj ra rl rc iO rb rm rk)).step (aD _ (ag #[O jw rn rh] 55))).bI 1;have pj:=V (Eu.I.below dK);refine bB hK (⟨pj.I.bC,bV Ev.I dK⟩) ?_;have h8:(li (li w9 (bj ra rl rc iO rb rm rk)) (ag #[O jw rn rh] 55)).drew.heap[w9.heap.size+1]? =A (ag #[O jw rn rh] 55):=by
       have h:=bZ (li w9 (bj ra rl rc iO rb rm rk)) (ag #[O jw rn rh] 55);rw[bF]at h;exact h
      refine bL 4 λK hK=> ?_;obtain⟨i0,hi,cF,cG,cB⟩:=fB Xg;refine lM _ cJ _ _ _ cJ B 57 i0 _ 3 56 underlying161 hi cF cG cB rfl U (O ta (k+1) tc) (k+1) (CT.flatMap jf) cJ (pP.I▸pj.I.t.2.2) ⟨w9,0,G⟩ 1 1 #[O ra rl rc,Y Z iO,O rb rm rk].toList cJ cJ (λj u h=>(aD (li w9 (bj ra rl rc iO rb rm rk)) (ag #[O jw rn rh] 55)).cell_of (xy w9 #[O ra rl rc,Y Z iO,O rb rm rk] 57 j u h)) Q35 U Q2V U pj.I.b _ rfl ?_;intro g1 c1 W1 cC bM cN ei;have jT:=V (pj.I.ten (x:=rt) (cs:=#[O ra rl rc,Y Z iO,O rb rm rk]) (qZ.move D6.I.1 (ar.cZ (S:=λ_=>False) dK) (λb hb h=>⟨hb,id,(ri.I b h).2.2.1,(ri.I b h).1⟩)) (n:=k+2) (by rw[pP.I]) cC bM cN);have Ci:=V (gI bM (bV Ev.I dK) (λe=>Q3I));have gG:=V ((lr.I.below dK).grown bM (λb h=>(ri.I b h.1).2.2.1));have pX:∀b,wy.heap.size<=b/\b<w9.heap.size->g1≠b:=λb h e=>by
       exact Q2N
      have Ht:=gI bM h8 (λe=>Q3I);have dp:(λw':H=>w'.heap[B+1+1]? =A (pV ta (k+1) tc ga (k+1) gc)/\w'.heap[tb]? =A (bj ra rl rc iO rb rm rk)) W1:=⟨jT.I.bC,Ci.I⟩;refine bB hK dp ?_;refine cQ dp [10] ?_;obtain⟨i0,hi,cF,cG,cB⟩:=fB LC;refine bL 9 λK hK=> ?_;refine lM _ cJ _ _ _ cJ B 55 i0 _ 1 24 underlying95 hi cF cG cB rfl U (O ga (k+1) gc) (k+1) (CG.flatMap jf) cJ (sJ.I▸jT.I.g.2.2) ⟨w9+1,0,G⟩ 1 1 [O jw rn rh] cJ cJ (Wk Ht) Q35 U Q2V U jT.I.b _ rfl ?_;exact Q2v
    .as_aux_lemma=>
     go_simp;have dK:ay w9 w9 (li w9 (ag #[O jw rn rh] 55)).drew:=(aD w9 (ag #[O jw rn rh] 55)).bI 1;have pj:=V (Eu.I.below dK);refine cY hK (⟨pj.I.bC,bV Ev.I dK⟩) 3 λK hK=> ?_;go_simp;clear dK;have dK:ay w9 w9 (li (li w9 (ag #[O jw rn rh] 55)) (bj ra rl rc iO rb rm rk)).drew:=((aD w9 (ag #[O jw rn rh] 55)).step (aD _ (bj ra rl rc iO rb rm rk))).bI 1;have pj:=V (Eu.I.below dK);refine bB hK (⟨pj.I.bC,bV Ev.I dK⟩) ?_;have h8:(li (li w9 (ag #[O jw rn rh] 55)) (bj ra rl rc iO rb rm rk)).drew.heap[w9.heap.size]? =A (ag #[O jw rn rh] 55):=dX (bZ w9 (ag #[O jw rn rh] 55)) (bj ra rl rc iO rb rm rk);refine bL 4 λK hK=> ?_;obtain⟨i0,hi,cF,cG,cB⟩:=fB Xg;refine lM _ cJ _ _ _ cJ B 57 i0 _ 3 56 underlying161 hi cF cG cB rfl U (O ta (k+1) tc) (k+1) (CT.flatMap jf) cJ (pP.I▸pj.I.t.2.2) ⟨w9+1,0,G⟩ 1 1 #[O ra rl rc,Y Z iO,O rb rm rk].toList cJ cJ (amm (w:=li w9 (ag #[O jw rn rh] 55)) (bF _ _) #[O ra rl rc,Y Z iO,O rb rm rk] 57) Q35 U Q2V U pj.I.b _ rfl ?_;intro g1 c1 W1 cC bM cN ei;have jT:=V (pj.I.ten (x:=rt) (cs:=#[O ra rl rc,Y Z iO,O rb rm rk]) (qZ.move D6.I.1 (ar.cZ (S:=λ_=>False) dK) (λb hb h=>⟨hb,id,(ri.I b h).2.2.1,(ri.I b h).1⟩)) (n:=k+2) (by rw[pP.I]) cC bM cN);have Ci:=V (gI bM (bV Ev.I dK) (λe=>Q3I));have gG:=V ((lr.I.below dK).grown bM (λb h=>(ri.I b h.1).2.2.1));have pX:∀b,wy.heap.size<=b/\b<w9.heap.size->g1≠b:=λb h e=>by
      exact Q2N
     have Ht:=gI bM h8 (λe=>Q3I);have dp:(λw':H=>w'.heap[B+1+1]? =A (pV ta (k+1) tc ga (k+1) gc)/\w'.heap[tb]? =A (bj ra rl rc iO rb rm rk)) W1:=⟨jT.I.bC,Ci.I⟩;refine bB hK dp ?_;refine cQ dp [10] ?_;obtain⟨i0,hi,cF,cG,cB⟩:=fB LC;refine bL 9 λK hK=> ?_;refine lM _ cJ _ _ _ cJ B 55 i0 _ 1 24 underlying95 hi cF cG cB rfl U (O ga (k+1) gc) (k+1) (CG.flatMap jf) cJ (sJ.I▸jT.I.g.2.2) ⟨w9,0,G⟩ 1 1 [O jw rn rh] cJ cJ (Wk Ht) Q35 U Q2V U jT.I.b _ rfl ?_;exact Q2v
  .obtain rfl:k=xl:=U;obtain rfl:(0,0,T,Z5)=R:=by rw[<-iW.I,List.drop_eq_nil_iff.2 (by rw[oO.I];exact bu _)];rfl
   obtain⟨tb,tq,zx,htz⟩:=tV.I.2.2.resolve_left U;have kU:wr ⟨tb,tq,G⟩=A (O ca 4 cc)/\B<=tb:=by
    rcases HS.I.t.2.2.2 with⟨h,_⟩|⟨g,c,cur,h,_⟩
    .injection h with h;rw[zx]at h
     cases h
    .injection h with h _ _;rw[zx]at h;injection h with h;injection h with h1 h2 h3;subst h1 h2;subst zx;have e:wr.ownsRow B 57 3 (O tb (k+1) tc) (k+1) (CT.flatMap jf):=pP.I▸HS.I.t.2.2;refine⟨?_,(e.lt tb rfl).1⟩;rw[e.cellAt 0 U];have:=flat_get CT 0 0 #[O ca 4 cc,Y Z x.e,O cb l9 ck] (O ca 4 cc) (sz:=3) (λc hc=>by
      obtain⟨i,hi,rfl⟩:=List.mem_iff_getElem.1 hc;obtain⟨cs,e1,e2⟩:=HS.I.t.2.1 i (T[i]'(by rw[<-HS.I.t.1];exact hi)) bK;rw[cR hi]at e1;injection e1 with e1;rw[e1];exact qZ.size e2) QE.I rfl
     simpa using this
   have Js:=V (HS.I.k.bC U id K6.F.1);have k9:=λ(x y:aj)=>(ar.cP wr (λb=>b=w.heap.size+1+1) wr).Xf (aM rfl) x y;have fY:∀b,b<wr.heap.size->w.heap.size+1+1+1<=b->b<wr.heap.size/\¬b=w.heap.size+1+1/\w.heap.size<=b:=λb h1 h2=>⟨h1,U,U⟩;obtain⟨a0,a1,a2,a3⟩:=qE Js.I;obtain⟨z0,z1,z2,z3⟩:=qE HS.I.bC;have My:=V kU;have HTa:=V zx;have dQ:=bH Js.I;clear kU htz zx;go_wp2_with fail;rw[<-dB.I];refine aZ (v:=aL #[aF #[O ta (k+1) tc,O ga (k+1) gc],Y Z 0,Y Z 0]) ?_ rfl ⟨ta,_,_,ga,_,_,rfl,tV.I.move qZ U (k9 _ _) fY,Jo.I.move lX U (k9 _ _) fY,⟨tb,tq,ca,4,cc,λ_=>⟨HTa.I,?_,U⟩⟩,Jj eV.I U _ _⟩
   .obtain⟨t0,t1,_,_⟩:=qE (Er (a:=O ta (k+1) tc) (b:=O ga (k+1) gc) Js.I);exact Q2A
   .have aT:=jY wr _ My.I.1;have cI:tb≠w.heap.size+1+1:=E My.I.2;unfold kY;simp only;rw[(k9 _ _).block tb aT cI];exact My.I.1
theorem Fw.ado {au step:Int}:∀(L:List Lay) (i:Nat) (T:List az) (Z5:List (List Int)),(Fw.pO ps au step i L T Z5).1 =0->(Fw.pO ps au step i L T Z5).2.2.1.length=T.length+L.length/\(Fw.pO ps au step i L T Z5).2.2.2.length=Z5.length+L.length
 | [],_,_,_,_=>⟨rfl,rfl⟩
 |x::L,i,T,Z5,h=>by
  unfold Fw.pO at h⊢;split at h
  .rename_i h0;exact absurd h h0
  .rename_i h0;rw[aI h0];have:=Fw.ado L _ _ _ h;simp only[dG,n8,List.length_nil]at this⊢;omega
theorem Fw.adp {m:Mod} {x:az} {au step:Int} (h:(Fw.run m ps x au step).1 =0):(Fw.run m ps x au step).2.2.1.length=m.L.length+1/\(Fw.run m ps x au step).2.2.2.length=m.L.length+1:=by
 unfold Fw.run at h⊢;split at h
 .cases h
 .rename_i h1;rw[aI h1];split at h
  .cases h
  .rename_i h2;rw[aI h2];have:=Fw.ado _ _ _ _ h;simp only[n8,List.length_nil]at this;omega
def adq (r:Int×Int×az) (w:H) (e:dN) (w':H):Prop:=∃v,e=bG (aL #[v,Y Z r.2.1,Y Z r.1])/\(∃cs,v=aF cs/\Ay (λb=>w.heap.size<=b) w' cs r.2.2)/\ay w w w'
theorem dM.rows {Z3 B g:Nat} {m k:Nat} {t:az} (h1:fR (λb=>Z3<=b) Z w a l t.d) (h2:fR (λb=>Z3<=b) aO w b m t.z) (hB:B<=Z3) (hg:g<Z3):
 vV (λb=>B<=b) (ss (ss (ss w g x) ⟨g,1,G⟩ y) ⟨g,2,G⟩ z) #[O a l c,Y Z t.e,O b m k] t:=by
 have kp:ar w (λb=>b=g) w (ss (ss (ss w g x) ⟨g,1,G⟩ y) ⟨g,2,G⟩ z):=(ar.cP w (λb=>b=g) w).eJ (aM rfl) _ _ _;exact⟨_,_,_,_,_,_,rfl,h1.move kp (λb hb h=>⟨hb,U,U⟩),h2.move kp (λb hb h=>⟨hb,U,U⟩)⟩
theorem amn (m:Mod) (ok:Nat->Prop) (xa:aC) (xl xm:Nat) (ps:List bD) (pa:aC) (pl pm:Nat) (x:az) (zu:aC) (tT r8:Nat) (tU:aC) (l9 wL:Nat) (w:H)
 (h:cH iM 7 ok w xa xl m.L) (hp:pH w pa pl ps) (hd:ai Z w zu tT x.d) (hz:ai aO w tU l9 x.z) (hc:tT<=r8):
 aA aq 30 #[aF (m.cells xa xl xm),O pa pl pm,aS zu tT r8 x.e tU l9 wL] w (adq (Fw.infer m ps x) w):=by
 have K0:=V (aE.lj w (ag (m.cells xa xl xm) 25) (bj zu tT r8 x.e tU l9 wL) (bj G 0 0 0 G 0 0));have oW:=K0.F.2.2.2;have RN:=V (adk m ok xa xl xm ps pa pl pm x zu tT r8 tU l9 wL 0 0 _ (h.below gL U oW) (hp.below oW) (hd.below oW) (hz.below oW) hc (by unfold P.Z4;omega) rfl);have oN:=V (Fw.adp (m:=m) (ps:=ps) (x:=x) (au:=0) (step:=0));have dQ:((li (li (li w (ag (m.cells xa xl xm) 25)) (bj zu tT r8 x.e tU l9 wL)) (bj G 0 0 0 G 0 0))).heap.size=w.heap.size+1+1+1:=Q4u;obtain⟨R,hR⟩:=J (Fw.infer m ps x);rw[hR];unfold Fw.infer at hR;generalize Fw.run m ps x 0 0=r at*;obtain⟨re,rn,T,Z5⟩:=r;have HR:=V hR;unfold aS;unfold aS at RN;have f0:=eQ K0.F.1;have r0:=aY K0.F.2.1;clear h hp hd hz hR;go_enter func30,ntmps30
 let pq:=gW aq Tryz.f30 (λ_ _=>True)
 generalize dS:gW aq Tryz.f30 (adq R w)=BP;have dB:=V dS;have jM:=oz dS;clear dS;go_wp2_with fail;refine RN.I.mono ?_;rintro e' w1 ⟨ta,tn,tc,ga,gn,gc,rfl,Jm,QF,-,hb⟩;rw[dQ]at Jm;have tV:=V Jm;have K1:=K0.bU hb;clear Jm QF dQ;dsimp only
 have Jt:=bZ w1 (pV ta tn tc ga gn gc);have eX:=aD w1 (pV ta tn tc ga gn gc);have K2:=V ((K1.I.step eX).and (aE.block Jt));have iK:=K1.F.2.2.2.size;have ja:=bH K1.F.2.2.1;have r0:=aY K2.F.1.2.2.1;obtain⟨a0,a1⟩:=nj Jt;have HBA:=V eX;obtain⟨bo,cy⟩:=J w1.heap.size;go_upto_region 2 with fail;rw[cy]at a0 a1 iK ja;clear eX Jt cy;generalize li w1 (pV ta tn tc ga gn gc)=w2 at*;by_cases jn:re=0
 case neg=>
  obtain rfl:(re,rn,az.zero)=R:=by rw[<-HR.I,aR jn]
  have e1:(re != 0)=true:=Q3M;go_wp2_with fail;rw[<-dB.I];refine aZ (v:=aL #[aF #[O G 0 0,Y Z 0,O G 0 0],Y Z rn,Y Z re]) ?_ rfl ⟨_,rfl,⟨_,rfl,⟨_,_,_,_,_,_,rfl,fR.nil _ _ _,fR.nil _ _ _⟩,λh=>Q38⟩,cL K2.F.1.2.2.2 U _ _ _⟩;simp[aW,results30,go_sem,cT K2.F.1.2.2.1]
 subst jn;have hl:T.length=m.L.length+1:=(oN.I rfl).1;have r9:T.length=tn:=tV.I.1;obtain⟨t,ht⟩:∃t,T[tn-1]? =A t:=⟨T[tn-1]'U,Q2W⟩;have EI:Fw.last T=t:=by
  unfold Fw.last;rw[r9,gB,ht];rfl
 obtain rfl:(0,0,t)=R:=by rw[<-HR.I,aI bK,EI]
 obtain⟨tb,tq,cs,rfl,_,sN,hcs⟩:=(tV.I.below qZ U HBA.I).get ht;obtain⟨⟨a1',l1,c1,a2,l2,c2,rfl,q1,q2⟩,ip⟩:=sN;have z0:=hcs 0 _ rfl;have z1:=hcs 1 _ rfl;have z2:=hcs 2 _ rfl;simp only[eL]at z0;obtain⟨n1,rfl⟩:∃n1,tn=n1+1:=⟨tn-1,U⟩;simp only[Nat.add_sub_cancel]at z0 z1 z2;have i1:cM (n1:Int)=(n1:Int):=iZ _ ⟨by have:=tV.I.2.1;omega,by have:=tV.I.2.1;omega⟩;have Af:=V ip;have HQ:=V (aw q1 q2);clear hcs r9 hl ht EI ip;go_wp2_with fail;rw[<-dB.I];refine aZ (v:=aL #[aF #[O a1' l1 c1,Y Z t.e,O a2 l2 c2],Y Z 0,Y Z 0]) ?_ rfl ⟨_,rfl,⟨_,rfl,dM.rows HQ.I.1 HQ.I.2 U U,Af.I⟩,cL K2.F.1.2.2.2 U _ _ _⟩;simp[aW,results30,go_sem,cT K2.F.1.2.2.1]
end
end Go.Proofs.YtcpmhoodeieanaaGreatDoor
