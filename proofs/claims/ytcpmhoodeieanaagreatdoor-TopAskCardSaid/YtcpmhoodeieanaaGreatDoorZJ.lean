/-
  Part 10 of the proof that TopAsk answers true: laws of the functions that it calls, on any memory that holds their arguments.
-/
import Derived.Test.YtcpmhoodeieanaaGreatDoorZH
set_option maxRecDepth 100000
set_option maxHeartbeats 20000000
set_option linter.unusedVariables false
set_option linter.unusedSimpArgs false
open Go.Lib renaming hid→V
open Go.IntKind renaming i64→Z,i8→aO,i32→cr,u64→cD
open Go.Value renaming int→Y,slice→O,agg→aF,bool→aK,tuple→aL,pointer→aP
open Option renaming none→G,some→A
open Go renaming World→H,Value→aj,results→aW,bodyPost_ret→aZ,lt_of_block→bH,heap_alloc_new→bZ
open Go.Obj renaming cells→ag
open Go.Proofs.Tryz renaming prog→aq
open And renaming intro→aw
open Go.RowKit renaming Below→ay,intOf→aX,wrap64→cM
open Or renaming inl→aM,inr→bJ
open Nat renaming le_refl→bu,zero_le→cK,add_zero→eL,mul_pos→kZ,mul_le_mul→mq,mul_le_mul_right→nZ
open Go.World renaming size_alloc→bF
open Go.Ending renaming returned→bG
open List renaming getElem?_eq_getElem→cR,replicate→dz,setIfInBounds_toArray→dC,set_cons_zero→dD,set_cons_succ→dE,getD_eq_getElem?_getD→gB,getElem_mem→jZ,getD_cons_zero→nC,getD_cons_succ→n7,mem_singleton→pS
open Go.IntWalk renaming i64_in→dv
open Go.RowKit.Below renaming refl→eG
open Go.World renaming alloc→li
open Int renaming natCast_mul→gQ,toNat_natCast→jx,mul_assoc→pU
open Decidable renaming byContradiction→oP
namespace Go.Proofs.YtcpmhoodeieanaaGreatDoor
open Go.RowKit Go.Proofs.Tryz
variable {ps:List bD} {gs:List fQ}
section
attribute [local go_sem ↓] wp_at_zero wp_at_succ
namespace ZY
def y8 (h:iV) (sd st:Int) (gs:List fQ):Nat->List bD->List bD->Int×List bD
 |_,[],acc=>(0,acc)
 |i,p::ps,acc=>if(step p (gs.getD i fQ.none) h sd st ((i:Int)+1)).1 ≠0 then((step p (gs.getD i fQ.none) h sd st ((i:Int)+1)).1,[])
  else y8 h sd st gs (i+1) ps (acc++[(step p (gs.getD i fQ.none) h sd st ((i:Int)+1)).2])
def all (ps:List bD) (gs:List fQ) (h:iV) (sd st:Int):Int×List bD:=
 if(h.aH&&decide (ps.length=gs.length))=true then y8 h sd st gs 0 ps []else(1,[])
theorem akT {h:iV} {sd st:Int} {k:Nat} {p:bD} {g:fQ} (hp:ps[k]? =A p) (hg:gs[k]? =A g) (acc:List bD):y8 h sd st gs k (ps.drop k) acc=
 if(step p g h sd st ((k:Int)+1)).1 ≠0 then((step p g h sd st ((k:Int)+1)).1,[])else y8 h sd st gs (k+1) (ps.drop (k+1)) (acc++[(step p g h sd st ((k:Int)+1)).2]):=by
 have hk:=(List.getElem?_eq_some_iff.1 hp).1;have e:ps[k]=p:=by rw[cR hk]at hp;injection hp
 have e2:gs.getD k fQ.none=g:=by simp[List.getD,hg]
 rw[List.drop_eq_getElem_cons hk,e];show(if _ then _ else _)=_
 rw[e2]
end ZY
def acn (r:Int×List bD) (w:H) (e:Ending) (w':H):Prop:=∃(a:aC) (n c:Nat) (x:Int),e=bG (aL #[O a n c,Y Z x,Y Z r.1])/\rM (λb=>w.heap.size<=b) w' a n r.2 /\n<=c/\ay w w w'
def akU (r:Int×bD) (w:H) (a b:aj) (wx:H):Prop:=∃bo cs,a=aP (A ⟨bo,0,G⟩)/\b=Y Z r.1 /\wx.heap[bo]? =A (ag cs 105 (0,0))/\lq (λb=>w.heap.size<=b) wx cs r.2 /\ay w w wx
theorem akV (ps:List bD) (gs:List fQ) (h:iV) (sd st:Int) (PY okg:Nat->Prop) (pa:aC) (pl pm:Nat) (ga:aC) (gl gm:Nat) (w:H) (hp:cH lq 7 PY w pa pl ps) (hg:cH mS 7 okg w ga gl gs) (gD:P.Z4 sd) (hlen:∀p∈ps,p.Len):
 Calls aq 135 #[O pa pl pm,O ga gl gm,mP h,Y cD sd,Y Z st] w (acn (ZY.all ps gs h sd st) w):=by
 have KB:=V (aE.fg w (nI h.b h.w h.r h.m h.d h.e));have KP:=V ((hp.bt iF U).and (hg.bt rX U));have HM:=V (O6 h);have oN:=V hlen;have kN:=hp.1;have nk:=hg.1;have qA:=hp.2.1;have IL:=hg.2.1;have qy:=V kN;have sJ:=V nk;obtain⟨R,hR⟩:=J (ZY.all ps gs h sd st);rw[hR];unfold ZY.all at hR;rw[kN,nk]at hR;obtain⟨Z3,hA⟩:=J h.aH;obtain⟨ZU,hE⟩:=J (decide (pl=gl));rw[hA,hE]at hR;rw[hA]at HM;have HR:=V hR;have HE:=V hE;have he:((pl:Int) != (gl:Int))= !ZU:=by rw[<-hE];by_cases h:pl=gl<;>simp[h];omega
 unfold mP;unfold mP at HM;clear hp hg hA hE hR hlen kN nk;have f0:=df KB.F.1;go_enter func135,ntmps135;go_wp2_with fail;refine bY (HM.I _) λw1 hb=> ?_;have K1:=KB.bU hb;clear hb HM
 cases Z3
 .obtain rfl:(1,[])=R:=HR.I;exact Q1y
 cases ZU
 .obtain rfl:(1,[])=R:=HR.I;have vD:((pl:Int) != (gl:Int))=true:=he;clear he;exact Q1y
 have vD:((pl:Int) != (gl:Int))=false:=he;have hpg:pl=gl:=eZ HE.I;subst hpg;have cU:=V (show ZY.y8 h sd st gs 0 ps []=R from HR.I);clear he;go_wp2_with fail;obtain⟨B,hB⟩:=J w1.heap.size;have LD:w.heap.size<B:=E (bH K1.F.1);have eV:=V hB;clear hB;go_loopw [29,13,14,15,16] (λi o _ _ _ wr=>∃(k:Nat) (v:aj) (acc:List bD) (CS:List (Array aj)),k<=pl/\i=Y Z k/\v=o/\gy lq 7 105 B (λb=>w.heap.size<=b) wr v acc CS/\acc.length=k/\ZY.y8 h sd st gs k (ps.drop k) acc=R/\ay w1 w1 wr) (λi _ _ _ _ _=>pl-(aX i).toNat)
 case atStart=>exact⟨0,_,[],[],cK _,rfl,rfl,gy.nil _ _ _ _ _ _,rfl,cU.I,eG _ _⟩
 case round=>
  obtain⟨k,v,acc,CS,hk,rfl,rfl,nS,vO,nU,cW⟩:=hrel;have HM:=V nS;have sK:=V vO;have iW:=V nU;have HB:=V cW;have nP:B<=wr:=Q5g;clear nS nU cW vO;by_cases aT:k<pl
  .obtain⟨p,hp⟩:∃p,ps[k]? =A p:=⟨ps[k]' Q4C,Q2W⟩;obtain⟨g,hg⟩:∃g,gs[k]? =A g:=⟨gs[k]'(by rw[sJ.I];exact aT),Q2W⟩;have KW:=V (K1.I.step HB.I);obtain⟨pb,po,cs,rfl,_,y9,pJ⟩:=(KP.aQ KW.F.2).1.get hp;obtain⟨gb,go,cg,rfl,_,lG,V2⟩:=(KP.aQ KW.F.2).2.get hg;have iw:=V (iW.I.symm.trans (ZY.akT hp hg acc)).symm;have HLp:=oN.I p (List.mem_of_getElem? hp);have LQ:=V (λw' (b:ay wr wr w')=>y9.par.below b);have Fy:=V (λw' (b:ay wr wr w')=>rX.move (fJ:=λ_=>True) lG (ar.cZ (S:=λ_=>False) b) (λb hb _=>⟨hb,id,trivial⟩));obtain⟨a1,l1,c1,a2,l2,c2,a3,l3,c3,a4,l4,c4,a5,l5,c5,rfl,-⟩:=y9;obtain⟨e1,m1,d1,e2,m2,d2,e4,m4,d4,e5,m5,d5,rfl,-⟩:=lG;have LR:=V (λw' (b:ay wr wr w')=>akH p g h sd st ((k:Int)+1) #[O a1 l1 c1,Y Z p.w.e,O a2 l2 c2,O a3 l3 c3,O a4 l4 c4,Y Z p.b.e,O a5 l5 c5] #[aK g.has,O e1 m1 d1,Y Z g.w.e,O e2 m2 d2,O e4 m4 d4,Y Z g.b.e,O e5 m5 d5] (λ_=>True) w' (LQ.I w' b) (Fy.I w' b) gD HLp);have cA:(k:Int)<(pl:Int):=U;have P1:k<pl:=aT;have i7:Z.wrap ((k:Int)+1)=(k:Int)+1:=dv _ U;unfold mP at LR;generalize ZY.step p g h sd st ((k:Int)+1)=r at*;obtain⟨re,rp⟩:=r;have fy:(λw':H=>w'.heap[w.heap.size]? =A (nI h.b h.w h.r h.m h.d h.e)/\(∀j v,(#[O a1 l1 c1,Y Z p.w.e,O a2 l2 c2,O a3 l3 c3,O a4 l4 c4,Y Z p.b.e,O a5 l5 c5]:Array aj)[j]? =A v->w' ⟨pb,po+k*7+j,G⟩=A v)/\(∀j v,(#[aK g.has,O e1 m1 d1,Y Z g.w.e,O e2 m2 d2,O e4 m4 d4,Y Z g.b.e,O e5 m5 d5]:Array aj)[j]? =A v->w' ⟨gb,go+k*7+j,G⟩=A v)) wr:=⟨KW.F.1,pJ,V2⟩;clear hp hg pJ V2 HLp;go_upto_region 7 with fail;go_cut [15,16] (λa b wx=>akU (re,rp) wr a b wx)
   case first=>
    refine cS (λw':H=>w'.heap[w.heap.size]? =A (nI h.b h.w h.r h.m h.d h.e)/\(∀j v,(#[O a1 l1 c1,Y Z p.w.e,O a2 l2 c2,O a3 l3 c3,O a4 l4 c4,Y Z p.b.e,O a5 l5 c5]:Array aj)[j]? =A v->w' ⟨pb,po+k*7+j,G⟩=A v)/\(∀j v,(#[aK g.has,O e1 m1 d1,Y Z g.w.e,O e2 m2 d2,O e4 m4 d4,Y Z g.b.e,O e5 m5 d5]:Array aj)[j]? =A v->w' ⟨gb,go+k*7+j,G⟩=A v)) (eE fy λhS=> ?_);refine Lt.takes Q2U hS [0,1,4,5,8,9,10,11,2,6,12,3,7] kr rfl ?_;repeat(first|((refine Lt.more (v:= ?_) rfl (aM ⟨Q3u,?_⟩) ?_;rotate_left;(intro w' hw';obtain⟨b0,hp,hg⟩:=hw';obtain⟨s0,s1,s2,s3,s4,s5⟩:=df b0;have p0:=hp 0 _ rfl;have p1:=hp 1 _ rfl;have p2:=hp 2 _ rfl;have p3:=hp 3 _ rfl;have p4:=hp 4 _ rfl;have p5:=hp 5 _ rfl;have p6:=hp 6 _ rfl;have q0:=hg 0 _ rfl;have q1:=hg 1 _ rfl;have q2:=hg 2 _ rfl;have q3:=hg 3 _ rfl;have q4:=hg 4 _ rfl;have q5:=hg 5 _ rfl;have q6:=hg 6 _ rfl;simp only[eL]at p0 q0;clear hp hg;go_simp;try with_reducible rfl);try simp only[Act.put,dC,dD,dE]))|((refine Lt.more (v:=undef) rfl (bJ ⟨Q3u,rfl⟩) ?_;try simp only[Act.put,dC,dD,dE])))
    refine Lt.done ?_;refine lI 13 17 (λK hK=> ?_) (λK hK=> ?_)
    .go_simp;refine(LR.I _ ((eG _ wr).bI 1)).mono ?_;rintro e' w6 ⟨cs,rfl,qA,hb⟩;have cO:ay wr wr w6:=((eG _ wr).bI 1).step hb;have uI:=V (show lq (λb=>wr.heap.size<=b) w6 cs rp from qA);obtain⟨r1,n1,k1,r2,n2,k2,r3,n3,k3,r4,n4,k4,r5,n5,k5,rfl,-⟩:=qA;refine bB hK (⟨bV KW.F.1 cO,λj v hv=>cO.cell_of (fy.2.1 j v hv),λj v hv=>cO.cell_of (fy.2.2 j v hv)⟩) ?_;refine cQ (⟨bV KW.F.1 cO,λj v hv=>cO.cell_of (fy.2.1 j v hv),λj v hv=>cO.cell_of (fy.2.2 j v hv)⟩) [14,15,16] (bL 17 λK hK=> ?_);go_simp;have dR:=λo=>cO.step (aD w6 o);refine cY hK (⟨bV KW.F.1 (dR _),λj v hv=>(dR _).cell_of (fy.2.1 j v hv),λj v hv=>(dR _).cell_of (fy.2.2 j v hv)⟩) 18 λK hK=> ?_;go_simp;refine bB hK (⟨bV KW.F.1 (dR _),λj v hv=>(dR _).cell_of (fy.2.1 j v hv),λj v hv=>(dR _).cell_of (fy.2.2 j v hv)⟩) ?_;refine cQ (⟨bV KW.F.1 (dR _),λj v hv=>(dR _).cell_of (fy.2.1 j v hv),λj v hv=>(dR _).cell_of (fy.2.2 j v hv)⟩) [19] (bW ?_);clear hS fy hb;go_wp2_with fail;go_meet
     exact⟨w6.heap.size,_,rfl,rfl,bZ w6 _,iF.move (fJ:=λb=>wr.heap.size<=b) uI.I (ar.cZ (S:=λ_=>False) (aD w6 _)) (λb hb h=>⟨hb,id,h⟩),dR _⟩
    .go_simp;have eX:=(aD wr (jq G 0 0 0 G 0 0 G 0 0 G 0 0 0 G 0 0)).bI 1;refine cY hK (⟨bV KW.F.1 eX,λj v hv=>eX.cell_of (fy.2.1 j v hv),λj v hv=>eX.cell_of (fy.2.2 j v hv)⟩) 13 λK hK=> ?_;go_simp;refine(LR.I _ eX).mono ?_;rintro e' w6 ⟨cs,rfl,qA,hb⟩;have cO:ay wr wr w6:=eX.step hb;have uI:=V (show lq (λb=>wr.heap.size+1<=b) w6 cs rp from by have:=qA;simpa using this);have cy:=bV (show((li wr (jq G 0 0 0 G 0 0 G 0 0 G 0 0 0 G 0 0)).drew).heap[wr.heap.size]? =_ from bZ wr _) hb;obtain⟨r1,n1,k1,r2,n2,k2,r3,n3,k3,r4,n4,k4,r5,n5,k5,rfl,-⟩:=qA;refine bB hK (⟨bV KW.F.1 cO,λj v hv=>cO.cell_of (fy.2.1 j v hv),λj v hv=>cO.cell_of (fy.2.2 j v hv)⟩) ?_;refine cQ (⟨bV KW.F.1 cO,λj v hv=>cO.cell_of (fy.2.1 j v hv),λj v hv=>cO.cell_of (fy.2.2 j v hv)⟩) [14,15,16] ?_;have dK:ay wr wr _:=nt cO (bu _) (O r1 n1 k1) (Y Z rp.w.e) (O r2 n2 k2) (O r3 n3 k3) (O r4 n4 k4) (Y Z rp.b.e) (O r5 n5 k5);have akW:=FC (y0:=O r1 n1 k1) (y1:=Y Z rp.w.e) (y2:=O r2 n2 k2) (y3:=O r3 n3 k3) (y4:=O r4 n4 k4) (y5:=Y Z rp.b.e) (y6:=O r5 n5 k5) cy;have rT:ar w6 (λb=>b=wr.heap.size) w6 _:=(ar.cP w6 (λb=>b=wr.heap.size) w6).vS (aM rfl) (O r1 n1 k1) (Y Z rp.w.e) (O r2 n2 k2) (O r3 n3 k3) (O r4 n4 k4) (Y Z rp.b.e) (O r5 n5 k5);have z0:=bE cy;have zf:=λj=>cE cy j;refine bL 18 λK hK=> ?_;go_simp;refine bB hK (⟨bV KW.F.1 dK,λj v hv=>dK.cell_of (fy.2.1 j v hv),λj v hv=>dK.cell_of (fy.2.2 j v hv)⟩) ?_;refine cQ (⟨bV KW.F.1 dK,λj v hv=>dK.cell_of (fy.2.1 j v hv),λj v hv=>dK.cell_of (fy.2.2 j v hv)⟩) [19] (bW ?_);clear hS hb cy;go_wp2_with fail;go_meet
     exact⟨wr.heap.size,_,rfl,rfl,akW,iF.move (fJ:=λb=>wr.heap.size<=b) uI.I rT (λb hb h=>⟨hb,U,U⟩),dK⟩
   case rest=>
    obtain⟨bo,cs,rfl,rfl,cy,pF,dK⟩:=hcut;obtain⟨w7,rfl⟩:∃w7:H,w7=wc:=⟨_,rfl⟩;have kP:=V (HB.I.step dK);have Hx:=dK.size;have vY:=V (HM.I.move iF (P':=λb=>w.heap.size<=b) (ar.cZ (S:=λ_=>False) dK) (λb e=>⟨(HM.I.2.2.lt b e).2,id⟩) (λb hb _ ho=>⟨hb,id,ho⟩));have dh:=λb (e:v.ownBlock=A b)=>(HM.I.2.2.lt b e).2;have D6:=V (iF.move (fJ:=qt (λb=>w.heap.size<=b) v) pF (ar.cP w7 (λ_=>False) w7) (λb hb ho=>⟨hb,id,λe=>E (dh b e),by have:=K1.F.2.size;have:=HB.I.size;show w.heap.size<=b;omega⟩));obtain⟨r1,n1,k1,r2,n2,k2,r3,n3,k3,r4,n4,k4,r5,n5,k5,rfl,-⟩:=pF;clear HM dK dh;by_cases jn:re=0
    .subst jn;have uG:=V (show ZY.y8 h sd st gs (k+1) (ps.drop (k+1)) (acc++[rp])=R by have:=iw.I;rwa[aI bK]at this);clear iw;have z0:=bE cy;go_upto_region 10 with fail;obtain⟨i0,hi,cF,cG,cB⟩:=info_parts Pq;have kg:=V (show w7.ownsRow B 105 7 v k (CS.flatMap Array.toList)from sK.I▸vY.I.2.2);have Ud:B<=w7:=U;go_wp2_with (at_builtin;refine ko _ rfl _ _ 46 rfl B 105 i0 (aF #[O G 0 0,Y Z 0,O G 0 0,O G 0 0,O G 0 0,Y Z 0,O G 0 0]) 7 136 underlying46 hi cF cG cB rfl eM v k (CS.flatMap Array.toList) rfl (kg.I.alloc _) ⟨w7,0,G⟩ 1 1 [O r1 n1 k1,Y Z rp.w.e,O r2 n2 k2,O r3 n3 k3,O r4 n4 k4,Y Z rp.b.e,O r5 n5 k5] rfl rfl ?c1 ?c2 ?c3 ?c4 ?c5 ?c6 ?_)
     try(case c1=>exact xy w7 #[O r1 n1 k1,Y Z rp.w.e,O r2 n2 k2,O r3 n3 k3,O r4 n4 k4,Y Z rp.b.e,O r5 n5 k5] _)
     try(case c2=>simp[Value.oneCell'])
     try(case c3=>unfold maxLen;omega)
     try(case c4=>omega)
     try(case c5=>(try simp only[bF]);omega)
     try(case c6=>omega)
     intro g1 c1 w9 cC bM cN ei fC;have LJ:=V (gy.app iF vY.I D6.I (n:=k+1) (E sK.I) cC bM Q3B);have rS:=V (Below.gh (w0:=w1) kP.I (App.slot (B:=B) Ud (λb h=>(kg.I.lt b h).1) bM (λ_=>False)) (λb h=>⟨by have:=eV.I;omega,id⟩));have IQ:k+1<=pl:=U;clear cC bM cN cy;go_wp2_with fail;go_roundw
     case rel=>exact⟨k+1,_,_,_,U,Q2T,rfl,LJ.I,by rw[List.length_append,sK.I];rfl,uG.I,rS.I⟩
     case measure=>exact Q5q
    .obtain rfl:(re,[])=R:=by have:=iw.I;rwa[aR jn]at this
     have cB:(re != 0)=true:=Q3M;clear jn;go_wp2_with fail;refine aZ (v:=aL #[O G 0 0,Y Z ((k:Int)+1),Y Z re]) Q5h rfl ⟨_,_,_,_,rfl,cH.nil _ _ _ _ _,bu _,K1.F.2.step kP.I⟩
  .obtain rfl:k=pl:=U;obtain rfl:(0,acc)=R:=by rw[<-iW.I,List.drop_eq_nil_iff.2 Q5k];rfl
   obtain⟨va,vc,rfl,LF,iq,-⟩:=HM.I.on iF U (n:=k) sK.I U (ok:=λb=>w.heap.size<=b) (λb hb h=>h) (λb hb h=>U);have lp:=V iq;clear iq;go_wp2_with fail;refine aZ (v:=aL #[O va k vc,Y Z 0,Y Z 0]) Q5h rfl ⟨_,_,_,_,rfl,lp.I,LF,K1.F.2.step HB.I⟩
theorem amb (x:az) (vx:aj) (W:H) (hx:fu aO W vx x):
 Calls aq 271 #[vx] W (oY cr (C.zd x) W):=by
 obtain⟨xa,xl,xc,xp,xm,xk,rfl,x0,x1⟩:=hx;have K6:=V (aE.lj W (bj xa xl xc x.e xp xm xk) (cV G 0 0 0 G 0 0) (bj xa xl xc x.e xp xm xk));have KR:=V (x0.bt.and x1.bt);obtain⟨R,hR⟩:=J (C.zd x);rw[hR];have HR:=V hR;unfold aS;clear x0 x1 hR;obtain⟨f0,f1,f2⟩:=bP (aE.fG W (bj xa xl xc x.e xp xm xk) (cV G 0 0 0 G 0 0)).aN.1;have RW:=KR.aQ K6.F.2.2.2;have DM:=V (Qe [x] (W.heap.size+1+1) 1 _ rfl eM (rJ.one K6.F.2.2.1 RW.1 RW.2));obtain⟨Z7,hZ⟩:=J (D.aH 4 [x]);rw[hZ]at DM;have HZ:=V hZ;clear hZ RW;go_enter func271,ntmps271;go_wp2_with fail;refine bY DM.I λw6 hb=> ?_;have K7:=K6.bU hb;clear K6 DM hb f0 f1 f2;obtain⟨r0,r1,r2,r3,r4,r5⟩:=aY K7.F.2.1;by_cases hz:Z7=0
 .subst hz;obtain⟨mx,lx⟩:=D.D3 HZ.I x bK;obtain⟨N,C0,P,Q,ex,n1,c1,p1,q1,n2,c2,p2,q2,cG,cB,xF⟩:=D.four mx lx;have RW:=KR.aQ K7.F.2.2.2;have fP:=RW.1.bA;rw[ex]at fP;obtain rfl:xl=4:=fP.symm;obtain⟨xb,xo,rfl,gY⟩:=RW.1.cells U;have iX:=gY 0 U;have gM:=gY 1 U;have qC:=gY 2 U;have qD:=gY 3 U;rw[ex]at iX gM qC qD;simp only[eL,nC,n7]at iX gM qC qD;have HX:=V ex;have hPQ:P*Q<=8192:=by
   have h1:1*(P*Q)<=C0*(P*Q):=nZ _ c1;have h2:1*(C0*(P*Q))<=N*(C0*(P*Q)):=nZ _ n1;omega
  obtain⟨PL,mV⟩:=J (P*Q);have hm:Z.wrap ((P:Int)*(Q:Int))=(PL:Int):=by
   rw[<-gQ,mV];exact dv _ U
  have KS:Hid (aE w6 (λw':H=>w' W=A (O (A ⟨xb,xo,G⟩) 4 xc)/\w' ⟨xb,xo,G⟩=A (Y Z N)/\w' ⟨xb,xo+1,G⟩=A (Y Z C0)/\w' ⟨xb,xo+2,G⟩=A (Y Z P)/\w' ⟨xb,xo+3,G⟩=A (Y Z Q))):=V ((aE.cell (K7.F.1 |>λh=>bh h 0 rfl)).and ((aE.cell iX).and ((aE.cell gM).and ((aE.cell qC).and (aE.cell qD)))));clear ex gY iX gM qC qD RW fP mx lx;obtain⟨S1,dp⟩:∃S1:H->Prop,S1=(λw':H=>w' W=A (O (A ⟨xb,xo,G⟩) 4 xc)/\w' ⟨xb,xo,G⟩=A (Y Z N)/\w' ⟨xb,xo+1,G⟩=A (Y Z C0)/\w' ⟨xb,xo+2,G⟩=A (Y Z P)/\w' ⟨xb,xo+3,G⟩=A (Y Z Q)):=⟨_,rfl⟩;rw[<-dp]at KS;go_wp2_with fail;refine cS S1 (eE (KS.aQ (below_drewN w6 1)) λhS=>bR hS [0,4,8,12,1,5,9,13,2,6,10,14,3,7,11,15,16,17,18,19] (λ_ h=>Q34) ?_);refine bW ?_;have K8:=V K7.I.draw;clear K7 KS hS r0 r1 r2 r3 r4 r5;generalize w6.drew=w7 at*;have amc:N*PL<=8192:=by
   have h1:1*PL<=C0*PL:=nZ _ c1;have h2:N*(1*PL)<=N*(C0*PL):=Nat.mul_le_mul_left _ h1;rw[mV]at cB;rw[Nat.one_mul]at h2;omega
  obtain⟨NP,hNP⟩:=J (N*PL);have m6:Z.wrap ((N:Int)*(PL:Int))=(NP:Int):=by
   rw[<-gQ,hNP];exact dv _ U
  have kx:=V (show(if(C.fresh NP x.e [(C0:Int)]).1 ≠0 then C.fresh NP x.e [(C0:Int)]else(0,⟨[(C0:Int)],x.e,iter (C.Ce x.z C0 PL) (dz C0 0) x.z.length⟩))=R by
   have h:=HR.I;unfold C.zd at h;rw[HZ.I,aI bK,HX.I]at h;unfold C.g C.nat at h;simp only[nC,n7,jx]at h;rw[<-gQ,mV,<-gQ,hNP]at h;exact h)
  obtain⟨f0,f1,f2⟩:=bP K8.F.1;have gZ:ai Z (li w7 (ag #[Y Z (C0:Int)] 3)) w7 1 [(C0:Int)]:=⟨rfl,U,λz hz=>Q4K,bJ ⟨w7.heap.size,0,rfl,λj hj=>by
   obtain rfl:j=0:=U;exact bh (bZ w7 _) 0 rfl⟩⟩
  have gG:=V gZ;have K9:=V (K8.I.alloc (ag #[Y Z (C0:Int)] 3));clear gZ hPQ amc cG cB;by_cases hb:(C.fresh NP x.e [(C0:Int)]).1 =0
  .obtain⟨hf,kM,j8,dQ⟩:=C.Qk hb;have fy:Sh.size [(C0:Int)]=C0:=by
    have my:=Sh.iA dQ;rw[my.eq];simp[Sh.prod]
   have h8:=(Sh.iA dQ).le;rw[<-(Sh.iA dQ).eq,fy]at h8;obtain rfl:=kx.I.symm.trans (aI (λh=>h hb));have FY:=V (Qg NP x.e _ 1 1 _ C0 _ gG.I hf kM j8 fy c1 U);clear hb hf dQ h8;go_wp2_with fail;refine FY.I.mono ?_;rintro e' w8 ⟨g,rfl,ho,hb⟩;have ff:=K9.bU hb;have HO:=V ho;have tE:=V (gG.I.below hb);have hg:=ho.lt g rfl;clear hb ho f0 f1 f2;go_upto_region 6 with fail;have hA:=bZ w8 (cV w7 1 1 x.e g C0 C0);have kT:=V (ff.I.alloc (cV w7 1 1 x.e g C0 C0));have Bu:=V (HO.I.alloc (cV w7 1 1 x.e g C0 C0));have lr:=V (tE.I.below (aD w8 (cV w7 1 1 x.e g C0 C0)));obtain⟨bo,cy⟩:=J w8.heap.size;rw[cy]at hA hg⊢;clear cy ff HO tE;have WJ:g<bo:=hg.2;have Lj:W.heap.size+1+1<g:=by have h1:=bH K8.F.2.2.1;have h2:=hg.1;rw[bF]at h2;omega
   generalize li w8 (cV w7 1 1 x.e g C0 C0)=w9 at*;have HA:=V hA;have jN:x.z.length=xm:=KR.F.2.bA;have HXm:=V jN;obtain⟨f0,f1,f2⟩:=bP kT.F.1;clear hA jN hg;go_wp2_with fail;obtain⟨B,hB⟩:=J w9.heap.size;have nL:bo<B:=by rw[<-hB];exact bH HA.I
   clear f0 f1 f2;go_loopw [54,10,11] (λi _ _ wr=>∃k:Nat,k<=xm/\i=Y Z (k:Int)/\wr.ownsRow (li w7 (ag #[Y Z (C0:Int)] 3)).heap.size 21 1 (O g C0 C0) C0 ((iter (C.Ce x.z C0 PL) (dz C0 0) k).map (Y cr))/\ar B (λb=>b=g) w9 wr) (λi _ _ _=>xm-(aX i).toNat)
   case atStart=>exact⟨0,cK _,rfl,Bu.I,ar.cP _ _ _⟩
   case round=>
    obtain⟨k,hk,rfl,aV,cA⟩:=hrel;have jO:=V aV;have HK:=V cA;clear aV cA;have Fh:=HK.I.bC (g:=W+1) U U kT.F.2.1;have Ad:=HK.I.bC (g:=bo) U U HA.I;have hlen:(iter (C.Ce x.z C0 PL) (dz C0 0) k).length=C0:=by simpa using jO.I.1
    by_cases aT:k<xm
    .have dY:=HK.I.gH (KR.aQ kT.F.2.2.2).2 (λa ha h0=>by have:=KR.F.2.bC h0 ha;exact⟨U,U⟩);obtain⟨pb,po,rfl,e0⟩:=dY.cells U;have ck:=e0 k aT;have II:=jv dY.wf k;have WK:=dY.eC;have arW:1<=PL:=by rw[<-mV];exact kZ p1 U
     obtain⟨q1,pk⟩:=J (k/PL);obtain⟨q,hq⟩:=J (q1%C0);have hqC:q<C0:=by rw[<-hq];exact Nat.mod_lt _ U
     have Ia:q1<=k:=Q4d;have hqi:(q:Int)<(C0:Int):=U;have Ql:(k:Int)<(xm:Int):=U;have d1:(k:Int).tdiv (PL:Int)=(q1:Int):=Q3C;have d2:Z.wrap (q1:Int)=(q1:Int):=dv _ U;have d3:(q1:Int).tmod (C0:Int)=(q:Int):=by rw[Int.tmod_eq_emod_of_nonneg U,<-hq,Int.natCast_emod]
     have d4:Z.wrap (q:Int)=(q:Int):=dv _ U;have n1:¬PL=0:=U;have n2:¬C0=0:=U;have cz:=vI jO.I q hqC hlen;have fz:=jO.I.frozenAt q;have HS:=V (show iter (C.Ce x.z C0 PL) (dz C0 0) (k+1)=(iter (C.Ce x.z C0 PL) (dz C0 0) k).set q (cr.wrap ((iter (C.Ce x.z C0 PL) (dz C0 0) k).getD q 0+x.z.getD k 0)) by
      show C.put _ (k/PL%C0) _=_
      rw[pk,hq];rfl)
     have hX0:=HK.I.bC (g:=W) U U kT.F.1;obtain⟨f0,f1,f2⟩:=bP hX0;obtain⟨t0,t1,t2⟩:=bP Ad;clear hlen e0 dY hX0 Ad Fh pk hq;generalize iter (C.Ce x.z C0 PL) (dz C0 0) k=Z7 at*;generalize x.z.getD k 0=v at*;generalize Z7.getD q 0=z at*;obtain⟨v1,v2⟩:=II;have d5:cr.wrap v=v:=IntWalk.i32_in _ U;go_wp2_with fail;refine Lt.begins (λw':H=>w' ⟨bo,2,G⟩=A (O g C0 C0)/\w' ⟨g,q,G⟩=A (Y cr z)) (λj=>j==13) kr ?_;have hS:(λw':H=>w' ⟨bo,2,G⟩=A (O g C0 C0)/\w' ⟨g,q,G⟩=A (Y cr z)) wr.drew:=⟨t2,cz⟩;refine bR hS [0,2,3,5,9,1,4,10,6,7,8,11,12] (λ_ h=>aw h.1 h.2) (bL 13 λK hK=> ?_);go_simp;refine jg hK ?_;refine bW ?_;go_wp2_with fail;go_roundw
     case rel=>exact⟨k+1,U,Q2T,by rw[HS.I,show cr.wrap (z+v)=wrap32 (z+v)from Q3z];exact(zP jO.I _).drew,(HK.I.set (aM rfl) _ _).drew⟩
     case measure=>exact Q5q
    .obtain rfl:k=xm:=U;have xG:=V Fh;obtain⟨r0,r1,r2,r3,r4,r5⟩:=aY Fh;obtain⟨y0,y1,y2,y3,y4,y5⟩:=aY Ad;have oG:=V (Below.gh kT.F.2.2.2 HK.I (λb hb=>⟨U,U⟩));have hwg:w7.heap.size<g:=by have:=(jO.I.lt g rfl).1;rw[bF]at this;omega
     have hwW:W.heap.size+1<w7.heap.size:=bH K8.F.2.1;have mU:=V (HK.I.gH lr.I (λa ha _=>by cases ha;exact⟨by show w7.heap.size<B;omega,by show w7.heap.size≠g;omega⟩));have il:=V (ai.owned jO.I (C.am9 x.z C0 PL k (C.iN.Qi C0)) U);have HXz:=V HXm.I;clear Fh Ad hlen;go_wp2_with fail;rw[HXz.I];refine aZ (v:=aL #[aF #[O w7 1 1,Y Z x.e,O g C0 C0],Y Z 0]) ?_ rfl ⟨_,rfl,⟨_,_,_,_,_,_,rfl,?_,?_,(λa ha=>by cases ha;show W.heap.size<=w7;omega),(λa ha=>Q3E)⟩,cL oG.I U _ _ _⟩
     .simp[aW,results271,go_sem,cT xG.I]
     .exact mU.I.eJ (λa ha=>by cases ha;show w7.heap.size≠W.heap.size+1;omega)
     .exact il.I.eJ (λa ha=>by cases ha;show g≠W.heap.size+1;omega)
  .obtain rfl:=kx.I.symm.trans (aR hb);have FN:=V (Qh NP x.e _ 1 1 _ _ gG.I hb);obtain⟨q,hq⟩:=J ((C.fresh NP x.e [(C0:Int)]).1);have Gn:=V (C.Qj hq hb);rw[hq]at FN hb;have pk:(q != 0)=true:=Q50;clear hb;go_wp2_with fail;refine bY FN.I λw8 hb=> ?_;have ff:=K9.bU hb;clear hb f0 f1 f2;go_upto_region 6 with fail;have hA:=bZ w8 (cV G 0 0 0 G 0 0);have kT:=V (ff.I.alloc (cV G 0 0 0 G 0 0));obtain⟨bo,cy⟩:=J w8.heap.size;rw[cy]at hA⊢;clear cy ff;generalize li w8 (cV G 0 0 0 G 0 0)=w9 at*;obtain⟨r0,r1,r2,r3,r4,r5⟩:=aY kT.F.2.1;obtain⟨y0,y1,y2,y3,y4,y5⟩:=aY hA;go_wp2_with fail;rw[Gn.I];refine aZ (v:=aL #[aF #[O G 0 0,Y Z 0,O G 0 0],Y Z q]) ?_ rfl ⟨_,rfl,dM.zero _ _ _,cL kT.F.2.2.2 U _ _ _⟩;simp[aW,results271,go_sem,cT kT.F.2.1]
 .obtain rfl:(Z7,az.zero)=R:=by rw[<-HR.I];unfold C.zd;rw[HZ.I,aR hz]
  have cB:(Z7 != 0)=true:=Q37;clear hz;go_wp2_with fail;refine aZ (v:=aL #[aF #[O G 0 0,Y Z 0,O G 0 0],Y Z Z7]) ?_ rfl ⟨_,rfl,dM.zero _ _ _,cL K7.F.2.2.2 U _ _ _⟩;simp[aW,results271,go_sem,cT K7.F.2.1]
theorem ame (x w:az) (rows aU s p:Int) (vx vw:aj) (W:H) (hx:fu aO W vx x) (hw:fu aO W vw w):
 Calls aq 274 #[vx,vw,Y Z rows,Y Z aU,Y Z s,Y Z p] W (oY cr (C.input x w rows aU s p) W):=by
 obtain⟨xa,xl,xc,xp,xm,xk,rfl,x0,x1⟩:=hx;obtain⟨wa,wl,wj,wp,wm,wk,rfl,w0,w1⟩:=hw;have K4:=V (aE.lj W (bj xa xl xc x.e xp xm xk) (bj wa wl wj w.e wp wm wk) (cV G 0 0 0 G 0 0));have KR:=V ((x0.bt.and x1.bt).and (w0.bt.and w1.bt));obtain⟨R,hR⟩:=J (C.input x w rows aU s p);rw[hR];have HR:=V hR;unfold aS;clear x0 x1 w0 w1 hR;have KA:=V (K4.I.alloc (ag #[O xa xl xc,Y Z x.e,O xp xm xk,O wa wl wj,Y Z w.e,O wp wm wk] 57));have RW:=KR.aQ KA.F.2.2.2;have du:=bZ (li (li (li W (bj xa xl xc x.e xp xm xk)) (bj wa wl wj w.e wp wm wk)) (cV G 0 0 0 G 0 0)) (ag #[O xa xl xc,Y Z x.e,O xp xm xk,O wa wl wj,Y Z w.e,O wp wm wk] 57);rw[bF,bF,bF]at du;have DM:=V (Qe [x,w] (W.heap.size+1+1+1) 2 _ rfl eM (rJ.two du RW.1.1 RW.1.2 RW.2.1 RW.2.2));obtain⟨Z7,hZ⟩:=J (D.aH 4 [x,w]);rw[hZ]at DM;have HZ:=V hZ;clear hZ RW du;obtain⟨f0,f1,f2⟩:=bP K4.F.1;obtain⟨g0,g1,g2⟩:=bP K4.F.2.1;go_enter func274,ntmps274
 let pq:=bodyPost aq Tryz.f274 (λ_ _=>True)
 generalize dS:bodyPost aq Tryz.f274 (oY cr R W)=BP;have dB:=V dS;have jM:=oz dS;clear dS;go_wp2_with fail;refine bY DM.I λw6 hb=> ?_;have K7:=KA.bU hb;clear K4 KA DM hb f0 f1 f2 g0 g1 g2;obtain⟨r0,r1,r2,r3,r4,r5⟩:=aY K7.F.2.2.1;by_cases hz:Z7=0
 .subst hz;have my:=D.D3 HZ.I;obtain⟨mx,lx⟩:=my x bK;obtain⟨mw,lw⟩:=my w bK;obtain⟨N,ZY,P,Q,ex,n1,o1,p1,q1,n2,o2,p2,q2,iQ,lD,xF⟩:=D.four mx lx;obtain⟨O1,Ch,D0,D1,ew,o3,c3,k1,k3,o4,c4,k2,k4,eI,nQ,tH⟩:=D.four mw lw;have RW:=KR.aQ K7.F.2.2.2;have fP:=RW.1.1.bA;have mI:=RW.2.1.bA;rw[ex]at fP;rw[ew]at mI;obtain rfl:xl=4:=fP.symm;obtain rfl:wl=4:=mI.symm;obtain⟨xb,xo,rfl,gY⟩:=RW.1.1.cells U;obtain⟨wb,wo,rfl,kQ⟩:=RW.2.1.cells U;have iX:=gY 0 U;have gM:=gY 1 U;have qC:=gY 2 U;have qD:=gY 3 U;have kR:=kQ 0 U;have kS:=kQ 1 U;have uQ:=kQ 2 U;have uR:=kQ 3 U;rw[ex]at iX gM qC qD;rw[ew]at kR kS uQ uR;simp only[eL,nC,n7]at iX gM qC qD kR kS uQ uR;have HX:=V (aw ex ew);have KS:Hid (aE w6 (λw':H=>w' W=A (O (A ⟨xb,xo,G⟩) 4 xc)/\w' ⟨W+1,0,G⟩=A (O (A ⟨wb,wo,G⟩) 4 wj)/\w' ⟨xb,xo,G⟩=A (Y Z N)/\w' ⟨xb,xo+1,G⟩=A (Y Z ZY)/\w' ⟨xb,xo+2,G⟩=A (Y Z P)/\w' ⟨xb,xo+3,G⟩=A (Y Z Q)/\w' ⟨wb,wo,G⟩=A (Y Z O1)/\w' ⟨wb,wo+1,G⟩=A (Y Z Ch)/\w' ⟨wb,wo+2,G⟩=A (Y Z D0)/\w' ⟨wb,wo+3,G⟩=A (Y Z D1))):=V ((aE.cell (K7.F.1 |>λh=>bh h 0 rfl)).and ((aE.cell (K7.F.2.1 |>λh=>bh h 0 rfl)).and ((aE.cell iX).and ((aE.cell gM).and ((aE.cell qC).and ((aE.cell qD).and ((aE.cell kR).and ((aE.cell kS).and ((aE.cell uQ).and (aE.cell uR))))))))));clear ex ew gY kQ iX gM qC qD kR kS uQ uR RW fP mI my mx mw lx lw;obtain⟨S1,dp⟩:∃S1:H->Prop,S1=(λw':H=>w' W=A (O (A ⟨xb,xo,G⟩) 4 xc)/\w' ⟨W+1,0,G⟩=A (O (A ⟨wb,wo,G⟩) 4 wj)/\w' ⟨xb,xo,G⟩=A (Y Z N)/\w' ⟨xb,xo+1,G⟩=A (Y Z ZY)/\w' ⟨xb,xo+2,G⟩=A (Y Z P)/\w' ⟨xb,xo+3,G⟩=A (Y Z Q)/\w' ⟨wb,wo,G⟩=A (Y Z O1)/\w' ⟨wb,wo+1,G⟩=A (Y Z Ch)/\w' ⟨wb,wo+2,G⟩=A (Y Z D0)/\w' ⟨wb,wo+3,G⟩=A (Y Z D1)):=⟨_,rfl⟩;rw[<-dp]at KS;go_wp2_with fail;refine cS S1 (eE (KS.aQ (below_drewN w6 1)) λhS=>bR hS [0,4,8,12,1,5,9,13,2,6,10,14,3,7,11,15,16,17,18,19] (λ_ h=>Q34) ?_);refine bW ?_;have K8:=V K7.I.draw;have kC:=V KS.I.draw;clear K7 KS hS r0 r1 r2 r3 r4 r5;generalize w6.drew=w7 at*;obtain⟨VP,zk⟩:=J (bO rows D0 s p);obtain⟨VQ,zm⟩:=J (bO aU D0 s p);obtain⟨OK,zn⟩:=J (decide (0<VP)&&decide (0<VQ));have OV:=V (WA rows aU D0 s p);rw[zk,zm,zn]at OV;have xM:=V zk;have xN:=V zm;have Ec:=V zn;clear zk zm zn;have kx:=V (show(if ¬(0<VP/\0<VQ)\/(O1:Int)≠ZY\/(D1:Int)≠D0\/(P:Int)≠VP\/(Q:Int)≠VQ then(2,az.zero)
   else if(C.fresh ((ZY:Int)*D0*D0) (x.e+w.e) [(N:Int),Ch,rows,aU]).1 ≠0 then C.fresh ((ZY:Int)*D0*D0) (x.e+w.e) [(N:Int),Ch,rows,aU]
   else(0,⟨[(N:Int),Ch,rows,aU],x.e+w.e,C.Jd x.z w.z N ZY Ch (P*Q) D0 rows.toNat aU.toNat (λi=>lookW rows aU (i/aU.toNat:Nat) (i%aU.toNat:Nat) D0 s p) (dz (N*Ch*rows.toNat*aU.toNat) 0)⟩))=R by
   have h:=HR.I;unfold C.input at h;rw[HZ.I,aI bK,HX.I.1,HX.I.2]at h;unfold C.g C.nat at h;simp only[nC,n7,jx]at h;rw[xM.I,xN.I]at h;exact h)
  go_wp2_with fail;refine bY (OV.I _) λWY hb=> ?_;have K9a:=K8.bU hb;have ada:=kC.bU hb;clear K8 kC hb OV;go_upto_region 6 with fail;have Ax:=bZ WY (mF rows aU D0 s p VP VQ);have K9:=V (K9a.I.alloc (mF rows aU D0 s p VP VQ));have Ed:=V (ada.I.alloc (mF rows aU D0 s p VP VQ));obtain⟨gw,adb⟩:=J WY.heap.size;rw[adb]at Ax⊢;clear adb K9a ada;generalize WY.alloc (mF rows aU D0 s p VP VQ)=w8 at*;have HG:=V (aE.block Ax);have mR:Hid (aE w8 (λw':H=>S1 w'/\w' ⟨gw,5,G⟩=A (Y Z VP)/\w' ⟨gw,6,G⟩=A (Y Z VQ))):=V (Ed.I.and ((aE.cell (bh Ax 5 rfl)).and (aE.cell (bh Ax 6 rfl))));obtain⟨mW,g7⟩:=J (decide (¬(0<VP/\0<VQ)\/(O1:Int)≠ZY\/(D1:Int)≠D0\/(P:Int)≠VP\/(Q:Int)≠VQ));have Ee:=V g7;obtain⟨S2,bX⟩:∃S2:H->Prop,S2=(λw':H=>S1 w'/\w' ⟨gw,5,G⟩=A (Y Z VP)/\w' ⟨gw,6,G⟩=A (Y Z VQ)):=⟨_,rfl⟩;rw[<-bX]at mR;clear Ax;go_cut [100] (λa wx=>a=aK mW/\w8.drew=wx)
  case first=>
   as_aux_lemma=>
   cases OK
   .obtain rfl:true=mW:=by rw[<-g7];exact(dI (aM (show ¬(0<VP/\0<VQ)from λh=>Q3K))).symm
    clear g7;exact Q0a
   obtain⟨ph,mT⟩:0<VP/\0<VQ:=Q4w;by_cases iJ:O1=ZY
   case neg=>
    obtain rfl:true=mW:=Q4a;have ye:((O1:Int) != (ZY:Int))=true:=Q2R;clear g7 iJ;exact Q0a
   have e1:((O1:Int) != (ZY:Int))=false:=Q2R;by_cases jH:D1=D0
   case neg=>
    obtain rfl:true=mW:=Q3W;have ye:((D1:Int) != (D0:Int))=true:=Q2R;clear g7 iJ jH;exact Q0a
   have e2:((D1:Int) != (D0:Int))=false:=Q2R;by_cases kf:(P:Int)=VP
   case neg=>
    obtain rfl:true=mW:=by rw[<-g7];exact(dI (bJ (bJ (bJ (aM U))))).symm
    have ye:((P:Int) != VP)=true:=Q2R;clear g7 iJ jH kf;exact Q0a
   have e3:((P:Int) != VP)=false:=Q2R;by_cases oK:(Q:Int)=VQ
   case neg=>
    obtain rfl:true=mW:=by rw[<-g7];exact(dI (bJ (bJ (bJ (bJ U))))).symm
    have ye:((Q:Int) != VQ)=true:=Q2R;clear g7 iJ jH kf oK;exact Q0a
   have e4:((Q:Int) != VQ)=false:=Q2R;obtain rfl:false=mW:=by rw[<-g7];exact(eP (by rintro(h|h|h|h|h)<;>first|exact h ⟨ph,mT⟩|exact h U)).symm
   clear g7 iJ jH kf oK;exact Q0a
  case rest=>
  obtain⟨rfl,jm⟩:=hcut;rw[<-jm];have ff:=V K9.I.draw;have wK:=V HG.I.draw;clear K9 Ed HG jm g7 mR;generalize w8.drew=iY at*;obtain⟨r0,r1,r2,r3,r4,r5⟩:=aY ff.F.2.2.1
  cases mW
  case true=>
   obtain rfl:(2,az.zero)=R:=Q4O;go_wp2_with fail;rw[<-dB.I];refine aZ (v:=aL #[aF #[O G 0 0,Y Z 0,O G 0 0],Y Z 2]) ?_ rfl ⟨_,rfl,dM.zero _ _ _,cL ff.F.2.2.2 U _ _ _⟩;simp[aW,results274,go_sem,cT ff.F.2.2.1]
  have lF:=kH Ee.I;obtain⟨ph,mT⟩:0<VP/\0<VQ:=oP λh=>lF (aM h);have iJ:O1=ZY:=oP λh=>lF (bJ (aM U));have jH:D1=D0:=oP λh=>lF (bJ (bJ (aM U)));have kf:VP=P:=oP λh=>lF (bJ (bJ (bJ (aM U))));have oK:VQ=Q:=oP λh=>lF (bJ (bJ (bJ (bJ U))));have vU:=V (show(if(C.fresh ((ZY:Int)*D0*D0) (x.e+w.e) [(N:Int),Ch,rows,aU]).1 ≠0 then C.fresh ((ZY:Int)*D0*D0) (x.e+w.e) [(N:Int),Ch,rows,aU]
   else(0,⟨[(N:Int),Ch,rows,aU],x.e+w.e,C.Jd x.z w.z N ZY Ch (P*Q) D0 rows.toNat aU.toNat (λi=>lookW rows aU (i/aU.toNat:Nat) (i%aU.toNat:Nat) D0 s p) (dz (N*Ch*rows.toNat*aU.toNat) 0)⟩))=R by
   have h:=kx.I;rwa[aI lF]at h)
  subst iJ jH kf oK;obtain⟨y1,y2,y3,y4,_,_,_,_,y5⟩:=oy (show 1<=bO rows D1 s p by rw[xM.I];omega);obtain⟨u1,u2,_,_,_,_,_,_,u5⟩:=oy (show 1<=bO aU D1 s p by rw[xN.I];omega);rw[xM.I]at y5;rw[xN.I]at u5;obtain⟨R0,rfl⟩:∃n:Nat,rows=(n:Int):=⟨rows.toNat,U⟩;obtain⟨C0,rfl⟩:∃n:Nat,aU=(n:Int):=⟨aU.toNat,U⟩;obtain⟨F1,uS⟩:=J (O1*D1);obtain⟨F0,qN⟩:=J (F1*D1);have b1:F1<=4096*5:=by rw[<-uS];exact mq o4 U
  have b2:F0<=4096*5*5:=Q4S;have sF:Z.wrap ((O1:Int)*(D1:Int))=(F1:Int):=C.pr uS U;have m6:Z.wrap ((F1:Int)*(D1:Int))=(F0:Int):=C.pr qN U;have hF:(O1:Int)*D1*D1=F0:=Q5p;obtain⟨Dc,vD⟩: -128<=x.e+w.e/\x.e+w.e<=128:=U;rw[hF]at vU;have rE:=V (show(if(C.fresh F0 (x.e+w.e) [(N:Int),Ch,R0,C0]).1 ≠0 then C.fresh F0 (x.e+w.e) [(N:Int),Ch,R0,C0]
   else(0,⟨[(N:Int),Ch,R0,C0],x.e+w.e,C.Jd x.z w.z N O1 Ch (P*Q) D1 R0 C0 (λi=>lookW R0 C0 (i/C0:Nat) (i%C0:Nat) D1 s p) (dz (N*Ch*R0*C0) 0)⟩))=R from by
    have h:=vU.I;simpa using h)
  have gZ:ai Z (iY.alloc (mr N Ch R0 C0)) iY 4 [(N:Int),Ch,R0,C0]:=ai.new iY Z 3 (0,0) [(N:Int),Ch,R0,C0] (λz hz=>by
   simp only[List.mem_cons,List.not_mem_nil,or_false]at hz;rcases hz with rfl|rfl|rfl|rfl<;>exact gF U U) bK
  have gG:=V gZ;have kT:=V (ff.I.alloc (mr N Ch R0 C0));have Ef:=V (wK.I.alloc (mr N Ch R0 C0));obtain⟨_,f1,_⟩:=bP ff.F.1;obtain⟨_,g1,_⟩:=bP ff.F.2.1;clear gZ uS qN hF vU kx lF;by_cases hb:(C.fresh F0 (x.e+w.e) [(N:Int),Ch,R0,C0]).1 =0
  .obtain⟨hf,kM,j8,dQ⟩:=C.Qk hb;obtain⟨N0,rG⟩:=J (N*Ch*R0*C0);have fy:Sh.size [(N:Int),Ch,R0,C0]=N0:=by
    exact Q1V
   have h8:=(Sh.iA dQ).le;rw[<-(Sh.iA dQ).eq,fy]at h8;rw[fy]at dQ;have Ma:=V (rE.I.symm.trans (aI (λh=>h hb)));have FY:=V (Qg F0 (x.e+w.e) _ 4 4 _ N0 _ gG.I hf kM j8 fy U U);have xJ:=V rG;clear hb hf fy rG rE;go_wp2_with fail;refine FY.I.mono ?_;rintro e' w9 ⟨g,rfl,ho,hb⟩;have ny:=kT.bU hb;have Eg:=V (Ef.I.step hb);have lr:=V (gG.I.below hb);have HO:=V ho;have hg:=ho.lt g rfl;clear hb ho r0 r1 r2 r3 r4 r5 f1 g1;go_upto_region 9 with fail;have hA:=bZ w9 (cV iY 4 4 (x.e+w.e) g N0 N0);have tP:=V (ny.I.alloc (cV iY 4 4 (x.e+w.e) g N0 N0));have Ml:=V (Eg.I.alloc (cV iY 4 4 (x.e+w.e) g N0 N0));have Gt:=V (HO.I.alloc (cV iY 4 4 (x.e+w.e) g N0 N0));have Mn:=V (lr.I.below (aD w9 (cV iY 4 4 (x.e+w.e) g N0 N0)));obtain⟨bo,cy⟩:=J w9.heap.size;rw[cy]at hA hg⊢;clear cy ny Eg HO lr;have WJ:g<bo:=hg.2;have Mb:W.heap.size+1+1<g/\gw<g:=by
    exact Q29
   obtain⟨acY,acZ⟩:=Mb;have Ea:=V (show W.heap.size+1+1<iY.heap.size from bH ff.F.2.2.1);have ad5:iY.heap.size<g:=Q4o;generalize li w9 (cV iY 4 4 (x.e+w.e) g N0 N0)=fU at*;have jN:x.z.length=xm:=KR.F.1.2.bA;have rW:w.z.length=wm:=KR.F.2.2.bA;obtain⟨PL,mV⟩:=J (P*Q);rw[iQ,jN]at lD;rw[eI,rW]at nQ;rw[mV]at iQ;rw[jN]at iQ;rw[rW]at eI;have Eh:=V mV;have Mc:0<PL:=by rw[<-mV];exact kZ p1 q1
   have ad3:0<xm:=by rw[<-iQ];exact kZ n1 (kZ o3 Mc)
   have ad4:0<wm:=by rw[<-eI];exact kZ o3 (kZ c3 (kZ k1 k3))
   have kN:PL<=20*20:=by rw[<-mV];exact mq (show P<=20 by omega) (show Q<=20 by omega)
   have Md:Z.wrap ((P:Int)*(Q:Int))=(PL:Int):=C.pr mV U;obtain⟨RC,zr⟩:=J (R0*C0);have amf:RC<=16*16:=by rw[<-zr];exact mq (show R0<=16 by omega) (show C0<=16 by omega)
   have WZ:Z.wrap ((R0:Int)*(C0:Int))=(RC:Int):=C.pr zr U;have Mp:=V zr;clear jN rW mV zr;have FV:0<N0:=U;have HF:Hid (di (λb=>b=g) fU (λw':H=>w'.heap[W.heap.size]? =A (bj (A ⟨xb,xo,G⟩) 4 xc x.e xp xm xk)/\w'.heap[W.heap.size+1]? =A (bj (A ⟨wb,wo,G⟩) 4 wj w.e wp wm wk)/\w'.heap[W.heap.size+1+1]? =A (cV G 0 0 0 G 0 0)/\w'.heap[gw]? =A (mF R0 C0 D1 s p P Q)/\w'.heap[bo]? =A (cV iY 4 4 (x.e+w.e) g N0 N0)/\ai aO w' xp xm x.z/\ai aO w' wp wm w.z)):=V (by
    have hk:=tP.F;have RW:=KR.aQ hk.2.2.2;refine(di.block hk.1 U).and ((di.block hk.2.1 U).and ((di.block hk.2.2.1 U).and ((di.block Ml.I.aN U).and ((di.block hA U).and ((di.row RW.1.2 ?_).and (di.row RW.2.2 ?_))))))
    .exact Q27
    .intro a ha e;have:=KR.F.2.2.bC U ha;omega)
   have oZ:=V (Mn.I.bt);obtain⟨BL,uT⟩:=J fU.heap.size;have ad6:bo<BL:=Q5f;have Ip:=V uT;have Gp:=V (tP.F.2.2.2);have tM:=V (λw' (h:ar BL (λb=>b=g) fU w')=>HF.I w' (by rw[uT];exact h));have hWB:W.heap.size+1+1<BL:=U;obtain⟨BO,Ei⟩:=J ((iY.alloc (mr N Ch R0 C0)).heap.size);rw[Ei]at Gt hg;have zI:=hg.1;obtain⟨FI,Mq⟩:∃FI:List Int->Nat->List Int,FI=λz i=>iter (λz m=>iter (C.Wz x.z w.z O1 Ch PL D1 R0 C0 (lookW R0 C0 (i/C0:Nat) (i%C0:Nat) D1 s p) i m) z Ch) z N:=⟨_,rfl⟩;have Mr:=V Mq;obtain⟨Z0,zp⟩:=J (dz N0 (0:Int));rw[zp]at Gt;have Me:=V zp;clear uT Ei Mq zp hA hg ff kT wK Ef gG FY tP Ml Mn;obtain⟨_,_,_,a2,a3,_⟩:=HF.I.aN;obtain⟨z0,z1,z2,z3,z4,z5,z6⟩:=bE a2;obtain⟨t0,t1,t2⟩:=bP a3;clear a2 a3;go_wp2_with fail;clear z0 z1 z2 z3 z4 z5 z6 t0 t1 t2 Md WZ;go_loopw [133] (λi wr=>∃k:Nat,k<=RC/\i=Y Z (k:Int)/\wr.ownsRow BO 21 1 (O g N0 N0) N0 ((iter FI Z0 k).map (Y cr))/\ar BL (λb=>b=g) fU wr) (λi _=>RC-(aX i).toNat)
   case atStart=>exact⟨0,cK _,rfl,Gt.I,ar.cP _ _ _⟩
   case round=>
    as_aux_lemma=>
    obtain⟨k,hk,rfl,aV,cA⟩:=hrel;have jO:=V aV;have HK:=V cA;clear aV cA;by_cases aT:k<RC
    .obtain⟨_,_,_,a2,_⟩:=tM.I wr HK.I;obtain⟨tQ,pk⟩:∃q,k/C0=q:=⟨_,rfl⟩;obtain⟨tR,pI⟩:∃q,k%C0=q:=⟨_,rfl⟩;have d1:(k:Int).tdiv (C0:Int)=(tQ:Int):=Q3C;have Ia:tQ<=k:=Q4d;have d2:Z.wrap (tQ:Int)=(tQ:Int):=dv _ U;have d3:(k:Int).tmod (C0:Int)=(tR:Int):=Q4y;have Qp:tR<C0:=by rw[<-pI];exact Nat.mod_lt _ U
     have d4:Z.wrap (tR:Int)=(tR:Int):=dv _ U;have n0:¬C0=0:=U;have WN:=V (am2 R0 C0 D1 s p P Q tQ tR wr.drew (gF U U) (gF U U));have Ej:BL<=wr.drew.heap.size:=Q5b;obtain⟨L,hL⟩:=J (lookW R0 C0 tQ tR D1 s p);have Mf:=V (λt (h:t∈L)=>am4 (rows:=R0) (aU:=C0) (r:=tQ) (c:=tR) (k:=D1) (s:=s) (p:=p) (hL▸h));have Ek:L.length<=10000:=by rw[<-hL];exact am5 _ _ _ _ _ _ _
     rw[hL]at WN;have HL:=V (show lookW R0 C0 (k/C0:Nat) (k%C0:Nat) D1 s p=L by rw[pk,pI];exact hL);have Ms:=V HK.I.drew;have Mt:=V jO.I.drew;have fy:(λw':H=>w'.heap[gw]? =A (mF R0 C0 D1 s p P Q)) wr.drew:=a2;clear a2 hL pk pI;go_wp2_with fail;refine cS (λw':H=>w'.heap[gw]? =A (mF R0 C0 D1 s p P Q)) ?_;refine bR fy [0,1,2,4,5,3,6] (λ_ h=>bE h) (bL 7 λK hK=> ?_);go_simp;refine WN.I.mono ?_;rintro e' w2 ⟨la,ln,lc,rfl,hl,hb⟩;refine bB hK (bV fy hb) ?_;refine bR (bV fy hb) [8] (λ_ h=>bE h) (bW ?_);generalize rR:wr.drew=wd at*;have nz:=V (Ms.I.trans' (ar.cZ (S:=λb=>b=g) hb) Ej);have rZ:=V (Own.kept Mt.I (ar.cZ (S:=λ_=>False) hb) (λb e=>Q47));have El:(iter FI Z0 k).length=N0:=by simpa using rZ.I.1
     have cg:=vI rZ.I 0 U El;have iB:ln<=10000:=Q5o;obtain⟨B2,xD⟩:=J w2.heap.size;have Em:BL<=B2:=E hb.size;have vN:=V (λw' (h:ar B2 (λb=>b=g) w2 w')=>aw (tM.I w' (nz.I.trans' h Em)) (oq.WE hl h U cg));obtain⟨ZI,Gu⟩:=J (iter FI Z0 k);obtain⟨IC,W6⟩:∃IC:Nat->List Int->Nat->List Int,IC=C.Wz x.z w.z O1 Ch PL D1 R0 C0 L k:=⟨_,rfl⟩;have Mg:=V (show iter FI Z0 (k+1)=iter (λz m=>iter (IC m) z Ch) ZI N by
      rw[W6,<-Gu,<-HL.I,Mr.I];rfl)
     rw[Gu]at rZ;have HIC:=V W6;have dA:=V xD;clear WN hl hb Ek El cg Gu W6 xD HK jO Ms Mt Ej fy rR d1 d2 d3 d4 n0;go_wp2_with fail;go_loopw [145] (λi wr=>∃m:Nat,m<=N/\i=Y Z (m:Int)/\wr.ownsRow BO 21 1 (O g N0 N0) N0 ((iter (λz m=>iter (IC m) z Ch) ZI m).map (Y cr))/\ar B2 (λb=>b=g) w2 wr) (λi _=>N-(aX i).toNat)
     case atStart=>exact⟨0,cK _,rfl,rZ.I,ar.cP _ _ _⟩
     case round=>
      as_aux_lemma=>
      clear rZ;obtain⟨m,hm,rfl,aV,cA⟩:=hrel;have lJ:=V aV;have lu:=V cA;clear aV cA;by_cases An:m<N
      .go_wp2_with fail;go_loopw [149] (λi wr=>∃c:Nat,c<=Ch/\i=Y Z (c:Int)/\wr.ownsRow BO 21 1 (O g N0 N0) N0 ((iter (IC m) (iter (λz m=>iter (IC m) z Ch) ZI m) c).map (Y cr))/\ar B2 (λb=>b=g) w2 wr) (λi _=>Ch-(aX i).toNat)
       case atStart=>exact⟨0,cK _,rfl,lJ.I,lu.I⟩
       case round=>
        as_aux_lemma=>
        clear lJ lu;obtain⟨c,hc,rfl,aV,cA⟩:=hrel;have Mh:=V aV;have Ap:=V cA;clear aV cA;by_cases zO:c<Ch
        .obtain⟨ws,wh⟩:∃ws:H,ws=wr:=⟨_,rfl⟩;rw[<-wh]at Mh Ap⊢;clear wh;have Ao:B2<=ws:=by have:=Ap.I.size;rw[dA.I]at this;exact this
         have ad7:g<B2:=U;obtain⟨SO,W7⟩:∃SO:Int->Nat->Int,SO=C.acS x.z w.z O1 Ch PL D1 m c L:=⟨_,rfl⟩;have Qo:=V (show ∀Z7,IC m Z7 c=Z7.set ((m*Ch+c)*R0*C0+k) (cr.wrap (iter SO 0 O1))from λZ7=>by rw[HIC.I,W7];rfl);have WU:=V W7;clear W7;go_wp2_with fail;go_loopw [153,28] (λi u wr=>∃o:Nat,o<=O1/\i=Y Z (o:Int)/\u=Y Z (iter SO 0 o)/\ay ws ws wr) (λi _ _=>O1-(aX i).toNat)
         case atStart=>exact⟨0,cK _,rfl,rfl,eG _ _⟩
         case round=>
          as_aux_lemma=>
          obtain⟨o,ho,rfl,rfl,cW⟩:=hrel;have dO:=V cW;clear cW;by_cases Cf:o<O1
          .obtain⟨u0,Gq⟩:=J (iter SO 0 o);obtain⟨AD,Gr⟩:∃AD:Int->Nat->Int,AD=λs j=>C.Jb x.z w.z (C.xi O1 PL m o (L.getD j C.w0)) (C.wi Ch D1 o c (L.getD j C.w0)) s:=⟨_,rfl⟩;have WV:=V (show iter SO 0 (o+1)=iter AD u0 L.length by rw[<-Gq,Gr,WU.I];rfl);have WW:=V Gr;rw[Gq];clear Gq Gr;go_wp2_with fail;go_loopw [158,28] (λi u wr=>∃j:Nat,j<=ln/\i=Y Z (j:Int)/\u=Y Z (iter AD u0 j)/\ay ws ws wr) (λi _ _=>ln-(aX i).toNat)
           case atStart=>exact⟨0,cK _,rfl,rfl,dO.I⟩
           case round=>
            as_aux_lemma=>
            clear dO;obtain⟨j,hj,rfl,rfl,cW⟩:=hrel;have eW:=V cW;clear cW;obtain⟨⟨b0,b1,_,_,_,b6,b7⟩,mY⟩:=vN.I wr (Ap.I.trans' (ar.cZ (S:=λb=>b=g) eW.I) Ao);by_cases En:j<ln
            .obtain⟨_,_,f2⟩:=bP b0;obtain⟨_,_,g2⟩:=bP b1;have uK:=mY.1;obtain⟨gl,rfl,nk,vL⟩:=mY.2.resolve_left U;obtain⟨l0,l1,l2⟩:=vL j En;rw[Nat.mul_comm 3 j]at l0 l1 l2;have ht:=Mf.I (L.getD j (0,0,0)) Q3U;have Gs:=V (show iter AD u0 (j+1)=C.Jb x.z w.z (C.xi O1 PL m o (L.getD j (0,0,0))) (C.wi Ch D1 o c (L.getD j (0,0,0))) (iter AD u0 j) by
              show AD (iter AD u0 j) j=_
              rw[WW.I];rfl)
             obtain⟨u,hu⟩:=J (iter AD u0 j);rw[hu]at Gs⊢;generalize L.getD j (0,0,0)=t at*;obtain⟨ta,tb,tc⟩:=t;obtain⟨i1,i2,i3,i4,i5,i6⟩:=ht;simp only[]at i1 i2 i3 i4 i5 i6 l0 l1 l2;rw[xM.I,xN.I,<-gQ,Eh.I]at i2;obtain⟨T0,rfl⟩:∃n:Nat,ta=(n:Int):=⟨ta.toNat,U⟩;obtain⟨T1,rfl⟩:∃n:Nat,tb=(n:Int):=⟨tb.toNat,U⟩;obtain⟨T2,rfl⟩:∃n:Nat,tc=(n:Int):=⟨tc.toNat,U⟩;obtain⟨q1,q2,q3,q4,X⟩:=C.ix (a:=m) (b:=O1) (c:=o) (d:=PL) (e:=T0) (m:=N) (n:=xm) An Cf U iQ;obtain⟨v1,v2,v3,v4,Z6⟩:=C.ix (a:=o) (b:=Ch) (c:=c) (d:=D1) (e:=T1) (m:=O1) (n:=O1*(Ch*D1)) Cf zO U rfl;obtain⟨v5,r7⟩:=J (v4*D1);obtain⟨v6,uU⟩:=J (v5+T2);have Mi:v6<wm:=by
              exact Q2D
             have ad8:v4<=v5:=Q3S;have WK:=b6.eC;obtain⟨Aq,Ar,rfl,ex⟩:=b6.cells U;obtain⟨Au,Av,rfl,ew⟩:=b7.cells U;have cx:=ex q4 X.lt;have cw:=ew v6 Mi;obtain⟨x1,x2⟩:=jv b6.wf q4;obtain⟨y1,y2⟩:=jv b7.wf v6;have Mj:=V (show iter AD u0 (j+1)=cM (u+x.z.getD q4 0*w.z.getD v6 0) by
              rw[Gs.I];show cM (u+x.z.getD ((m*O1+o)*PL+T0) 0*w.z.getD (((o*Ch+c)*D1+T1)*D1+T2) 0)=_
              rw[X.e1,X.e2,X.e3,X.e4,Z6.e1,Z6.e2,Z6.e3,Z6.e4,r7,uU])
             exact Q06
            .obtain rfl:j=ln:=U;have uK:=mY.1;clear b0 b1 b6 b7 mY;go_wp2_with fail;go_roundw
             case rel=>exact⟨o+1,U,Q2T,by rw[WV.I,uK],eW.I⟩
             case measure=>exact Q5q
          .obtain rfl:o=O1:=U;obtain⟨⟨_,_,_,a4,a5,_⟩,_⟩:=vN.I wr (Ap.I.trans' (ar.cZ (S:=λb=>b=g) dO.I) Ao);have Ak:g<ws:=U;have uV:=V (Ap.I.trans' (ar.cZ (S:=λb=>b=g) dO.I) Ao);have yN:=V (Own.kept Mh.I (ar.cZ (S:=λ_=>False) dO.I) (λb e=>by rw[Jf e];exact⟨Ak,id⟩));obtain⟨t0,t1,t2⟩:=bP a5;obtain⟨M1,rU⟩:∃M,m*Ch=M:=⟨_,rfl⟩;obtain⟨M2,rV⟩:∃M,M1+c=M:=⟨_,rfl⟩;obtain⟨M3,sM⟩:∃M,M2*R0=M:=⟨_,rfl⟩;obtain⟨M4,tN⟩:∃M,M3*C0=M:=⟨_,rfl⟩;obtain⟨M5,tO⟩:∃M,M4+k=M:=⟨_,rfl⟩;have Ic:M5<N0:=by
            have h:=xL (xL An zO) aT;rw[<-Mp.I,<-Nat.mul_assoc,<-Nat.mul_assoc,rU,rV,sM,tN,tO,xJ.I]at h;exact h
           have Ky:N0<=8192:=U;have w1:M3<=M4:=Q5a;have Qr:M2<=M3:=Q3R;have e1:=C.pr rU U;have e2:=C.sm rV U;have e3:=C.pr sM U;have e4:=C.pr tN U;have e5:=C.sm tO U;have e7:(M1:Int)+(c:Int)=(M2:Int):=U;have e8:(M4:Int)+(k:Int)=(M5:Int):=U;have fz:=yN.I.frozenAt M5;have Eo:(iter (IC m) (iter (λz m=>iter (IC m) z Ch) ZI m) c).length=N0:=by simpa using yN.I.1
           have cz:=vI yN.I M5 Ic Eo;have WX:(M5:Int)<(N0:Int):=U;obtain⟨sv,Ae⟩:=J (iter SO 0 o);have Aw:=V (show iter (IC m) (iter (λz m=>iter (IC m) z Ch) ZI m) (c+1)=(iter (IC m) (iter (λz m=>iter (IC m) z Ch) ZI m) c).set M5 (cr.wrap sv) by
            show IC m _ c=_
            rw[Qo.I,Ae,rU,rV,sM,tN,tO])
           rw[Ae];clear a4 a5 rU rV sM tN tO Eo Ae t0 t1;go_wp2_with fail;go_roundw
           case rel=>exact⟨c+1,U,Q2T,Q3H,uV.I.set (aM rfl) _ _⟩
           case measure=>exact Q5q
        .obtain rfl:c=Ch:=U;go_wp2_with fail;go_roundw
         case rel=>exact⟨m+1,U,Q2T,Mh.I,Ap.I⟩
         case measure=>exact Q5q
      .obtain rfl:m=N:=U;exact Q1w
    .obtain rfl:k=RC:=U;obtain⟨_,_,a3,_,a5,_⟩:=tM.I wr HK.I;obtain⟨r0,r1,r2,r3,r4,r5⟩:=aY a3;obtain⟨y0,y1,y2,y3,y4,y5⟩:=aY a5;have xG:=V a3;have Ep:=V (show iter FI Z0 k=C.Jd x.z w.z N O1 Ch PL D1 R0 C0 (λi=>lookW R0 C0 (i/C0:Nat) (i%C0:Nat) D1 s p) (dz N0 0) by rw[Mr.I,Me.I,<-Mp.I];rfl);have oG:=V (Below.gh Gp.I HK.I (λb hb=>⟨U,U⟩));have mU:=V (HK.I.gH oZ.I.aN (λa ha _=>Q3X));have cU:=V (show R=(0,⟨[(N:Int),Ch,R0,C0],x.e+w.e,iter FI Z0 k⟩) by rw[Ma.I,xJ.I,Eh.I,Ep.I]);have il:=V (ai.owned jO.I (by rw[Ep.I];exact C.am7 x.z w.z N O1 Ch PL D1 R0 C0 (λi=>lookW R0 C0 (i/C0:Nat) (i%C0:Nat) D1 s p) (C.iN.Qi N0)) U);have PT:W.heap.size+1+1<iY.heap.size:=Ea.I;clear a3 a5;go_wp2_with fail;rw[<-dB.I];rw[cU.I];refine aZ (v:=aL #[aF #[O iY 4 4,Y Z (x.e+w.e),O g N0 N0],Y Z 0]) ?_ rfl ⟨_,rfl,⟨_,_,_,_,_,_,rfl,?_,?_,(λa ha=>Q4V),(λa ha=>Q3E)⟩,cL oG.I U _ _ _⟩
     .simp[aW,results274,go_sem,cT xG.I]
     .exact Q2c
     .exact Q2o
  .have Mk:=V (rE.I.symm.trans (aR hb));obtain⟨q,hq⟩:=J ((C.fresh F0 (x.e+w.e) [(N:Int),Ch,R0,C0]).1);have FN:=V (Qh F0 (x.e+w.e) _ 4 4 _ _ gG.I hb);have Gn:=V (C.Qj hq hb);rw[hq]at FN hb;have pk:(q != 0)=true:=Q50;clear hb hq;go_wp2_with fail;refine bY FN.I λw9 hb=> ?_;have ny:=kT.bU hb;clear hb r0 r1 r2 r3 r4 r5 f1 g1;go_upto_region 9 with fail;have hA:=bZ w9 (cV G 0 0 0 G 0 0);have tP:=V (ny.I.alloc (cV G 0 0 0 G 0 0));obtain⟨bo,cy⟩:=J w9.heap.size;rw[cy]at hA⊢;clear cy ny;generalize li w9 (cV G 0 0 0 G 0 0)=fU at*;obtain⟨r0,r1,r2,r3,r4,r5⟩:=aY tP.F.2.2.1;obtain⟨y0,y1,y2,y3,y4,y5⟩:=aY hA;go_wp2_with fail;rw[<-dB.I];rw[Mk.I,Gn.I];refine aZ (v:=aL #[aF #[O G 0 0,Y Z 0,O G 0 0],Y Z q]) ?_ rfl ⟨_,rfl,dM.zero _ _ _,cL tP.F.2.2.2 U _ _ _⟩;simp[aW,results274,go_sem,cT tP.F.2.2.1]
 .obtain rfl:(Z7,az.zero)=R:=by rw[<-HR.I];unfold C.input;rw[HZ.I,aR hz]
  have cB:(Z7 != 0)=true:=Q37;clear hz;go_wp2_with fail;rw[<-dB.I];refine aZ (v:=aL #[aF #[O G 0 0,Y Z 0,O G 0 0],Y Z Z7]) ?_ rfl ⟨_,rfl,dM.zero _ _ _,cL K7.F.2.2.2 U _ _ _⟩;simp[aW,results274,go_sem,cT K7.F.2.2.1]
end
end Go.Proofs.YtcpmhoodeieanaaGreatDoor
