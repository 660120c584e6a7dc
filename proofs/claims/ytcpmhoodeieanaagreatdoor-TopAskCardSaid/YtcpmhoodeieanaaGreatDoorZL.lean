/-
  Part 12 of the proof that TopAsk answers true: laws of the functions that it calls, on any memory that holds their arguments.
-/
import Derived.Test.YtcpmhoodeieanaaGreatDoorZI
import Derived.Test.YtcpmhoodeieanaaGreatDoorZJ
import Derived.Test.YtcpmhoodeieanaaGreatDoorZK
set_option maxRecDepth 100000
set_option maxHeartbeats 20000000
set_option linter.unusedVariables false
set_option linter.unusedSimpArgs false
open Go.Lib renaming hid→V
open Go.IntKind renaming i64→Z,i8→aO,i32→cr,u64→cD
open Go.Value renaming int→Y,slice→O,agg→aF,bool→aK,tuple→aL,pointer→aP
open Option renaming none→G,some→A
open Go renaming World→H,Value→aj,Calls→aA,results→aW,bodyPost_ret→aZ,lt_of_block→bH,heap_alloc_new→bZ,TypeId→dy,Ending→dN,bodyPost→gW,madeCells→jz
open Bool renaming false→ae,and_eq_true→fS
open Go.Obj renaming cells→ag
open Go.Proofs.Tryz renaming prog→aq
open And renaming intro→aw
open Go.RowKit renaming Below→ay,intOf→aX,wrap64→cM
open Or renaming inl→aM,inr→bJ
open Nat renaming le_refl→bu,zero_le→cK,add_zero→eL,lt_of_lt_of_le→iP,mul_one→lA,zero_add→nF
open Go.World renaming size_alloc→bF
open Go.Ending renaming returned→bG
open List renaming getElem?_eq_getElem→cR,replicate→dz,setIfInBounds_toArray→dC,set_cons_zero→dD,set_cons_succ→dE,length_append→dG,getD→dV,getElem?_eq_some_iff→fX,getD_eq_getElem?_getD→gB,mem_append→kE,mem_of_getElem?→nB,mem_singleton→pS,length_replicate→sw
open Go.IntWalk renaming i64_in→dv,wrap64_in→iZ
open Go.Act renaming put→eR
open Go.World renaming size_setCell→jR,block_lt_of_cell?→jY,setCell→ss,alloc→li
open Int renaming toNat_natCast→jx
open Go.Exit renaming inBlock→j6
namespace Go.Proofs.YtcpmhoodeieanaaGreatDoor
open Go.RowKit Go.Proofs.Tryz
variable {cs:Array aj} {w w' w1:H} {au sd st:Int} {Z5 ls:List (List Int)} {l:List (Option az)} {gs:List fQ} {bb bo f1 f2 k n:Nat} {f:Nat->Int} {S S0:Nat->Prop} {x:Option az} {a b:aC} {d:ah} {v:aj} {t:az} {h:iV}
namespace Bk
def small (a:Int×az) (au step fN what:Int):Int×az:=if a.1 ≠0 then(a.1,az.zero)else T.small a.2 8 au (ZX.stream step fN what)
def comes (back:List (Option az)) (fN:Nat) (g:az) (au step:Int):Int×List (Option az):=
 match back.getD fN G with
 |none=>(0,back.set fN (A g))
 |some t=>if(small (Z4.add t g) au step fN 1).1 ≠0 then((small (Z4.add t g) au step fN 1).1,back)else(0,back.set fN (A (small (Z4.add t g) au step fN 1).2))
def Mz (x:Lay) (g t:az):Int×az:=if x.aB=1 then D.weight g t else C.weight g t x.k x.s x.aG
def MF (x:Lay) (g:az):Int×az:=if x.aB=1 then D.zd g else C.zd g
def xI (x:Lay) (g t:az):Int×fQ:=
 if(Mz x g t).1 ≠0 then((Mz x g t).1,fQ.none)else if(MF x g).1 ≠0 then((MF x g).1,fQ.none)else(0,⟨true,(Mz x g t).2,(MF x g).2⟩)
def Gv (x:Lay) (p:bD) (wN:ah) (g t:az):Int×az:=
 if x.aB=1 then D.input g p.w
 else if x.aB=2 then C.input g p.w (t.d.getD 2 0) (t.d.getD 3 0) x.s x.aG
 else if x.aB=3 then(T.A9 g.d g.e g.z wN t.d,⟨T.Dl g.d g.e g.z wN t.d,T.Kh g.d g.e g.z wN t.d,T.Ki g.d g.e g.z wN t.d⟩)
 else if x.aB=4 then(T.ux g.d g.e g.z t.d x.k x.s,⟨T.Dm g.d g.e g.z t.d x.k x.s,T.Kj g.d g.e g.z t.d x.k x.s,T.Kk g.d g.e g.z t.d x.k x.s⟩)
 else(0,az.zero)
def on (x:Lay) (p:bD) (wN:ah) (g t:az) (au step:Int) (n:Nat):Int×az:=
 if x.aB=5 then Z4.zQ g t
 else if x.aB=6 then Z4.shape g t.d
 else if x.aB=7 then(0,g)
 else small (Gv x p wN g t) au step n 2
end Bk
section
attribute [local go_sem ↓] wp_at_zero wp_at_succ
theorem Ju (bp:Nat) (au step:Int) (er:Int) (a:az) (v:aj) (fN what:Int) (w:H) (h8:w ⟨bp,8,G⟩=A (Y cD au)) (h9:w ⟨bp,9,G⟩=A (Y Z step)) (hv:fu cr w v a) (hu:P.Z4 au):
 aA aq 277 #[aP bp,v,Y Z er,Y Z fN,Y Z what] w (oY aO (Bk.small (er,a) au step fN what) w):=by
 obtain⟨aa,al,ac,ab,am,ak,rfl,ra,rb⟩:=hv;have K0:=V ((aE.fG w (cV aa al ac a.e ab am ak) (bj G 0 0 0 G 0 0)).and (((ra.bt.and rb.bt).alloc (cV aa al ac a.e ab am ak)).alloc (bj G 0 0 0 G 0 0)));have K8:=V ((((aE.cell h8).and (aE.cell h9)).alloc (cV aa al ac a.e ab am ak)).alloc (bj G 0 0 0 G 0 0));have ST:=V (O5 step fN what);have SM:=V (λw' h=>TY a (aS aa al ac a.e ab am ak) 8 au (ZX.stream step fN what) w' h hu (ZX.O0 _ _ _));obtain⟨R,hR⟩:=J (Bk.small (er,a) au step fN what);rw[hR];unfold Bk.small at hR;dsimp only at hR
 have HR:=V hR;unfold aS;unfold aS at SM;clear ra rb hR;have r0:=aY K0.F.1.2.1;have f0:=aY K0.F.1.1;go_enter func277,ntmps277
 let pq:=gW aq Tryz.f277 (λ_ _=>True)
 generalize dS:gW aq Tryz.f277 (oY aO R w)=BP;have dB:=V dS;have jM:=oz dS;clear dS;by_cases he:er=0
 case neg=>
  have e1:(er != 0)=true:=Q3d;obtain rfl:(er,az.zero)=R:=by rw[<-HR.I,aR he]
  go_wp2_with fail;rw[<-dB.I];refine aZ (v:=aL #[aF #[O G 0 0,Y Z 0,O G 0 0],Y Z er]) ?_ rfl ⟨_,rfl,dM.zero _ _ _,?_⟩
  .simp[aW,results277,go_sem]
  .exact K0.F.1.2.2
 subst he;have cU:=V (show T.small a 8 au (ZX.stream step fN what)=R by have:=HR.I;rwa[aI bK]at this);rw[cU.I]at SM;obtain⟨RE,RT⟩:=R;clear HR cU;go_upto_region 3 with fail;obtain⟨w1,eI⟩:∃u,li (li w (cV aa al ac a.e ab am ak)) (bj G 0 0 0 G 0 0)=u:=⟨_,rfl⟩;rw[eI]at K0 K8⊢;clear eI;refine Lt.begins (λw':H=>w'.heap[w.heap.size]? =A (cV aa al ac a.e ab am ak)/\w' ⟨bp,8,G⟩=A (Y cD au)/\w' ⟨bp,9,G⟩=A (Y Z step)/\w'.heap[w.heap.size+1]? =A (bj G 0 0 0 G 0 0)) (λj=>j==15||j==16) kr ?_;have hS:(λw':H=>w'.heap[w.heap.size]? =A (cV aa al ac a.e ab am ak)/\w' ⟨bp,8,G⟩=A (Y cD au)/\w' ⟨bp,9,G⟩=A (Y Z step)/\w'.heap[w.heap.size+1]? =A (bj G 0 0 0 G 0 0)) w1.drew:=⟨K0.F.1.1,K8.F.1,K8.F.2,K0.F.1.2.1⟩;refine bR hS [0,1,5,9,10,2,6,3,7,4,8] (λ_ h=>aw (bP h.1) (aw h.1 (aw h.2.1 h.2.2.1))) (bL 11 λK hK=> ?_);go_simp;refine cq (ST.I _) ?_;refine cY hK hS 12 λK hK=> ?_;go_simp;refine(SM.I w1.drew ⟨_,_,_,_,_,_,rfl,(K0.I.bI 1).aN.2.1,(K0.I.bI 1).aN.2.2⟩).mono ?_;rintro e' w2 ⟨u,rfl,⟨hu,-⟩,hb⟩;have K2:=V (K0.I.step ((below_drewN w1 1).step hb));have K82:=V (K8.I.step ((below_drewN w1 1).step hb));have iK:=K0.F.1.2.2.size;obtain⟨ta,tl,tc,tb,tm,tk,rfl,q1,q2,q3,q4⟩:=hu;have HQ:=V (aw q1 (aw q2 (aw q3 q4)));have kM:=bH K0.F.1.2.1;unfold aS;have bX:(λw':H=>w'.heap[w.heap.size]? =A (cV aa al ac a.e ab am ak)/\w' ⟨bp,8,G⟩=A (Y cD au)/\w' ⟨bp,9,G⟩=A (Y Z step)/\w'.heap[w.heap.size+1]? =A (bj G 0 0 0 G 0 0)) w2:=⟨K2.F.1.1,K82.F.1,K82.F.2,K2.F.1.2.1⟩;refine bB hK bX ?_;refine cQ bX [13,14] ?_;have r0:=aY K2.F.1.2.1;refine bL 15 λK hK=> ?_;go_simp;refine jg hK ?_;refine bL 16 λK hK=> ?_;go_simp;refine jg hK ?_;refine bW ?_;clear hS SM;go_wp2_with fail;rw[<-dB.I];refine aZ (v:=aL #[aF #[O ta tl tc,Y Z RT.e,O tb tm tk],Y Z RE]) ?_ rfl ⟨_,rfl,(dM.stored (B:=w1) ⟨_,_,_,_,_,_,rfl,HQ.I.1,HQ.I.2.1,HQ.I.2.2.1,HQ.I.2.2.2⟩ kM _ _ _).mono iK,cL K2.F.1.2.2 U _ _ _⟩;simp[aW,results277,go_sem,cT K2.F.1.2.1]
def MH (S:Nat->Prop) (w:H) (v:aj):Option az->Prop
 |none=>v=aP G
 |some t=>∃g a l c b m k,v=aP (A ⟨g,0,G⟩)/\¬S g/\di S w (λu=>u.heap[g]? =A (bj a l c t.e b m k)/\ai Z u a l t.d/\ai aO u b m t.z)
theorem MH.step (h:MH S w v x) (k:ar w S w w'):MH S w' v x:=by
 cases x with
 |none=>exact h
 |some t=>
  obtain⟨g,a,l,c,b,m,q,h1,h2,h3⟩:=h;exact⟨g,a,l,c,b,m,q,h1,h2,h3.step k⟩
theorem di.wider {ZX:H->Prop} (h:di S0 w ZX) (hb:ay w w w1) (hS:∀b,S b->S0 b\/w.heap.size<=b):di S w1 ZX:=λw' k=>
 h w' ⟨k.os.trans hb.os,k.tape.trans hb.tape,k.output.trans hb.output,Nat.le_trans hb.size k.size,λb aT hn=>(k.block b (iP aT hb.size) (λe=>by rcases hS b e with h|h;exact hn h;omega)).trans (hb.block b aT)⟩
theorem di.less {ZX:H->Prop} (h:di S w ZX) (hS:∀b,S0 b->S b):di S0 w ZX:=λw' k=>h w' (k.mono (bu _) (λg _ e=>hS g e))
def kV (S:Nat->Prop) (bb:Nat) (w:H) (l:List (Option az)):Prop:=∃vs:List aj,w.heap[bb]? =A (ag vs.toArray 274 (0,0))/\vs.length=l.length/\∀(i:Nat) (x:Option az),l[i]? =A x->∃v,vs[i]? =A v/\MH S w v x
theorem kV.bt (h:kV S bb w l) (k:ar w S w w') (hb:w'.heap[bb]? =w.heap[bb]?):kV S bb w' l:=by
 obtain⟨vs,h1,h2,h3⟩:=h;exact⟨vs,hb.trans h1,h2,λi x hx=>by
  obtain⟨v,e1,e2⟩:=h3 i x hx;exact⟨v,e1,e2.step k⟩⟩
theorem kV.lt (h:kV S bb w l):bb<w:=bH h.choose_spec.1
theorem kV.below (h:kV S bb w l) (hb:ay w w w'):kV S bb w' l:=h.bt (ar.cZ hb) (hb.block bb h.lt)
theorem kV.wider (h:kV S0 bb w l) (hb:ay w w w1) (hS:∀b,S b->S0 b\/w.heap.size<=b):kV S bb w1 l:=by
 have aT:=h.lt;obtain⟨vs,h1,h2,h3⟩:=h;refine⟨vs,(hb.block bb aT).trans h1,h2,λi x hx=> ?_⟩;obtain⟨v,e1,e2⟩:=h3 i x hx;refine⟨v,e1,?_⟩
 cases x with
 |none=>exact e2
 |some t=>
  obtain⟨g,a,l,c,b,m,q,q1,q2,q3⟩:=e2;have hg:=bH q3.aN.1;exact⟨g,a,l,c,b,m,q,q1,λe=>by rcases hS g e with h|h;exact q2 h;omega,q3.wider hb hS⟩
theorem kV.less (h:kV S bb w l) (hS:∀b,S0 b->S b):kV S0 bb w l:=by
 obtain⟨vs,h1,h2,h3⟩:=h;refine⟨vs,h1,h2,λi x hx=> ?_⟩;obtain⟨v,e1,e2⟩:=h3 i x hx;refine⟨v,e1,?_⟩
 cases x with
 |none=>exact e2
 |some t=>
  obtain⟨g,a,l,c,b,m,q,q1,q2,q3⟩:=e2;exact⟨g,a,l,c,b,m,q,q1,λe=>q2 (hS g e),q3.less hS⟩
theorem kV.set {i:Nat} (h:kV S bb w l) (hb:S bb) (hv:MH S w v x) (hi:i<l.length):kV S bb (ss w ⟨bb,i,G⟩ v) (l.set i x):=by
 obtain⟨vs,h1,h2,h3⟩:=h;have kp:ar w S w (ss w ⟨bb,i,G⟩ v):=(ar.cP w S w).set (aM hb) i v;refine⟨vs.set i v,?_,by simp[h2],λj y hy=> ?_⟩
 .have:=dF (f:=i) h1 v;simpa using this
 .by_cases e:i=j
  .subst e;rw[List.getElem?_set_self U]at hy;injection hy with hy;subst hy;exact⟨v,by rw[List.getElem?_set_self U],hv.step kp⟩
  .rw[List.getElem?_set_ne e]at hy;obtain⟨u,e1,e2⟩:=h3 j y hy;exact⟨u,by rw[List.getElem?_set_ne e];exact e1,e2.step kp⟩
def adr (bp bb bn:Nat) (au step:Int) (u:H):Prop:=u.cell? ⟨bp,7,G⟩=A (O bb bn bn)/\u.cell? ⟨bp,8,G⟩=A (Y cD au)/\u.cell? ⟨bp,9,G⟩=A (Y Z step)
def amo (r:Int×az) (w:H) (a b:aj) (wx:H):Prop:=∃(bo:Nat) (ta:aC) (tl tc:Nat) (tb:aC) (tm tk:Nat),a=aP bo/\b=Y Z r.1 /\
 wx.heap[bo]? =A (cV ta tl tc r.2.e tb tm tk)/\ai Z wx ta tl r.2.d/\ai cr wx tb tm r.2.z/\w.heap.size<=bo/\ay w w wx
theorem ads (S:Nat->Prop) (bp bb bn:Nat) (au step:Int) (L:List (Option az)) (n:Nat) (g:az) (gv:aj) (w:H) (mX:S bb) (Jv:∀b,S b->b<w.heap.size) (hp:di S w (adr bp bb bn au step)) (hg:di S w (λu=>fu aO u gv g)) (hb:kV S bb w L) (hl:L.length=bn) (hn:n<bn) (pN:bn<=1000) (hu:P.Z4 au):
 aA aq 224 #[aP bp,Y Z (n:Int),gv] w λe w'=>e=bG (Y Z (Bk.comes L n g au step).1)/\kV S bb w' (Bk.comes L n g au step).2 /\ar w (λb=>b=bb) w w':=by
 obtain⟨ga,gl,gc,gb,gm,gk,rfl,J4,Az⟩:=hg.aN;have HG:=V (hg.mono (λu h=>(show ai Z u ga gl g.d/\ai aO u gb gm g.z from by
  obtain⟨a',l',c',b',m',k',e,q1,q2⟩:=h;unfold aS at e;simp only[Value.agg.injEq,Array.mk.injEq,List.cons.injEq,Value.slice.injEq,and_true,true_and]at e;obtain⟨⟨rfl,rfl,rfl⟩,rfl,rfl,rfl⟩:=e;exact⟨q1,q2⟩)))
 have HP:=V hp;have hbp:=jY _ _ hp.aN.1;have HB:=V hb;obtain⟨x,hx⟩:∃x,L[n]? =A x:=⟨L[n]'U,Q2W⟩;obtain⟨R,hR⟩:=J (Bk.comes L n g au step);rw[hR];unfold Bk.comes at hR;rw[show L.getD n G=x by simp[dV,hx]]at hR;have Kf:(n:Int)<(bn:Int):=U;unfold aS;clear hg J4 Az hb hp;go_enter func224,ntmps224
 let pq:=gW aq Tryz.f224 (λ_ _=>True)
 generalize dS:gW aq Tryz.f224 (λe w'=>e=bG (Y Z R.1)/\kV S bb w' R.2 /\ar w (λb=>b=bb) w w')=BP;have dB:=V dS;have jM:=oz dS;clear dS;go_upto_region 1 with fail;obtain⟨w1,eI⟩:∃u,li w (bj ga gl gc g.e gb gm gk)=u:=⟨_,rfl⟩;have gR:ay w w w1:=eI▸aD w _;have pX:w1.heap[w.heap.size]? =A (bj ga gl gc g.e gb gm gk):=eI▸bZ w _;have jW:=V (HB.I.below gR);have HP1:=V (HP.I.below gR);have MJ:=V (HG.I.below gR);have cW:bb<w:=bH HB.I.choose_spec.1;rw[eI];obtain⟨vs,dh,V0,wD⟩:=jW.I;obtain⟨v,ph,mT⟩:=wD n x hx;have kU:w1 ⟨bb,n,G⟩=A v:=bh dh n (by simpa using ph);have qf:w1.frozen? ⟨bb,n,G⟩=ae:=cE dh n;obtain⟨p7,p8,p9⟩:=HP1.I.aN;have K1:=V (ar.cZ (S:=λb=>b=bb) gR);have Be:=V (λb (hb:w.heap.size<=b) (h:S b)=>(show False from by have:=Jv b h;omega));have QG:=V pX;obtain⟨bo,cy⟩:=J w.heap.size;rw[cy]at pX QG cW hbp Be⊢;have Xn:=V (gR);clear eI dh wD Jv
 cases x with
 |none=>
  obtain rfl:v=aP G:=mT;obtain rfl:(0,L.set n (A g))=R:=hR;go_wp2_with fail;rw[<-dB.I];go_ret;have nk:=bH QG.I;have h1:=jW.I.set mX (i:=n) (v:=aP bo) (x:=A g) ⟨bo,ga,gl,gc,gb,gm,gk,rfl,Be.I bo (bu _),(di.block QG.I (Be.I bo (bu _))).and MJ.I⟩ U;exact⟨rfl,h1,K1.I.set (aM rfl) _ _⟩
 |some t=>
  obtain⟨h,ha,EM,hc,hb,hm,hk,rfl,cI,fE⟩:=mT;have HS:=V fE;dsimp only at hR
  have HR:=V hR;clear fE hR;have z0:=aY HS.I.aN.1;go_upto_region 3 with fail;clear kU qf;have AD:=V (aaN t g (aS ha EM hc t.e hb hm hk) (aS ga gl gc g.e gb gm gk));have hR:=HR.I;generalize Z4.add t g=r at*;have HR:=V hR;clear hR;obtain⟨re,rt⟩:=r;unfold aS at AD;have xP:=V (λu (hu:ay w1 w1 u)=>(show(λw':H=>w'.heap[bo]? =A (bj ga gl gc g.e gb gm gk)/\w'.heap[h]? =A (bj ha EM hc t.e hb hm hk)) u from⟨bV QG.I hu,bV HS.I.aN.1 hu⟩));go_cut [8,9] (λa b wx=>amo (re,rt) w1 a b wx)
  case first=>
   as_aux_lemma=>
   refine cS (λw':H=>w'.heap[bo]? =A (bj ga gl gc g.e gb gm gk)/\w'.heap[h]? =A (bj ha EM hc t.e hb hm hk)) (eE (xP.I _ (below_drewN w1 1)) λhS=>bR hS [0,3,1,2] (λ_ h=>aw (bP h.1) (aw (bP h.2) (aw h.1 h.2))) ?_);refine lI 4 8 (λK hK=> ?_) (λK hK=> ?_)
   .go_simp;refine(AD.I _ ⟨_,_,_,_,_,_,rfl,(HS.I.bI 1).aN.2.1,(HS.I.bI 1).aN.2.2⟩ ⟨_,_,_,_,_,_,rfl,(MJ.I.bI 1).aN.1,(MJ.I.bI 1).aN.2⟩).mono ?_;rintro e' w2 ⟨v,rfl,⟨ta,tl,tc,tb,tm,tk,rfl,q1,q2,-,-⟩,du⟩;have dK:ay w1 w1 w2:=((Below.refl _ w1).bI 1).step du;have HQ:=V (aw q1 q2);clear hS q1 q2;unfold aS;refine bB hK (xP.I _ dK) ?_;refine cQ (xP.I _ dK) [5,6,7] (bL 8 λK hK=> ?_);go_simp;have gK:=λo=>dK.step (aD w2 o);refine cY hK (xP.I _ (gK _)) 9 λK hK=> ?_;go_simp;refine bB hK (xP.I _ (gK _)) ?_;refine cQ (xP.I _ (gK _)) [10] (bW ?_);go_wp2_with fail;go_meet
    exact⟨_,_,_,_,_,_,_,rfl,rfl,bZ w2 _,HQ.I.1.below (aD w2 _),HQ.I.2.below (aD w2 _),dK.size,gK _⟩
   .go_simp;have eX:ay w1 w1 (li w1 (cV G 0 0 0 G 0 0)).drew:=(aD w1 (cV G 0 0 0 G 0 0)).bI 1;refine cY hK (xP.I _ eX) 4 λK hK=> ?_;go_simp;refine(AD.I _ ⟨_,_,_,_,_,_,rfl,(HS.I.below eX).aN.2.1,(HS.I.below eX).aN.2.2⟩ ⟨_,_,_,_,_,_,rfl,(MJ.I.below eX).aN.1,(MJ.I.below eX).aN.2⟩).mono ?_;rintro e' w2 ⟨v,rfl,⟨ta,tl,tc,tb,tm,tk,rfl,q1,q2,q3,q4⟩,du⟩;have dK:ay w1 w1 w2:=eX.step du;have nL:=bV (show(li w1 (cV G 0 0 0 G 0 0)).drew.heap[w1.heap.size]? =_ from bZ w1 _) du;have HQ:=V (aw q1 (aw q2 (aw q3 q4)));have aT:w1.heap.size<(li w1 (cV G 0 0 0 G 0 0)).drew.heap.size:=(show w1.heap.size<(li w1 _).heap.size by rw[bF];omega);clear hS q1 q2;unfold aS;refine bB hK (xP.I _ dK) ?_;refine cQ (xP.I _ dK) [5,6,7] ?_;have z0:=aY nL;refine bL 9 λK hK=> ?_;go_simp;have gK:ay w1 w1 _:=cL dK (bu _) (O ta tl tc) (Y Z rt.e) (O tb tm tk);refine bB hK (xP.I _ gK) ?_;refine cQ (xP.I _ gK) [10] (bW ?_);go_wp2_with fail;go_meet
    exact⟨_,_,_,_,_,_,_,rfl,rfl,oV nL,HQ.I.1.eJ (λx hx=>E (HQ.I.2.2.1 x hx)),HQ.I.2.1.eJ (λx hx=>E (HQ.I.2.2.2 x hx)),bu _,gK⟩
  case rest=>
   obtain⟨ab,ta,tl,tc,tb,tm,tk,rfl,rfl,xq,q1,q2,lG,dK⟩:=hcut;obtain⟨w2,rfl⟩:∃w2:H,w2=wc:=⟨_,rfl⟩;have qi:=V (HP1.I.below dK);obtain⟨p7,p8,p9⟩:=qi.I.aN;have SM:=V (Ju bp au step re rt (aS ta tl tc rt.e tb tm tk) (n:Int) 1 w2 p8 p9 ⟨_,_,_,_,_,_,rfl,q1,q2⟩ hu);have bX:=V (xP.I _ dK);have dA:=V (Xn.I.step dK);have z0:=bP xq;have hR:=HR.I;generalize Bk.small (re,rt) au step (n:Int) 1=s at*;obtain⟨se,st⟩:=s;have cU:=V (show(if se≠0 then(se,L)else(0,L.set n (A st)))=R from hR);clear hR;unfold aS at SM;clear xq q1 q2 dK;go_wp2_with fail;refine SM.I.mono ?_;rintro e' w3 ⟨v,rfl,⟨sa,sl,sc,sb,sm,sk,rfl,y1,y2,y3,y4⟩,eg⟩;have fM:=V (bV bX.I.1 eg);have gV:=V (dA.I.step eg);have Gw:=V (qi.I.below eg);have HY:=V (aw y1 (aw y2 (aw y3 y4)));have nK:=eg.size;unfold aS;have nL:=bH bX.I.1;have oW:=dA.I.size;have z0:=aY fM.I;have Xo:=V (oV (a:=O sa sl sc) (b:=Y Z st.e) (c:=O sb sm sk) fM.I);have gT:=V (cL gV.I (show w.heap.size<=bo by omega) (O sa sl sc) (Y Z st.e) (O sb sm sk));have gU:=V (aw (HY.I.1.eJ (g:=bo) (x:=O sa sl sc) (y:=Y Z st.e) (z:=O sb sm sk) (λx hx=>E (HY.I.2.2.1 x hx))) (HY.I.2.1.eJ (g:=bo) (x:=O sa sl sc) (y:=Y Z st.e) (z:=O sb sm sk) (λx hx=>E (HY.I.2.2.2 x hx))));have Og:¬bb=bo:=U;have mJ:=V (show(ss (ss (ss w3 bo (O sa sl sc)) ⟨bo,1,G⟩ (Y Z st.e)) ⟨bo,2,G⟩ (O sb sm sk)).heap[bb]? =w.heap[bb]? from by
    rw[gj _ Og,gj _ Og,gj _ Og];exact gV.I.block bb U)
   have DB:=V (Gw.I.aN);have zy:=V (show adr bp bb bn au step (ss (ss (ss w3 bo (O sa sl sc)) ⟨bo,1,G⟩ (Y Z st.e)) ⟨bo,2,G⟩ (O sb sm sk))from by
    have Xp:¬bp=bo:=U;have hh:∀x y z,(ss (ss (ss w3 bo x) ⟨bo,1,G⟩ y) ⟨bo,2,G⟩ z).heap[bp]? =w3.heap[bp]? :=λx y z=>by rw[gj _ Xp,gj _ Xp,gj _ Xp]
    exact⟨(tS (hh _ _ _) 7).trans DB.I.1,(tS (hh _ _ _) 8).trans DB.I.2.1,(tS (hh _ _ _) 9).trans DB.I.2.2⟩)
   dsimp only
   go_upto_region 5 with fail;generalize ss (ss (ss w3 bo (O sa sl sc)) ⟨bo,1,G⟩ (Y Z st.e)) ⟨bo,2,G⟩ (O sb sm sk)=w4 at*;have KF:=V (ar.cZ (S:=λb=>b=bb) gT.I);have oI:=V (HB.I.bt (KF.I.mono (bu _) (λb _ e=>(show S b from e▸mX))) mJ.I);have HPf:=V Xo.I;by_cases OJ:se=0
   case neg=>
    obtain rfl:(se,L)=R:=by rw[<-cU.I,aR OJ]
    have e1:(se != 0)=true:=by simpa using OJ
    go_wp2_with fail;rw[<-dB.I];go_ret;exact⟨rfl,oI.I,KF.I⟩
   subst OJ;obtain rfl:(0,L.set n (A st))=R:=by rw[<-cU.I,aI bK]
   obtain⟨p7,p8,p9⟩:=zy.I;obtain⟨us,Xq,BM,Im⟩:=oI.I;have qf:w4.frozen? ⟨bb,n,G⟩=ae:=cE Xq n;obtain⟨uv,tC,-⟩:=Im n (A t) hx;have kU:w4 ⟨bb,n,G⟩=A uv:=bh Xq n (by simpa using tC);clear Xq Im;go_wp2_with fail;rw[<-dB.I];go_ret;have h1:=oI.I.set mX (i:=n) (v:=aP bo) (x:=A st) ⟨bo,sa,sl,sc,sb,sm,sk,rfl,Be.I bo (bu _),(di.block HPf.I (Be.I bo (bu _))).and ((di.row gU.I.1 (λx hx=>Be.I _ (E (HY.I.2.2.1 x hx)))).and (di.row gU.I.2 (λx hx=>Be.I _ (E (HY.I.2.2.2 x hx)))))⟩ U;exact⟨rfl,h1,KF.I.set (aM rfl) _ _⟩
def adt (r:Int×fQ) (w:H) (e:dN) (w':H):Prop:=∃cs,e=bG (aL #[aF cs,Y Z r.1])/\mS (λb=>w.heap.size<=b) w' cs r.2 /\ay w w w'
theorem aE.adu (w:H) (o p q r s:Obj):aE (li (li (li (li (li w o) p) q) r) s) λw'=>w'.heap[w.heap.size]? =A o/\w'.heap[w.heap.size+1]? =A p/\w'.heap[w.heap.size+1+1]? =A q/\w'.heap[w.heap.size+1+1+1]? =A r/\w'.heap[w.heap.size+1+1+1+1]? =A s/\ay w w w':=by
 have h:=((((aE.new w o).alloc p).alloc q).alloc r).alloc s|>.and ((((aE.new (li w o) p).alloc q).alloc r).alloc s|>.and ((((aE.new (li (li w o) p) q).alloc r).alloc s).and (((aE.new (li (li (li w o) p) q) r).alloc s).and ((aE.new (li (li (li (li w o) p) q) r) s).and ((((((aE.base w).alloc o).alloc p).alloc q).alloc r).alloc s)))));simp only[bF]at h;exact h
theorem si {g f:Nat} {T:dy} {fr:Nat×Nat} (h:w.heap[g]? =A (ag cs T fr)) (a b c:aj):(ss (ss (ss w ⟨g,f,G⟩ a) ⟨g,f1,G⟩ b) ⟨g,f2,G⟩ c).heap[g]? =A (ag (((cs.setIfInBounds f a).setIfInBounds (f1) b).setIfInBounds (f2) c) T fr):=dF (dF (dF h a) b) c
theorem QH {wx:H} {r f:Nat} (hb:ay w w wx) (h:w.heap.size<=r) (a b c:aj):ay w w (ss (ss (ss wx ⟨r,f,G⟩ a) ⟨r,f1,G⟩ b) ⟨r,f2,G⟩ c):=((hb.setCell h _).setCell h _).setCell h _
theorem Ew {g b f:Nat} {o:Obj} {x y z:aj} (h:w.heap[b]? =A o) (cI:b≠g):(ss (ss (ss w ⟨g,f,G⟩ x) ⟨g,f1,G⟩ y) ⟨g,f2,G⟩ z).heap[b]? =A o:=by
 rw[gj _ cI,gj _ cI,gj _ cI];exact h
theorem ai.si {k:IntKind} {g f:Nat} {zs:ah} {x y z:aj} (h:ai k w a n zs) (hp:∀x,a=A x->g<x.block):ai k (ss (ss (ss w ⟨g,f,G⟩ x) ⟨g,f1,G⟩ y) ⟨g,f2,G⟩ z) a n zs:=
 ((((ar.cP w (λb=>b=g) w).set (aM rfl) f x).set (aM rfl) (f1) y).set (aM rfl) (f2) z).gH h (λx hx h0=>⟨h.bC h0 hx,by have:=hp x hx;omega⟩)
theorem mS.none (ok:Nat->Prop) (u:H):mS ok u #[aK ae,O G 0 0,Y Z 0,O G 0 0,O G 0 0,Y Z 0,O G 0 0] fQ.none:=⟨_,_,_,_,_,_,_,_,_,_,_,_,rfl,fR.nil _ _ _,fR.nil _ _ _,fR.nil _ _ _,fR.nil _ _ _⟩
theorem amq (bp:aj) (x:Lay) (g t:az) (gv tv:aj) (w:H) (hg:fu aO w gv g) (ht:fu aO w tv t):
 aA aq 222 #[bp,aF x.cells,gv,tv] w (adt (Bk.xI x g t) w):=by
 obtain⟨ga,gl,gc,gb,gm,gk,rfl,g1,g2⟩:=hg;obtain⟨ta,tl,tc,tb,tm,tk,rfl,t1,t2⟩:=ht;have K0:=V (aE.adu w (ag x.cells 102) (bj ga gl gc g.e gb gm gk) (bj ta tl tc t.e tb tm tk) (tZ ae G 0 0 0 G 0 0 G 0 0 0 G 0 0) (tZ true G 0 0 0 G 0 0 G 0 0 0 G 0 0));have KR:=V ((g1.bt.and g2.bt).and (t1.bt.and t2.bt));obtain⟨R,hR⟩:=J (Bk.xI x g t);rw[hR];unfold Bk.xI at hR;unfold aS;clear g1 g2 t1 t2;unfold Lay.cells at K0⊢;go_enter func222,ntmps222
 let pq:=gW aq Tryz.f222 (λ_ _=>True)
 generalize dS:gW aq Tryz.f222 (adt R w)=BP;have dB:=V dS;have jM:=oz dS;clear dS;go_upto_region 3 with fail;obtain⟨w1,eI⟩:∃u,li (li (li (li (li w (bQ x.aB x.I x.k x.s x.aG x.aJ x.fz)) (bj ga gl gc g.e gb gm gk)) (bj ta tl tc t.e tb tm tk)) (tZ ae G 0 0 0 G 0 0 G 0 0 0 G 0 0)) (tZ true G 0 0 0 G 0 0 G 0 0 0 G 0 0)=u:=⟨_,rfl⟩;rw[eI]at K0⊢;clear eI;obtain⟨f0,f1,f2,f3,f4,f5,f6⟩:=bE K0.F.1;obtain⟨y0,y1,y2⟩:=bP K0.F.2.1;obtain⟨z0,z1,z2⟩:=bP K0.F.2.2.1;have Bh:=V K0.F.2.2.2.2.1;have q:=λj=>cE Bh.I j;obtain⟨wt,Ex⟩:∃r,Bk.Mz x g t=r:=⟨_,rfl⟩;obtain⟨bi,Ey⟩:∃r,Bk.MF x g=r:=⟨_,rfl⟩;rw[Ex,Ey]at hR;unfold Bk.Mz at Ex;unfold Bk.MF at Ey;obtain⟨we,wT⟩:=wt;obtain⟨be,bT⟩:=bi;have HR:=V hR;have KW:=V (KR.aQ K0.F.2.2.2.2.2);clear hR;by_cases k1:x.aB=1
 .have e1:(x.aB==1)=true:=by simpa using k1
  rw[aR k1]at Ex Ey;have WG:=V (akX g t (aS ga gl gc g.e gb gm gk) (aS ta tl tc t.e tb tm tk) w1 ⟨_,_,_,_,_,_,rfl,KW.I.1.1,KW.I.1.2⟩ ⟨_,_,_,_,_,_,rfl,KW.I.2.1,KW.I.2.2⟩);have BI:=V (al5 g (aS ga gl gc g.e gb gm gk));rw[Ex]at WG;rw[Ey]at BI;unfold aS at WG BI;clear Ex Ey;go_wp2_with fail;refine WG.I.mono ?_;rintro e' w2 ⟨v,rfl,⟨sa,sl,sc,sb,sm,sk,rfl,u1,u2,u3,u4⟩,hb⟩;have K2:=K0.bU hb;have HU:=V (aw u1 (aw u2 (aw u3 u4)));have ja:=hb.size;have iK:=bH Bh.I;unfold aS;clear hb u1 u2 u3 u4 f0 f1 f2 f3 f4 f5 f6 y0 y1 y2 z0 z1 z2 q WG;have q:=λj=>cE K2.F.2.2.2.2.1 j;obtain⟨o0,o1,o2,o3,o4,o5,o6⟩:=bE K2.F.2.2.2.2.1;have jP:=V (si (f:=1) (f1:=2) (f2:=3) K2.F.2.2.2.2.1 (O sa sl sc) (Y Z wT.e) (O sb sm sk));have Cj:=V (Ew (f:=1) (f1:=2) (f2:=3) (x:=O sa sl sc) (y:=Y Z wT.e) (z:=O sb sm sk) K2.F.1 (show w.heap.size≠w.heap.size+1+1+1+1 by omega));have uE:=V (Ew (f:=1) (f1:=2) (f2:=3) (x:=O sa sl sc) (y:=Y Z wT.e) (z:=O sb sm sk) K2.F.2.1 (show w.heap.size+1≠w.heap.size+1+1+1+1 by omega));have MK:=V (Ew (f:=1) (f1:=2) (f2:=3) (x:=O sa sl sc) (y:=Y Z wT.e) (z:=O sb sm sk) K2.F.2.2.2.1 (show w.heap.size+1+1+1≠w.heap.size+1+1+1+1 by omega));have dA:=V (QH (f:=1) (f1:=2) (f2:=3) K2.F.2.2.2.2.2 (show w.heap.size<=w+1+1+1+1 by omega) (O sa sl sc) (Y Z wT.e) (O sb sm sk));have xw:=V (aw (HU.I.1.si (f:=1) (f1:=2) (f2:=3) (g:=w+1+1+1+1) (x:=O sa sl sc) (y:=Y Z wT.e) (z:=O sb sm sk) (λx hx=>E (HU.I.2.2.1 x hx))) (HU.I.2.1.si (f:=1) (f1:=2) (f2:=3) (g:=w+1+1+1+1) (x:=O sa sl sc) (y:=Y Z wT.e) (z:=O sb sm sk) (λx hx=>E (HU.I.2.2.2 x hx))));dsimp only
  go_upto_region 5 with fail;exact Q01
 .have e1:(x.aB==1)=ae:=by simpa using k1
  rw[aI k1]at Ex Ey;have WG:=V (amg g t x.k x.s x.aG (aS ga gl gc g.e gb gm gk) (aS ta tl tc t.e tb tm tk) w1 ⟨_,_,_,_,_,_,rfl,KW.I.1.1,KW.I.1.2⟩ ⟨_,_,_,_,_,_,rfl,KW.I.2.1,KW.I.2.2⟩);have BI:=V (amb g (aS ga gl gc g.e gb gm gk));rw[Ex]at WG;rw[Ey]at BI;unfold aS at WG BI;clear Ex Ey;go_wp2_with fail;refine WG.I.mono ?_;rintro e' w2 ⟨v,rfl,⟨sa,sl,sc,sb,sm,sk,rfl,u1,u2,u3,u4⟩,hb⟩;have K2:=K0.bU hb;have HU:=V (aw u1 (aw u2 (aw u3 u4)));have ja:=hb.size;have iK:=bH Bh.I;unfold aS;clear hb u1 u2 u3 u4 f0 f1 f2 f3 f4 f5 f6 y0 y1 y2 z0 z1 z2 q WG;have q:=λj=>cE K2.F.2.2.2.2.1 j;obtain⟨o0,o1,o2,o3,o4,o5,o6⟩:=bE K2.F.2.2.2.2.1;have jP:=V (si (f:=1) (f1:=2) (f2:=3) K2.F.2.2.2.2.1 (O sa sl sc) (Y Z wT.e) (O sb sm sk));have Cj:=V (Ew (f:=1) (f1:=2) (f2:=3) (x:=O sa sl sc) (y:=Y Z wT.e) (z:=O sb sm sk) K2.F.1 (show w.heap.size≠w.heap.size+1+1+1+1 by omega));have uE:=V (Ew (f:=1) (f1:=2) (f2:=3) (x:=O sa sl sc) (y:=Y Z wT.e) (z:=O sb sm sk) K2.F.2.1 (show w.heap.size+1≠w.heap.size+1+1+1+1 by omega));have MK:=V (Ew (f:=1) (f1:=2) (f2:=3) (x:=O sa sl sc) (y:=Y Z wT.e) (z:=O sb sm sk) K2.F.2.2.2.1 (show w.heap.size+1+1+1≠w.heap.size+1+1+1+1 by omega));have dA:=V (QH (f:=1) (f1:=2) (f2:=3) K2.F.2.2.2.2.2 (show w.heap.size<=w+1+1+1+1 by omega) (O sa sl sc) (Y Z wT.e) (O sb sm sk));have xw:=V (aw (HU.I.1.si (f:=1) (f1:=2) (f2:=3) (g:=w+1+1+1+1) (x:=O sa sl sc) (y:=Y Z wT.e) (z:=O sb sm sk) (λx hx=>E (HU.I.2.2.1 x hx))) (HU.I.2.1.si (f:=1) (f1:=2) (f2:=3) (g:=w+1+1+1+1) (x:=O sa sl sc) (y:=Y Z wT.e) (z:=O sb sm sk) (λx hx=>E (HU.I.2.2.2 x hx))));dsimp only
  go_upto_region 7 with fail;exact Q01
structure PA where
 m:Mod
 ps:List bD
 T:List az
 Z5:List (List Int)
 au:Int
 step:Int
 xa:Option Addr
 xl:Nat
 xm:Nat
 pa:Option Addr
 pl:Nat
 pm:Nat
 ta:Option Addr
 tn:Nat
 tm:Nat
 ga:Option Addr
 gn:Nat
 gm:Nat
 S:Nat->Prop
 bb:Nat
 bn:Nat
 bk:aj
abbrev PA.cells (q:PA):Array aj:=#[Y Z q.m.a,Y Z q.m.b,Y Z q.m.c,O q.xa q.xl q.xm,O q.pa q.pl q.pm,O q.ta q.tn q.tm,O q.ga q.gn q.gm,q.bk,Y cD q.au,Y Z q.step]
def PA.at (q:PA) (bp:Nat) (u:H):Prop:=u.heap[bp]? =A (ag q.cells 272 (0,0))/\cH iM 7 (λb=>¬q.S b) u q.xa q.xl q.m.L/\pH u q.pa q.pl q.ps/\cH Ay 3 (λb=>¬q.S b) u q.ta q.tn q.T/\cH rO 1 (λb=>¬q.S b) u q.ga q.gn q.Z5
theorem PA.at.bt {q:PA} {bp:Nat} (h:q.at bp w):aE w (q.at bp):=λw' b=>⟨bV h.1 b,h.2.1.below gL U b,h.2.2.1.below b,h.2.2.2.1.below qZ U b,h.2.2.2.2.below lX U b⟩
theorem nW {g:Nat} {x0 x1 x2 x3 x4 x5 x6 x7 x8 x9:aj} {T:dy} (h:w.heap[g]? =A (ag #[x0,x1,x2,x3,x4,x5,x6,x7,x8,x9] T (0,0))):
 w g=A x0/\w ⟨g,1,G⟩=A x1/\w ⟨g,2,G⟩=A x2/\w ⟨g,3,G⟩=A x3/\w ⟨g,4,G⟩=A x4/\w ⟨g,5,G⟩=A x5/\w ⟨g,6,G⟩=A x6/\w ⟨g,7,G⟩=A x7/\w ⟨g,8,G⟩=A x8/\w ⟨g,9,G⟩=A x9:=
 ⟨bh h 0 rfl,bh h 1 rfl,bh h 2 rfl,bh h 3 rfl,bh h 4 rfl,bh h 5 rfl,bh h 6 rfl,bh h 7 rfl,bh h 8 rfl,bh h 9 rfl⟩
def adv (r:Int×az) (vg:aj) (g:az) (w:H) (e:dN) (w':H):Prop:=∃v,e=bG (aL #[v,Y Z r.1])/\(dM aO w.heap.size w' v r.2 \/(v=vg/\r.2 =g))/\ay w w w'
theorem Sh.adw:∀(l:ah) (n:Int),Sh.lC n l≠0->∀x∈l,x≠0
 | [],_,_,x,hx=>by simp at hx
 |y::l,n,h,x,hx=>by
  unfold Sh.lC at h;split at h
  .exact absurd rfl h
  .rename_i hc;rcases List.mem_cons.1 hx with rfl|hx
   .omega
   .exact Sh.adw l _ h x hx
theorem Sh.ne (h:Sh.size d≠0):∀x∈d,x≠0:=by
 unfold Sh.size at h;split at h
 .exact absurd rfl h
 .exact Sh.adw d 1 h
theorem T.amr (d:ah) (e:Int) (z ds:ah) (k s:Int):∀x∈T.Dm d e z ds k s,x≠0:=by
 intro x hx;unfold T.Dm at hx;split at hx
 .rename_i h;unfold T.ux at h;split at h
  .cases h
  .rename_i h2;exact Sh.ne (E ((Decidable.not_not.1 h2).2)) x hx
 .simp at hx
theorem T.ams (d:ah) (e:Int) (z fs ds:ah):∀x∈T.Dl d e z fs ds,x≠0:=by
 intro x hx;unfold T.Dl at hx;split at hx
 .rename_i h;unfold T.A9 at h;split at h
  .cases h
  .rename_i h2;exact Sh.ne (λh=>h2 (bJ h)) x hx
 .simp at hx
def amt (bp:Nat) (q:PA) (cx cp:Array aj) (w:H) (a b:aj) (wx:H):Prop:=∃g h,a=aP (A ⟨g,0,G⟩)/\b=aP (A ⟨h,0,G⟩)/\wx.heap[g]? =A (ag cx 102 (0,0))/\wx.heap[h]? =A (ag cp 105 (0,0))/\ay w w wx
theorem amu (q:PA) (bp k:Nat) (x:Lay) (p:bD) (g t:az) (gv tv:aj) (w:H) (hq:q.at bp w) (hx:q.m.L[k]? =A x) (hp:q.ps[k]? =A p) (hk:k<12) (hg:fu aO w gv g) (ht:fu aO w tv t) (hu:P.Z4 q.au) (h2:x.aB=2->t.d.length=4) (h3:x.aB=3->k+1<q.Z5.length):
 aA aq 223 #[aP bp,Y Z ((k:Int)+1),gv,tv] w (adv (Bk.on x p (q.Z5.getD (k+1) []) g t q.au q.step (k+1)) gv g w):=by
 obtain⟨ga,gl,gc,gb,gm,gk,rfl,g1,g2⟩:=hg;obtain⟨ta,tl,tc,tb,tm,tk,rfl,t1,t2⟩:=ht;have K0:=V (aE.lj w (bj ga gl gc g.e gb gm gk) (bj ta tl tc t.e tb tm tk) (bj G 0 0 0 G 0 0));have KR:=V (((g1.bt.and g2.bt).and (t1.bt.and t2.bt)).and hq.bt);obtain⟨yb,yo,cs,Xt,_,hE,hcs⟩:=hq.2.1.get hx;obtain rfl:cs=x.cells:=hE;unfold Lay.cells at hcs;have fP:k<q.xl:=by rw[<-hq.2.1.1];exact(fX.1 hx).1
 have kN:k<q.pl:=by rw[<-hq.2.2.1.1];exact(fX.1 hp).1
 obtain⟨pb,po,FX,y9⟩:=hq.2.2.1.2.2.resolve_left U;obtain⟨cp,Jq,pJ⟩:=y9 k kN;rw[show q.ps.getD k bD.nil=p by simp[dV,hp]]at Jq;obtain⟨a1,l1,c1,a2,l2,c2,a3,l3,c3,a4,l4,c4,a5,l5,c5,rfl,p1,p2,-⟩:=Jq;have KP:=V (p1.bt.and p2.bt);have H2:=V h2;have H3:=V h3;have pP:=V t1.bA;have fy:(λw':H=>w'.heap[bp]? =A (ag q.cells 272 (0,0))/\(∀j v,(#[Y Z x.aB,Y Z x.I,Y Z x.k,Y Z x.s,Y Z x.aG,Y Z x.aJ,aK x.fz]:Array aj)[j]? =A v->w' ⟨yb,yo+k*7+j,G⟩=A v)/\∀j v,(#[O a1 l1 c1,Y Z p.w.e,O a2 l2 c2,O a3 l3 c3,O a4 l4 c4,Y Z p.b.e,O a5 l5 c5]:Array aj)[j]? =A v->w' ⟨pb,po+k*7+j,G⟩=A v) w:=⟨hq.1,hcs,pJ⟩;have VJ:Z.wrap ((k:Int)+1-1)=(k:Int):=by rw[show(k:Int)+1-1=(k:Int) by omega];exact dv _ U
 have hi5:Z.wrap (k:Int)=(k:Int):=dv _ U;have Kt:cM (k:Int)=(k:Int):=iZ _ ⟨U,U⟩;have hi3:(k:Int)<(q.xl:Int):=U;have hi4:(k:Int)<(q.pl:Int):=U;obtain⟨R,hR⟩:=J (Bk.on x p (q.Z5.getD (k+1) []) g t q.au q.step (k+1));rw[hR];unfold Bk.on at hR;have HR:=V hR;unfold aS;clear g1 g2 t1 t2 p1 p2 h2 h3 hR hcs pJ y9 hx hp hq;go_enter func223,ntmps223
 let pq:=gW aq Tryz.f223 (λ_ _=>True)
 generalize dS:gW aq Tryz.f223 (adv R (aF #[O ga gl gc,Y Z g.e,O gb gm gk]) g w)=BP;have dB:=V dS;have jM:=oz dS;clear dS;go_upto_region 1 with fail;obtain⟨w1,eI⟩:∃u,li (li (li w (bj ga gl gc g.e gb gm gk)) (bj ta tl tc t.e tb tm tk)) (bj G 0 0 0 G 0 0)=u:=⟨_,rfl⟩;rw[eI]at K0⊢;clear eI;have dp:=V (λu (hu:ay w1 w1 u)=>(show(λw':H=>w'.heap[bp]? =A (ag q.cells 272 (0,0))/\(∀j v,(#[Y Z x.aB,Y Z x.I,Y Z x.k,Y Z x.s,Y Z x.aG,Y Z x.aJ,aK x.fz]:Array aj)[j]? =A v->w' ⟨yb,yo+k*7+j,G⟩=A v)/\∀j v,(#[O a1 l1 c1,Y Z p.w.e,O a2 l2 c2,O a3 l3 c3,O a4 l4 c4,Y Z p.b.e,O a5 l5 c5]:Array aj)[j]? =A v->w' ⟨pb,po+k*7+j,G⟩=A v) u from by
  have hb:=K0.F.2.2.2.step hu;exact⟨bV fy.1 hb,λj v hv=>hb.cell_of (fy.2.1 j v hv),λj v hv=>hb.cell_of (fy.2.2 j v hv)⟩))
 clear fy;go_cut [10,11] (λa b wx=>amt bp q #[Y Z x.aB,Y Z x.I,Y Z x.k,Y Z x.s,Y Z x.aG,Y Z x.aJ,aK x.fz] #[O a1 l1 c1,Y Z p.w.e,O a2 l2 c2,O a3 l3 c3,O a4 l4 c4,Y Z p.b.e,O a5 l5 c5] w1 a b wx)
 case first=>
  refine cS (λw':H=>w'.heap[bp]? =A (ag q.cells 272 (0,0))/\(∀j v,(#[Y Z x.aB,Y Z x.I,Y Z x.k,Y Z x.s,Y Z x.aG,Y Z x.aJ,aK x.fz]:Array aj)[j]? =A v->w' ⟨yb,yo+k*7+j,G⟩=A v)/\∀j v,(#[O a1 l1 c1,Y Z p.w.e,O a2 l2 c2,O a3 l3 c3,O a4 l4 c4,Y Z p.b.e,O a5 l5 c5]:Array aj)[j]? =A v->w' ⟨pb,po+k*7+j,G⟩=A v) (eE (dp.I _ (below_drewN w1 1)) λhS=> ?_);refine Lt.takes Q2U hS [0,5,9,13,1,6,10,14,2,11,3,12,4,15,7,16,8] kr rfl ?_;repeat(first|((refine Lt.more (v:= ?_) rfl (aM ⟨Q3u,?_⟩) ?_;rotate_left;(intro w' hw';obtain⟨b0,hl,hp⟩:=hw';obtain⟨s0,s1,s2,s3,s4,s5,s6,s7,s8,s9⟩:=nW b0;have l0:=hl 0 _ rfl;have l1:=hl 1 _ rfl;have l2:=hl 2 _ rfl;have l3:=hl 3 _ rfl;have l4:=hl 4 _ rfl;have l5:=hl 5 _ rfl;have l6:=hl 6 _ rfl;have p0:=hp 0 _ rfl;have p1:=hp 1 _ rfl;have p2:=hp 2 _ rfl;have p3:=hp 3 _ rfl;have p4:=hp 4 _ rfl;have p5:=hp 5 _ rfl;have p6:=hp 6 _ rfl;simp only[eL]at l0 p0;clear hl hp b0;go_simp;try with_reducible rfl);try simp only[eR,dC,dD,dE]))|((refine Lt.more (v:=undef) rfl (bJ ⟨Q3u,rfl⟩) ?_;try simp only[eR,dC,dD,dE])))
  refine Lt.done ?_;have du:∀o p,ay w1 w1 (li (li w1 o) p).drew:=λo p=>((aD w1 o).step (aD _ p)).bI 1;have gR:∀o,ay w1 w1 (li w1 o).drew:=λo=>(aD w1 o).bI 1;refine lI 17 18 (λK hK=> ?_) (λK hK=> ?_)
  .go_simp;refine cY hK (dp.I _ (gR _)) 18 λK hK=> ?_;go_simp;refine cY hK (dp.I _ (du _ _)) 19 λK hK=> ?_;go_simp;refine cY hK (dp.I _ (du _ _)) 20 λK hK=> ?_;go_simp;refine bB hK (dp.I _ (du _ _)) ?_;refine bW ?_;go_wp2_with fail;go_meet
   have h:=(aE.fG w1 (bQ x.aB x.I x.k x.s x.aG x.aJ x.fz) (jq a1 l1 c1 p.w.e a2 l2 c2 a3 l3 c3 a4 l4 c4 p.b.e a5 l5 c5)).aN;exact⟨_,_,rfl,rfl,h.1,h.2.1,du _ _⟩
  .go_simp;refine cY hK (dp.I _ (gR _)) 17 λK hK=> ?_;go_simp;refine cY hK (dp.I _ (du _ _)) 19 λK hK=> ?_;go_simp;refine cY hK (dp.I _ (du _ _)) 20 λK hK=> ?_;go_simp;refine bB hK (dp.I _ (du _ _)) ?_;refine bW ?_;go_wp2_with fail;go_meet
   have h:=(aE.fG w1 (jq a1 l1 c1 p.w.e a2 l2 c2 a3 l3 c3 a4 l4 c4 p.b.e a5 l5 c5) (bQ x.aB x.I x.k x.s x.aG x.aJ x.fz)).aN;exact⟨_,_,rfl,rfl,h.2.1,h.1,du _ _⟩
 case rest=>
  obtain⟨gx,gp,rfl,rfl,Cc,Jp,dK⟩:=hcut;obtain⟨w2,rfl⟩:∃w2:H,w2=wc:=⟨_,rfl⟩;have eX:=aD w2 (cV G 0 0 0 G 0 0);have K3:=V (((K0.I.step dK).step eX).and (((aE.block Cc).step eX).and (((aE.block Jp).step eX).and (aE.new w2 (cV G 0 0 0 G 0 0)))));go_upto_region 4 with fail;obtain⟨w3,fZ⟩:∃u,li w2 (cV G 0 0 0 G 0 0)=u:=⟨_,rfl⟩;obtain⟨ab,xq⟩:∃u,w2.heap.size=u:=⟨_,rfl⟩;rw[fZ,xq]at K3⊢;have nK:=bH K3.F.1.2.2.1;have ha3:=bH K3.F.2.2.2;have asl:w.heap.size+1+1<ab:=E (bH (K0.I.step dK).aN.2.2.1);have asn:gx<ab:=by rw[<-xq];exact bH Cc
  have aso:gp<ab:=by rw[<-xq];exact bH Jp
  clear eX fZ xq Cc Jp dK dp Xt FX K0;obtain⟨f0,f1,f2,f3,f4,f5,f6⟩:=bE K3.F.2.1;obtain⟨v0,v1,v2,v3,v4,v5,v6⟩:=bE K3.F.2.2.1;obtain⟨y0,y1,y2⟩:=bP K3.F.1.1;obtain⟨z0,z1,z2⟩:=bP K3.F.1.2.1;obtain⟨r0,r1,r2,r3,r4,r5⟩:=aY K3.F.1.2.2.1;have hkr:=(KR.aQ K3.F.1.2.2.2);have HK:=V hkr;clear hkr;by_cases k5:x.aB=5
  .have e5:(x.aB==5)=true:=by simpa using k5
   obtain⟨RE,RT⟩:=R;have HQ:=V (show Z4.zQ g t=(RE,RT)from Q4z);have CC:=V (ai7 g t (aS ga gl gc g.e gb gm gk) (aS ta tl tc t.e tb tm tk) w3 ⟨_,_,_,_,_,_,rfl,HK.I.1.1.1,HK.I.1.1.2⟩ ⟨_,_,_,_,_,_,rfl,HK.I.1.2.1,HK.I.1.2.2⟩);rw[HQ.I]at CC;unfold aS at CC;go_wp2_with fail;refine CC.I.mono ?_;rintro e' w4 ⟨v,rfl,hv,hb⟩;exact Q0o
  have e5:(x.aB==5)=ae:=by simpa using k5
  by_cases k6:x.aB=6
  .have e6:(x.aB==6)=true:=by simpa using k6
   obtain⟨RE,RT⟩:=R;have HQ:=V (show Z4.shape g t.d=(RE,RT)from Q4z);have CC:=V (aaL g (aS ga gl gc g.e gb gm gk) ta tl tc t.d w3 ⟨_,_,_,_,_,_,rfl,HK.I.1.1.1,HK.I.1.1.2⟩ HK.I.1.2.1);rw[HQ.I]at CC;unfold aS at CC;go_wp2_with fail;refine CC.I.mono ?_;rintro e' w4 ⟨v,rfl,⟨hv,-⟩,hb⟩;exact Q0o
  have e6:(x.aB==6)=ae:=by simpa using k6
  by_cases k7:x.aB=7
  .have e7:(x.aB==7)=true:=by simpa using k7
   obtain rfl:(0,g)=R:=by rw[<-HR.I,aI k5,aI k6,aR k7]
   go_wp2_with fail;rw[<-dB.I];refine aZ (v:=aL #[aF #[O ga gl gc,Y Z g.e,O gb gm gk],Y Z 0]) ?_ rfl ⟨_,rfl,bJ ⟨rfl,rfl⟩,cL K3.F.1.2.2.2 U _ _ _⟩;simp[aW,results223,go_sem,cT K3.F.1.2.2.1]
  have e7:(x.aB==7)=ae:=by simpa using k7
  have cU:=V (show Bk.small (Bk.Gv x p (q.Z5.getD (k+1) []) g t) q.au q.step ((k:Int)+1) 2=R from by have h:=HR.I;rw[aI k5,aI k6,aI k7]at h;exact h);clear HR;by_cases k1:x.aB=1
  .have e1:(x.aB==1)=true:=by simpa using k1
   obtain⟨r,hr⟩:=J (D.input g p.w);obtain⟨re,rt⟩:=r;have HS:=V (show Bk.small (re,rt) q.au q.step ((k:Int)+1) 2=R from by rw[<-hr,<-cU.I];unfold Bk.Gv;rw[aR k1]);have Ca:=hr;have CC:=V (al4 g p.w (aS ga gl gc g.e gb gm gk) (aS a1 l1 c1 p.w.e a2 l2 c2) w3 ⟨_,_,_,_,_,_,rfl,HK.I.1.1.1,HK.I.1.1.2⟩ ⟨_,_,_,_,_,_,rfl,(KP.aQ K3.F.1.2.2.2).1,(KP.aQ K3.F.1.2.2.2).2⟩);rw[hr]at CC;unfold aS at CC;clear hr Ca cU;go_wp2_with fail;refine CC.I.mono ?_;rintro e' w4 ⟨v,rfl,⟨ra,rl,rc,rb,rm,rk,rfl,u1,u2,u3,u4⟩,hb⟩;have lK:(∀x,ra=A x->0<rl->x.block≠ab)/\(∀x,rb=A x->0<rm->x.block≠ab):=⟨λx hx _=>E (u3 x hx),λx hx _=>E (u4 x hx)⟩;clear u3 u4;have K4:=K3.bU hb;have uL:=V (aw u1 u2);have zy:=V ((KR.aQ K4.F.1.2.2.2).2.1);clear u1 u2 hb CC f0 f1 f2 f3 f4 f5 f6 v0 v1 v2 v3 v4 v5 v6 y0 y1 y2 z0 z1 z2 r0 r1 r2 r3 r4 r5;exact Q2r
  have e1:(x.aB==1)=ae:=Q4W;by_cases k2:x.aB=2
  .have e2:(x.aB==2)=true:=by simpa using k2
   have vR:tl=4:=by rw[<-pP.I];exact H2.I k2
   have h42:(2:Int)<(tl:Int):=U;have h43:(3:Int)<(tl:Int):=U;have n42:2<tl:=U;have n43:3<tl:=U;obtain⟨xb,xo,zx,QI⟩:=KR.F.1.2.1.cells U;have je:xb<w:=jY _ _ (QI 2 n42);have KX:=V ((aE.cell (QI 2 n42)).and (aE.cell (QI 3 n43)));have Cm:=V (λu (hu:ay w3 w3 u)=>(show(λw':H=>w'.heap[w.heap.size]? =A (bj ga gl gc g.e gb gm gk)/\w'.heap[gp]? =A (jq a1 l1 c1 p.w.e a2 l2 c2 a3 l3 c3 a4 l4 c4 p.b.e a5 l5 c5)/\w'.heap[w.heap.size+1]? =A (bj ta tl tc t.e tb tm tk)/\w'.heap[gx]? =A (bQ x.aB x.I x.k x.s x.aG x.aJ x.fz)/\w' ⟨xb,xo+2,G⟩=A (Y Z (t.d.getD 2 0))/\w' ⟨xb,xo+3,G⟩=A (Y Z (t.d.getD 3 0))) u from⟨bV K3.F.1.1 hu,bV K3.F.2.2.1 hu,bV K3.F.1.2.1 hu,bV K3.F.2.1 hu,(KX.aQ (K3.F.1.2.2.2.step hu)).1,(KX.aQ (K3.F.1.2.2.2.step hu)).2⟩));clear QI vR;obtain⟨r,hr⟩:=J (C.input g p.w (t.d.getD 2 0) (t.d.getD 3 0) x.s x.aG);obtain⟨re,rt⟩:=r;have HS:=V (show Bk.small (re,rt) q.au q.step ((k:Int)+1) 2=R from by rw[<-hr,<-cU.I];unfold Bk.Gv;rw[aI k1,aR k2]);have Ca:=hr;have CC:=V (ame g p.w (t.d.getD 2 0) (t.d.getD 3 0) x.s x.aG (aS ga gl gc g.e gb gm gk) (aS a1 l1 c1 p.w.e a2 l2 c2));rw[hr]at CC;unfold aS at CC;clear hr Ca cU;go_upto_region 14 with fail;clear f0 f1 f2 f3 f4 f5 f6 v0 v1 v2 v3 v4 v5 v6 y0 y1 y2 z0 z1 z2 r0 r1 r2 r3 r4 r5;refine cS (λw':H=>w'.heap[w.heap.size]? =A (bj ga gl gc g.e gb gm gk)/\w'.heap[gp]? =A (jq a1 l1 c1 p.w.e a2 l2 c2 a3 l3 c3 a4 l4 c4 p.b.e a5 l5 c5)/\w'.heap[w.heap.size+1]? =A (bj ta tl tc t.e tb tm tk)/\w'.heap[gx]? =A (bQ x.aB x.I x.k x.s x.aG x.aJ x.fz)/\w' ⟨xb,xo+2,G⟩=A (Y Z (t.d.getD 2 0))/\w' ⟨xb,xo+3,G⟩=A (Y Z (t.d.getD 3 0))) (eE (Cm.I _ (below_drewN w3 1)) λhS=>bR hS [0,1,3,7,11,13,2,4,8,12,14,5,9,6,10] (λ_ h=>aw (bP h.1) (aw (bE h.2.1) (aw (bP h.2.2.1) (aw (bE h.2.2.2.1) (aw h.2.2.2.2.1 h.2.2.2.2.2))))) ?_);refine bL 15 λK hK=> ?_;go_simp;refine(CC.I w3.drew ⟨_,_,_,_,_,_,rfl,(KR.aQ (K3.I.bI 1).aN.1.2.2.2).1.1.1,(KR.aQ (K3.I.bI 1).aN.1.2.2.2).1.1.2⟩ ⟨_,_,_,_,_,_,rfl,(KP.aQ (K3.I.bI 1).aN.1.2.2.2).1,(KP.aQ (K3.I.bI 1).aN.1.2.2.2).2⟩).mono ?_;rintro e' w4 ⟨v,rfl,⟨ra,rl,rc,rb,rm,rk,rfl,u1,u2,u3,u4⟩,hb⟩;have lK:(∀x,ra=A x->0<rl->x.block≠ab)/\(∀x,rb=A x->0<rm->x.block≠ab):=⟨λx hx _=>by have:w3.heap.size<=x.block:=u3 x hx;omega,λx hx _=>by have:w3.heap.size<=x.block:=u4 x hx;omega⟩;clear u3 u4;have K4:=V (K3.I.step ((below_drewN w3 1).step hb));have uL:=V (aw u1 u2);have zy:=V ((KR.aQ K4.F.1.2.2.2).2.1);have oH:=(below_drewN w3 1).step hb;have iU:(λw':H=>w'.heap[w.heap.size]? =A (bj ga gl gc g.e gb gm gk)/\w'.heap[gp]? =A (jq a1 l1 c1 p.w.e a2 l2 c2 a3 l3 c3 a4 l4 c4 p.b.e a5 l5 c5)/\w'.heap[w.heap.size+1]? =A (bj ta tl tc t.e tb tm tk)/\w'.heap[gx]? =A (bQ x.aB x.I x.k x.s x.aG x.aJ x.fz)/\w' ⟨xb,xo+2,G⟩=A (Y Z (t.d.getD 2 0))/\w' ⟨xb,xo+3,G⟩=A (Y Z (t.d.getD 3 0))) w4:=Cm.I w4 oH;clear u1 u2 hb CC hS;unfold aS;refine bB hK iU ?_;refine bR iU [16,17,18] (λ_ h=>aw (bP h.1) (aw (bE h.2.1) (aw (bP h.2.2.1) (aw (bE h.2.2.2.1) (aw h.2.2.2.2.1 h.2.2.2.2.2))))) ?_;obtain⟨r0,r1,r2,r3,r4,r5⟩:=aY K4.F.2.2.2;have gX:bp<ab:=E (bH (KR.F.2.1));have nV:=V (jQ (g:=ab) (x:=O ra rl rc) (y:=Y Z rt.e) (z:=O rb rm rk) K4.F.1.2.2.1 U);have vT:=V (jQ (g:=ab) (x:=O ra rl rc) (y:=Y Z rt.e) (z:=O rb rm rk) zy.I U);have Gx:=V (oV (a:=O ra rl rc) (b:=Y Z rt.e) (c:=O rb rm rk) K4.F.2.2.2);have dO:=V (cL K4.F.1.2.2.2 (show w.heap.size<=ab by omega) (O ra rl rc) (Y Z rt.e) (O rb rm rk));have wH:=V (aw (uL.I.1.nA (g:=ab) (x:=O ra rl rc) (y:=Y Z rt.e) (z:=O rb rm rk) (lK.1)) (uL.I.2.nA (g:=ab) (x:=O ra rl rc) (y:=Y Z rt.e) (z:=O rb rm rk) lK.2));have qF:(λw':H=>w'.heap[w.heap.size]? =A (bj ga gl gc g.e gb gm gk)/\w'.heap[gp]? =A (jq a1 l1 c1 p.w.e a2 l2 c2 a3 l3 c3 a4 l4 c4 p.b.e a5 l5 c5)/\w'.heap[w.heap.size+1]? =A (bj ta tl tc t.e tb tm tk)/\w'.heap[gx]? =A (bQ x.aB x.I x.k x.s x.aG x.aJ x.fz)/\w' ⟨xb,xo+2,G⟩=A (Y Z (t.d.getD 2 0))/\w' ⟨xb,xo+3,G⟩=A (Y Z (t.d.getD 3 0))) (ss (ss (ss w4 ab (O ra rl rc)) ⟨ab,1,G⟩ (Y Z rt.e)) ⟨ab,2,G⟩ (O rb rm rk)):=by
    have hh:(ss (ss (ss w4 ab (O ra rl rc)) ⟨ab,1,G⟩ (Y Z rt.e)) ⟨ab,2,G⟩ (O rb rm rk)).heap[xb]? =w4.heap[xb]? :=by
     have cI:xb≠ab:=U;rw[gj _ cI,gj _ cI,gj _ cI]
    exact⟨jQ iU.1 U,jQ iU.2.1 U,jQ iU.2.2.1 U,jQ iU.2.2.2.1 U,(tS hh _).trans iU.2.2.2.2.1,(tS hh _).trans iU.2.2.2.2.2⟩
   refine bL 19 λK hK=> ?_;go_simp;refine cY hK qF 20 λK hK=> ?_;exact Q2C
  have e2:(x.aB==2)=ae:=by simpa using k2
  by_cases k3:x.aB=3
  .have e3:(x.aB==3)=true:=by simpa using k3
   obtain⟨fs,IF⟩:∃fs,q.Z5[k+1]? =A fs:=⟨q.Z5[k+1]'(H3.I k3),Q2W⟩;have hgf:q.Z5.getD (k+1) []=fs:=by simp[dV,IF]
   rw[hgf]at cU;have IL:k+1<q.gn:=by rw[<-HK.I.2.2.2.2.2.1];exact H3.I k3
   have hgi:(k:Int)+1<(q.gn:Int):=U;have MN:((k:Int)+1).toNat=k+1:=U;have Gy:(0:Int)<=(k:Int)+1:=U;obtain⟨xb,xo,cs,J4,_,⟨fa,fl,fc,rfl,wZ⟩,hcs⟩:=KR.F.2.2.2.2.2.get IF;have Iz:=hcs 0 _ rfl;simp only[eL,lA]at Iz;have je:xb<w:=jY _ _ Iz;have KX:=V ((aE.cell Iz).and wZ.1.bt);have Cm:=V (λu (hu:ay w3 w3 u)=>(show(λw':H=>w'.heap[w.heap.size]? =A (bj ga gl gc g.e gb gm gk)/\w'.heap[bp]? =A (ag q.cells 272 (0,0))/\w'.heap[w.heap.size+1]? =A (bj ta tl tc t.e tb tm tk)/\w' ⟨xb,xo+(k+1),G⟩=A (O fa fl fc)) u from⟨bV K3.F.1.1 hu,bV HK.I.2.1 hu,bV K3.F.1.2.1 hu,(KX.aQ (K3.F.1.2.2.2.step hu)).1⟩));clear hcs Iz wZ IF;obtain⟨r,hr⟩:=J (T.A9 g.d g.e g.z fs t.d,(⟨T.Dl g.d g.e g.z fs t.d,T.Kh g.d g.e g.z fs t.d,T.Ki g.d g.e g.z fs t.d⟩:az));obtain⟨re,rt⟩:=r;have HS:=V (show Bk.small (re,rt) q.au q.step ((k:Int)+1) 2=R from by rw[<-hr,<-cU.I];unfold Bk.Gv;rw[aI k1,aI k2,aR k3]);have Ca:=hr;have CC:=V (ahk ga gl gc g.d g.e gb gm gk g.z fa fl fc fs ta tl tc t.d);rw[show T.Dl g.d g.e g.z fs t.d=rt.d from congrArg (λq=>q.2.d) hr,show T.Kh g.d g.e g.z fs t.d=rt.e from congrArg (λq=>q.2.e) hr,show T.Ki g.d g.e g.z fs t.d=rt.z from congrArg (λq=>q.2.z) hr,show T.A9 g.d g.e g.z fs t.d=re from congrArg (λq=>q.1) hr]at CC;have cI:∀d∈rt.d,d≠0:=by
    rw[<-show T.Dl g.d g.e g.z fs t.d=rt.d from congrArg (λq=>q.2.d) hr];exact T.ams _ _ _ _ _
   unfold aS at CC;clear hr Ca cU;go_upto_region 16 with fail;clear f0 f1 f2 f3 f4 f5 f6 v0 v1 v2 v3 v4 v5 v6 y0 y1 y2 z0 z1 z2 r0 r1 r2 r3 r4 r5;refine cS (λw':H=>w'.heap[w.heap.size]? =A (bj ga gl gc g.e gb gm gk)/\w'.heap[bp]? =A (ag q.cells 272 (0,0))/\w'.heap[w.heap.size+1]? =A (bj ta tl tc t.e tb tm tk)/\w' ⟨xb,xo+(k+1),G⟩=A (O fa fl fc)) (eE (Cm.I _ (below_drewN w3 1)) λhS=>bR hS [0,1,6,9,2,10,3,4,5,7,8] (λ_ h=>aw (bP h.1) (aw (nW h.2.1) (aw (bP h.2.2.1) h.2.2.2))) ?_);refine bL 11 λK hK=> ?_;go_simp;refine(CC.I w3.drew (KR.aQ (K3.I.bI 1).aN.1.2.2.2).1.1.1 (KR.aQ (K3.I.bI 1).aN.1.2.2.2).1.1.2 (KX.aQ (K3.I.bI 1).aN.1.2.2.2).2 (KR.aQ (K3.I.bI 1).aN.1.2.2.2).1.2.1).mono ?_;rintro e' w4 ⟨ra,rl,rc,rb,rm,rk,rfl,u1,u2,hb⟩;have lK:(∀x,ra=A x->0<rl->x.block≠ab)/\(∀x,rb=A x->0<rm->x.block≠ab):=⟨u1.Qs (K3.I.step ((below_drewN w3 1).step hb)).aN.2.2.2 cI,u2.Qt eM (K3.I.step ((below_drewN w3 1).step hb)).aN.2.2.2⟩;have K4:=V (K3.I.step ((below_drewN w3 1).step hb));have uL:=V (aw u1 u2);have zy:=V ((KR.aQ K4.F.1.2.2.2).2.1);have oH:=(below_drewN w3 1).step hb;have iU:(λw':H=>w'.heap[w.heap.size]? =A (bj ga gl gc g.e gb gm gk)/\w'.heap[bp]? =A (ag q.cells 272 (0,0))/\w'.heap[w.heap.size+1]? =A (bj ta tl tc t.e tb tm tk)/\w' ⟨xb,xo+(k+1),G⟩=A (O fa fl fc)) w4:=Cm.I w4 oH;clear u1 u2 hb CC hS;unfold aS;refine bB hK iU ?_;refine bR iU [12,13,14] (λ_ h=>aw (bP h.1) (aw (nW h.2.1) (aw (bP h.2.2.1) h.2.2.2))) ?_;obtain⟨r0,r1,r2,r3,r4,r5⟩:=aY K4.F.2.2.2;have gX:bp<ab:=E (bH (KR.F.2.1));have nV:=V (jQ (g:=ab) (x:=O ra rl rc) (y:=Y Z rt.e) (z:=O rb rm rk) K4.F.1.2.2.1 U);have vT:=V (jQ (g:=ab) (x:=O ra rl rc) (y:=Y Z rt.e) (z:=O rb rm rk) zy.I U);have Gx:=V (oV (a:=O ra rl rc) (b:=Y Z rt.e) (c:=O rb rm rk) K4.F.2.2.2);have dO:=V (cL K4.F.1.2.2.2 (show w.heap.size<=ab by omega) (O ra rl rc) (Y Z rt.e) (O rb rm rk));have wH:=V (aw (uL.I.1.nA (g:=ab) (x:=O ra rl rc) (y:=Y Z rt.e) (z:=O rb rm rk) (lK.1)) (uL.I.2.nA (g:=ab) (x:=O ra rl rc) (y:=Y Z rt.e) (z:=O rb rm rk) lK.2));have qF:(λw':H=>w'.heap[w.heap.size]? =A (bj ga gl gc g.e gb gm gk)/\w'.heap[bp]? =A (ag q.cells 272 (0,0))/\w'.heap[w.heap.size+1]? =A (bj ta tl tc t.e tb tm tk)/\w' ⟨xb,xo+(k+1),G⟩=A (O fa fl fc)) (ss (ss (ss w4 ab (O ra rl rc)) ⟨ab,1,G⟩ (Y Z rt.e)) ⟨ab,2,G⟩ (O rb rm rk)):=by
    have hh:(ss (ss (ss w4 ab (O ra rl rc)) ⟨ab,1,G⟩ (Y Z rt.e)) ⟨ab,2,G⟩ (O rb rm rk)).heap[xb]? =w4.heap[xb]? :=by
     have cI:xb≠ab:=U;rw[gj _ cI,gj _ cI,gj _ cI]
    exact⟨jQ iU.1 U,jQ iU.2.1 U,jQ iU.2.2.1 U,(tS hh _).trans iU.2.2.2⟩
   refine bL 15 λK hK=> ?_;go_simp;refine cY hK qF 16 λK hK=> ?_;exact Q2C
  have e3:(x.aB==3)=ae:=by simpa using k3
  by_cases k4:x.aB=4
  .have e4:(x.aB==4)=true:=by simpa using k4
   obtain⟨r,hr⟩:=J (T.ux g.d g.e g.z t.d x.k x.s,(⟨T.Dm g.d g.e g.z t.d x.k x.s,T.Kj g.d g.e g.z t.d x.k x.s,T.Kk g.d g.e g.z t.d x.k x.s⟩:az));obtain⟨re,rt⟩:=r;have HS:=V (show Bk.small (re,rt) q.au q.step ((k:Int)+1) 2=R from by rw[<-hr,<-cU.I];unfold Bk.Gv;rw[aI k1,aI k2,aI k3,aR k4]);have Ca:=hr;have CC:=V (ahl ga gl gc g.d g.e gb gm gk g.z ta tl tc t.d x.k x.s w3 HK.I.1.1.1 HK.I.1.1.2 HK.I.1.2.1);rw[show T.Dm g.d g.e g.z t.d x.k x.s=rt.d from congrArg (λq=>q.2.d) hr,show T.Kj g.d g.e g.z t.d x.k x.s=rt.e from congrArg (λq=>q.2.e) hr,show T.Kk g.d g.e g.z t.d x.k x.s=rt.z from congrArg (λq=>q.2.z) hr,show T.ux g.d g.e g.z t.d x.k x.s=re from congrArg (λq=>q.1) hr]at CC;have cI:∀d∈rt.d,d≠0:=by
    rw[<-show T.Dm g.d g.e g.z t.d x.k x.s=rt.d from congrArg (λq=>q.2.d) hr];exact T.amr _ _ _ _ _ _
   unfold aS at CC;clear hr Ca cU;go_wp2_with fail;refine CC.I.mono ?_;rintro e' w4 ⟨ra,rl,rc,rb,rm,rk,rfl,u1,u2,hb⟩;have lK:(∀x,ra=A x->0<rl->x.block≠ab)/\(∀x,rb=A x->0<rm->x.block≠ab):=⟨u1.Qs (K3.I.step hb).aN.2.2.2 cI,u2.Qt eM (K3.I.step hb).aN.2.2.2⟩;have K4:=K3.bU hb;have uL:=V (aw u1 u2);have zy:=V ((KR.aQ K4.F.1.2.2.2).2.1);clear u1 u2 hb CC f0 f1 f2 f3 f4 f5 f6 y0 y1 y2 z0 z1 z2 r0 r1 r2 r3 r4 r5;exact Q2r
  have e4:(x.aB==4)=ae:=by simpa using k4
  have HS:=V (show Bk.small (0,az.zero) q.au q.step ((k:Int)+1) 2=R from by rw[<-cU.I];unfold Bk.Gv;rw[aI k1,aI k2,aI k3,aI k4]);clear cU;have Gw:=V HK.I.2.1;have yj:=V K3.F.1.2.2.1;obtain⟨-,-,-,-,-,-,-,-,c8,c9⟩:=nW Gw.I;obtain⟨d0,d1,d2⟩:=bP K3.F.2.2.2;go_upto_region 19 with fail;clear f0 f1 f2 f3 f4 f5 f6 v0 v1 v2 v3 v4 v5 v6 y0 y1 y2 z0 z1 z2 r0 r1 r2 r3 r4 r5;have SM:=V (Ju bp q.au q.step 0 az.zero (aS G 0 0 0 G 0 0) ((k:Int)+1) 2 w3 c8 c9 (dM.zero cr 0 w3).ten hu);rw[HS.I]at SM;obtain⟨RE,RT⟩:=R;unfold aS at SM;have wF:=bH yj.I;have Cl:=(K3.F.1.2.2.2).size;go_wp2_with fail;refine SM.I.mono ?_;rintro e' w6 ⟨v,rfl,hv,hb⟩;have uX:=V (bV yj.I hb);have eW:=V ((K3.F.1.2.2.2).step hb);obtain⟨sa,sl,sc,sb,sm,sk,rfl,u1,u2,u3,u4⟩:=hv;have HV:=V (aw u1 (aw u2 (aw u3 u4)));unfold aS;dsimp only
  clear u1 u2 u3 u4 hb SM d0 d1 d2 c8 c9;obtain⟨r0,r1,r2,r3,r4,r5⟩:=aY uX.I;go_wp2_with fail;rw[<-dB.I];refine aZ (v:=aL #[aF #[O sa sl sc,Y Z RT.e,O sb sm sk],Y Z RE]) ?_ rfl ⟨_,rfl,aM ((dM.stored (B:=w3) ⟨_,_,_,_,_,_,rfl,HV.I.1,HV.I.2.1,HV.I.2.2.1,HV.I.2.2.2⟩ wF _ _ _).mono Cl),cL eW.I U _ _ _⟩;simp[aW,results223,go_sem,cT uX.I]
namespace Bk
def Jw (x:Lay):Bool:=(x.aB==1||x.aB==2)&& !x.fz
def I (x:Lay) (g t:az):Int×fQ:=if Jw x=true then xI x g t else(0,fQ.none)
def next (x:Lay) (p:bD) (wN:ah) (g t:az) (back:List (Option az)) (k:Nat) (au step:Int):Int×List (Option az):=
 if(on x p wN g t au step (k+1)).1 ≠0 then((on x p wN g t au step (k+1)).1,back)else comes back k (on x p wN g t au step (k+1)).2 au step
def Cn (x:Lay) (g:az) (r:Int×List (Option az)) (au step:Int):Int×List (Option az):=if r.1 =0/\x.aB=7 then comes r.2 x.aJ.toNat g au step else r
def fN (x:Lay) (p:bD) (wN:ah) (t:az) (back:List (Option az)) (k:Nat) (au step:Int):Int×fQ×List (Option az):=
 match back.getD (k+1) G with
 |none=>(0,fQ.none,back)
 |some g=>if(I x g t).1 ≠0 then((I x g t).1,fQ.none,back)else((Cn x g (next x p wN g t back k au step) au step).1,(I x g t).2,(Cn x g (next x p wN g t back k au step) au step).2)
theorem Xu (back:List (Option az)) (n:Nat) (g:az) (au step:Int):(comes back n g au step).2.length=back.length:=by
 unfold comes;split
 .simp
 .split<;>simp
end Bk
def adx (q:PA) (r:Int×fQ×List (Option az)) (w:H) (e:dN) (w':H):Prop:=∃cs,e=bG (aL #[aF cs,Y Z r.1])/\mS (λb=>w.heap.size<=b) w' cs r.2.1 /\kV q.S q.bb w' r.2.2 /\ar w (λb=>b=q.bb) w w'
def MO (S:Nat->Prop) (r:Int×az) (w:H) (a b:aj) (wx:H):Prop:=∃(nb:Nat) (ta:aC) (tl tc:Nat) (tb:aC) (tm tk:Nat),a=aP nb/\b=Y Z r.1 /\wx.heap[nb]? =A (bj ta tl tc r.2.e tb tm tk)/\
 di S wx (λu=>ai Z u ta tl r.2.d/\ai aO u tb tm r.2.z)/\w.heap.size<=nb/\ay w w wx
theorem MO.of {D:Nat} {r g:az} {l c m x:Nat} (h:dM aO D w v r\/(v=aS a l c g.e b m k/\r=g)) (hg:di S w (λu=>u.heap[x]? =A (bj a l c g.e b m k)/\ai Z u a l g.d/\ai aO u b m g.z)) (hS:∀b,S b->b<D):
 ∃a l c b m k,v=aF #[O a l c,Y Z r.e,O b m k]/\di S w (λu=>ai Z u a l r.d/\ai aO u b m r.z):=by
 rcases h with⟨a',l',c',b',m',k',rfl,h1,h2,h3,h4⟩|⟨rfl,rfl⟩
 .exact⟨_,_,_,_,_,_,rfl,(di.row h1 (λx hx e=>by have:=h3 x hx;have:=hS _ e;omega)).and (di.row h2 (λx hx e=>by have:=h4 x hx;have:=hS _ e;omega))⟩
 .exact⟨_,_,_,_,_,_,rfl,hg.mono λu h=>h.2⟩
theorem MO.Fe {D:Nat} {w6:H} {r g:az} {l c m x:Nat} (h:dM aO D w6 v r\/(v=aS a l c g.e b m k/\r=g)) (hg:di S w (λu=>u.heap[x]? =A (bj a l c g.e b m k)/\ai Z u a l g.d/\ai aO u b m g.z)) (hb:ay w w w6) (hD:w.heap.size<D) (hS:∀b,S b->b<D):
 ∃a l c b m k,v=aF #[O a l c,Y Z r.e,O b m k]/\∀y0 y1 y2,di S (ss (ss (ss w6 w y0) ⟨w,1,G⟩ y1) ⟨w,2,G⟩ y2) (λu=>ai Z u a l r.d/\ai aO u b m r.z):=by
 rcases h with⟨a',l',c',b',m',k',rfl,h1,h2,h3,h4⟩|⟨rfl,rfl⟩
 .exact⟨_,_,_,_,_,_,rfl,λy0 y1 y2=>(di.row (h1.eJ (λx hx=>E (h3 x hx))) (λx hx e=>by have:=h3 x hx;have:=hS _ e;omega)).and (di.row (h2.eJ (λx hx=>E (h4 x hx))) (λx hx e=>by have:=h4 x hx;have:=hS _ e;omega))⟩
 .exact⟨_,_,_,_,_,_,rfl,λy0 y1 y2=>(hg.below (cL hb (bu _) y0 y1 y2)).mono λu h=>h.2⟩
def OAt (ob:Nat) (r:Int×fQ) (w wx:H):Prop:=r.1 =0/\∃cs,wx.heap[ob]? =A (ag cs 278 (0,0))/\mS (λb=>ob<b) wx cs r.2 /\ar w (λb=>b=ob) w wx
def amv (cx ct:Array aj) (w:H) (a b:aj) (wx:H):Prop:=∃g h,a=aP (A ⟨g,0,G⟩)/\b=aP (A ⟨h,0,G⟩)/\wx.heap[g]? =A (ag cx 102 (0,0))/\wx.heap[h]? =A (ag ct 57 (0,0))/\w.heap.size<=g/\w.heap.size<=h/\ay w w wx
theorem amw (q:PA) (bp k:Nat) (x:Lay) (p:bD) (t:az) (L:List (Option az)) (w:H) (mX:q.S q.bb) (Jv:∀b,q.S b->b<w.heap.size) (jX:q.bk=O (A ⟨q.bb,0,G⟩) q.bn q.bn) (hq:di q.S w (q.at bp)) (hb:kV q.S q.bb w L) (hl:L.length=q.bn) (hx:q.m.L[k]? =A x) (hp:q.ps[k]? =A p) (ht:q.T[k]? =A t) (hk:k<12) (hn:k+1<q.bn) (pN:q.bn<=1000) (hu:P.Z4 q.au) (h2:x.aB=2->t.d.length=4) (h3:x.aB=3->k+1<q.Z5.length) (h7:x.aB=7->0<=x.aJ/\x.aJ<(q.bn:Int)):
 aA aq 190 #[aP bp,Y Z ((k:Int)+1)] w (adx q (Bk.fN x p (q.Z5.getD (k+1) []) t L k q.au q.step) w):=by
 have HQ:=V hq;have Ez:=hq.aN;obtain⟨yb,yo,cs,Xt,_,hE,hcs⟩:=Ez.2.1.get hx;obtain rfl:cs=x.cells:=hE;unfold Lay.cells at hcs;obtain⟨zb,zo,cs,zx,_,sN,l8⟩:=Ez.2.2.2.1.get ht;obtain⟨⟨ta,tl,tc,tb,tm,tk,rfl,t1,t2⟩,-⟩:=sN;have fP:k<q.xl:=by rw[<-Ez.2.1.1];exact(fX.1 hx).1
 have vR:k<q.tn:=by rw[<-Ez.2.2.2.1.1];exact(fX.1 ht).1
 have HON:=V (λg gv w' hq hg hv=>amu q bp k x p g t gv (aS ta tl tc t.e tb tm tk) w' hq hx hp hk hg hv hu h2 h3);have H7:=V h7;have gN:=bH hb.choose_spec.1;have hbp:=bH Ez.1;have oI:=V hb;have Xv:=V (show di q.S w (λu=>ai Z u ta tl t.d/\ai aO u tb tm t.z)from λw' kp=>⟨kp.gH t1.1 (λx hx h0=>⟨t1.1.bC h0 hx,t1.2 x hx h0⟩),kp.gH t2.1 (λx hx h0=>⟨t2.1.bC h0 hx,t2.2 x hx h0⟩)⟩);have fy:(λw':H=>w'.heap[bp]? =A (ag q.cells 272 (0,0))/\(∀j v,(#[Y Z x.aB,Y Z x.I,Y Z x.k,Y Z x.s,Y Z x.aG,Y Z x.aJ,aK x.fz]:Array aj)[j]? =A v->w' ⟨yb,yo+k*7+j,G⟩=A v)/\∀j v,(#[O ta tl tc,Y Z t.e,O tb tm tk]:Array aj)[j]? =A v->w' ⟨zb,zo+k*3+j,G⟩=A v) w:=⟨Ez.1,hcs,l8⟩;have VJ:∀[Inhabited Nat],Z.wrap ((k:Int)+1-1)=(k:Int):=by intro _;rw[show(k:Int)+1-1=(k:Int) by omega];exact dv _ U
 have hi5:∀[Inhabited Nat],Z.wrap (k:Int)=(k:Int):=λ[_]=>dv _ U;have Kt:∀[Inhabited Nat],cM (k:Int)=(k:Int):=λ[_]=>iZ _ ⟨U,U⟩;have hi3:(k:Int)<(q.xl:Int):=Int.ofNat_lt.2 fP;have hi4:(k:Int)<(q.tn:Int):=Int.ofNat_lt.2 vR;have hi6:(k:Int)+1<(q.bn:Int):=Int.ofNat_lt.2 hn;have MN:((k:Int)+1).toNat=k+1:=U;have Gy:(0:Int)<=(k:Int)+1:=U;obtain⟨o,ho⟩:∃o,L[k+1]? =A o:=⟨L[k+1]'U,Q2W⟩;obtain⟨R,hR⟩:=J (Bk.fN x p (q.Z5.getD (k+1) []) t L k q.au q.step);rw[hR];unfold Bk.fN at hR;rw[show L.getD (k+1) G=o by simp[dV,ho]]at hR;obtain⟨-,vs,dh⟩:=aw trivial (hb);obtain⟨dh,V0,wD⟩:=dh;obtain⟨v,ph,mT⟩:=wD (k+1) o ho;have kU:w ⟨q.bb,k+1,G⟩=A v:=bh dh (k+1) (by simpa using ph);have KC:=V (aE.cell kU);have KQ:=V (aE.block Ez.1);clear h2 h3 h7 hx hp ht hcs l8 t1 t2 hq hb dh wD ph kU Ez ho;go_enter func190,ntmps190
 let pq:=gW aq Tryz.f190 (λ_ _=>True)
 generalize dS:gW aq Tryz.f190 (adx q R w)=BP;have dB:=V dS;have jM:=oz dS;clear dS;go_upto_region 1 with fail;have K0:=V (aE.fg w (tZ ae G 0 0 0 G 0 0 G 0 0 0 G 0 0));obtain⟨w1,eI⟩:∃u,li w (tZ ae G 0 0 0 G 0 0 G 0 0 0 G 0 0)=u:=⟨_,rfl⟩;rw[eI]at K0⊢;clear eI;have dp:=V (λu (hu:ay w1 w1 u)=>(show(λw':H=>w'.heap[bp]? =A (ag q.cells 272 (0,0))/\(∀j v,(#[Y Z x.aB,Y Z x.I,Y Z x.k,Y Z x.s,Y Z x.aG,Y Z x.aJ,aK x.fz]:Array aj)[j]? =A v->w' ⟨yb,yo+k*7+j,G⟩=A v)/\∀j v,(#[O ta tl tc,Y Z t.e,O tb tm tk]:Array aj)[j]? =A v->w' ⟨zb,zo+k*3+j,G⟩=A v) u from by
  have hb:=K0.F.2.step hu;exact⟨bV fy.1 hb,λj v hv=>hb.cell_of (fy.2.1 j v hv),λj v hv=>hb.cell_of (fy.2.2 j v hv)⟩))
 clear fy;go_cut [6,7] (λa b wx=>amv #[Y Z x.aB,Y Z x.I,Y Z x.k,Y Z x.s,Y Z x.aG,Y Z x.aJ,aK x.fz] #[O ta tl tc,Y Z t.e,O tb tm tk] w1 a b wx)
 case first=>
  as_aux_lemma=>
  refine cS (λw':H=>w'.heap[bp]? =A (ag q.cells 272 (0,0))/\(∀j v,(#[Y Z x.aB,Y Z x.I,Y Z x.k,Y Z x.s,Y Z x.aG,Y Z x.aJ,aK x.fz]:Array aj)[j]? =A v->w' ⟨yb,yo+k*7+j,G⟩=A v)/\∀j v,(#[O ta tl tc,Y Z t.e,O tb tm tk]:Array aj)[j]? =A v->w' ⟨zb,zo+k*3+j,G⟩=A v) (eE (dp.I _ (below_drewN w1 1)) λhS=> ?_);refine Lt.takes Q2U hS [0,5,9,14,1,6,10,15,2,11,3,12,4,13,7,16,8,17] kr rfl ?_;repeat(first|((refine Lt.more (v:= ?_) rfl (aM ⟨Q3u,?_⟩) ?_;rotate_left;(intro w' hw';obtain⟨b0,hl,hp⟩:=hw';obtain⟨s0,s1,s2,s3,s4,s5,s6,s7,s8,s9⟩:=nW b0;have l0:=hl 0 _ rfl;have l1:=hl 1 _ rfl;have l2:=hl 2 _ rfl;have l3:=hl 3 _ rfl;have l4:=hl 4 _ rfl;have l5:=hl 5 _ rfl;have l6:=hl 6 _ rfl;have p0:=hp 0 _ rfl;have p1:=hp 1 _ rfl;have p2:=hp 2 _ rfl;simp only[eL]at l0 p0;clear hl hp b0;go_simp;try with_reducible rfl);try simp only[eR,dC,dD,dE]))|((refine Lt.more (v:=undef) rfl (bJ ⟨Q3u,rfl⟩) ?_;try simp only[eR,dC,dD,dE])))
  refine Lt.done ?_;have du:∀o p,ay w1 w1 (li (li w1 o) p).drew:=λo p=>((aD w1 o).step (aD _ p)).bI 1;have gR:∀o,ay w1 w1 (li w1 o).drew:=λo=>(aD w1 o).bI 1;refine lI 18 19 (λK hK=> ?_) (λK hK=> ?_)
  .go_simp;refine cY hK (dp.I _ (gR _)) 19 λK hK=> ?_;go_simp;refine cY hK (dp.I _ (du _ _)) 20 λK hK=> ?_;go_simp;refine cY hK (dp.I _ (du _ _)) 21 λK hK=> ?_;go_simp;refine bB hK (dp.I _ (du _ _)) ?_;refine bW ?_;go_wp2_with fail;go_meet
   have h:=(aE.fG w1 (bQ x.aB x.I x.k x.s x.aG x.aJ x.fz) (bj ta tl tc t.e tb tm tk)).aN;exact⟨_,_,rfl,rfl,h.1,h.2.1,U,U,du _ _⟩
  .go_simp;refine cY hK (dp.I _ (gR _)) 18 λK hK=> ?_;go_simp;refine cY hK (dp.I _ (du _ _)) 20 λK hK=> ?_;go_simp;refine cY hK (dp.I _ (du _ _)) 21 λK hK=> ?_;go_simp;refine bB hK (dp.I _ (du _ _)) ?_;refine bW ?_;go_wp2_with fail;go_meet
   have h:=(aE.fG w1 (bj ta tl tc t.e tb tm tk) (bQ x.aB x.I x.k x.s x.aG x.aJ x.fz)).aN;exact⟨_,_,rfl,rfl,h.2.1,h.1,U,U,du _ _⟩
 case rest=>
  obtain⟨gx,gt,rfl,rfl,Cc,qj,Lq,hts,dK⟩:=hcut;obtain⟨w2,rfl⟩:∃w2:H,w2=wc:=⟨_,rfl⟩;have K2:=V ((K0.I.step dK).and ((aE.block Cc).and (aE.block qj)));have I5:=V (KQ.aQ K2.F.1.2);have jH:=KC.aQ K2.F.1.2;have iK:=bH K0.F.1;obtain⟨s0,s1,s2,s3,s4,s5,s6,s7,s8,s9⟩:=nW I5.I;clear dp Cc qj dK K0 Xt zx;go_upto_region 5 with fail;clear s0 s1 s2 s3 s4 s5 s6 s7 s8 s9 jH;have eg:=aD w2 (tZ ae G 0 0 0 G 0 0 G 0 0 0 G 0 0);have K3:=V ((K2.I.step eg).and (aE.new w2 (tZ ae G 0 0 0 G 0 0 G 0 0 0 G 0 0)));obtain⟨w3,fZ⟩:∃u,li w2 (tZ ae G 0 0 0 G 0 0 G 0 0 0 G 0 0)=u:=⟨_,rfl⟩;obtain⟨ob,kK⟩:∃u,w2.heap.size=u:=⟨_,rfl⟩;have m7:gx<ob:=by rw[<-kK];exact bH K2.F.2.1
  have hto:gt<ob:=by rw[<-kK];exact bH K2.F.2.2
  have qp:w.heap.size<ob:=by rw[<-kK];exact bH K2.F.1.1
  rw[fZ,kK]at K3⊢;have hos:=bH K3.F.2;clear fZ kK eg K2 I5 KC;have qf:=λj=>cE K3.F.1.1.1 j;obtain⟨r0,r1,r2,r3,r4,r5,r6⟩:=bE K3.F.1.1.1;obtain⟨o0,o1,o2,o3,o4,o5,o6⟩:=bE K3.F.2
  cases o with
  |none=>
   obtain rfl:v=aP G:=mT;obtain rfl:(0,fQ.none,L)=R:=hR;go_wp2_with fail;rw[<-dB.I];have dR:=nt K3.F.1.1.2 (bu _) (aK ae) (O G 0 0) (Y Z 0) (O G 0 0) (O G 0 0) (Y Z 0) (O G 0 0);refine aZ (v:=aL #[aF #[aK ae,O G 0 0,Y Z 0,O G 0 0,O G 0 0,Y Z 0,O G 0 0],Y Z 0]) ?_ rfl ⟨_,rfl,mS.none _ _,oI.I.below dR,ar.cZ dR⟩;simp[aW,results190,go_sem,oL K3.F.1.1.1]
  |some g=>
   obtain⟨gb,ga,gl,gc,gn,gm,gk,rfl,cI,fE⟩:=mT;dsimp only at hR
   have HG:=V fE;have HR:=V hR;clear fE hR;clear r0 r1 r2 r3 r4 r5 r6 qf;go_upto_region 7 with fail;obtain⟨f0,f1,f2,f3,f4,f5,f6⟩:=bE K3.F.1.2.1;go_cut [52] (λb wx=>b=aK (Bk.Jw x)/\wx=w3)
   case first=>
    as_aux_lemma=>
    by_cases k1:x.aB=1
    .have e1:(x.aB==1)=true:=by simpa using k1
     cases hz:x.fz;all_goals
      go_wp2_with fail;go_meet
      unfold Bk.Jw;rw[e1];first|exact⟨rfl,rfl⟩|(rw[hz];exact⟨rfl,rfl⟩)
    .have e1:(x.aB==1)=ae:=by simpa using k1
     by_cases k2:x.aB=2
     .have e2:(x.aB==2)=true:=by simpa using k2
      cases hz:x.fz;all_goals
       go_wp2_with fail;go_meet
       unfold Bk.Jw;rw[e1,e2];first|exact⟨rfl,rfl⟩|(rw[hz];exact⟨rfl,rfl⟩)
     .have e2:(x.aB==2)=ae:=by simpa using k2
      go_wp2_with fail;go_meet
      unfold Bk.Jw;rw[e1,e2];exact⟨rfl,rfl⟩
   case rest=>
    obtain⟨rfl,jm⟩:=hcut;rw[jm];clear jm;clear f0 f1 f2 f3 f4 f5 f6;go_upto_if 52 with fail
    have Jy:=V (HG.I.below K3.F.1.1.2);have Xw:=V (Xv.I.below K3.F.1.1.2);have Az:gb<w:=bH HG.I.aN.1;go_cut [10] (λa wx=>a=Y Z 0/\OAt ob (Bk.I x g t) w3 wx)
    case first=>
     cases xQ:Bk.Jw x
     .go_wp2_with fail;go_meet
      have ho:Bk.I x g t=(0,fQ.none):=by unfold Bk.I;rw[aI (by rw[xQ];simp)]
      rw[ho];exact⟨rfl,rfl,_,K3.F.2,mS.none _ _,ar.cP _ _ _⟩
     .have ho:Bk.I x g t=Bk.xI x g t:=by unfold Bk.I;rw[aR xQ]
      have GR:=V (amq (aP bp) x g t (aS ga gl gc g.e gn gm gk) (aS ta tl tc t.e tb tm tk));obtain⟨r,hr⟩:=J (Bk.xI x g t);obtain⟨re,rg⟩:=r;rw[hr]at GR ho;have HOo:=V ho;have HRe:=V (show re≠0->(re,fQ.none,L)=R from λh=>by have h2:=HR.I;rw[ho,aR h]at h2;exact h2);unfold aS Lay.cells at GR;clear ho xQ hr;have fW:=V (λu (hu:ay w3 w3 u)=>(show(λw':H=>w'.heap[gx]? =A (bQ x.aB x.I x.k x.s x.aG x.aJ x.fz)/\w'.heap[gb]? =A (bj ga gl gc g.e gn gm gk)/\w'.heap[gt]? =A (bj ta tl tc t.e tb tm tk)) u from⟨bV K3.F.1.2.1 hu,bV Jy.I.aN.1 hu,bV K3.F.1.2.2 hu⟩));go_upto_region 8 with fail;refine cS (λw':H=>w'.heap[gx]? =A (bQ x.aB x.I x.k x.s x.aG x.aJ x.fz)/\w'.heap[gb]? =A (bj ga gl gc g.e gn gm gk)/\w'.heap[gt]? =A (bj ta tl tc t.e tb tm tk)) (eE (fW.I _ (below_drewN w3 1)) λhS=>bR hS [0,1,2,5,3,4] (λ_ h=>aw (bE h.1) (aw (bP h.2.1) (bP h.2.2))) ?_);refine bL 6 λK hK=> ?_;go_simp;refine(GR.I w3.drew ⟨_,_,_,_,_,_,rfl,(Jy.I.bI 1).aN.2.1,(Jy.I.bI 1).aN.2.2⟩ ⟨_,_,_,_,_,_,rfl,(Xw.I.bI 1).aN.1,(Xw.I.bI 1).aN.2⟩).mono ?_;rintro e' w4 ⟨cs,rfl,ld,hb⟩;have oH:ay w3 w3 w4:=(below_drewN w3 1).step hb;have Gz:=V (show mS (λb=>w3.heap.size<=b) w4 cs rg from ld);obtain⟨b1,n1,d1,b2,n2,d2,b4,n4,d4,b5,n5,d5,rfl,-⟩:=ld;have iU:(λw':H=>w'.heap[gx]? =A (bQ x.aB x.I x.k x.s x.aG x.aJ x.fz)/\w'.heap[gb]? =A (bj ga gl gc g.e gn gm gk)/\w'.heap[gt]? =A (bj ta tl tc t.e tb tm tk)) w4:=fW.I _ oH;have K4:=K3.bU oH;clear hS hb GR;refine bB hK iU ?_;refine cQ iU [7,8,9] ?_;have qf:=λj=>cE K4.F.2 j;obtain⟨o0,o1,o2,o3,o4,o5,o6⟩:=bE K4.F.2;have qF:∀y0 y1 y2 y3 y4 y5 y6,(λw':H=>w'.heap[gx]? =A (bQ x.aB x.I x.k x.s x.aG x.aJ x.fz)/\w'.heap[gb]? =A (bj ga gl gc g.e gn gm gk)/\w'.heap[gt]? =A (bj ta tl tc t.e tb tm tk)) (ss (ss (ss (ss (ss (ss (ss w4 ob y0) ⟨ob,1,G⟩ y1) ⟨ob,2,G⟩ y2) ⟨ob,3,G⟩ y3) ⟨ob,4,G⟩ y4) ⟨ob,5,G⟩ y5) ⟨ob,6,G⟩ y6):=λy0 y1 y2 y3 y4 y5 y6=>⟨wE iU.1 U,wE iU.2.1 U,wE iU.2.2 U⟩;refine bL 10 λK hK=> ?_;go_simp;refine cY hK (qF _ _ _ _ _ _ _) 11 λK hK=> ?_;go_simp;refine bB hK (qF _ _ _ _ _ _ _) ?_;refine bW ?_;have kP:=V (nt K4.F.1.1.2 (show w.heap.size<=ob by omega) (aK rg.has) (O b1 n1 d1) (Y Z rg.w.e) (O b2 n2 d2) (O b4 n4 d4) (Y Z rg.b.e) (O b5 n5 d5));have mO:=V (FC (y0:=aK rg.has) (y1:=O b1 n1 d1) (y2:=Y Z rg.w.e) (y3:=O b2 n2 d2) (y4:=O b4 n4 d4) (y5:=Y Z rg.b.e) (y6:=O b5 n5 d5) K4.F.2);have mL:=V (wE (g:=ob) (y0:=aK rg.has) (y1:=O b1 n1 d1) (y2:=Y Z rg.w.e) (y3:=O b2 n2 d2) (y4:=O b4 n4 d4) (y5:=Y Z rg.b.e) (y6:=O b5 n5 d5) K4.F.1.1.1 (show w.heap.size≠ob by omega));have nh:=V ((((ar.cZ (S:=λb=>b=ob) oH)).vS (aM rfl) (aK rg.has) (O b1 n1 d1) (Y Z rg.w.e) (O b2 n2 d2) (O b4 n4 d4) (Y Z rg.b.e) (O b5 n5 d5)));have MP:=V (rX.move (fJ:=λb=>ob<b) Gz.I ((ar.cP w4 (λb=>b=ob) w4).vS (aM rfl) (aK rg.has) (O b1 n1 d1) (Y Z rg.w.e) (O b2 n2 d2) (O b4 n4 d4) (Y Z rg.b.e) (O b5 n5 d5)) (λb hb h=>⟨hb,U,U⟩));clear iU qF qf o0 o1 o2 o3 o4 o5 o6 Gz K4;generalize ss (ss (ss (ss (ss (ss (ss w4 ob (aK rg.has)) ⟨ob,1,G⟩ (O b1 n1 d1)) ⟨ob,2,G⟩ (Y Z rg.w.e)) ⟨ob,3,G⟩ (O b2 n2 d2)) ⟨ob,4,G⟩ (O b4 n4 d4)) ⟨ob,5,G⟩ (Y Z rg.b.e)) ⟨ob,6,G⟩ (O b5 n5 d5)=w5 at*;by_cases jn:re=0
      .subst jn;go_wp2_with fail;go_meet
       rw[HOo.I];exact⟨rfl,rfl,_,mO.I,MP.I,nh.I⟩
      .have e1:(re != 0)=true:=by simpa using jn
       obtain rfl:(re,fQ.none,L)=R:=HRe.I jn;have qf:=λj=>cE mL.I j;obtain⟨r0,r1,r2,r3,r4,r5,r6⟩:=bE mL.I;go_wp2_with fail;rw[<-dB.I];have dR:=nt kP.I (bu _) (aK ae) (O G 0 0) (Y Z 0) (O G 0 0) (O G 0 0) (Y Z 0) (O G 0 0);refine aZ (v:=aL #[aF #[aK ae,O G 0 0,Y Z 0,O G 0 0,O G 0 0,Y Z 0,O G 0 0],Y Z re]) ?_ rfl ⟨_,rfl,mS.none _ _,oI.I.below dR,ar.cZ dR⟩;simp[aW,results190,go_sem,oL mL.I]
    case rest=>
     obtain⟨rfl,ady,cs,hoc,ld,GA⟩:=hcut;obtain⟨w5,rfl⟩:∃w5:H,w5=wc:=⟨_,rfl⟩;have dO:=V (Below.gh K3.F.1.1.2 GA (λb hb=>⟨U,U⟩));have hS:=V (show ∀b,(λb=>q.S b\/b=w.heap.size) b->q.S b\/w.heap.size<=b from λb h=>h.imp id (λe=>U));have Jz:=V (oI.I.wider dO.I hS.I);have QJ:=V (HQ.I.wider dO.I hS.I);have Co:=V (HG.I.wider dO.I hS.I);have Cd:=V (Xv.I.wider dO.I hS.I);have uN:=V (show((Bk.Cn x g (Bk.next x p (q.Z5.getD (k+1) []) g t L k q.au q.step) q.au q.step).1,(Bk.I x g t).2,(Bk.Cn x g (Bk.next x p (q.Z5.getD (k+1) []) g t L k q.au q.step) q.au q.step).2)=R from by have h:=HR.I;rwa[aI (by rw[ady];simp)]at h);generalize(Bk.I x g t).2 =og at*;have Gz:=V ld;obtain⟨b1,n1,d1,b2,n2,d2,b4,n4,d4,b5,n5,d5,rfl,-⟩:=ld;have D7:w.heap.size<w5:=by have:=dO.I.size;have:=GA.size;omega
     have K5:=V ((aE.block (GA.bC U U K3.F.1.1.1)).and ((aE.block (GA.bC (E (bH K3.F.1.2.1)) U K3.F.1.2.1)).and ((aE.block (GA.bC (E (bH K3.F.1.2.2)) U K3.F.1.2.2)).and (aE.block hoc))));have dQ:=GA.size;clear hoc GA ady HR Jy Xw K3 oI HQ HG Xv o0 o1 o2 o3 o4 o5 o6;have ON:=V (HON.I g (aS ga gl gc g.e gn gm gk));clear HON;unfold Bk.next at uN;obtain⟨r,hr⟩:=J (Bk.on x p (q.Z5.getD (k+1) []) g t q.au q.step (k+1));rw[hr]at ON;have sQ:=uN.I;rw[hr]at sQ;have MQ:=V sQ;clear sQ;obtain⟨re,rt⟩:=r;unfold aS at ON;clear uN hr;have fW:=V (λu (hu:ay w5 w5 u)=>(show(λw':H=>w'.heap[gb]? =A (bj ga gl gc g.e gn gm gk)/\w'.heap[gt]? =A (bj ta tl tc t.e tb tm tk)) u from⟨bV Co.I.aN.1 hu,bV K5.F.2.2.1 hu⟩));go_upto_region 11 with fail;go_cut [11,10] (λa b wx=>MO (λb=>q.S b\/b=w.heap.size) (re,rt) w5 a b wx)
     case first=>
      as_aux_lemma=>
      refine cS (λw':H=>w'.heap[gb]? =A (bj ga gl gc g.e gn gm gk)/\w'.heap[gt]? =A (bj ta tl tc t.e tb tm tk)) (eE (fW.I _ (below_drewN w5 1)) λdp=>bR dp [0,1,2,5,3,4] (λ_ h=>aw (bP h.1) (bP h.2)) ?_);refine lI 6 10 (λK hK=> ?_) (λK hK=> ?_)
      .go_simp;refine(ON.I w5.drew (QJ.I.bI 1).aN ⟨_,_,_,_,_,_,rfl,(Co.I.bI 1).aN.2.1,(Co.I.bI 1).aN.2.2⟩ ⟨_,_,_,_,_,_,rfl,(Cd.I.bI 1).aN.1,(Cd.I.bI 1).aN.2⟩).mono ?_;rintro e' w6 ⟨v,rfl,hv,hb⟩;have cO:ay w5 w5 w6:=(below_drewN w5 1).step hb;obtain⟨ra,rl,rc,rb,rm,rk,rfl,ou⟩:=MO.of hv (Co.I.below cO) (λb h=>by have h1:w5.drew.heap.size=w5.heap.size:=rfl;rcases h with h|h;exact(E (Jv b h));exact Q3P);have EA:=V ou;clear hv dp ou;refine bB hK (fW.I _ cO) ?_;refine cQ (fW.I _ cO) [7,8,9] (bL 10 λK hK=> ?_);go_simp;have gK:=λo=>cO.step (aD w6 o);refine cY hK (fW.I _ (gK _)) 11 λK hK=> ?_;go_simp;refine bB hK (fW.I _ (gK _)) ?_;refine cQ (fW.I _ (gK _)) [12] (bW ?_);go_wp2_with fail;go_meet
       exact⟨_,_,_,_,_,_,_,rfl,rfl,bZ w6 _,(EA.I.alloc _),cO.size,gK _⟩
      .go_simp;have eX:ay w5 w5 (li w5 (bj G 0 0 0 G 0 0)).drew:=(aD w5 (bj G 0 0 0 G 0 0)).bI 1;refine cY hK (fW.I _ eX) 6 λK hK=> ?_;go_simp;refine(ON.I (li w5 (bj G 0 0 0 G 0 0)).drew (QJ.I.below eX).aN ⟨_,_,_,_,_,_,rfl,(Co.I.below eX).aN.2.1,(Co.I.below eX).aN.2.2⟩ ⟨_,_,_,_,_,_,rfl,(Cd.I.below eX).aN.1,(Cd.I.below eX).aN.2⟩).mono ?_;rintro e' w6 ⟨v,rfl,hv,hb⟩;have cO:ay w5 w5 w6:=eX.step hb;have cy:=bV (show(li w5 (bj G 0 0 0 G 0 0)).drew.heap[w5.heap.size]? =_ from bZ w5 _) hb;have aT:w5.heap.size<(li w5 (bj G 0 0 0 G 0 0)).drew.heap.size:=(show w5.heap.size<(li w5 _).heap.size by rw[bF];omega);obtain⟨ra,rl,rc,rb,rm,rk,rfl,ou⟩:=MO.Fe hv Co.I cO aT (λb h=>Q43);have EA:=V ou;clear hv dp ou;refine bB hK (fW.I _ cO) ?_;refine cQ (fW.I _ cO) [7,8,9] ?_;obtain⟨z0,z1,z2,z3,z4,z5⟩:=aY cy;refine bL 11 λK hK=> ?_;go_simp;clear z0 z1 z2 z3 z4 z5;have gK:ay w5 w5 _:=cL cO (bu _) (O ra rl rc) (Y Z rt.e) (O rb rm rk);refine bB hK (fW.I _ gK) ?_;refine cQ (fW.I _ gK) [12] (bW ?_);go_wp2_with fail;go_meet
       exact⟨_,_,_,_,_,_,_,rfl,rfl,oV cy,EA.I _ _ _,bu _,gK⟩
     case rest=>
      obtain⟨nb,ra,rl,rc,rb,rm,rk,rfl,rfl,xC,ou,hng,cO⟩:=hcut;obtain⟨w6,rfl⟩:∃w6:H,w6=wc:=⟨_,rfl⟩;have eW:=V (dO.I.step cO);have MR:=V (Jz.I.below cO);have Xx:=V (QJ.I.below cO);have HG6:=V (Co.I.below cO);have K6:=K5.bU cO;have adz:=V (rX.move (fJ:=λb=>ob<b) Gz.I (ar.cZ (S:=λ_=>False) cO) (λb hb h=>⟨hb,id,h⟩));have EA:=V ou;have m9:=cO.size;obtain⟨z0,z1,z2⟩:=bP xC;clear ON fW xC ou cO dO Jz QJ Co Cd K5 Gz;dsimp only at MQ
      have xR:=V (show ∀b,(λb=>q.S b\/b=w.heap.size) b->b<w6.heap.size from λb h=>Q43);obtain⟨N,hN⟩:=J (if re≠0 then(re,L)else Bk.comes L k rt q.au q.step);have HN:=V hN;have L6:=V (show N.2.length=q.bn from by rw[<-hN,<-hl];split;rfl;exact Bk.Xu _ _ _ _ _);have sQ:=MQ.I;rw[hN]at sQ;have uN:=V sQ;clear hN sQ MQ;go_upto_if 78 with fail
      go_cut [10] (λa wx=>a=Y Z N.1 /\kV (λb=>q.S b\/b=w.heap.size) q.bb wx N.2 /\ar w6 (λb=>b=q.bb) w6 wx)
      case first=>
       as_aux_lemma=>
       by_cases jn:re=0
       .have CM:=V (ads (λb=>q.S b\/b=w.heap.size) bp q.bb q.bn q.au q.step L k rt (aS ra rl rc rt.e rb rm rk) w6 (aM mX) xR.I (Xx.I.mono (λu h=>⟨jX▸bh h.1 7 rfl,bh h.1 8 rfl,bh h.1 9 rfl⟩)) (EA.I.mono (λu h=>⟨_,_,_,_,_,_,rfl,h.1,h.2⟩)) MR.I hl U pN hu);unfold aS at CM;have e1:(re==0)=true:=Q3M;have uP:=V (show Bk.comes L k rt q.au q.step=N by have h:=HN.I;rwa[aI (by simp[jn])]at h);clear jn;go_wp2_with fail;refine CM.I.mono ?_;rintro e' w7 ⟨rfl,jX,rT⟩;rw[uP.I]at jX⊢;have GD:=V jX;have nh:=V rT;clear jX rT;go_wp2_with fail;go_meet
        exact⟨rfl,GD.I,nh.I⟩
       .have e1:(re==0)=ae:=by simpa using jn
        have uP:=V (show(re,L)=N by have h:=HN.I;rwa[aR jn]at h);clear jn;go_wp2_with fail;go_meet
        rw[<-uP.I];exact⟨rfl,MR.I,ar.cP _ _ _⟩
      case rest=>
       obtain⟨rfl,jX,rT⟩:=hcut;obtain⟨w7,rfl⟩:∃w7:H,w7=wc:=⟨_,rfl⟩;have GD:=V jX;have nh:=V rT;have Hx:=rT.size;have Xy:ar w6 (λb=>q.S b\/b=w.heap.size) w6 w7:=rT.mono (bu _) (λb _ h=>aM (show q.S b from h▸mX));have HQ7:=V (Xx.I.step Xy);have HG7:=V (HG6.I.step Xy);have k6:=K6.F;have K7:=V (aw (rT.bC (bH k6.1) U k6.1) (aw (rT.bC (bH k6.2.1) U k6.2.1) (rT.bC (bH k6.2.2.2) U k6.2.2.2)));have MP:=V (rX.move (fJ:=λb=>ob<b) adz.I rT (λb hb h=>⟨hb,U,h⟩));clear jX rT Xy k6 K6 adz Xx HG6 MR EA z0 z1 z2 HN;obtain⟨ne,nl⟩:=N;obtain⟨f0,f1,f2,f3,f4,f5,f6⟩:=bE K7.I.2.1;go_upto_region 14 with fail;obtain⟨D,hD⟩:=J (decide (ne=0/\x.aB=7));have MT:=V hD;clear hD;go_cut [90] (λb wx=>b=aK D/\wx=w7)
       case first=>
        as_aux_lemma=>
        by_cases GH:ne=0
        .have e1:(ne==0)=true:=by simpa using GH
         by_cases k7:x.aB=7
         .have e2:(x.aB==7)=true:=by simpa using k7
          have HD:=V (show decide (ne=0/\x.aB=7)=true from dI ⟨GH,k7⟩);clear GH k7;exact Q1L
         .have e2:(x.aB==7)=ae:=by simpa using k7
          have HD:=V (show decide (ne=0/\x.aB=7)=ae from eP (λh=>k7 h.2));clear GH k7;exact Q1L
        .have e1:(ne==0)=ae:=by simpa using GH
         have HD:=V (show decide (ne=0/\x.aB=7)=ae from eP (λh=>GH h.1));clear GH;exact Q1L
       case rest=>
        obtain⟨rfl,jm⟩:=hcut;rw[jm];clear jm;obtain⟨M,hM⟩:=J (Bk.Cn x g (ne,nl) q.au q.step);have HM:=V hM;have sQ:=uN.I;rw[hM]at sQ;have MQ:=V sQ;clear hM sQ uN;go_upto_if 90 with fail
        go_cut [10] (λa wx=>a=Y Z M.1 /\kV (λb=>q.S b\/b=w.heap.size) q.bb wx M.2 /\ar w7 (λb=>b=q.bb) w7 wx)
        case first=>
         as_aux_lemma=>
         by_cases hd:ne=0/\x.aB=7
         .obtain rfl:true=D:=by rw[<-MT.I];exact(dI hd).symm
          obtain⟨fr,wZ⟩:∃fr:Nat,x.aJ=(fr:Int):=⟨x.aJ.toNat,by have:=H7.I hd.2;omega⟩;have yu:fr<q.bn:=E (H7.I hd.2);have I8:=V (show Bk.comes nl fr g q.au q.step=M by have h:=HM.I;unfold Bk.Cn at h;rw[aR hd,wZ,jx]at h;exact h);have CM:=V (λw' h1 h2 h3 h4=>ads (λb=>q.S b\/b=w.heap.size) bp q.bb q.bn q.au q.step nl fr g (aS ga gl gc g.e gn gm gk) w' (aM mX) h1 h2 h3 h4 L6.I yu pN hu);unfold aS at CM;have fW:=V (λu (hu:ay w7 w7 u)=>(show(λw':H=>w'.heap[gx]? =A (bQ x.aB x.I x.k x.s x.aG x.aJ x.fz)/\w'.heap[gb]? =A (bj ga gl gc g.e gn gm gk)) u from⟨bV K7.I.2.1 hu,bV HG7.I.aN.1 hu⟩));clear hd f0 f1 f2 f3 f4 f5 f6;go_upto_region 15 with fail;refine cS (λw':H=>w'.heap[gx]? =A (bQ x.aB x.I x.k x.s x.aG x.aJ x.fz)/\w'.heap[gb]? =A (bj ga gl gc g.e gn gm gk)) (eE (fW.I _ (below_drewN w7 1)) λdp=>bR dp [0,1,3,2,4,5] (λ_ h=>aw (bE h.1) (bP h.2)) ?_);refine bL 6 λK hK=> ?_;go_simp;refine(CM.I w7.drew (λb h=>by have h1:=xR.I b h;have h2:w7.drew.heap.size=w7.heap.size:=rfl;omega) ((HQ7.I.bI 1).mono (λu h=>⟨jX▸bh h.1 7 rfl,bh h.1 8 rfl,bh h.1 9 rfl⟩)) ((HG7.I.bI 1).mono (λu h=>⟨_,_,_,_,_,_,rfl,h.2.1,h.2.2⟩)) (GD.I.below (below_drewN w7 1))).mono ?_;rintro e' w8 ⟨rfl,jX,vZ⟩;rw[I8.I]at jX⊢;have QK:=V jX;have rQ:=V (show ar w7 (λb=>b=q.bb) w7 w8 from vZ.vP);have xS:(λw':H=>w'.heap[gx]? =A (bQ x.aB x.I x.k x.s x.aG x.aJ x.fz)/\w'.heap[gb]? =A (bj ga gl gc g.e gn gm gk)) w8:=⟨rQ.I.bC (bH dp.1) U dp.1,rQ.I.bC (bH dp.2) (λe=>cI (e▸mX)) dp.2⟩;clear jX vZ dp;refine bB hK xS ?_;refine cQ xS [7] (bW ?_);go_wp2_with fail;go_meet
          exact⟨rfl,QK.I,rQ.I⟩
         .obtain rfl:ae=D:=by rw[<-MT.I];exact(eP hd).symm
          have I8:=V (show(ne,nl)=M by have h:=HM.I;unfold Bk.Cn at h;rwa[aI hd]at h);clear hd;go_wp2_with fail;go_meet
          rw[<-I8.I];exact⟨rfl,GD.I,ar.cP _ _ _⟩
        case rest=>
         obtain⟨rfl,jX,vZ⟩:=hcut;obtain⟨w8,rfl⟩:∃w8:H,w8=wc:=⟨_,rfl⟩;obtain rfl:=MQ.I;have k1:=vZ.bC (bH K7.I.1) U K7.I.1;have k2:=vZ.bC (bH K7.I.2.2) U K7.I.2.2;have uY:=V k1;have QK:=V jX;have rQ:=V ((nh.I.trans' vZ Hx));have amx:=V (rX.move (fJ:=λb=>ob<b) MP.I vZ (λb hb h=>⟨hb,U,h⟩));have qf:=λj=>cE k1 j;obtain⟨r0,r1,r2,r3,r4,r5,r6⟩:=bE k1;obtain⟨o0,o1,o2,o3,o4,o5,o6⟩:=bE k2;clear k1 k2 jX vZ f0 f1 f2 f3 f4 f5 f6;go_wp2_with fail;rw[<-dB.I];have kp:=(ar.cP w8 (λb=>b=w.heap.size) w8).vS (aM rfl) (aK og.has) (O b1 n1 d1) (Y Z og.w.e) (O b2 n2 d2) (O b4 n4 d4) (Y Z og.b.e) (O b5 n5 d5);have WX:=QK.I.lt;refine aZ (v:=aL #[aF #[aK og.has,O b1 n1 d1,Y Z og.w.e,O b2 n2 d2,O b4 n4 d4,Y Z og.b.e,O b5 n5 d5],Y Z M.1]) ?_ rfl ⟨_,rfl,rX.move (fJ:=λb=>w.heap.size<=b) amx.I kp (λb hb h=>⟨hb,U,U⟩),(QK.I.bt (kp.mono (bu _) (λb _ h=>bJ h)) (kp.block q.bb WX U)).less (λb h=>aM h),?_⟩
         .simp[aW,results190,go_sem,oL uY.I]
         .exact((ar.cZ (S:=λb=>b=q.bb) eW.I).trans' (rQ.I.mono (bu _) (λ_ _ h=>h)) U).trans' (kp.mono (C:=w) (E rQ.I.size) (λb hb h=>Q3P)) (bu _)
namespace Bk
def fits (h:ah) (T:List az):Nat->List (List Int)->Bool
 |_,[]=>true
 |i,d::l=>decide ((T.getD i az.zero).d=h++d)&&fits h T (i+1) l
theorem amy {h:ah} {T:List az} {l:List (List Int)} (hd:l[k]? =A d) (ht:T[k]? =A t):fits h T k (l.drop k)=(decide (t.d=h++d)&&fits h T (k+1) (l.drop (k+1))):=by
 have hk:=(fX.1 hd).1;have e:l[k]=d:=by rw[cR hk]at hd;injection hd
 rw[List.drop_eq_getElem_cons hk,e];show(decide ((T.getD k az.zero).d=h++d)&&fits h T (k+1) (l.drop (k+1)))=_
 rw[show T.getD k az.zero=t by simp[dV,ht]]
def aH (m:Mod) (T:List az) (g:az):Int:=
 if g.ok=ae\/(T.any λx=> !x.ok)=true then 1 else if fits ((T.getD 0 az.zero).d.take 1) T 0 m.iy.1 =ae\/g.d≠(Fw.last T).d then 2 else 0
end Bk
theorem amz (cs:Array aj) (x:az) (ok:Nat->Prop) (w:H) (h:vV ok w cs x):aA aq 219 #[aF cs] w (dZ (aK (!x.ok)) w):=by
 obtain⟨a,l,c,b,m,k,rfl,r1,r2⟩:=h;have KB:=V (aE.fg w (bj a l c x.e b m k));have TM:=V (jr a l c x.d x.e b m k x.z _ (r1.1.below KB.F.2) (r2.1.below KB.F.2));rw[show decide (T.aH x.d x.e x.z)=x.ok from rfl]at TM;generalize x.ok=B at*;unfold aS at TM;have f0:=bP KB.F.1;go_enter func219,ntmps219;go_wp2_with fail;refine bY TM.I λw2 hb=> ?_;go_wp2_with fail;go_ret;exact⟨rfl,KB.F.2.step hb⟩
theorem amA (cs:Array aj) (x:Lay) (ok:Nat->Prop) (w:H) (h:iM ok w cs x):aA aq 221 #[aF cs] w (dZ (aK (x.aB==3)) w):=by
 obtain rfl:cs=x.cells:=h;unfold Lay.cells;have KB:=V (aE.fg w (bQ x.aB x.I x.k x.s x.aG x.aJ x.fz));have f0:=bE KB.F.1;go_enter func221,ntmps221;go_wp2_with fail;go_ret;exact⟨rfl,KB.F.2⟩
theorem amB (q:PA) (bp:Nat) (g:az) (gv:aj) (t0:az) (T1:List az) (tb tq:Nat) (da:aC) (dl dc:Nat) (w:H) (hq:q.at bp w) (hg:fu aO w gv g) (hs:0<=q.step/\q.step<=1000000) (jd:q.m.qT q.ps=true) (hT:q.T.length=q.m.L.length+1) (hG:q.Z5.length=q.T.length) (zx:q.ta=A ⟨tb,tq,G⟩) (l8:w ⟨tb,tq,G⟩=A (O da dl dc)) (ip:1<=dc):
 aA aq 189 #[aP bp,gv] w (dZ (Y Z (Bk.aH q.m q.T g)) w):=by
 obtain⟨ga,gl,gc,gb,gm,gk,rfl,g1,g2⟩:=hg;have K0:=V ((aE.fg w (bj ga gl gc g.e gb gm gk)).and ((hq.bt.and (g1.bt.and g2.bt)).alloc (bj ga gl gc g.e gb gm gk)));have KC:=V ((aE.cell l8).alloc (bj ga gl gc g.e gb gm gk));have PM:=V (λw' (h:q.at bp w')=>jd▸Pz q.m (λb=>¬q.S b) q.xa q.xl q.xm q.ps q.pa q.pl q.pm w' h.2.1 h.2.2.1);have TM:=V (jr ga gl gc g.d g.e gb gm gk g.z);rw[show decide (T.aH g.d g.e g.z)=g.ok from rfl]at TM;have CT:=V (λw' (h:q.at bp w')=>ajn 219 #[] (λx=> !x.ok) (λb=>¬q.S b) q.ta q.tn q.tm q.T w' (h.2.2.2.1.weak (λcs x h=>h.1)) (λcs x w2 _ hx=>amz cs x _ w2 hx) (λargs w=>Q3J));rw[zx]at CT;have SH:=V (λw' (h:q.at bp w')=>Iy q.m (λb=>¬q.S b) q.xa q.xl q.xm w' h.2.1);have CL:=V (λw' (h:q.at bp w')=>ajp 221 #[] (λx=>x.aB==3) (λb=>¬q.S b) q.xa q.xl q.xm q.m.L w' h.2.1 (λcs x w2 _ hx=>amA cs x _ w2 hx) (λargs w=>Q3J));have pk:q.m.iy.2.2 =0:=by unfold Mod.qT at jd;rw[fS]at jd;exact eZ jd.1
 obtain⟨R,hR⟩:=J (Bk.aH q.m q.T g);rw[hR];unfold Bk.aH at hR;obtain⟨ls,sn,se,mM⟩:∃ls sn se,q.m.iy=(ls,sn,se):=⟨_,_,_,rfl⟩;rw[mM]at hR pk SH;obtain rfl:se=0:=pk;obtain⟨mm,ml,md,m0,mk⟩:=Mod.zX mM;have vX:=V md;have r9:q.tn=q.T.length:=hq.2.2.2.1.1.symm;have fP:q.xl=q.m.L.length:=hq.2.1.1.symm;have IL:q.gn=q.Z5.length:=hq.2.2.2.2.1.symm;have Wc:=Mod.E9 mm;have AF:=V r9;have d1:decide (q.step<0)=ae:=by simpa using hs.1
 have d2:decide (1000000<q.step)=ae:=by simpa using hs.2
 have i3:Z.wrap ((q.xl:Int)+1)=(q.xl:Int)+1:=dv _ U;have e3:((q.tn:Int) != (q.xl:Int)+1)=ae:=Q2R;have fC:q.tn=ls.length:=U;have e4:((q.gn:Int) != (q.tn:Int))=ae:=Q2R;have e5:decide ((0:Int)<(q.gn:Int))=true:=Q2R;have i4:Z.wrap ((q.tn:Int)-1)=(q.tn:Int)-1:=dv _ U;have Xz:=V hT;have HR:=V hR;have jJ:=V fC;have XA:=zx;clear hq l8 hR jd hT hG hs mM ml md mk mm r9 fP IL fC;unfold aS;unfold aS at TM;go_enter func189,ntmps189
 let pq:=gW aq Tryz.f189 (λ_ _=>True)
 generalize dS:gW aq Tryz.f189 (dZ (Y Z R) w)=BP;have dB:=V dS;have jM:=oz dS;clear dS;go_upto_region 1 with fail;obtain⟨w1,eI⟩:∃u,li w (bj ga gl gc g.e gb gm gk)=u:=⟨_,rfl⟩;rw[eI]at K0 KC⊢;clear eI;have fW:=V (λu (hu:ay w1 w1 u)=>(show(λw':H=>w'.heap[bp]? =A (ag q.cells 272 (0,0))/\w'.heap[w.heap.size]? =A (bj ga gl gc g.e gb gm gk)) u from⟨(K0.aQ hu).2.1.1,(K0.aQ hu).1.1⟩));have s0:=nW (K0.F.2.1.1);go_upto_region 2 with fail;refine cS (λw':H=>w'.heap[bp]? =A (ag q.cells 272 (0,0))/\w'.heap[w.heap.size]? =A (bj ga gl gc g.e gb gm gk)) (eE (fW.I _ (below_drewN w1 1)) λhS=>bR hS [0,1,2,3,4,5,6,7,8,9,10,11,12,13,17,14,18,15,19,16,20] (λ_ h=>aw (nW h.1) (bP h.2)) ?_);refine bL 21 λK hK=> ?_;go_simp;refine bY (PM.I _ (K0.I.bI 1).aN.2.1) λw2 hb=> ?_;have du:ay w1 w1 w2:=(below_drewN w1 1).step hb;have K2:=K0.bU du;clear hb hS;refine bB hK (fW.I _ du) ?_;refine bR (fW.I _ du) [22,23,24,25,27,26,28,29,30,31,32,33,34,35,36,37] (λ_ h=>aw (nW h.1) (bP h.2)) (bL 38 λK hK=> ?_);go_simp;refine bY (TM.I _ K2.F.2.2.1 K2.F.2.2.2) λw3 hb=> ?_;have eg:ay w1 w1 w3:=du.step hb;have K3:=K2.bU hb;clear hb K0;refine bB hK (fW.I _ eg) ?_;obtain⟨D,hD⟩:=J g.ok;rw[hD]at HR⊢;clear hD
 cases D
 .obtain rfl:1=R:=by rw[<-HR.I,aR (aM rfl)]
  refine bR (fW.I _ eg) [39,40,41,42] (λ_ h=>aw (nW h.1) (bP h.2)) (bL 43 λK hK=> ?_);go_simp;refine bB hK (fW.I _ eg) ?_;refine bR (fW.I _ eg) [44] (λ_ h=>aw (nW h.1) (bP h.2)) (bW ?_);go_wp2_with fail;rw[<-dB.I];go_ret;exact⟨rfl,K3.F.1.2⟩
 refine bR (fW.I _ eg) [39,40,41,42] (λ_ h=>aw (nW h.1) (bP h.2)) (bL 43 λK hK=> ?_);go_simp;refine bY (CT.I _ K3.F.2.1) λw4 hb=> ?_;have oH:ay w1 w1 w4:=eg.step hb;have K4:=K3.bU hb;refine bB hK (fW.I _ oH) ?_;refine bR (fW.I _ oH) [44] (λ_ h=>aw (nW h.1) (bP h.2)) (bW ?_);obtain⟨ZU,hE⟩:=J (q.T.any λx=> !x.ok);rw[hE]at HR⊢;have HE:=V hE;clear hE
 cases ZU
 case true=>
  obtain rfl:1=R:=by rw[<-HR.I,aR (bJ rfl)]
  go_wp2_with fail;rw[<-dB.I];go_ret;exact⟨rfl,K4.F.1.2⟩
 have cU:=V (show(if Bk.fits ((q.T.getD 0 az.zero).d.take 1) q.T 0 ls=ae\/g.d≠(Fw.last q.T).d then 2 else 0)=R from Q4x);have s0:=nW (K4.F.2.1.1);clear HR d1 d2 e3;go_wp2_with fail;refine(SH.I _ K4.F.2.1).mono ?_;rintro e' w5 ⟨sa,sl,sc,rfl,QL,hb⟩;have K5:=K4.bU hb;have MU:=V QL;have QD:=V (KC.I.step (oH.step hb));clear QL KC SH TM CT;go_wp2_with fail;obtain⟨FB,QM⟩:=J (Bk.fits ((q.T.getD 0 az.zero).d.take 1) q.T 0 ls);rw[QM]at cU;obtain⟨z0,cF⟩:=J (q.T.getD 0 az.zero);rw[cF]at QM;have Fk:q.T[0]? =A z0:=by rw[<-cF,gB,cR (by have:=AF.I;have:=jJ.I;have:=Xz.I;omega)];simp
 have HFB:=V QM;have HZ:=V (show aE w5 (λu=>ai Z u da dl z0.d/\u.cell? ⟨tb,tq,G⟩=A (O da dl dc))from λu hu=>by
  have hc:=QD.aQ hu;obtain⟨b',o',cs,e1,_,sN,hcs⟩:=(K5.aQ hu).2.1.2.2.2.1.get Fk;rw[XA]at e1;injection e1 with e1;injection e1 with e1 e2;subst e1 e2;obtain⟨⟨a',l',c',b2,m2,k2,rfl,q1,q2⟩,-⟩:=sN;have:=hcs 0 _ rfl;simp only[Nat.zero_mul,eL]at this;rw[hc]at this;injection this with this;injection this with e3 e4 e5;subst e3 e4 e5;exact⟨q1.1,hc⟩)
 have jU:1<=dl/\dl<=4:=by
  have h:=HE.I;rw[List.any_eq_false]at h;have h1:=h z0 (nB Fk);have h2:T.aH z0.d z0.e z0.z:=by simpa[az.ok]using h1
  have h3:=h2.1;unfold Sh.size at h3;rw[(HZ.I.aN.1).bA]at h3;split at h3
  .omega
  .omega
 clear QM cF;go_loopw [73,9,10] (λi _ _ wr=>∃k:Nat,k<=sl/\i=Y Z k/\Bk.fits (z0.d.take 1) q.T k (ls.drop k)=FB/\ay w5 w5 wr) (λi _ _ _=>sl-(aX i).toNat)
 case atStart=>exact⟨0,cK _,rfl,HFB.I,Below.refl _ _⟩
 case round=>
  as_aux_lemma=>
  obtain⟨k,hk,rfl,hfk,cW⟩:=hrel;have tM:=V hfk;have eV:=V cW;have KW:=K5.bU cW;clear hfk cW;have hsl:sl=q.tn:=by rw[<-MU.I.1];exact jJ.I.symm
  by_cases aT:k<sl
  .obtain⟨d,hd⟩:∃d,ls[k]? =A d:=⟨ls[k]'(by rw[MU.I.1];exact aT),Q2W⟩;obtain⟨x,hx⟩:∃x,q.T[k]? =A x:=⟨q.T[k]'(E AF.I),Q2W⟩;have IW:=V (tM.I.symm.trans (Bk.amy hd hx)).symm;have hmd:=vX.I d (nB hd);obtain⟨eb,eo,cs,rfl,_,⟨pa,pl,pc,rfl,Dk⟩,adA⟩:=(MU.I.below lX U eV.I).get hd;have p0:=adA 0 _ rfl;simp only[eL,lA]at p0;obtain⟨b',o',cs,e1,_,sN,hcs⟩:=KW.F.2.1.2.2.2.1.get hx;rw[XA]at e1;injection e1 with e1;injection e1 with e1 e2;subst e1 e2;obtain⟨⟨ka,kl,kc,b2,m2,k2,rfl,q1,q2⟩,-⟩:=sN;have x0:=hcs 0 _ rfl;simp only[eL]at x0;have mU:=V ((Dk.1.bt.and q1.1.bt).and ((aE.cell x0).and (HZ.I.step eV.I)));have cA:(k:Int)<(q.tn:Int):=U;have P1:k<q.tn:=U;have IY:(0:Int)<(q.tn:Int):=U;have qh:0<q.tn:=U;have asr:(1:Int)<=(dc:Int):=U;have ast:¬dc=0:=U;have kN:=Dk.1.bA;have i7:Z.wrap ((k:Int)+1)=(k:Int)+1:=dv _ (E MU.I.2.1);clear hd hx hcs adA x0 hsl;go_upto_region 8 with fail;clear p0;have fy:(λw':H=>w' ⟨tb,tq+k*3,G⟩=A (O ka kl kc)/\w' ⟨tb,tq,G⟩=A (O da dl dc)) wr:=⟨mU.I.aN.2.1,mU.I.aN.2.2.2⟩;have fW:=V (λu (hu:ay wr wr u)=>(show(λw':H=>w' ⟨tb,tq+k*3,G⟩=A (O ka kl kc)/\w' ⟨tb,tq,G⟩=A (O da dl dc)) u from⟨hu.cell_of fy.1,hu.cell_of fy.2⟩));refine cS (λw':H=>w' ⟨tb,tq+k*3,G⟩=A (O ka kl kc)/\w' ⟨tb,tq,G⟩=A (O da dl dc)) (eE (fW.I _ (below_drewN wr 1)) λhS=>bR hS [0,1,5,10,2,6,3,7,4,8,9] (λ_ h=>aw h.1 h.2) ?_);refine bL 11 λK hK=> ?_;go_simp;have eX:ay wr wr (li wr (ag #[O da 1 dc,O pa pl pc] 55)).drew:=(aD wr _).bI 1;have XB:(li wr (ag #[O da 1 dc,O pa pl pc] 55)).drew.heap[wr.heap.size]? =A (ag #[O da 1 dc,O pa pl pc] 55 (0,0)):=bZ wr _;refine cY hK (fW.I _ eX) 12 λK hK=> ?_;go_simp;have QN:=mU.I.jD eX;have gZ:=QN.2.2.1.take 1 jU.1;refine(acE wr.heap.size da 1 dc (z0.d.take 1) pa pl pc d _ (bh XB 0 rfl) (bh XB 1 rfl) gZ QN.1.1 U U U U).mono ?_;intro e' w7 gv;obtain⟨va,vc,rfl,QO,-,-,dR⟩:=gv.roomy (λz hz=>(kE.1 hz).elim (gZ.wf z) (QN.1.1.wf z)) U;have o9:ay wr wr w7:=eX.step dR;have HVa:=V QO;clear hS eX XB QN gv QO;refine cY hK (fW.I _ o9) 13 λK hK=> ?_;go_simp;refine bY (Ii ka kl kc x.d va (1+pl) vc (z0.d.take 1++d) _ (mU.I.jD o9).1.2 HVa.I) λw8 ej=> ?_;have IJ:=o9.step ej;have uJ:=V (eV.I.step IJ);obtain⟨SD,Cp⟩:=J (decide (x.d=z0.d.take 1++d));rw[Cp]at IW⊢;clear Cp ej o9;refine bB hK (fW.I _ IJ) ?_;refine cQ (fW.I _ IJ) [14] (bW ?_);clear IJ
   cases SD
   .obtain rfl:FB=ae:=IW.I.symm;obtain rfl:2=R:=by rw[<-cU.I,aR (aM rfl)]
    go_wp2_with fail;try simp only[j6,Exit.then]
    rw[<-dB.I];go_ret;exact⟨rfl,K5.F.1.2.step uJ.I⟩
   .go_wp2_with fail;go_roundw
    case rel=>exact⟨k+1,U,Q2T,IW.I,uJ.I⟩
    case measure=>exact Q5q
  .obtain rfl:k=sl:=U;obtain rfl:FB=true:=by rw[<-tM.I,List.drop_eq_nil_iff.2 (by rw[MU.I.1];exact bu _)];rfl
   have fL:=V (show(if g.d≠(Fw.last q.T).d then 2 else 0)=R from by
    have h:=cU.I;by_cases c:g.d=(Fw.last q.T).d
    .rw[aI (by rintro(c1|c1);cases c1;exact c1 c)]at h;rw[aI (λc1=>c1 c)];exact h
    .rw[aR (bJ c)]at h;rw[aR c];exact h)
   have s0:=nW (KW.F.2.1.1);go_wp2_with fail;refine bY (CL.I _ KW.F.2.1) λw6 cO=> ?_;have K6:=KW.bU cO;clear KW;have GI:q.T.length=k:=by rw[<-AF.I];omega
   obtain⟨x,hx⟩:∃x,q.T[k-1]? =A x:=⟨q.T[k-1]'(E Xz.I),Q2W⟩;have Ij:Fw.last q.T=x:=by unfold Fw.last;rw[GI,gB,hx];rfl
   rw[Ij]at fL;obtain⟨b',o',cs,e1,_,sN,hcs⟩:=K6.F.2.1.2.2.2.1.get hx;rw[XA]at e1;injection e1 with e1;injection e1 with e1 e2;subst e1 e2;obtain⟨⟨la,ll,lc,b2,m2,k2,rfl,q1,q2⟩,-⟩:=sN;have x0:=hcs 0 _ rfl;simp only[eL]at x0;rw[hsl]at x0;have KL:=V (q1.1.bt.and (aE.cell x0));generalize(q.m.L.any λx=>x.aB==3)=AL at*;have Ob:((q.tn:Int)-1).toNat=q.tn-1:=U;have hi3:(1:Int)<=(q.tn:Int):=by have:=Xz.I;have:=AF.I;omega
   have AZ:(0:Int)<=(q.tn:Int)-1:=U;have VJ:(q.tn:Int)-1<(q.tn:Int):=U;have Kt:q.tn-1<q.tn:=U;have Cm:=V (λu (hu:ay w6 w6 u)=>(show(λw':H=>w'.heap[bp]? =A (ag q.cells 272 (0,0))/\w'.heap[w.heap.size]? =A (bj ga gl gc g.e gb gm gk)/\w' ⟨tb,tq+(q.tn-1)*3,G⟩=A (O la ll lc)) u from⟨(K6.aQ hu).2.1.1,(K6.aQ hu).1.1,(KL.aQ hu).2⟩));clear hcs x0 hx Ij hsl;have SM:=V (Ii ga gl gc g.d la ll lc x.d);obtain⟨SD,Cp⟩:=J (decide (g.d=x.d));rw[Cp]at SM;have HSD:=V Cp;clear Cp;dsimp only
   go_upto_region 12 with fail;refine cS (λw':H=>w'.heap[bp]? =A (ag q.cells 272 (0,0))/\w'.heap[w.heap.size]? =A (bj ga gl gc g.e gb gm gk)/\w' ⟨tb,tq+(q.tn-1)*3,G⟩=A (O la ll lc)) (eE (Cm.I _ (below_drewN w6 1)) λhS=>bR hS [0,6,1,7,2,3,4,5,8,9,10,11,12,13,14,15,16,17,18,19,20,21,22,24,25,23,26,27,28,29,30] (λ_ h=>aw (nW h.1) (aw (bP h.2.1) h.2.2)) ?_);refine bL 31 λK hK=> ?_;go_simp;refine bY (SM.I _ (K6.I.bI 1).aN.2.2.1 (KL.I.bI 1).aN.1) λw8 ej=> ?_;have hb:=(below_drewN w6 1).step ej;clear hS;refine bB hK (Cm.I _ hb) ?_;refine bR (Cm.I _ hb) [32,33] (λ_ h=>aw (nW h.1) (aw (bP h.2.1) h.2.2)) (bW ?_)
   cases SD
   .obtain rfl:2=R:=by rw[<-fL.I,aR (kH HSD.I)]
    exact Q2j
   .obtain rfl:0=R:=by rw[<-fL.I,aI (λc=>c (eZ HSD.I))]
    exact Q2j
end
theorem Ck.QP:∀(L:List Lay) (i:Nat) (l0 l:List (List Int)) (n:Int),l0.length=i+1->Ck.uF i L l0=(l,n,0)->(∀j,j<i+1->l[j]? =l0[j]?)/\∀k x,L[k]? =A x->x.aB=2->(l.getD (i+k) []).length=3
 | [],i,l0,l,n,h1,h=>by
   unfold Ck.uF at h;injection h with h;subst h;exact⟨λ_ _=>rfl,λk x hx=>by simp at hx⟩
 |x::L,i,l0,l,n,h1,h=>by
  unfold Ck.uF at h;split at h
  .exact Q1O
  rename_i hg;split at h
  .exact Q1O
  obtain⟨r1,r2⟩:=Ck.QP L (i+1) (l0++[Ck.gives x l0]) l n (by rw[dG,h1];rfl) h;refine⟨λj hj=>(r1 j U).trans (List.getElem?_append_left U),λk y hy hk=> ?_⟩
  match k,hy with
  |0,hy=>
   obtain rfl:x=y:=Q3w;have hl:=(r1 i U).trans (List.getElem?_append_left U);rw[gB,eL,hl];have kN:Ck.gives x l0=Ck.j9 (l0.getD (l0.length-1) []) x.I x:=by unfold Ck.gives;simp[hk]
   rw[kN]at hg;unfold Ck.j9 at hg;split at hg
   .exact absurd rfl hg
   .rename_i h5;rw[h1,Nat.add_sub_cancel,gB]at h5;exact Decidable.not_not.1 h5
  |k+1,hy=>exact(by rw[show i+(k+1)=i+1+k by omega];exact r2 k y Q3w hk)
theorem Mod.QP {m:Mod} {l:List (List Int)} {n:Int} (h:m.iy=(l,n,0)) {x:Lay} (hx:m.L[k]? =A x) (hk:x.aB=2):(l.getD k []).length=3:=by
 unfold Mod.iy at h;split at h
 .split at h
  .exact Q1O
  .have:=(Ck.QP m.L 0 [[m.a,m.b,m.c]] l n rfl h).2 k x hx hk;rwa[nF]at this
 .exact Q1O
namespace Bk
theorem XC {h:ah} {T:List az}:∀{l:List (List Int)} {i j:Nat} {d:ah},fits h T i l=true->l[j]? =A d->(T.getD (i+j) az.zero).d=h++d
 | [],_,_,_,_,hd=>by simp at hd
 |e::l,i,j,d,hf,hd=>by
  unfold fits at hf;rw[fS]at hf
  match j,hd with
  |0,hd=>
   obtain rfl:e=d:=by simpa using hd
   exact eZ hf.1
  |j+1,hd=>
   have:=XC hf.2 (j:=j) (d:=d) (by simpa using hd);rwa[show i+1+j=i+(j+1) by omega]at this
theorem amC {m:Mod} {T:List az} {g:az} {n:Int} (h:aH m T g=0) (hs:m.iy=(ls,n,0)) {x:Lay} (hx:m.L[k]? =A x) (hk:x.aB=2) (ht:T[k]? =A t):t.d.length=4:=by
 unfold aH at h;split at h
 .cases h
 split at h
 .cases h
 rename_i h2;obtain⟨mm,ml,md,m0,mk⟩:=Mod.zX hs;have hf:fits ((T.getD 0 az.zero).d.take 1) T 0 ls=true:=by
  rw[hs]at h2
  cases e:fits ((T.getD 0 az.zero).d.take 1) T 0 ls
  .exact absurd (aM e) h2
  .rfl
 have o8:=(fX.1 hx).1;have h3:=Mod.QP hs hx hk;have e0:=XC hf m0;have ek:=XC hf (j:=k) (d:=ls.getD k []) (by rw[gB,cR U];rfl);simp only[nF]at e0 ek;have Ua:=congrArg List.length e0;have hlk:=congrArg List.length ek;rw[dG,List.length_take]at Ua hlk;rw[show T.getD k az.zero=t by simp[dV,ht],h3]at hlk;simp only[List.length_cons,List.length_nil]at Ua;omega
def pO (m:Mod) (ps:List bD) (T:List az) (Z5:List (List Int)) (au step:Int):Nat->List (Option az)->List fQ->Int×List fQ
 |0,_,I=>(0,I)
 |k+1,back,I=>
  if(fN (m.L.getD k ⟨0,0,0,0,0,0,ae⟩) (ps.getD k bD.nil) (Z5.getD (k+1) []) (T.getD k az.zero) back k au step).1 ≠0 then((fN (m.L.getD k ⟨0,0,0,0,0,0,ae⟩) (ps.getD k bD.nil) (Z5.getD (k+1) []) (T.getD k az.zero) back k au step).1,[])
  else pO m ps T Z5 au step k (fN (m.L.getD k ⟨0,0,0,0,0,0,ae⟩) (ps.getD k bD.nil) (Z5.getD (k+1) []) (T.getD k az.zero) back k au step).2.2 (I.set k (fN (m.L.getD k ⟨0,0,0,0,0,0,ae⟩) (ps.getD k bD.nil) (Z5.getD (k+1) []) (T.getD k az.zero) back k au step).2.1)
def run (m:Mod) (ps:List bD) (T:List az) (Z5:List (List Int)) (g:az) (au step:Int):Int×List fQ:=
 if aH m T g≠0 then(aH m T g,[])else pO m ps T Z5 au step m.L.length ((dz T.length G).set m.L.length (A g)) (dz m.L.length fQ.none)
theorem amD (x:Lay) (p:bD) (f:ah) (g t:az) (back:List (Option az)) (k:Nat) (au step:Int):(next x p f g t back k au step).2.length=back.length:=by
 unfold next;split
 .rfl
 .rw[Xu]
theorem amE (x:Lay) (g:az) (r:Int×List (Option az)) (au step:Int):(Cn x g r au step).2.length=r.2.length:=by
 unfold Cn;split
 .rw[Xu]
 .rfl
theorem amF (x:Lay) (p:bD) (f:ah) (t:az) (back:List (Option az)) (k:Nat) (au step:Int):(fN x p f t back k au step).2.2.length=back.length:=by
 unfold fN;split
 .rfl
 .split
  .rfl
  .exact(amE _ _ _ _ _).trans (amD _ _ _ _ _ _ _ _ _)
theorem amG {m:Mod} {ps:List bD} {T:List az} {step:Int} {x:Lay} {p:bD} (hx:m.L[k]? =A x) (hp:ps[k]? =A p) (ht:T[k]? =A t) (back:List (Option az)) (I:List fQ):
 pO m ps T Z5 au step (k+1) back I=if(fN x p (Z5.getD (k+1) []) t back k au step).1 ≠0 then((fN x p (Z5.getD (k+1) []) t back k au step).1,[])else pO m ps T Z5 au step k (fN x p (Z5.getD (k+1) []) t back k au step).2.2 (I.set k (fN x p (Z5.getD (k+1) []) t back k au step).2.1):=by
 have e1:m.L.getD k ⟨0,0,0,0,0,0,ae⟩=x:=by simp[dV,hx]
 have e2:ps.getD k bD.nil=p:=by simp[dV,hp]
 have e3:T.getD k az.zero=t:=by simp[dV,ht]
 show(if _ then _ else _)=_
 rw[e1,e2,e3]
end Bk
def xT (bo:Nat) (w:H) (l:List fQ):Prop:=∃cs:Array aj,w.heap[bo]? =A (ag cs 278 (0,0))/\cs.size=l.length*7/\∀(i:Nat) (x:fQ),l[i]? =A x->∃ds,mS (λb=>bo<b) w ds x/\∀j v,ds[j]? =A v->cs[i*7+j]? =A v
theorem xT.bt {B:Nat} {l:List fQ} (h:xT bo w l) (k:ar B S w w') (hB:w.heap.size<=B) (hS:∀b,bo<=b->¬S b):xT bo w' l:=by
 obtain⟨cs,h1,h2,h3⟩:=h;have aT:=bH h1;refine⟨cs,(k.block bo U (hS bo (bu _))).trans h1,h2,λi x hx=> ?_⟩;obtain⟨ds,e1,e2⟩:=h3 i x hx;exact⟨ds,rX.move e1 k (λb hb h=>⟨U,hS b U,h⟩),e2⟩
theorem xT.on {l:List fQ} (h:xT bo w l) (hl:l.length<=1000000000):cH mS 7 (λb=>bo<=b) w bo l.length l:=by
 obtain⟨cs,h1,h2,h3⟩:=h;refine⟨rfl,hl,bJ ⟨bo,0,rfl,bu _,λi x hx=> ?_⟩⟩;obtain⟨ds,e1,e2⟩:=h3 i x hx;refine⟨ds,rX.move e1 (ar.cP w (λ_=>False) w) (λb hb h=>⟨hb,id,U⟩),λj v hv=> ?_⟩;rw[nF];exact bh h1 _ (e2 j v hv)
section
attribute [local go_sem ↓] wp_at_zero wp_at_succ
def adB (r:Int×List fQ) (w:H) (e:dN) (w':H):Prop:=∃(a:aC) (n c:Nat) (x:Int),e=bG (aL #[O a n c,Y Z x,Y Z r.1])/\cH mS 7 (λb=>w.heap.size<=b) w' a n r.2 /\ay w w w'
theorem XD {P:Program} (t e:dy) (z:aj) (size bytes:Nat) (ht:P.underlying t=A (.slice e)) (amH:(P.info? e).map (λi=>(i.zero,i.size,i.bytes))=A (A z,size,bytes)) (kl kc:IntKind) (n:Nat) (G9:bytes*n<=281474976710656) (JT:n<=9223372036854775807) (w:H):
 (Instr.makeSlice t (Y kl (n:Int)) (Y kc (n:Int))).run P w= .ok (O w n n) (li w (ag (jz z.cells (n*size)) e)):=by
 obtain⟨i,hi,Mu⟩:=Option.map_eq_some_iff.1 amH;simp only[Prod.mk.injEq]at Mu;obtain⟨hz,hs,hb⟩:=Mu;have sG:(i.bytes:Int)*(n:Int)<=281474976710656:=by
  have h:((i.bytes*n:Nat):Int)<=281474976710656:=by rw[hb];omega
  rwa[Int.natCast_mul]at h
 have hr:=run_make (P:=P) w t e i z ht hi hz kl kc n n U (Int.le_refl _) sG U;simp only[jx,hs]at hr;exact hr
theorem amI:(aq.info? 274).map (λi=>(i.zero,i.size,i.bytes))=A (A (aP G),1,8):=Q2Q
theorem amJ:(aq.info? 278).map (λi=>(i.zero,i.size,i.bytes))=A (A (aF #[aK ae,O G 0 0,Y Z 0,O G 0 0,O G 0 0,Y Z 0,O G 0 0]),7,120):=Q2Q
theorem XE (z:Array aj) (n j:Nat) (hj:j<n):(jz z n)[j]? =A z[j%z.size]! :=by
 unfold jz;simp[hj]
theorem kV.made (S:Nat->Prop) (h:w.heap[bb]? =A (ag (jz #[aP G] n) 274 (0,0))):kV S bb w (dz n G):=by
 refine⟨dz n (aP G),?_,Q2W,λi x hx=>⟨aP G,?_,?_⟩⟩
 .rw[h,<-toList_madeCells_one]
 .have hi:=(fX.1 hx).1;rw[sw]at hi;simp[hi]
 .have hi:=(fX.1 hx).1;rw[sw]at hi;rw[List.getElem?_replicate,aR hi]at hx;injection hx with hx;subst hx;rfl
theorem xT.made (h:w.heap[bo]? =A (ag (jz #[aK ae,O G 0 0,Y Z 0,O G 0 0,O G 0 0,Y Z 0,O G 0 0] (n*7)) 278 (0,0))):xT bo w (dz n fQ.none):=by
 refine⟨_,h,Q4N,λi x hx=> ?_⟩;have hi:=(fX.1 hx).1;rw[sw]at hi;rw[List.getElem?_replicate,aR hi]at hx;injection hx with hx;subst hx;refine⟨_,mS.none _ _,λj v hv=> ?_⟩;have hj:j<7:=(Array.getElem?_eq_some_iff.1 hv).1;rw[XE _ _ _ U,<-hv];have:(i*7+j)%7=j:=U
 match j,hj,this with
 |0,_,h=>simp[h]
 |1,_,h=>simp[h]
 |2,_,h=>simp[h]
 |3,_,h=>simp[h]
 |4,_,h=>simp[h]
 |5,_,h=>simp[h]
 |6,_,h=>simp[h]
theorem xT.set {l:List fQ} {x:fQ} {y0 y1 y2 y3 y4 y5 y6:aj} (h:xT bo w l) (hx:mS (λb=>bo<b) w #[y0,y1,y2,y3,y4,y5,y6] x) (hk:k<l.length):
 xT bo (ss (ss (ss (ss (ss (ss (ss w ⟨bo,k*7,G⟩ y0) ⟨bo,k*7+1,G⟩ y1) ⟨bo,k*7+2,G⟩ y2) ⟨bo,k*7+3,G⟩ y3) ⟨bo,k*7+4,G⟩ y4) ⟨bo,k*7+5,G⟩ y5) ⟨bo,k*7+6,G⟩ y6) (l.set k x):=by
 obtain⟨cs,h1,h2,h3⟩:=h;have kp:ar w (λb=>b=bo) w (ss (ss (ss (ss (ss (ss (ss w ⟨bo,k*7,G⟩ y0) ⟨bo,k*7+1,G⟩ y1) ⟨bo,k*7+2,G⟩ y2) ⟨bo,k*7+3,G⟩ y3) ⟨bo,k*7+4,G⟩ y4) ⟨bo,k*7+5,G⟩ y5) ⟨bo,k*7+6,G⟩ y6):=((((((((ar.cP w (λb=>b=bo) w).set (aM rfl) _ _).set (aM rfl) _ _).set (aM rfl) _ _).set (aM rfl) _ _).set (aM rfl) _ _).set (aM rfl) _ _).set (aM rfl) _ _);have mv:∀ds z,mS (λb=>bo<b) w ds z->mS (λb=>bo<b) _ ds z:=λds z hz=>rX.move (fJ:=λb=>bo<b) hz kp (λb hb h=>⟨hb,U,h⟩);refine⟨_,dF (dF (dF (dF (dF (dF (dF h1 y0) y1) y2) y3) y4) y5) y6,by simp[h2],λi z hz=> ?_⟩;by_cases e:k=i
 .subst e;rw[List.getElem?_set_self hk]at hz;injection hz with hz;subst hz;refine⟨_,mv _ _ hx,λj v hv=> ?_⟩;have hj:j<7:=(Array.getElem?_eq_some_iff.1 hv).1;have hs:k*7+6<cs.size:=U;rcases(show j=0\/j=1\/j=2\/j=3\/j=4\/j=5\/j=6 by omega)with rfl|rfl|rfl|rfl|rfl|rfl|rfl
  all_goals
   simp only[List.getElem?_toArray,List.getElem?_cons_zero,List.getElem?_cons_succ,Option.some.injEq]at hv;subst hv;simp[Array.getElem?_setIfInBounds,Array.size_setIfInBounds];omega
 .rw[List.getElem?_set_ne e]at hz;obtain⟨ds,e1,e2⟩:=h3 i z hz;refine⟨ds,mv _ _ e1,λj v hv=> ?_⟩;have hj:j<7:=by rw[<-rX.size e1];exact(Array.getElem?_eq_some_iff.1 hv).1
  rw[Array.getElem?_setIfInBounds_ne U,Array.getElem?_setIfInBounds_ne U,Array.getElem?_setIfInBounds_ne U,Array.getElem?_setIfInBounds_ne U,Array.getElem?_setIfInBounds_ne U,Array.getElem?_setIfInBounds_ne U,Array.getElem?_setIfInBounds_ne U];exact e2 j v hv
theorem amK:aq.underlying 270=A (.slice 274):=Q2Q
theorem amL:aq.underlying 218=A (.slice 278):=Q2Q
theorem amM (m:Mod) (ps:List bD) (T:List az) (Z5:List (List Int)) (g:az) (au step:Int) (ok okT okG:Nat->Prop) (xa:aC) (xl xm:Nat) (pa:aC) (pl pm:Nat) (tb tq tn tm:Nat) (ga:aC) (gn gm:Nat) (ca:aC) (cl cc:Nat) (gv:aj) (w:H)
 (hx:cH iM 7 ok w xa xl m.L) (hp:pH w pa pl ps) (hT:cH Ay 3 okT w (A ⟨tb,tq,G⟩) tn T) (hG:cH rO 1 okG w ga gn Z5) (hg:fu aO w gv g) (hs:0<=step/\step<=1000000) (jd:m.qT ps=true) (GI:T.length=m.L.length+1) (JA:Z5.length=T.length) (kU:w ⟨tb,tq,G⟩=A (O ca cl cc)) (Qz:1<=cc) (hu:P.Z4 au):
 aA aq 134 #[aF (m.cells xa xl xm),O pa pl pm,aF #[O (A ⟨tb,tq,G⟩) tn tm,O ga gn gm],gv,Y cD au,Y Z step] w (adB (Bk.run m ps T Z5 g au step) w):=by
 obtain⟨da,dl,dc,za,zl,zc,rfl,g1,g2⟩:=hg;have K0:=V (((aE.lj w (ag (m.cells xa xl xm) 25) (pV (A ⟨tb,tq,G⟩) tn tm ga gn gm) (bj da dl dc g.e za zl zc)).alloc (ag #[Y Z m.a,Y Z m.b,Y Z m.c,O xa xl xm,O pa pl pm,O (A ⟨tb,tq,G⟩) tn tm,O ga gn gm,O G 0 0,Y cD au,Y Z step] 272)).and (aE.new _ (ag #[Y Z m.a,Y Z m.b,Y Z m.c,O xa xl xm,O pa pl pm,O (A ⟨tb,tq,G⟩) tn tm,O ga gn gm,O G 0 0,Y cD au,Y Z step] 272)));have KR:=V (((hx.bt gL U).and (hp.bt.and ((hT.bt qZ U).and (hG.bt lX U)))).and ((g1.bt.and g2.bt).and (aE.cell kU)));obtain⟨R,hR⟩:=J (Bk.run m ps T Z5 g au step);rw[hR];unfold Bk.run at hR;have HR:=V hR;have r9:T.length=tn:=hT.1;have fP:m.L.length=xl:=hx.1;unfold aS;clear hx hp hT hG hR;have f0:=eQ K0.F.1.1;go_enter func134,ntmps134;go_upto_region 2 with fail;obtain⟨w1,eI⟩:∃u,li (li (li (li w (ag (m.cells xa xl xm) 25)) (pV (A ⟨tb,tq,G⟩) tn tm ga gn gm)) (bj da dl dc g.e za zl zc)) (ag #[Y Z m.a,Y Z m.b,Y Z m.c,O xa xl xm,O pa pl pm,O (A ⟨tb,tq,G⟩) tn tm,O ga gn gm,O G 0 0,Y cD au,Y Z step] 272)=u:=⟨_,rfl⟩;rw[eI]at K0⊢;have eg:(li (li (li w (ag (m.cells xa xl xm) 25)) (pV (A ⟨tb,tq,G⟩) tn tm ga gn gm)) (bj da dl dc g.e za zl zc)).heap.size=w.heap.size+1+1+1:=Q4u;rw[eg]at K0;clear eI eg;have Lh:=V (λ(S:Nat->Prop) (bb bn:Nat) (u:H) (hb:ay w w u) (hS:∀b,S b->w.heap.size<=b) (bk:aj) (hc:u.heap[w.heap.size+1+1+1]? =A (ag ((λ(S:Nat->Prop) (bb bn:Nat) (bk:aj)=>(⟨m,ps,T,Z5,au,step,xa,xl,xm,pa,pl,pm,A ⟨tb,tq,G⟩,tn,tm,ga,gn,gm,S,bb,bn,bk⟩:PA)) S bb bn bk).cells 272 (0,0)))=>(show((λ(S:Nat->Prop) (bb bn:Nat) (bk:aj)=>(⟨m,ps,T,Z5,au,step,xa,xl,xm,pa,pl,pm,A ⟨tb,tq,G⟩,tn,tm,ga,gn,gm,S,bb,bn,bk⟩:PA)) S bb bn bk).at (w.heap.size+1+1+1) u from by
  obtain⟨⟨h1,h2,h3,h4⟩,-⟩:=KR.F;have kp:=ar.cZ (S:=λ_=>False) hb;exact⟨hc,h1.move gL U kp (λb aT _=>⟨aT,id,λe=>E (hS b e)⟩),(KR.aQ hb).1.2.1,h3.move qZ U kp (λb aT _=>⟨aT,id,λe=>E (hS b e)⟩),h4.move lX U kp (λb aT _=>⟨aT,id,λe=>E (hS b e)⟩)⟩))
 have KW:=V (KR.aQ K0.F.1.2.2.2);have MY:=V (amB ((λ(S:Nat->Prop) (bb bn:Nat) (bk:aj)=>(⟨m,ps,T,Z5,au,step,xa,xl,xm,pa,pl,pm,A ⟨tb,tq,G⟩,tn,tm,ga,gn,gm,S,bb,bn,bk⟩:PA)) (λ_=>False) 0 0 (O G 0 0)) (w.heap.size+1+1+1) g (aS da dl dc g.e za zl zc) g [] tb tq ca cl cc w1 (Lh.I _ _ _ w1 K0.F.1.2.2.2 (λb h=>h.elim) _ K0.F.2) ⟨_,_,_,_,_,_,rfl,KW.I.2.1.1,KW.I.2.1.2⟩ hs jd GI JA rfl KW.I.2.2 Qz);dsimp only at MY
 unfold aS at MY;have y0:=bP K0.F.1.2.2.1;generalize uZ:Bk.aH m T g=my at*;go_wp2_with fail;refine bY MY.I λw2 hb=> ?_;have K2:=K0.bU hb;clear K0 hb MY y0;by_cases ng:my=0
 case neg=>
  have e1:(my != 0)=true:=by simpa using ng
  obtain rfl:(my,[])=R:=by rw[<-HR.I,aR ng]
  go_wp2_with fail;refine aZ (v:=aL #[O G 0 0,Y Z 0,Y Z my]) Q5i rfl ⟨G,0,0,_,rfl,cH.nil _ _ _ _ _,K2.F.1.2.2.2⟩
 subst ng;have cU:=V (show Bk.pO m ps T Z5 au step m.L.length ((dz T.length G).set m.L.length (A g)) (dz m.L.length fQ.none)=R from Q4x);have yQ:=V uZ;clear HR uZ;have a0:=nj K2.F.1.2.1;have f0:=eQ K2.F.1.1;obtain⟨s0,s1,s2,s3,s4,s5,s6,s7,s8,s9⟩:=nW K2.F.2;have qf:=λZ3=>cE (dX K2.F.2 Z3) 7;have q7:=(uy s7).1;have iB:=Mod.E9 (Mod.Qw jd);have ur:=λw:H=>XD (P:=aq) 270 274 (aP G) 1 8 amK amI Z Z tn U U w;go_upto_region 6 with fail;clear qf ur;have D7:=bH K2.F.2;have ku:=bZ w2 (ag (jz #[aP G] tn) 274);have gX:=aD w2 (ag (jz #[aP G] tn) 274);have K3:=K2.bU gX;obtain⟨MW,QR⟩:∃u,li w2 (ag (jz #[aP G] tn) 274)=u:=⟨_,rfl⟩;obtain⟨bb,gN⟩:∃u,w2.heap.size=u:=⟨_,rfl⟩;rw[QR,gN]at ku;rw[QR]at K3;rw[QR,gN]at⊢;rw[gN]at D7;have amN:=bH ku;clear QR gN gX;have cI:∀b,b≠w.heap.size+1+1+1->(MW.setCell ⟨w+1+1+1,7,G⟩ (O bb tn tn)).heap[b]? =MW.heap[b]? :=λb h=>gj _ h;have hP3:=dF (f:=7) K3.F.2 (O bb tn tn);have Gw:=V (show(MW.setCell ⟨w+1+1+1,7,G⟩ (O bb tn tn)).heap[w.heap.size+1+1+1]? =A (ag ((λ(S:Nat->Prop) (bb bn:Nat) (bk:aj)=>(⟨m,ps,T,Z5,au,step,xa,xl,xm,pa,pl,pm,A ⟨tb,tq,G⟩,tn,tm,ga,gn,gm,S,bb,bn,bk⟩:PA)) (λb=>b=bb) bb tn (O bb tn tn)).cells 272 (0,0))from by simpa using hP3);have LZ:=V ((cI _ U).trans K3.F.1.1);have Xo:=V ((cI _ U).trans K3.F.1.2.2.1);have gV:=V ((cI bb U).trans ku);have zG:=V (K3.F.1.2.2.2.setCell (p:=⟨w+1+1+1,7,G⟩) (by show w.heap.size<=w+1+1+1;omega) (O bb tn tn));clear cI ku K3;have nK:bb<(MW.setCell ⟨w+1+1+1,7,G⟩ (O bb tn tn)).heap.size:=by rw[jR];exact amN
 generalize MW.setCell ⟨w+1+1+1,7,G⟩ (O bb tn tn)=w3 at*;have XF:xl<tn:=U;have hxi:(xl:Int)<(tn:Int):=Int.ofNat_lt.2 XF;have uC:(0:Int)<=(xl:Int):=Int.natCast_nonneg _;refine cS (λw':H=>w'.heap[w.heap.size+1+1+1]? =A (ag ((λ(S:Nat->Prop) (bb bn:Nat) (bk:aj)=>(⟨m,ps,T,Z5,au,step,xa,xl,xm,pa,pl,pm,A ⟨tb,tq,G⟩,tn,tm,ga,gn,gm,S,bb,bn,bk⟩:PA)) (λb=>b=bb) bb tn (O bb tn tn)).cells 272 (0,0))/\w'.heap[w.heap.size]? =A (ag (m.cells xa xl xm) 25 (0,0))) (eE (⟨Gw.I,LZ.I⟩) λhS=>bR hS [0,4,1,5,2,6,3,7] (λ_ h=>aw (nW h.1) (eQ h.2)) ?_);have xO:(w3.drew) ⟨bb,xl,G⟩=A (aP G):=bh (w:=w3.drew) gV.I xl (by rw[XE _ _ _ XF];simp[Nat.mod_one]);have qf:(w3.drew).frozen? ⟨bb,xl,G⟩=ae:=cE (w:=w3.drew) gV.I xl;have cI:∀b,b≠bb->((ss w3 ⟨bb,xl,G⟩ (aP (w+1+1:Nat))).drew).heap[b]? =w3.heap[b]? :=λb h=>gj _ h;refine bL 8 λK hK=> ?_;go_simp;refine bB hK (⟨(cI _ U).trans Gw.I,(cI _ U).trans LZ.I⟩) ?_;refine bW ?_;have dQ:((ss w3 ⟨bb,xl,G⟩ (aP (w+1+1:Nat))).drew).heap.size=w3.heap.size:=by show(ss w3 _ _).heap.size=_;rw[jR]
 have zy:=V ((cI _ U).trans Gw.I);have BA:=V ((cI _ U).trans LZ.I);have wO:=V (show ay w w ((ss w3 ⟨bb,xl,G⟩ (aP (w+1+1:Nat))).drew)from(zG.I.setCell (p:=⟨bb,xl,G⟩) (show w.heap.size<=bb by omega) _).bI 1);have oI:=V (show kV (λb=>b=bb\/b=w3.heap.size) bb ((ss w3 ⟨bb,xl,G⟩ (aP (w+1+1:Nat))).drew) ((dz T.length G).set m.L.length (A g))from by
  have hr:=(KR.aQ zG.I).2.1;have h0:=KR.F.2.1;rw[r9,fP];have h1:=(kV.made (λb=>b=bb\/b=w3.heap.size) gV.I).set (aM rfl) (i:=xl) (v:=aP (w+1+1:Nat)) (x:=A g) ⟨_,_,_,_,_,_,_,rfl,λe=>Q4H,(di.block Xo.I (λe=>Q4H)).and (λw' kp=>⟨kp.gH hr.1 (λx hx hz=>⟨hr.1.bC hz hx,λe=>by have:=h0.1.bC hz hx;rcases e with e|e<;>omega⟩),kp.gH hr.2 (λx hx hz=>⟨hr.2.bC hz hx,λe=>by have:=h0.2.bC hz hx;rcases e with e|e<;>omega⟩)⟩)⟩ (by rw[sw];exact XF);exact h1.below (below_drewN _ 1))
 clear cI xO qf hS;obtain⟨bo,cy⟩:∃u,w3.heap.size=u:=⟨_,rfl⟩;rw[cy]at dQ oI nK;clear cy;generalize(ss w3 ⟨bb,xl,G⟩ (aP (w+1+1:Nat))).drew=w4 at*;have ur:=λw:H=>XD (P:=aq) 218 278 (aF #[aK ae,O G 0 0,Y Z 0,O G 0 0,O G 0 0,Y Z 0,O G 0 0]) 7 120 amL amJ Z Z xl U U w;obtain⟨f0,f1,f2,f3⟩:=eQ BA.I;obtain⟨-,-,-,f3a⟩:=aw trivial (aw trivial (aw trivial (uy f3).1));go_wp2_with fail;clear f3a ur;have XG:=bZ w4 (ag (jz #[aK ae,O G 0 0,Y Z 0,O G 0 0,O G 0 0,Y Z 0,O G 0 0] (xl*7)) 278);have gi:=aD w4 (ag (jz #[aK ae,O G 0 0,Y Z 0,O G 0 0,O G 0 0,Y Z 0,O G 0 0] (xl*7)) 278);have qY:=show(li w4 (ag (jz #[aK ae,O G 0 0,Y Z 0,O G 0 0,O G 0 0,Y Z 0,O G 0 0] (xl*7)) 278)).heap.size=w4.heap.size+1 from bF _ _
 rw[dQ]at XG qY;have vT:=V (bV zy.I gi);have sP:=V (wO.I.step gi);have Jz:=V (oI.I.below gi);have amO:=V (xT.made XG);clear XG oI;generalize li w4 (ag (jz #[aK ae,O G 0 0,Y Z 0,O G 0 0,O G 0 0,Y Z 0,O G 0 0] (xl*7)) 278)=w5 at*;rw[r9,fP]at Jz;rw[r9,fP]at cU;have Cf:bo<w5:=U;clear qY dQ;have QS:∀b,(b=bb\/b=bo)->w.heap.size<=b:=λb h=>by rcases h with h|h<;>omega
 have HQs:=V (λu (hu:ar w5 (λb=>b=bb\/b=bo) w5 u)=>(show((λ(S:Nat->Prop) (bb bn:Nat) (bk:aj)=>(⟨m,ps,T,Z5,au,step,xa,xl,xm,pa,pl,pm,A ⟨tb,tq,G⟩,tn,tm,ga,gn,gm,S,bb,bn,bk⟩:PA)) (λb=>b=bb\/b=bo) bb tn (O bb tn tn)).at (w.heap.size+1+1+1) u from
  Lh.I _ _ _ u (Below.gh sP.I hu (λb hb=>⟨Q59,λe=>E (QS b e)⟩)) QS _ (hu.bC (E (bH vT.I)) (λe=>Q4H) vT.I)))
 have oO:=V fP;have AF:=V r9;have asw:xl<=12:=U;clear fP r9 iB;go_loopw [18,19,20] (λi _ _ wr=>∃(k:Nat) (back:List (Option az)) (I:List fQ),k<=xl/\i=Y Z k/\kV (λb=>b=bb\/b=bo) bb wr back/\back.length=tn/\xT bo wr I/\I.length=xl/\Bk.pO m ps T Z5 au step k back I=R/\ar w5 (λb=>b=bb\/b=bo) w5 wr) (λi _ _ _=>(aX i).toNat)
 case atStart=>exact⟨xl,_,_,bu _,rfl,Jz.I,Q2W,amO.I,Q2W,cU.I,ar.cP _ _ _⟩
 case round=>
  obtain⟨k,back,I,hk,rfl,jX,vJ,wP,hol,nU,cA⟩:=hrel;have oI:=V jX;have Gi:=V wP;have iW:=V nU;have vH:=V cA;clear jX wP nU cA Jz cU
  cases k with
  |zero=>
   obtain rfl:(0,I)=R:=iW.I;have e0:decide ((0:Int)<((0:Nat):Int))=ae:=rfl;go_wp2_with fail;refine aZ (v:=aL #[O bo xl xl,Y Z 0,Y Z 0]) Q5i rfl ⟨_,_,_,_,rfl,?_,Below.gh sP.I vH.I (λb hb=>⟨Q59,λe=>E (QS b e)⟩)⟩;have h:=Gi.I.on U;rw[hol]at h;exact h.move rX U (ar.cP wr (λ_=>False) wr) (λb hb h=>⟨hb,id,U⟩)
  |succ k=>
   have Ql:k<xl:=U;obtain⟨x,hx⟩:∃x,m.L[k]? =A x:=⟨m.L[k]'(by rw[oO.I];exact Ql),Q2W⟩;obtain⟨p,hp⟩:∃p,ps[k]? =A p:=⟨ps[k]'(by rw[Mod.adh jd,oO.I];exact Ql),Q2W⟩;obtain⟨t,ht⟩:∃t,T[k]? =A t:=⟨T[k]'(by rw[AF.I];omega),Q2W⟩;obtain⟨ls,sn,se,mM⟩:∃ls sn se,m.iy=(ls,sn,se):=⟨_,_,_,rfl⟩;have xu:se=0:=by
    have h:=jd;unfold Mod.qT at h;rw[fS,mM]at h;exact eZ h.1
   subst xu;have iw:=V (iW.I.symm.trans (Bk.amG hx hp ht back I)).symm;have pM:=V (Bk.amF x p (Z5.getD (k+1) []) t back k au step);have LY:=V (amw ((λ(S:Nat->Prop) (bb bn:Nat) (bk:aj)=>(⟨m,ps,T,Z5,au,step,xa,xl,xm,pa,pl,pm,A ⟨tb,tq,G⟩,tn,tm,ga,gn,gm,S,bb,bn,bk⟩:PA)) (λb=>b=bb\/b=bo) bb tn (O bb tn tn)) (w.heap.size+1+1+1) k x p t back wr (aM rfl) (λb h=>by have:=vH.I.size;rcases h with h|h<;>omega) rfl (λu hu=>HQs.I u (vH.I.trans' hu vH.I.size)) oI.I vJ hx hp ht U (by show k+1<tn;omega) (by show tn<=1000;have h1:=AF.I;have h2:=oO.I;omega) hu (λh2=>Bk.amC yQ.I mM hx h2 ht) (λ_=>by show k+1<Z5.length;rw[JA,AF.I];omega) (λh7=>by
    have:=Mod.LB (Mod.Qw jd) hx h7;show 0<=x.aJ/\x.aJ<(tn:Int)
    omega))
   dsimp only at LY
   obtain⟨r,hr⟩:=J (Bk.fN x p (Z5.getD (k+1) []) t back k au step);rw[hr]at LY iw pM;obtain⟨re,rg,rb⟩:=r;have Gy:decide ((0:Int)<((k+1:Nat):Int))=true:=dI U;clear hx hp ht mM hr;go_wp2_with fail;refine LY.I.mono ?_;rintro e' w6 ⟨cs,rfl,ld,jX,qU⟩;have MR:=V jX;have lH:=V qU;have ou:=vH.I.size;have m9:=qU.size;have Gz:=V (rX.move (fJ:=λb=>bo<b) ld (ar.cP w6 (λ_=>False) w6) (λb hb h=>⟨hb,id,U⟩));have amP:=V (Gi.I.bt qU (bu _) (λb h e=>by have e:b=bb:=e;omega));obtain⟨b1,n1,d1,b2,n2,d2,b4,n4,d4,b5,n5,d5,rfl,-⟩:=ld;clear jX LY oI;have gX:=aD w6 (tZ rg.has b1 n1 d1 rg.w.e b2 n2 d2 b4 n4 d4 rg.b.e b5 n5 d5);have xK:=bZ w6 (tZ rg.has b1 n1 d1 rg.w.e b2 n2 d2 b4 n4 d4 rg.b.e b5 n5 d5);have i7:∀[Inhabited Nat],Z.wrap ((k:Int)+1-1)=(k:Int):=by intro _;rw[show(k:Int)+1-1=(k:Int) by omega];exact dv _ U
   have i8:∀[Inhabited Nat],cM (k:Int)=(k:Int):=λ[_]=>iZ _ ⟨U,U⟩;have i9:∀[Inhabited Nat],Z.wrap (k:Int)=(k:Int):=λ[_]=>dv _ U;have Zp:(k:Int)<(xl:Int):=Int.ofNat_lt.2 Ql;dsimp only
   go_upto_region 12 with fail;obtain⟨w7,Lc⟩:∃u,li w6 (tZ rg.has b1 n1 d1 rg.w.e b2 n2 d2 b4 n4 d4 rg.b.e b5 n5 d5)=u:=⟨_,rfl⟩;obtain⟨gb,Az⟩:∃u,w6.heap.size=u:=⟨_,rfl⟩;rw[Lc]at gX xK⊢;have nh:=V (lH.I.trans' (ar.cZ (S:=λb=>b=bb) gX) m9);have GD:=V (MR.I.below gX);have adC:=V (amP.I.bt (ar.cZ (S:=λ_=>False) gX) (bu _) (λ_ _=>id));have MP:=V (rX.move (fJ:=λb=>bo<b) Gz.I (ar.cZ (S:=λ_=>False) gX) (λb hb h=>⟨hb,id,h⟩));have Hx:=gX.size;rw[Az]at xK⊢;have z0:=bE xK;clear Lc gX xK Az;by_cases jn:re=0
   case neg=>
    have e1:(re != 0)=true:=Q3M;obtain rfl:(re,[])=R:=by have h:=iw.I;rwa[aR jn]at h
    go_wp2_with fail;refine aZ (v:=aL #[O G 0 0,Y Z ((k:Int)+1),Y Z re]) Q5i rfl ⟨G,0,0,_,rfl,cH.nil _ _ _ _ _,Below.gh sP.I (vH.I.trans' (nh.I.mono (bu _) (λb _ h=>aM h)) ou) (λb hb=>⟨Q59,λe=>E (QS b e)⟩)⟩
   subst jn;have qv:=V (show Bk.pO m ps T Z5 au step k rb (I.set k rg)=R from by have h:=iw.I;rwa[aI bK]at h);have Jy:=V (adC.I.set MP.I (k:=k) U);have Qz:=adC.I;obtain⟨oc,MZ,ho2,-⟩:=Qz;have qf:=λj=>cE MZ j;have qc:∀j,j<7->∃v,w7 ⟨bo,k*7+j,G⟩=A v:=λj hj=>⟨oc[k*7+j]'U,bh MZ _ bK⟩;obtain⟨v0,q0⟩:=qc 0 U;obtain⟨v1,q1⟩:=qc 1 U;obtain⟨v2,q2⟩:=qc 2 U;obtain⟨v3,q3⟩:=qc 3 U;obtain⟨v4,q4⟩:=qc 4 U;obtain⟨v5,q5⟩:=qc 5 U;obtain⟨v6,q6⟩:=qc 6 U;simp only[eL]at q0;clear qc iw;have Tz:=V (λy0 y1 y2 y3 y4 y5 y6:aj=>((((((((ar.cP w7 (λb=>b=bo) w7).set (aM rfl) (k*7) y0).set (aM rfl) (k*7+1) y1).set (aM rfl) (k*7+2) y2).set (aM rfl) (k*7+3) y3).set (aM rfl) (k*7+4) y4).set (aM rfl) (k*7+5) y5).set (aM rfl) (k*7+6) y6));go_wp2_with fail;go_roundw
   case rel=>
    have kp:=Tz.I (aK rg.has) (O b1 n1 d1) (Y Z rg.w.e) (O b2 n2 d2) (O b4 n4 d4) (Y Z rg.b.e) (O b5 n5 d5);exact⟨k,rb,I.set k rg,U,rfl,GD.I.bt (kp.mono (bu _) (λb _ h=>bJ h)) (kp.block bb GD.I.lt U),pM.I.trans vJ,Jy.I,by rw[List.length_set];exact hol,qv.I,vH.I.trans' ((nh.I.mono (bu _) (λb _ h=>aM h)).trans' (kp.mono (bu _) (λb _ h=>bJ h)) nh.I.size) ou⟩
   case measure=>simp[aX]
end
def dJ.zero:dJ:=⟨0,0,[]⟩
namespace Tr
def pz (d:dL) (h:iV) (s:dJ):Int×az×List Int:=Bt.of d (B.which s.au (d.xs.length:Int) h.b s.step)
def act (m:Mod) (d:dL) (h:iV) (s:dJ):Int×Int×List az×List (List Int):=Fw.run m s.ps (pz d h s).2.1 s.au s.step
def AG (m:Mod) (d:dL) (h:iV) (s:dJ):Int×az:=L.xI (Fw.last (act m d h s).2.2.1) (pz d h s).2.2
def AH (m:Mod) (d:dL) (h:iV) (s:dJ):Int×List fQ:=Bk.run m s.ps (act m d h s).2.2.1 (act m d h s).2.2.2 (AG m d h s).2 s.au s.step
def xU (m:Mod) (d:dL) (h:iV) (s:dJ):Int×List bD:=ZY.all s.ps (AH m d h s).2 h s.au s.step
def next (m:Mod) (d:dL) (h:iV) (s:dJ):Int×dJ:=
 if ¬(d.aH=true/\h.aH=true/\s.aH=true/\m.qT s.ps=true)then(1,dJ.zero)
 else if s.step=1000000 then(11,dJ.zero)
 else if m.goes d h≠0 then(m.goes d h,dJ.zero)
 else if(pz d h s).1 ≠0 then((pz d h s).1,dJ.zero)
 else if(act m d h s).1 ≠0 then((act m d h s).1,dJ.zero)
 else if(AG m d h s).1 ≠0 then((AG m d h s).1,dJ.zero)
 else if(AH m d h s).1 ≠0 then((AH m d h s).1,dJ.zero)
 else if(xU m d h s).1 ≠0 then((xU m d h s).1,dJ.zero)
 else(0,⟨s.au,s.step+1,(xU m d h s).2⟩)
end Tr
def adD (r:Int×dJ) (w:H) (e:dN) (w':H):Prop:=∃(a:aC) (n c:Nat),e=bG (aL #[aF (r.2.cells a n c),Y Z r.1])/\rM (λb=>w.heap.size<=b) w' a n r.2.ps/\ay w w w'
namespace Tr
def tells (m:Mod) (k:Int):Bool:=decide (m.iy.2.2 =0)&&decide (m.iy.1.getD (m.iy.1.length-1) []=[k])
def one (m:Mod) (d:dL) (ps:List bD) (i:Nat):Int×Int:=
 if(Bt.of d [(i:Int)]).1 ≠0 then(0,(Bt.of d [(i:Int)]).1)
 else if(Fw.infer m ps (Bt.of d [(i:Int)]).2.1).1 ≠0 then(0,(Fw.infer m ps (Bt.of d [(i:Int)]).2.1).1)
 else if(L.right (Fw.infer m ps (Bt.of d [(i:Int)]).2.1).2.2 (Bt.of d [(i:Int)]).2.2).2 ≠0 then(0,(L.right (Fw.infer m ps (Bt.of d [(i:Int)]).2.1).2.2 (Bt.of d [(i:Int)]).2.2).2)
 else((L.right (Fw.infer m ps (Bt.of d [(i:Int)]).2.1).2.2 (Bt.of d [(i:Int)]).2.2).1,0)
def GL (m:Mod) (d:dL) (ps:List bD) (i:Nat) (n:Int):Nat->Int×Int
 |0=>(n,0)
 |k+1=>if(one m d ps i).2 ≠0 then(0,(one m d ps i).2)else GL m d ps (i+1) (cM (n+(one m d ps i).1)) k
def eval (m:Mod) (d:dL) (ps:List bD):Int×Int:=
 if ¬(d.aH=true/\m.qT ps=true)then(0,1)
 else if ¬(d.a=m.a/\d.b=m.b/\d.c=m.c)then(0,2)
 else if tells m d.k=ae then(0,2)
 else GL m d ps 0 0 d.xs.length
end Tr
structure fd where
 aN:List (List Int)
 sure:List (List Int)
 n:Nat
 ops:Int
namespace fd
def new (n:Nat):fd:=⟨dz n (dz 64 0),dz n (dz 64 0),0,0⟩
def write (d:fd) (i:Nat) (b:ah):fd:=⟨d.aN.set i b,d.sure,d.n+1,d.ops+1⟩
def flush (d:fd):fd:=⟨d.aN,d.aN,0,d.ops+1⟩
def u9 (d:fd):fd:=⟨d.sure,d.sure,0,d.ops⟩
end fd
namespace Jr
def ro (n:Nat):Nat:=(n+63)/64
def xW (gen:Int) (b:ah):List Int:=[112,100,103,113]++(ZY.put gen 4++(ZY.put (b.length:Int) 4++ZY.put ((jt.of b).toNat:Int) 4))
def head (gen:Int) (b:ah):List Int:=(xW gen b++ZY.put ((jt.of (xW gen b)).toNat:Int) 4)++dz 44 0
def GM (h:ah):Int:=(((⟨h,0⟩:dH).take 4).2.u32).1
def lenOf (h:ah):Int:=((((⟨h,0⟩:dH).take 4).2.u32).2.u32).1
def adL (D:List (List Int)) (half slot:Nat) (h:ah):List Int×Int:=
 if GM h=0 then([],0)else if((half-1:Nat):Int)*64<lenOf h then([],0)
 else if h=head (GM h) ((((D.drop (slot*half+1)).take (ro (lenOf h).toNat)).flatten).take (lenOf h).toNat)then((((D.drop (slot*half+1)).take (ro (lenOf h).toNat)).flatten).take (lenOf h).toNat,GM h)else([],0)
def read (D:List (List Int)) (half slot:Nat):List Int×Int:=adL D half slot (D.getD (slot*half) [])
end Jr
structure Jn where
 half:Nat
 slot:Nat
 gen:Int
 last:List Int
namespace Jr
def pick (j:Jn) (slot:Nat) (r:List Int×Int):Jn:=if j.gen<r.2 then⟨j.half,slot,r.2,r.1⟩else j
def opened (D:List (List Int)):Jn:=pick (pick ⟨D.length/2,1,0,[]⟩ 0 (read D (D.length/2) 0)) 1 (read D (D.length/2) 1)
def all (b:ah):List Int:=b++dz (ro b.length*64-b.length) 0
def writes (b:ah) (aJ:Nat):Nat->fd->fd
 |0,d=>d
 |k+1,d=>(writes b aJ k d).write (aJ+1+k) (((all b).drop (k*64)).take 64)
def write (half slot:Nat) (gen:Int) (b:ah) (d:fd):fd:=((writes b (slot*half) (ro b.length) d).flush.write (slot*half) (head gen b)).flush
def commit (j:Jn) (d:fd) (b:ah):Int×Jn×fd:=
 if(j.half-1)*64<b.length\/j.gen=4294967295 then(8,j,d)else(0,⟨j.half,1-j.slot,j.gen+1,b⟩,write j.half (1-j.slot) (j.gen+1) b d)
end Jr
structure eY where
 m:Mod
 d:dL
 h:iV
 first:List Int
 s:dJ
 k:fd
 j:Jn
 saved:Int
 has:Bool
 failed:Int
namespace Tr
def check (t:eY):Int×eY:=
 if(ZY.encode t.s).1 ≠0 then((ZY.encode t.s).1,{t with failed:=min (t.failed+1) 1000000})
 else if(Jr.commit t.j t.k (ZY.encode t.s).2).1 ≠0 then((Jr.commit t.j t.k (ZY.encode t.s).2).1,{t with failed:=min (t.failed+1) 1000000})
 else(0,{t with j:=(Jr.commit t.j t.k (ZY.encode t.s).2).2.1,k:=(Jr.commit t.j t.k (ZY.encode t.s).2).2.2,saved:=t.s.step,has:=true})
def step (t:eY) (s:dJ):eY:=if 0<t.h.e/\s.step.tmod t.h.e=0 then(check {t with s:=s}).2 else{t with s:=s}
def vh (i:Nat) (t:eY):Nat->(Int×Int)×eY
 |0=>(((i:Int),0),t)
 |k+1=>if(next t.m t.d t.h t.s).1 ≠0 then(((i:Int),(next t.m t.d t.h t.s).1),t)else vh (i+1) (step t (next t.m t.d t.h t.s).2) k
def rq (t:eY) (n:Nat):(Int×Int)×eY:=vh 0 t n
def new (m:Mod) (d:dL) (h:iV) (au:Int) (n:Nat):Int×eY:=
 (0,⟨m,d,h,(ZY.encode ⟨au,0,(m.init au).2⟩).2,⟨au,0,(m.init au).2⟩,(fd.new n).flush,Jr.opened (fd.new n).aN,0,ae,0⟩)
def Cr (m:Mod) (d:dL) (h:iV) (au:Int):Int:=if ¬(d.aH=true/\h.aH=true)then 1 else if m.goes d h≠0 then m.goes d h else(m.init au).1
end Tr
theorem JF (f:Nat->Int) (n:Nat):(dU f n).length=n:=by simp[dU]
theorem Rh {x:Int} (h:x∈dU f n):∃i,x=f i:=by
 simp only[dU,List.mem_map]at h;obtain⟨i,_,rfl⟩:=h;exact⟨i,rfl⟩
theorem bD.anz:bD.nil.aH=true:=Q3u
theorem bD.iA {p:bD} (h1:T.aH p.w.d p.w.e p.w.z) (h2:p.m.length=p.w.z.length) (h3:∀x∈p.m,-1048576<=x/\x<=1048576) (h4:T.aH p.b.d p.b.e p.b.z) (h5:p.b.d.length=1):p.aH=true:=by
 have hg:p.m.any ZX.ni=ae:=by
  rw[List.any_eq_false];intro x hx;have:=h3 x hx;simp[ZX.ni];omega
 unfold bD.aH bD.moves az.ok;rw[dI h1,dI h2,dI h4,dI h5,hg];simp
theorem bD.nT {p:bD} (h:p.aH=true):p=bD.nil\/(T.aH p.w.d p.w.e p.w.z/\T.aH p.b.d p.b.e p.b.z/\p.b.d.length=1):=by
 unfold bD.aH bD.moves az.ok at h;rw[Bool.or_eq_true]at h;rcases h with h|h
 .exact aM (bD.UK h)
 .simp only[fS,decide_eq_true_eq]at h;exact bJ ⟨h.1,h.2.2.1,h.2.2.2⟩
theorem ZY.anA {p:bD} {g:fQ} {ly:Int} (hp:p.aH=true) (h0:(ZY.step p g h sd st ly).1 =0):(ZY.step p g h sd st ly).2.aH=true:=by
 unfold ZY.step at h0⊢;split at h0
 case isFalse=>cases h0
 rename_i c1;rw[aR c1];split at h0
 case isFalse c2=>rw[aI c2];exact hp
 rename_i c2;rw[aR c2];by_cases c3:ZY.y7 p g≠0
 .rw[aR c3]at h0;exact absurd h0 c3
 rw[aI c3]at h0⊢;by_cases c4:(T.small g.w h.w sd (ZX.stream st ly 3)).1 ≠0
 .rw[aR c4]at h0;exact absurd h0 c4
 rw[aI c4]at h0⊢;by_cases c5:(T.small g.b h.w sd (ZX.stream st ly 5)).1 ≠0
 .rw[aR c5]at h0;exact absurd h0 c5
 rw[aI c5];have f:=ZY.fit (p:=p) (g:=g) U;obtain⟨w1,w2,w3,w4⟩:=f.w;obtain⟨b1,b2,b3,b4⟩:=f.b;have gR:p.b.d.length=1:=by
  rcases bD.nT hp with rfl|h
  .exact absurd w1 eM
  .exact h.2.2
 have key:∀v:Int,(-128:Int)≠Rd.vB v 8:=λv h=>E (T.Ko v 8 U U);refine bD.iA ⟨w1,?_,?_,?_⟩ ?_ ?_ ⟨b1,?_,b3,?_⟩ gR
 .show((Dn.z7 _ _ _).length:Int)=_
  rw[Dn.z7,JF];exact w2
 .unfold Dn.weights Dn.up;dsimp only
  split
  .rename_i c;simp at c;omega
  .exact w3
 .exact Q26
 .show(dU _ _).length=(dU _ _).length
  rw[JF,JF];exact f.m
 .intro x hx;obtain⟨i,rfl⟩:=Rh (show x∈dU _ _ from hx);unfold Dn.mv;omega
 .show((dU _ _).length:Int)=_
  rw[JF];exact b2
 .exact Q26
theorem ZY.ae9:∀(ps:List bD) (i:Nat) (acc:List bD),(∀p∈ps,p.aH=true)->(∀p∈acc,p.aH=true)->(ZY.y8 h sd st gs i ps acc).1 =0->(∀p∈(ZY.y8 h sd st gs i ps acc).2,p.aH=true)/\(ZY.y8 h sd st gs i ps acc).2.length=acc.length+ps.length
 | [],i,acc,_,ha,_=>⟨ha,rfl⟩
 |p::ps,i,acc,hp,ha,h0=>by
  unfold ZY.y8 at h0⊢;by_cases c:(ZY.step p (gs.getD i fQ.none) h sd st ((i:Int)+1)).1 ≠0
  .rw[aR c]at h0;exact absurd h0 c
  rw[aI c]at h0⊢;have:=ZY.ae9 ps (i+1) _ (λq hq=>hp q (by simp[hq])) (λq hq=>by
   rcases kE.1 hq with hq|hq
   .exact ha q hq
   .rw[pS.1 hq];exact ZY.anA (hp p bK) U) h0
  exact Q23
theorem dJ.iA {s:dJ} (h1:0<=s.step) (h2:s.step<=1000000) (h3:s.ps.length<=12) (h4:∀p∈s.ps,p.aH=true):s.aH=true:=by
 unfold dJ.aH;rw[dI h1,dI h2,dI h3];have:s.ps.any (λp=> !p.aH)=ae:=by
  rw[List.any_eq_false];intro p hp;simp[h4 p hp]
 rw[this];rfl
theorem dJ.aea {s:dJ} (h:s.aH=true):(0<=s.step/\s.step<=1000000/\s.ps.length<=12)/\∀p∈s.ps,p.aH=true:=by
 unfold dJ.aH at h;simp only[fS,decide_eq_true_eq]at h;refine⟨⟨h.1,h.2.1,h.2.2.1⟩,λp hp=> ?_⟩;exact Q1K
theorem Tr.aeb {m:Mod} {d:dL} {s:dJ} (h0:(Tr.next m d h s).1 =0):(Tr.next m d h s).2.aH=true/\(Tr.next m d h s).2.au=s.au:=by
 unfold Tr.next at h0⊢;by_cases c1:¬(d.aH=true/\h.aH=true/\s.aH=true/\m.qT s.ps=true)
 .rw[aR c1]at h0;cases h0
 rw[aI c1]at h0⊢;by_cases c2:s.step=1000000
 .rw[aR c2]at h0;cases h0
 rw[aI c2]at h0⊢;by_cases c3:m.goes d h≠0
 .rw[aR c3]at h0;exact absurd h0 c3
 rw[aI c3]at h0⊢;by_cases c4:(Tr.pz d h s).1 ≠0
 .rw[aR c4]at h0;exact absurd h0 c4
 rw[aI c4]at h0⊢;by_cases c5:(Tr.act m d h s).1 ≠0
 .rw[aR c5]at h0;exact absurd h0 c5
 rw[aI c5]at h0⊢;by_cases c6:(Tr.AG m d h s).1 ≠0
 .rw[aR c6]at h0;exact absurd h0 c6
 rw[aI c6]at h0⊢;by_cases c7:(Tr.AH m d h s).1 ≠0
 .rw[aR c7]at h0;exact absurd h0 c7
 rw[aI c7]at h0⊢;by_cases c8:(Tr.xU m d h s).1 ≠0
 .rw[aR c8]at h0;exact absurd h0 c8
 rw[aI c8];have hm:=dJ.aea (Decidable.byContradiction (λc=>c1 (λk=>c k.2.2.1)):s.aH=true);refine⟨?_,rfl⟩;have h8:(Tr.xU m d h s).1 =0:=U;unfold Tr.xU ZY.all at h8⊢;split at h8
 case isFalse=>cases h8
 rename_i c9;rw[aR c9];have:=ZY.ae9 s.ps 0 [] hm.2 bK h8;exact dJ.iA (by show 0<=s.step+1;omega) (by show s.step+1<=_;omega) (by show List.length _<=12;rw[this.2];simpa using hm.1.2.2) this.1
theorem bD.anB {fN:Int} (h:0<Sh.size d) (h1:1<=n) (h2:n<=4096):(bD.made d n au fN).aH=true:=by
 have hn:Sh.size [(n:Int)]=n:=by
  unfold Sh.size;rw[aI bK,Sh.Hd U];simp[Sh.lC]
 refine bD.iA ⟨h,?_,by show(-64:Int)<= -7/\(-7:Int)<=64;omega,?_⟩ ?_ ?_ ⟨?_,?_,by show(-64:Int)<= -7/\(-7:Int)<=64;omega,?_⟩ rfl
 .show((dU _ _).length:Int)=_
  rw[JF];show((Sh.size d).toNat:Int)=Sh.size d
  omega
 .intro hx;obtain⟨i,hi⟩:=Rh (show(-128:Int)∈dU _ _ from hx);have:=VB au fN i;omega
 .show(dz _ _).length=(dU _ _).length
  rw[JF,sw]
 .intro x hx;rw[(List.mem_replicate.1 (show x∈dz _ 0 from hx)).2];omega
 .show 0<Sh.size [(n:Int)]
  omega
 .show((dz n (0:Int)).length:Int)=Sh.size [(n:Int)]
  rw[sw,hn]
 .intro hx;have:=(List.mem_replicate.1 (show(-128:Int)∈dz n 0 from hx)).2;omega
theorem Ck.Yj:∀(L:List Lay) (i:Nat) (acc:List bD),(∀(k:Nat) (x:Lay),L[k]? =A x->x.aH ((i+k:Nat):Int)=true)->(∀p∈acc,p.aH=true)->(Ck.tG ls au i L acc).1 =0->(∀p∈(Ck.tG ls au i L acc).2,p.aH=true)/\(Ck.tG ls au i L acc).2.length=acc.length+L.length
 | [],i,acc,_,ha,_=>⟨ha,rfl⟩
 |x::L,i,acc,hx,ha,h0=>by
  have iQ:=λ(k:Nat) (y:Lay) (e:L[k]? =A y)=>(by have:=hx (k+1) y (by simpa using e);rwa[show i+(k+1)=i+1+k by omega]at this:y.aH ((i+1+k:Nat):Int)=true);have uC:x.aH (i:Int)=true:=hx 0 x rfl;unfold Ck.tG at h0⊢;by_cases c:(Ck.lZ x (ls.getD i [])).1 =[]
  .rw[aR c]at h0⊢;have:=Ck.Yj L (i+1) _ iQ (λq hq=>by
    rcases kE.1 hq with hq|hq
    .exact ha q hq
    .rw[pS.1 hq];exact bD.anz) h0
   exact Q23
  rw[aI c]at h0⊢;by_cases c2:0<Sh.size (Ck.lZ x (ls.getD i [])).1
  .rw[aR c2]at h0⊢;have hd:=Ck.ac2 uC _ c;have:=Ck.Yj L (i+1) _ iQ (λq hq=>by
    rcases kE.1 hq with hq|hq
    .exact ha q hq
    .rw[pS.1 hq];exact bD.anB c2 U U) h0
   exact Q23
  .rw[aI c2]at h0;cases h0
theorem Mod.aec {m:Mod} (h:(m.init au).1 =0):(⟨au,0,(m.init au).2⟩:dJ).aH=true:=by
 unfold Mod.init at h⊢;by_cases c:m.iy.2.2 ≠0
 .rw[aR c]at h;exact absurd h c
 rw[aI c]at h⊢;have hm:=(Mod.zX (m:=m) (l:=m.iy.1) (n:=m.iy.2.1) (by
  have:m.iy.2.2 =0:=U;rw[<-this])).1
 have hl:=(Mod.nT hm).2.2.2.2.2.2.2.1;have:=Ck.Yj (ls:=m.iy.1) (au:=au) m.L 0 [] (λk x e=>Mod.yY (i:=0) (Mod.nT hm).2.2.2.2.2.2.2.2 e) bK h;exact dJ.iA (by show(0:Int)<=0;omega) (by show(0:Int)<=_;omega) (by show List.length _<=12;rw[this.2];simp;omega) this.1
section
attribute [local go_sem ↓] wp_at_zero wp_at_succ
def amS (r:Int×az×List Int) (w:H) (a b c:aj) (wx:H):Prop:=∃(bo:Nat) (ta:aC) (tl tc:Nat) (tb:aC) (tm tk:Nat) (la:aC) (ln lc:Nat),a=aP bo/\b=O la ln lc/\c=Y Z r.1 /\
 wx.heap[bo]? =A (bj ta tl tc r.2.1.e tb tm tk)/\ai Z wx ta tl r.2.1.d/\ai aO wx tb tm r.2.1.z/\tl<=tc/\ai Z wx la ln r.2.2 /\ay w w wx
theorem dJ.len {s:dJ} (h:s.aH=true):∀p∈s.ps,p.Len:=by
 intro p hp;unfold dJ.aH at h;simp only[fS,decide_eq_true_eq]at h;have hm:p.aH=true:=by
  exact Q1K
 unfold bD.aH at hm;rw[Bool.or_eq_true]at hm;rcases hm with hm|hm
 .obtain rfl:=bD.UK hm;simp[bD.Len,bD.nil,az.zero]
 .unfold bD.moves at hm;simp only[fS,decide_eq_true_eq]at hm;have h1:=ZY.Ik hm.1;have h2:=ZY.Ik hm.2.2.1;have h3:=hm.2.1.1;unfold bD.Len;omega
theorem amT (m:Mod) (d:dL) (h:iV) (s:dJ) (nX rj PY:Nat->Prop) (xa:aC) (xl xm:Nat) (da:aC) (dl dm:Nat) (pa:aC) (pl pm:Nat) (w:H)
 (hm:cH iM 7 nX w xa xl m.L) (hd:cH kz 2 rj w da dl d.xs) (hp:rM PY w pa pl s.ps) (gD:P.Z4 s.au):
 aA aq 69 #[aF (m.cells xa xl xm),aF (d.cells da dl dm),mP h,aF (s.cells pa pl pm)] w (adD (Tr.next m d h s) w):=by
 have K0:=V (aE.adu w (ag (m.cells xa xl xm) 25) (ag (d.cells da dl dm) 28) (nI h.b h.w h.r h.m h.d h.e) (ag (s.cells pa pl pm) 48) (kI 0 0 G 0 0));have KR:=V ((hm.bt gL U).and ((hd.bt iG U).and (hp.bt iF U)));have DM:=V (Lm d rj da dl dm);have HM:=V (O6 h);have SM:=V (ab7 s pa pl pm);have PM:=V (Pz m nX xa xl xm s.ps pa pl pm);have GO:=V (ac5 m d h nX xa xl xm da dl dm);obtain⟨R,hR⟩:=J (Tr.next m d h s);rw[hR];unfold Tr.next at hR;have HR:=V hR;unfold mP;unfold mP at HM GO;clear hm hd hp hR;have f0:=eQ K0.F.1;have g0:=df K0.F.2.1;have q0:=df K0.F.2.2.1;have s0:=bP K0.F.2.2.2.1;go_enter func69,ntmps69
 let pq:=gW aq Tryz.f69 (λ_ _=>True)
 generalize dS:gW aq Tryz.f69 (adD R w)=BP;have dB:=V dS;have jM:=oz dS;clear dS;go_upto_region 1 with fail;obtain⟨w1,eI⟩:∃u,li (li (li (li (li w (ag (m.cells xa xl xm) 25)) (ag (d.cells da dl dm) 28)) (nI h.b h.w h.r h.m h.d h.e)) (ag (s.cells pa pl pm) 48)) (kI 0 0 G 0 0)=u:=⟨_,rfl⟩;rw[eI]at K0⊢;clear eI;obtain⟨A1,qW⟩:∃Z3,d.aH=Z3:=⟨_,rfl⟩;obtain⟨A2,xV⟩:∃Z3,h.aH=Z3:=⟨_,rfl⟩;obtain⟨A3,Cq⟩:∃Z3,s.aH=Z3:=⟨_,rfl⟩;obtain⟨A4,M0⟩:∃Z3,m.qT s.ps=Z3:=⟨_,rfl⟩;have hR:=HR.I;rw[qW,xV,Cq,M0]at hR;rw[qW]at DM;rw[xV]at HM;rw[Cq]at SM;rw[M0]at PM;clear HR;have HR:=V hR;have xG:=V Cq;have HA4:=V M0;clear hR qW xV Cq M0;have f0:=eQ K0.F.1;have g0:=df K0.F.2.1;have q0:=df K0.F.2.2.1;have s0:=bP K0.F.2.2.2.1;have r0:=aY K0.F.2.2.2.2.1;go_wp2_with fail;refine bY (DM.I _ (KR.aQ K0.F.2.2.2.2.2).2.1) λw2 hb=> ?_;have K1:=K0.bU hb;clear hb K0;have f0:=eQ K1.F.1;have g0:=df K1.F.2.1;have q0:=df K1.F.2.2.1;have s0:=bP K1.F.2.2.2.1;have r0:=aY K1.F.2.2.2.2.1
 cases A1
 .obtain rfl:(1,dJ.zero)=R:=by rw[<-HR.I,aR bK]
  go_wp2_with fail;try simp only[j6,Exit.then]
  rw[<-dB.I];refine aZ (v:=aL #[aF #[Y cD 0,Y Z 0,O G 0 0],Y Z 1]) ?_ rfl ⟨G,0,0,rfl,cH.nil _ _ _ _ _,cL K1.F.2.2.2.2.2 U _ _ _⟩;simp[aW,results69,go_sem,cT K1.F.2.2.2.2.1]
 have f0:=eQ K1.F.1;have g0:=df K1.F.2.1;have q0:=df K1.F.2.2.1;have s0:=bP K1.F.2.2.2.1;have r0:=aY K1.F.2.2.2.2.1;go_wp2_with fail;refine bY (HM.I _) λw3 hb=> ?_;have K2:=K1.bU hb;clear hb;have f0:=eQ K2.F.1;have g0:=df K2.F.2.1;have q0:=df K2.F.2.2.1;have s0:=bP K2.F.2.2.2.1;have r0:=aY K2.F.2.2.2.2.1
 cases A2
 .obtain rfl:(1,dJ.zero)=R:=by rw[<-HR.I,aR bK]
  go_wp2_with fail;try simp only[j6,Exit.then]
  rw[<-dB.I];refine aZ (v:=aL #[aF #[Y cD 0,Y Z 0,O G 0 0],Y Z 1]) ?_ rfl ⟨G,0,0,rfl,cH.nil _ _ _ _ _,cL K2.F.2.2.2.2.2 U _ _ _⟩;simp[aW,results69,go_sem,cT K2.F.2.2.2.2.1]
 have f0:=eQ K2.F.1;have g0:=df K2.F.2.1;have q0:=df K2.F.2.2.1;have s0:=bP K2.F.2.2.2.1;have r0:=aY K2.F.2.2.2.2.1;go_wp2_with fail;refine bY (SM.I _ (KR.aQ K2.F.2.2.2.2.2).2.2.Bz) λw4 hb=> ?_;have K3:=K2.bU hb;clear hb;have f0:=eQ K3.F.1;have g0:=df K3.F.2.1;have q0:=df K3.F.2.2.1;have s0:=bP K3.F.2.2.2.1;have r0:=aY K3.F.2.2.2.2.1
 cases A3
 .obtain rfl:(1,dJ.zero)=R:=by rw[<-HR.I,aR bK]
  go_wp2_with fail;try simp only[j6,Exit.then]
  rw[<-dB.I];refine aZ (v:=aL #[aF #[Y cD 0,Y Z 0,O G 0 0],Y Z 1]) ?_ rfl ⟨G,0,0,rfl,cH.nil _ _ _ _ _,cL K3.F.2.2.2.2.2 U _ _ _⟩;simp[aW,results69,go_sem,cT K3.F.2.2.2.2.1]
 have f0:=eQ K3.F.1;have g0:=df K3.F.2.1;have q0:=df K3.F.2.2.1;have s0:=bP K3.F.2.2.2.1;have r0:=aY K3.F.2.2.2.2.1;go_wp2_with fail;refine bY (PM.I _ (KR.aQ K3.F.2.2.2.2.2).1 (KR.aQ K3.F.2.2.2.2.2).2.2.Bz) λw5 hb=> ?_;have K4:=K3.bU hb;clear hb;have f0:=eQ K4.F.1;have g0:=df K4.F.2.1;have q0:=df K4.F.2.2.1;have s0:=bP K4.F.2.2.2.1;have r0:=aY K4.F.2.2.2.2.1
 cases A4
 .obtain rfl:(1,dJ.zero)=R:=by rw[<-HR.I,aR bK]
  go_wp2_with fail;try simp only[j6,Exit.then]
  rw[<-dB.I];refine aZ (v:=aL #[aF #[Y cD 0,Y Z 0,O G 0 0],Y Z 1]) ?_ rfl ⟨G,0,0,rfl,cH.nil _ _ _ _ _,cL K4.F.2.2.2.2.2 U _ _ _⟩;simp[aW,results69,go_sem,cT K4.F.2.2.2.2.1]
 have f0:=eQ K4.F.1;have g0:=df K4.F.2.1;have q0:=df K4.F.2.2.1;have s0:=bP K4.F.2.2.2.1;have r0:=aY K4.F.2.2.2.2.1;have jk:=V (show(if s.step=1000000 then(11,dJ.zero)else if m.goes d h≠0 then(m.goes d h,dJ.zero)else if(Tr.pz d h s).1 ≠0 then((Tr.pz d h s).1,dJ.zero)else if(Tr.act m d h s).1 ≠0 then((Tr.act m d h s).1,dJ.zero)else if(Tr.AG m d h s).1 ≠0 then((Tr.AG m d h s).1,dJ.zero)else if(Tr.AH m d h s).1 ≠0 then((Tr.AH m d h s).1,dJ.zero)else if(Tr.xU m d h s).1 ≠0 then((Tr.xU m d h s).1,dJ.zero)else(0,⟨s.au,s.step+1,(Tr.xU m d h s).2⟩))=R from Q4x);clear HR DM HM SM PM;by_cases c5:s.step=1000000
 .have e5:(s.step==1000000)=true:=by simpa using c5
  obtain rfl:(11,dJ.zero)=R:=by rw[<-jk.I,aR c5]
  clear c5;go_wp2_with fail;try simp only[j6,Exit.then]
  rw[<-dB.I];refine aZ (v:=aL #[aF #[Y cD 0,Y Z 0,O G 0 0],Y Z 11]) ?_ rfl ⟨G,0,0,rfl,cH.nil _ _ _ _ _,cL K4.F.2.2.2.2.2 U _ _ _⟩;simp[aW,results69,go_sem,cT K4.F.2.2.2.2.1]
 have e5:(s.step==1000000)=ae:=by simpa using c5
 have IE:=V c5;clear c5;go_wp2_with fail;refine bY (GO.I _ (KR.aQ K4.F.2.2.2.2.2).1) λw6 hb=> ?_;have K5:=K4.bU hb;clear e5;have f0:=eQ K5.F.1;have g0:=df K5.F.2.1;have q0:=df K5.F.2.2.1;have s0:=bP K5.F.2.2.2.1;have r0:=aY K5.F.2.2.2.2.1;by_cases c6:m.goes d h=0
 case neg=>
  have e6:(m.goes d h != 0)=true:=Q52;obtain rfl:(m.goes d h,dJ.zero)=R:=by rw[<-jk.I,aI IE.I,aR c6]
  clear c6;generalize m.goes d h=ge at*;go_wp2_with fail;try simp only[j6,Exit.then]
  rw[<-dB.I];refine aZ (v:=aL #[aF #[Y cD 0,Y Z 0,O G 0 0],Y Z ge]) ?_ rfl ⟨G,0,0,rfl,cH.nil _ _ _ _ _,cL K5.F.2.2.2.2.2 U _ _ _⟩;simp[aW,results69,go_sem,cT K5.F.2.2.2.2.1]
 have e6:(m.goes d h != 0)=ae:=Q52;have yr:=jk.I;rw[aI IE.I,aI (λc=>c c6)]at yr;have oD:=V yr;clear yr;clear jk c6;go_upto_region 8 with fail;clear e6;have jU:d.xs.length=dl:=KR.F.2.1.1;have WH:=V (λw'=>ahB s.au (dl:Int) h.b s.step w' gD);have OF:=V (λ(w':H) ia ic=>acG d rj da dl dm ia (B.which s.au (dl:Int) h.b s.step).length ic (B.which s.au (dl:Int) h.b s.step) w');have QT:=V (show Bt.of d (B.which s.au (dl:Int) h.b s.step)=Tr.pz d h s from by unfold Tr.pz;rw[jU]);rw[QT.I]at OF;have fW:=V (λu (hu:ay w6 w6 u)=>(show(λw':H=>w'.heap[w.heap.size+1]? =A (ag (d.cells da dl dm) 28 (0,0))/\w'.heap[w.heap.size+1+1]? =A (nI h.b h.w h.r h.m h.d h.e)/\w'.heap[w.heap.size+1+1+1]? =A (ag (s.cells pa pl pm) 48 (0,0))) u from⟨(K5.aQ hu).2.1,(K5.aQ hu).2.2.1,(K5.aQ hu).2.2.2.1⟩));go_cut [11,12,13] (λa b c wx=>amS (Tr.pz d h s) w6 a b c wx)
 case first=>
  refine cS (λw':H=>w'.heap[w.heap.size+1]? =A (ag (d.cells da dl dm) 28 (0,0))/\w'.heap[w.heap.size+1+1]? =A (nI h.b h.w h.r h.m h.d h.e)/\w'.heap[w.heap.size+1+1+1]? =A (ag (s.cells pa pl pm) 48 (0,0))) (eE (fW.I _ (below_drewN w6 1)) λhS=>bR hS [0,1,3,6,8,2,4,7,9,5] (λ_ h=>aw (df h.1) (aw (df h.2.1) (bP h.2.2))) ?_);refine lI 10 16 (λK hK=> ?_) (λK hK=> ?_)
  .go_simp;have hbX:=below_drewN w6 1;refine(WH.I _).mono ?_;rintro e' w7 ⟨ia,ic,rfl,M8,hb⟩;have dR:ay w6 w6 w7:=hbX.step hb;have HI:=V M8;clear M8 hS;refine bB hK (fW.I _ dR) ?_;refine lI 11 16 (λK hK=> ?_) (λK hK=> ?_)
   .go_simp;refine(OF.I _ ia ic (KR.aQ (K5.F.2.2.2.2.2.step dR)).2.1 HI.I).mono ?_;rintro e' w8 ⟨v,la,ln,lc,rfl,hv,uO,hl,iB,hb⟩;have ej:ay w6 w6 w8:=dR.step hb;obtain⟨ta,tl,tc,tb,tm,tk,rfl,y1,y2,y3,y4⟩:=hv;have l8:tl<=tc:=uO _ _ _ _ _ _ _ rfl;have HY:=V (aw y1 (aw y2 (aw y3 y4)));have HL:=V (aw hl iB);clear uO hl iB;unfold aS;refine bB hK (fW.I _ ej) ?_;refine cQ (fW.I _ ej) [12,13,14,15] (bL 16 λK hK=> ?_);go_simp;have gK:=λo=>ej.step (aD w8 o);refine cY hK (fW.I _ (gK _)) 17 λK hK=> ?_;go_simp;refine bB hK (fW.I _ (gK _)) ?_;refine cQ (fW.I _ (gK _)) [18,19] (bW ?_);go_wp2_with fail;go_meet
    exact⟨_,ta,tl,tc,tb,tm,tk,la,ln,lc,rfl,rfl,rfl,bZ w8 _,HY.I.1.below (aD w8 _),HY.I.2.1.below (aD w8 _),l8,HL.I.1.below (aD w8 _),gK _⟩
   .go_simp;have GJ:ay w6 w6 (li w7 (bj G 0 0 0 G 0 0)):=dR.step (aD w7 _);have WSZ:w6.heap.size<=w7:=dR.size;have XH:(li w7 (bj G 0 0 0 G 0 0)).heap[w7.heap.size]? =_:=bZ w7 _;refine cY hK (fW.I _ GJ) 11 λK hK=> ?_;go_simp;refine(OF.I _ ia ic (KR.aQ (K5.F.2.2.2.2.2.step GJ)).2.1 (HI.I.below (aD w7 _))).mono ?_;rintro e' w8 ⟨v,la,ln,lc,rfl,hv,uO,hl,iB,hb⟩;have ej:ay w6 w6 w8:=GJ.step hb;obtain⟨ta,tl,tc,tb,tm,tk,rfl,y1,y2,y3,y4⟩:=hv;have l8:tl<=tc:=uO _ _ _ _ _ _ _ rfl;have HY:=V (aw y1 (aw y2 (aw y3 y4)));have HL:=V (aw hl iB);have aT:w7.heap.size<(li w7 (bj G 0 0 0 G 0 0)).heap.size:=Q2Y;have cy:=bV XH hb;clear uO hl iB;unfold aS;refine bB hK (fW.I _ ej) ?_;refine cQ (fW.I _ ej) [12,13,14,15] ?_;have z0:=aY cy;refine bL 17 λK hK=> ?_;go_simp;clear z0;have dK:ay w6 w6 _:=cL ej (WSZ) (O ta tl tc) (Y Z (Tr.pz d h s).2.1.e) (O tb tm tk);exact Q0Q
  .go_simp;have eX:=(aD w6 (bj G 0 0 0 G 0 0)).bI 1;refine cY hK (fW.I _ eX) 10 λK hK=> ?_;go_simp;refine(WH.I _).mono ?_;rintro e' w7 ⟨ia,ic,rfl,M8,hb⟩;have GJ:ay w6 w6 w7:=eX.step hb;have XH:=bV (show(li w6 (bj G 0 0 0 G 0 0)).drew.heap[w6.heap.size]? =_ from bZ w6 _) hb;have aT:w6.heap.size<w7:=iP (show w6.heap.size<(li w6 (bj G 0 0 0 G 0 0)).heap.size by rw[bF];omega) hb.size;have HI:=V M8;clear M8 hS;refine cY hK (fW.I _ GJ) 11 λK hK=> ?_;go_simp;refine(OF.I _ ia ic (KR.aQ (K5.F.2.2.2.2.2.step GJ)).2.1 HI.I).mono ?_;rintro e' w8 ⟨v,la,ln,lc,rfl,hv,uO,hl,iB,hb⟩;have ej:ay w6 w6 w8:=GJ.step hb;obtain⟨ta,tl,tc,tb,tm,tk,rfl,y1,y2,y3,y4⟩:=hv;have l8:tl<=tc:=uO _ _ _ _ _ _ _ rfl;have HY:=V (aw y1 (aw y2 (aw y3 y4)));have HL:=V (aw hl iB);have cy:=bV XH hb;clear uO hl iB;unfold aS;refine bB hK (fW.I _ ej) ?_;refine cQ (fW.I _ ej) [12,13,14,15] ?_;have z0:=aY cy;refine bL 17 λK hK=> ?_;go_simp;clear z0;have dK:ay w6 w6 _:=cL ej (bu _) (O ta tl tc) (Y Z (Tr.pz d h s).2.1.e) (O tb tm tk);exact Q0Q
 case rest=>
  obtain⟨bo,ta,tl,tc,tb,tm,tk,la,ln,lc,rfl,rfl,rfl,sO,hd9,hz9,l8,hl9,dK⟩:=hcut;have K6:=V ((K5.I.step dK).and ((hd9.bt.and hz9.bt).and (hl9.bt.and (aE.block sO))));clear OF QT sO hd9 hz9 hl9 dK;have f0:=eQ K6.F.1.1;have s0:=bP K6.F.1.2.2.2.1;have r0:=aY K6.F.1.2.2.2.2.1;have t0:=aY K6.F.2.2.2;by_cases c7:(Tr.pz d h s).1 =0
  case neg=>
   have e7:((Tr.pz d h s).1!= 0)=true:=by simpa using c7
   obtain rfl:((Tr.pz d h s).1,dJ.zero)=R:=by rw[<-oD.I,aR c7]
   clear c7 oD;generalize(Tr.pz d h s).1 =ge at*;go_wp2_with fail;try simp only[j6,Exit.then]
   rw[<-dB.I];refine aZ (v:=aL #[aF #[Y cD 0,Y Z 0,O G 0 0],Y Z ge]) ?_ rfl ⟨G,0,0,rfl,cH.nil _ _ _ _ _,cL K6.F.1.2.2.2.2.2 U _ _ _⟩;simp[aW,results69,go_sem,cT K6.F.1.2.2.2.2.1]
  have e7:((Tr.pz d h s).1!= 0)=ae:=by simpa using c7
  have Bg:=oD.I;rw[aI (λc=>c c7)]at Bg;have mL:=V Bg;clear Bg oD c7;go_upto_region 11 with fail;clear e7;have f0:=eQ K6.F.1.1;have s0:=bP K6.F.1.2.2.2.1;have t0:=aY K6.F.2.2.2;have QL:0<=s.step/\s.step<=1000000:=by
   have h:=xG.I;unfold dJ.aH at h;simp only[fS,decide_eq_true_eq]at h;exact⟨h.1,h.2.1⟩
  obtain⟨r,hr⟩:=J (Tr.act m d h s);have FR:=V (λw' h1 hp h2 h3=> @id (aA aq 78 _ w' (Qx (Tr.act m d h s) w')) (adk m nX xa xl xm s.ps pa pl pm (Tr.pz d h s).2.1 ta tl tc tb tm tk s.au s.step w' h1 hp h2 h3 l8 gD (gF U U)));have oN:=V (λ(h0:(Tr.act m d h s).1 =0)=> @id ((Tr.act m d h s).2.2.1.length=m.L.length+1/\(Tr.act m d h s).2.2.2.length=m.L.length+1) (Fw.adp (m:=m) (ps:=s.ps) (x:=(Tr.pz d h s).2.1) (au:=s.au) (step:=s.step) h0));have XI:=V (@id (Tr.AG m d h s=L.xI (Fw.last (Tr.act m d h s).2.2.1) (Tr.pz d h s).2.2) rfl);have XJ:=V (@id (Tr.AH m d h s=Bk.run m s.ps (Tr.act m d h s).2.2.1 (Tr.act m d h s).2.2.2 (Tr.AG m d h s).2 s.au s.step) rfl);rw[hr]at FR oN XI XJ mL;obtain⟨re,rn,T,Z5⟩:=r;clear hr;go_wp2_with fail;refine(FR.I _ (KR.aQ K6.F.1.2.2.2.2.2).1 (KR.aQ K6.F.1.2.2.2.2.2).2.2.Bz K6.F.2.1.1 K6.F.2.1.2).mono ?_;rintro e' wd ⟨ya,yn,yc,va,vn,vc,rfl,hT,hG,AI,hb⟩;have tV:=V hT;have Jo:=V hG;have K6d:=K6.bU hb;clear FR hT hG;dsimp only
  have Jt:=bZ wd (pV ya yn yc va vn vc);have eX:=aD wd (pV ya yn yc va vn vc);obtain⟨tb',tq',da',dl',dc',AI⟩:=AI;have HCp:=V (λh=>let⟨h1,h2,h3⟩:=AI h;aw h1 (aw (eX.cell_of h2) h3));have K7:=V (((K6d.I.step eX).and (aE.block Jt)).and ((tV.I.below qZ U eX).bt qZ U|>.and ((Jo.I.below lX U eX).bt lX U)));clear eX Jt AI K6d;go_upto_region 12 with fail;obtain⟨ab,xq⟩:∃u,wd.heap.size=u:=⟨_,rfl⟩;rw[xq]at K7⊢;clear xq;generalize li wd (pV ya yn yc va vn vc)=w8 at*;have r0:=aY K7.F.1.1.1.2.2.2.2.1;by_cases jn:re=0
  case neg=>
   have e8:(re != 0)=true:=Q3M;obtain rfl:(re,dJ.zero)=R:=by rw[<-mL.I,aR jn]
   go_wp2_with fail;try simp only[j6,Exit.then]
   rw[<-dB.I];refine aZ (v:=aL #[aF #[Y cD 0,Y Z 0,O G 0 0],Y Z re]) ?_ rfl ⟨G,0,0,rfl,cH.nil _ _ _ _ _,cL K7.F.1.1.1.2.2.2.2.2 U _ _ _⟩;simp[aW,results69,go_sem,cT K7.F.1.1.1.2.2.2.2.1]
  subst jn;have yP:=mL.I;rw[aI (λc=>c rfl)]at yP;have tE:=V yP;clear yP mL;obtain⟨rfl,kU,Xh⟩:=HCp.I rfl;obtain⟨GI,JA⟩:=oN.I rfl;try dsimp only at GI JA
  clear oN;have r9:T.length=yn:=K7.F.2.1.1;obtain⟨t,ht⟩:∃t,T[yn-1]? =A t:=⟨T[yn-1]'U,Q2W⟩;have EI:Fw.last T=t:=by
   unfold Fw.last;rw[r9,gB,ht];rfl
  obtain⟨tb2,tq2,cs,he,_,sN,hcs⟩:=K7.F.2.1.get ht
  cases he;obtain⟨⟨a1,l1,c1,a2,l2,c2,rfl,q1,q2⟩,ip⟩:=sN;have z0:=hcs 0 _ rfl;have z1:=hcs 1 _ rfl;have z2:=hcs 2 _ rfl;simp only[eL]at z0;obtain⟨n1,rfl⟩:∃n1,yn=n1+1:=⟨yn-1,U⟩;simp only[Nat.add_sub_cancel]at z0 z1 z2;have i1:∀[Inhabited Nat],cM (n1:Int)=(n1:Int):=λ[_]=>iZ _ ⟨by have:=K7.F.2.1.2.1;omega,by have:=K7.F.2.1.2.1;omega⟩;have wP:=XI.I;try dsimp only at wP
  rw[EI]at wP;have GR:=V (λw' hy hl=> @id (aA aq 133 _ w' (oY aO (Tr.AG m d h s) w')) (wP▸aly t (aS a1 l1 c1 t.e a2 l2 c2) la ln lc (Tr.pz d h s).2.2 w' hy (λh2 a l c b m k hk=>⟨ip h2 a l c t.e b m k hk,cK _⟩) hl));have HQ:=V (aw q1.1 q2.1);have My:=V (aE.cell kU);have pP:=V (aw GI JA);clear hcs r9 ht EI ip GI JA XI wP;unfold aS at GR;have x0:=nj K7.F.1.2;generalize Tr.AG m d h s=gr at*;obtain⟨ge,g⟩:=gr;go_upto_region 14 with fail;go_wp2_with fail;refine(GR.I _ ⟨_,_,_,_,_,_,rfl,HQ.I.1,HQ.I.2⟩ K7.F.1.1.2.2.1).mono ?_;rintro e' w9 ⟨v,rfl,hv,hb⟩;obtain⟨b1,d1,k1,b2,d2,k2,rfl,y1,y2,-,-⟩:=hv;have hBG:=bZ w9 (bj b1 d1 k1 g.e b2 d2 k2);have QU:=aD w9 (bj b1 d1 k1 g.e b2 d2 k2);have K8:=V ((((K7.I.step hb).and (My.I.step hb)).step QU).and ((aE.block hBG).and ((y1.below QU).bt.and (y2.below QU).bt)));clear z0 z1 z2 i1 hBG QU K7;unfold aS;dsimp only
  go_upto_region 15 with fail;obtain⟨gb,Az⟩:∃u,w9.heap.size=u:=⟨_,rfl⟩;rw[Az]at K8⊢;clear Az;generalize li w9 (bj b1 d1 k1 g.e b2 d2 k2)=fU at*;have r0:=aY K8.F.1.1.1.1.1.2.2.2.2.1;by_cases lG:ge=0
  case neg=>
   have e8:(ge != 0)=true:=by simpa using lG
   obtain rfl:(ge,dJ.zero)=R:=by rw[<-tE.I,aR lG]
   go_wp2_with fail;try simp only[j6,Exit.then]
   rw[<-dB.I];refine aZ (v:=aL #[aF #[Y cD 0,Y Z 0,O G 0 0],Y Z ge]) ?_ rfl ⟨G,0,0,rfl,cH.nil _ _ _ _ _,cL K8.F.1.1.1.1.1.2.2.2.2.2 U _ _ _⟩;simp[aW,results69,go_sem,cT K8.F.1.1.1.1.1.2.2.2.2.1]
  subst lG;have XK:=tE.I;rw[aI (λc=>c rfl)]at XK;have lr:=V XK;clear XK tE;have gX:=XJ.I;try dsimp only at gX
  have BR:=V (λw' h1 h2 h3 h4 h5 h6=> @id (aA aq 134 _ w' (adB (Tr.AH m d h s) w')) (gX▸amM m s.ps T Z5 g s.au s.step nX (λb=>wc.heap.size<=b) (λb=>wc.heap.size<=b) xa xl xm pa pl pm tb' tq' (n1+1) yc va vn vc da' dl' dc' (aS b1 d1 k1 g.e b2 d2 k2) w' h1 h2 h3 h4 h5 QL HA4.I pP.I.1 (pP.I.2.trans pP.I.1.symm) h6 Xh gD));unfold aS at BR;have f0:=eQ K8.F.1.1.1.1.1.1;have s0:=bP K8.F.1.1.1.1.1.2.2.2.1;have x0:=nj K8.F.1.1.1.2;have t0:=aY K8.F.2.1;have amU:=V (@id (Tr.xU m d h s=ZY.all s.ps (Tr.AH m d h s).2 h s.au s.step) rfl);generalize Tr.AH m d h s=br at*;obtain⟨be,gs⟩:=br;go_upto_region 17 with fail;clear gX XJ;go_wp2_with fail;refine(BR.I _ (KR.aQ K8.F.1.1.1.1.1.2.2.2.2.2).1 (KR.aQ K8.F.1.1.1.1.1.2.2.2.2.2).2.2.Bz K8.F.1.1.2.1 K8.F.1.1.2.2 ⟨_,_,_,_,_,_,rfl,K8.F.2.2.1,K8.F.2.2.2⟩ K8.F.1.2).mono ?_;rintro e' BV ⟨ha,hn,hc,hx,rfl,ld,hb⟩;have K9:=V ((K8.I.step hb).and (ld.bt rX U));clear K8 ld;try dsimp only
  have r0:=aY K9.F.1.1.1.1.1.1.2.2.2.2.1;go_upto_region 18 with fail;by_cases uW:be=0
  case neg=>
   have e8:(be != 0)=true:=by simpa using uW
   obtain rfl:(be,dJ.zero)=R:=by rw[<-lr.I,aR uW]
   go_wp2_with fail;try simp only[j6,Exit.then]
   rw[<-dB.I];refine aZ (v:=aL #[aF #[Y cD 0,Y Z 0,O G 0 0],Y Z be]) ?_ rfl ⟨G,0,0,rfl,cH.nil _ _ _ _ _,cL K9.F.1.1.1.1.1.1.2.2.2.2.2 U _ _ _⟩;simp[aW,results69,go_sem,cT K9.F.1.1.1.1.1.1.2.2.2.2.1]
  subst uW;have XL:=lr.I;rw[aI (λc=>c rfl)]at XL;have adE:=V XL;clear XL lr;have qu:=amU.I;try dsimp only at qu
  have OA:=V (λw' h1 h2=> @id (aA aq 135 _ w' (acn (Tr.xU m d h s) w')) (qu▸akV s.ps gs h s.au s.step PY (λb=>fU.heap.size<=b) pa pl pm ha hn hc w' h1 h2 gD (dJ.len xG.I)));unfold mP at OA;clear qu;generalize Tr.xU m d h s=dr at*;obtain⟨de,qs⟩:=dr;have g0:=df K9.F.1.1.1.1.1.1.2.2.1;have s0:=bP K9.F.1.1.1.1.1.1.2.2.2.1;go_upto_region 20 with fail;go_wp2_with fail;refine(OA.I _ (KR.aQ K9.F.1.1.1.1.1.1.2.2.2.2.2).2.2 K9.F.2).mono ?_;rintro e' sR ⟨qa,qn,qc,qx,rfl,hqs,-,hb⟩;have ff:=K9.bU hb;have HQ:=V hqs;have dQ:w.heap.size+1+1+1+1<BV.heap.size:=bH K9.F.1.1.1.1.1.1.2.2.2.2.1;clear hqs hb;try dsimp only
  have r0:=aY ff.F.1.1.1.1.1.1.2.2.2.2.1;go_upto_region 21 with fail;by_cases XM:de=0
  case neg=>
   have e8:(de != 0)=true:=by simpa using XM
   obtain rfl:(de,dJ.zero)=R:=by rw[<-adE.I,aR XM]
   go_wp2_with fail;try simp only[j6,Exit.then]
   rw[<-dB.I];refine aZ (v:=aL #[aF #[Y cD 0,Y Z 0,O G 0 0],Y Z de]) ?_ rfl ⟨G,0,0,rfl,cH.nil _ _ _ _ _,cL ff.F.1.1.1.1.1.1.2.2.2.2.2 U _ _ _⟩;simp[aW,results69,go_sem,cT ff.F.1.1.1.1.1.1.2.2.2.2.1]
  subst XM;obtain rfl:(0,⟨s.au,s.step+1,qs⟩)=R:=by rw[<-adE.I,aI (λc=>c rfl)]
  have s0:=bP ff.F.1.1.1.1.1.1.2.2.2.1;have i1:∀[Inhabited Nat],cM (s.step+1)=s.step+1:=λ[_]=>iZ _ ⟨U,U⟩;go_upto_region 23 with fail;go_wp2_with fail;rw[<-dB.I];refine aZ (v:=aL #[aF #[Y cD s.au,Y Z (s.step+1),O qa qn qc],Y Z 0]) ?_ rfl ⟨qa,qn,qc,rfl,?_,cL ff.F.1.1.1.1.1.1.2.2.2.2.2 U _ _ _⟩
  .simp[aW,results69,go_sem,cT ff.F.1.1.1.1.1.1.2.2.2.2.1]
  .exact HQ.I.move iF U ((ar.cP sR (λb=>b=w.heap.size+1+1+1+1) sR).eJ (aM rfl) _ _ _) (λb hb h=>⟨hb,U,U⟩)
theorem amZ (m:Mod) (k:Int) (ok:Nat->Prop) (xa:aC) (xl xm:Nat) (w:H) (h:cH iM 7 ok w xa xl m.L):
 aA aq 28 #[aF (m.cells xa xl xm),Y Z k] w (dZ (aK (Tr.tells m k)) w):=by
 have KB:=V (aE.fg w (ag (m.cells xa xl xm) 25));have SH:=V (Iy m ok xa xl xm _ (h.below gL U KB.F.2));have f0:=eQ KB.F.1;obtain⟨R,hR⟩:=J (Tr.tells m k);rw[hR];unfold Tr.tells at hR;obtain⟨S,hS⟩:=J m.iy;rw[hS]at hR SH;obtain⟨l,n,e⟩:=S;have HR:=V hR;have HS:=V hS;clear h hR hS;go_enter func28,ntmps28;go_wp2_with fail;refine SH.I.mono ?_;rintro e' w2 ⟨la,ln,lc,rfl,hm,hb⟩;have KM:=V hm;have K2:=V (KB.F.2.step hb);clear hm SH;by_cases he:e=0
 case neg=>
  have e1:(e != 0)=true:=Q3d;obtain rfl:ae=R:=by rw[<-HR.I];simp[he]
  exact Q22
 subst he;obtain⟨-,hl,vC,-⟩:=Mod.zX HS.I;have iB:l.length=ln:=KM.I.1;obtain⟨n1,rfl⟩:∃n1,ln=n1+1:=⟨ln-1,U⟩;obtain⟨d,hd⟩:∃d,l[n1]? =A d:=⟨l[n1]'U,Q2W⟩;have cU:=V (show decide (d=[k])=R by
  have:=HR.I;rw[iB,Nat.add_sub_cancel,gB,hd]at this;simpa using this)
 obtain⟨b,off,cs,rfl,_,hE,hcs⟩:=KM.I.get hd;obtain⟨da,dl,dc,rfl,hdr⟩:=hE;have z0:=hcs 0 _ rfl;simp only[eL,lA]at z0;have i1:∀[Inhabited Nat],cM (n1:Int)=(n1:Int):=λ[_]=>iZ _ ⟨by have:=KM.I.2.1;omega,by have:=KM.I.2.1;omega⟩;have jU:=hdr.1.bA;have vQ:=V hdr.1;clear hcs iB hd hl HR hdr;by_cases h1:dl=1
 .subst h1;obtain⟨x,rfl⟩:=List.length_eq_one_iff.1 jU;obtain⟨b2,o2,rfl,hc⟩:=vQ.I.cells U;have c0:=hc 0 U;simp only[eL,List.getD_cons_zero]at c0;obtain rfl:(x==k)=R:=by rw[<-cU.I];by_cases h:x=k<;>simp[h]
  clear hc jU;exact Q22
 .have e1:((dl:Int)==1)=ae:=by simp;omega
  obtain rfl:ae=R:=by
   rw[<-cU.I];refine(eP (λh:d=[k]=>h1 ?_)).symm;rw[<-jU,h];rfl
  clear jU;exact Q22
theorem Tr.an0 {m:Mod} {d:dL} {ps:List bD} {dl:Nat} (x:Int) (h:k<dl):Tr.GL m d ps k x (dl-k)=if(Tr.one m d ps k).2 ≠0 then(0,(Tr.one m d ps k).2)else Tr.GL m d ps (k+1) (cM (x+(Tr.one m d ps k).1)) (dl-(k+1)):=by
 obtain⟨n,hn⟩:∃n,dl-k=n+1:=⟨dl-k-1,U⟩;rw[hn,show dl-(k+1)=n by omega];rfl
theorem adN (m:Mod) (d:dL) (ps:List bD) (nX rj:Nat->Prop) (xa:aC) (xl xm:Nat) (da:aC) (dl dm:Nat) (pa:aC) (pl pm:Nat) (w:H)
 (hm:cH iM 7 nX w xa xl m.L) (hd:cH kz 2 rj w da dl d.xs) (hp:pH w pa pl ps):
 aA aq 8 #[aF (m.cells xa xl xm),aF (d.cells da dl dm),O pa pl pm] w λe w'=>e=bG (aL #[Y Z (Tr.eval m d ps).1,Y Z (Tr.eval m d ps).2])/\ay w w w':=by
 have K0:=V (aE.fG w (ag (m.cells xa xl xm) 25) (ag (d.cells da dl dm) 28));have KR:=V ((hm.bt gL U).and ((hd.bt iG U).and hp.bt));have DM:=V (Lm d rj da dl dm);have PM:=V (Pz m nX xa xl xm ps pa pl pm);have TL:=V (amZ m d.k nX xa xl xm);have Es:=V hd.1;obtain⟨R,hR⟩:=J (Tr.eval m d ps);rw[hR];unfold Tr.eval at hR;obtain⟨A1,qW⟩:∃Z3,d.aH=Z3:=⟨_,rfl⟩;obtain⟨A2,xV⟩:∃Z3,m.qT ps=Z3:=⟨_,rfl⟩;obtain⟨A3,Cq⟩:∃Z3,Tr.tells m d.k=Z3:=⟨_,rfl⟩;rw[qW,xV,Cq]at hR;rw[qW]at DM;rw[xV]at PM;rw[Cq]at TL;have HR:=V hR;have XQ:=V qW;clear hm hd hp hR qW xV Cq;have f0:=eQ K0.F.1;have g0:=df K0.F.2.1;go_enter func8,ntmps8;go_wp2_with fail;refine bY (DM.I _ (KR.aQ K0.F.2.2).2.1) λw2 hb=> ?_;have K1:=K0.bU hb;clear hb DM;have f0:=eQ K1.F.1
 cases A1
 .obtain rfl:(0,1)=R:=by rw[<-HR.I,aR bK]
  go_wp2_with fail;refine aZ (v:=aL #[Y Z 0,Y Z 1]) Q3q rfl ⟨rfl,K1.F.2.2⟩
 go_wp2_with fail;refine bY (PM.I _ (KR.aQ K1.F.2.2).1 (KR.aQ K1.F.2.2).2.2) λw3 hb=> ?_;have K2:=K1.bU hb;clear hb PM
 cases A2
 .obtain rfl:(0,1)=R:=by rw[<-HR.I,aR bK]
  go_wp2_with fail;refine aZ (v:=aL #[Y Z 0,Y Z 1]) Q3q rfl ⟨rfl,K2.F.2.2⟩
 have f0:=eQ K2.F.1;have g0:=df K2.F.2.1;have EQ:=λw=>ac4 d.a d.b d.c m.a m.b m.c w;obtain⟨ZU,hE⟩:=J ((d.a==m.a)&&((d.b==m.b)&&(d.c==m.c)));simp only[hE]at EQ;have HE:=V hE;clear hE;have oJ:=HR.I;rw[aI bK]at oJ;have fL:=V oJ;clear oJ HR
 cases ZU
 .obtain rfl:(0,2)=R:=by
   rw[<-fL.I,aR];rintro⟨h1,h2,h3⟩;have:=HE.I;simp[h1,h2,h3]at this
  go_wp2_with fail;refine aZ (v:=aL #[Y Z 0,Y Z 2]) Q3q rfl ⟨rfl,K2.F.2.2⟩
 have Dy:=fL.I;rw[aI (by have:=HE.I;simp only[fS,beq_iff_eq]at this;exact λc=>c ⟨this.1,this.2.1,this.2.2⟩)]at Dy;have gU:=V Dy;clear fL HE;go_wp2_with fail;refine bY (TL.I _ (KR.aQ K2.F.2.2).1) λw4 hb=> ?_;have K3:=K2.bU hb;clear TL EQ
 cases A3
 .obtain rfl:(0,2)=R:=by rw[<-gU.I,aR rfl]
  go_wp2_with fail;refine aZ (v:=aL #[Y Z 0,Y Z 2]) Q3q rfl ⟨rfl,K3.F.2.2⟩
 have jk:=V (show Tr.GL m d ps 0 0 (dl-0)=R by rw[<-gU.I,aI bK,Es.I];rfl);have asC:dl<=64:=by have:=(dL.nT XQ.I).2.2.1;have:=Es.I;omega
 clear gU;have g0:=df K3.F.2.1;go_upto_region 7 with fail;go_loopw [42,8,9,10,11,12,13,14,15] (λi n _ _ _ _ _ _ _ wr=>∃(k:Nat) (x:Int),k<=dl/\i=Y Z k/\n=Y Z x/\Tr.GL m d ps k x (dl-k)=R/\ay w4 w4 wr) (λi _ _ _ _ _ _ _ _ _=>dl-(aX i).toNat)
 case atStart=>exact⟨0,0,cK _,rfl,rfl,jk.I,Below.refl _ _⟩
 case round=>
  obtain⟨k,x,hk,rfl,rfl,nU,cW⟩:=hrel;have iW:=V nU;have K4:=K3.bU cW;have HB:=V cW;clear nU cW;by_cases aT:k<dl
  case neg=>
   obtain rfl:k=dl:=U;obtain rfl:(x,0)=R:=Q4U;go_wp2_with fail;refine aZ (v:=aL #[Y Z x,Y Z 0]) Q3q rfl ⟨rfl,K4.F.2.2⟩
  have xX:=V (iW.I.symm.trans (Tr.an0 x aT)).symm;have fC:(k:Int)<(dl:Int):=Int.ofNat_lt.2 aT;have f0:=eQ K4.F.1;have g0:=df K4.F.2.1;have OF:=V (acG d rj da dl dm wr 1 1 [(k:Int)]);have HN:=V (ai.new wr Z 3 (0,0) [(k:Int)] (by intro z hz;rw[pS.1 hz];exact gF U U) bK);have XR:=aD wr (ag #[Y Z (k:Int)] 3);have HKN:=K4.bU XR;have KRN:=V ((KR.aQ (K4.F.2.2.step XR)).2.1);clear XR;obtain⟨v,hv⟩:=J (Tr.one m d ps k);rw[hv]at xX;unfold Tr.one at hv;have HV:=V hv;clear hv;generalize Bt.of d [(k:Int)]=r at*;obtain⟨re,t,ls⟩:=r;go_wp2_with fail;refine(OF.I _ KRN.I HN.I).mono ?_;rintro e' w8 ⟨u,la,ln,lc,rfl,hv,uO,hl,-,hb⟩;obtain⟨ta,tl,tc,tb,tm,tk,rfl,y1,y2,-,-⟩:=hv;have l8:tl<=tc:=uO _ _ _ _ _ _ _ rfl;have M9:=bZ w8 (bj ta tl tc t.e tb tm tk);have xY:=aD w8 (bj ta tl tc t.e tb tm tk);have K5:=V (((HKN.I.step hb).step xY).and ((aE.block M9).and (((y1.below xY).bt.and (y2.below xY).bt).and (hl.below xY).bt)));have dO:=V (HB.I.step ((aD wr (ag #[Y Z (k:Int)] 3)).step (hb.step xY)));clear uO hl M9 xY HKN;unfold aS;try dsimp only
  go_upto_region 10 with fail;obtain⟨xb,je⟩:∃u,w8.heap.size=u:=⟨_,rfl⟩;rw[je]at K5⊢;clear je;generalize li w8 (bj ta tl tc t.e tb tm tk)=w9 at*;by_cases jn:re=0
  case neg=>
   have e8:(re != 0)=true:=Q3M;obtain rfl:(0,re)=v:=by rw[<-HV.I,aR jn]
   obtain rfl:(0,re)=R:=by have:=xX.I;rwa[aR jn]at this
   go_wp2_with fail;try simp only[j6,Exit.then]
   refine aZ (v:=aL #[Y Z 0,Y Z re]) Q3q rfl ⟨rfl,K5.F.1.2.2⟩
  subst jn;have mT:=HV.I;rw[aI (λc=>c rfl)]at mT;have ze:=V mT;clear mT HV;have FI:=V (λw' h1 h2 h3 h4=>amn m nX xa xl xm ps pa pl pm t ta tl tc tb tm tk w' h1 h2 h3 h4 l8);generalize Fw.infer m ps t=r at*;obtain⟨fe,fn,y⟩:=r;have f0:=eQ K5.F.1.1;have t0:=aY K5.F.2.1;unfold aS at FI;go_upto_region 12 with fail;go_wp2_with fail;refine(FI.I _ (KR.aQ K5.F.1.2.2).1 (KR.aQ K5.F.1.2.2).2.2 K5.F.2.2.1.1 K5.F.2.2.1.2).mono ?_;rintro e' fU ⟨_,rfl,⟨cs,rfl,⟨a1,l1,c1,a2,l2,c2,rfl,q1,q2⟩,ip⟩,hb⟩;have M9:=bZ fU (bj a1 l1 c1 y.e a2 l2 c2);have xY:=aD fU (bj a1 l1 c1 y.e a2 l2 c2);have K6:=V (((K5.I.step hb).step xY).and ((aE.block M9).and ((q1.1.below xY).bt.and (q2.1.below xY).bt)));have eW:=V (dO.I.step (hb.step xY));clear hb M9 xY K5;try dsimp only
  go_upto_region 13 with fail;obtain⟨yb,hyb⟩:∃u,fU.heap.size=u:=⟨_,rfl⟩;rw[hyb]at K6⊢;clear hyb;generalize li fU (bj a1 l1 c1 y.e a2 l2 c2)=BV at*;by_cases QX:fe=0
  case neg=>
   have e8:(fe != 0)=true:=by simpa using QX
   obtain rfl:(0,fe)=v:=by rw[<-ze.I,aR QX]
   obtain rfl:(0,fe)=R:=by have:=xX.I;rwa[aR QX]at this
   go_wp2_with fail;try simp only[j6,Exit.then]
   refine aZ (v:=aL #[Y Z 0,Y Z fe]) Q3q rfl ⟨rfl,K6.F.1.1.2.2⟩
  subst QX;have IV:=ze.I;rw[aI (λc=>c rfl)]at IV;have Gc:=V IV;clear IV ze;have RI:=V (λw' h1 h2=>alw y (aS a1 l1 c1 y.e a2 l2 c2) la ln lc ls w' h1 (λh2 a l c b m k hk=>⟨ip h2 a l c y.e b m k hk,cK _⟩) h2);generalize L.right y ls=r at*;obtain⟨rn,ee⟩:=r;have t0:=aY K6.F.2.1;unfold aS at RI;go_upto_region 15 with fail;go_wp2_with fail;refine bY (RI.I _ ⟨_,_,_,_,_,_,rfl,K6.F.2.2.1,K6.F.2.2.2⟩ K6.F.1.2.2.2) λsR hb=> ?_;have kP:=V (eW.I.step hb);have K7:=K6.bU hb;clear K6;try dsimp only
  go_upto_region 16 with fail;by_cases QY:ee=0
  case neg=>
   have e8:(ee != 0)=true:=by simpa using QY
   obtain rfl:(0,ee)=v:=by rw[<-Gc.I,aR QY]
   obtain rfl:(0,ee)=R:=by have:=xX.I;rwa[aR QY]at this
   go_wp2_with fail;try simp only[j6,Exit.then]
   refine aZ (v:=aL #[Y Z 0,Y Z ee]) Q3q rfl ⟨rfl,K7.F.1.1.2.2⟩
  subst QY;obtain rfl:(rn,0)=v:=by rw[<-Gc.I,aI (λc=>c rfl)]
  have jI:=V (show Tr.GL m d ps (k+1) (cM (x+rn)) (dl-(k+1))=R by have:=xX.I;rwa[aI (λc=>c rfl)]at this);have i7:∀[Inhabited Nat],Z.wrap ((k:Int)+1)=(k:Int)+1:=λ[_]=>dv _ U;clear xX Gc;go_wp2_with fail;go_roundw
  case rel=>exact⟨k+1,_,U,rfl,rfl,jI.I,kP.I⟩
  case measure=>exact Q5q
end
end Go.Proofs.YtcpmhoodeieanaaGreatDoor
