/-
  Part 3 of the proof that TopAsk answers true: laws of the functions that it calls, on any memory that holds their arguments.
-/
import Derived.Test.YtcpmhoodeieanaaGreatDoorZB
set_option maxRecDepth 100000
set_option maxHeartbeats 20000000
set_option linter.unusedVariables false
set_option linter.unusedSimpArgs false
open Go.Lib renaming hid→V
open Go.IntKind renaming i64→Z,i8→aO,i32→cr
open Go.Value renaming int→Y,slice→O,agg→aF,bool→aK,tuple→aL,pointer→aP
open Option renaming none→G,some→A
open Go renaming World→H,Value→aj,Calls→aA,results→aW,bodyPost_ret→aZ,lt_of_block→bH,heap_alloc_new→bZ,IntKind→ey,maxLen→eS
open Bool renaming false→ae
open Go.Obj renaming cells→ag
open Go.Proofs.Tryz renaming prog→aq
open Go.RowKit renaming Below→ay,intOf→aX
open Or renaming inr→bJ
open Nat renaming le_refl→bu,zero_le→cK,add_zero→eL,lt_of_lt_of_le→iP,mul_pos→kZ,mul_le_mul→mq
open Go.World renaming size_alloc→bF
open Go.Ending renaming returned→bG
open List renaming getElem?_eq_getElem→cR,length_append→dG,getD→dV,length_map→ib,mem_map→kG,length_replicate→sw
open Go.Lit renaming int→cX
open Go.World renaming block_lt_of_cell?→jY,cell?→kY,setCell→ss,alloc→li
open Int renaming toNat_natCast→jx,mul_le_mul→pA,mul_assoc→pU
open Decidable renaming byContradiction→oP
namespace Go.Proofs.YtcpmhoodeieanaaGreatDoor
open Go.RowKit Go.Proofs.Tryz
variable {p:Addr} {cs:Array aj} {w w':H} {e k s x:Int} {ps:List (Int×Int)} {bd len n:Nat} {S:Nat->Prop} {a:aC} {d ds gd gz z zs:ah} {od oe v:aj}
section
attribute [local go_sem ↓] wp_at_zero wp_at_succ
def agI (ds:ah) (e:Int) (zs:ah) (w:H):Ending->H->Prop:=λr w'=>∃a l c b m k,r=bG (aL #[aS a l c e b m k,Y Z 0])/\ai Z w' a l ds/\ai cr w' b m zs/\ay w w w'
theorem T.agJ (h:∀x∈z,(cX aO x).wf=true) {R C:Int} {P Q:Nat}:∀x∈T.jB z R C k s P Q n,(cX cr x).wf=true:=by
 intro x hx;obtain⟨j,_,rfl⟩:=kG.1 hx;have:=T.Tm (EW h) (T.pY R C k s P Q j);have hl:(T.pY R C k s P Q j).length<=25:=by
  unfold T.pY ix;exact Q2f
 exact aa4 U
def EZ (e d0 d1:Int) (P Q:Nat) (w4:H) (v:aj) (wx:H):Prop:=∃bo bd,v=aP (A ⟨bo,0,G⟩)/\wx.heap[bo]? =A (cV (A ⟨bd,0,G⟩) 4 4 e G 0 0)/\
 ai Z wx (A ⟨bd,0,G⟩) 4 [d0,d1,P,Q]/\ay w4 w4 wx/\w4.heap.size<=bo/\w4.heap.size<=bd/\bd≠bo
theorem EZ.one (e d0 d1:Int) (P Q:Nat) (w4:H) (h0:(cX Z d0).wf=true) (h1:(cX Z d1).wf=true) (hP:P<=100) (hQ:Q<=100):
 EZ e d0 d1 P Q w4 (aP w4) (li (li w4 (cV (w4+1:Nat) 4 4 e G 0 0)) (mr d0 d1 P Q)).drew:=by
 have hw:∀z∈[d0,d1,(P:Int),(Q:Int)],(cX Z z).wf=true:=by
  exact Q0D
 have hr:=ai.new (li w4 (cV (w4+1:Nat) 4 4 e G 0 0)) Z 3 (0,0) [d0,d1,(P:Int),(Q:Int)] hw bK;rw[bF]at hr;exact⟨_,_,rfl,dX (bZ w4 _) _,ai.bI hr 1,((aD w4 _).step (aD _ _)).bI 1,bu _,U,U⟩
theorem EZ.two (e d0 d1:Int) (P Q:Nat) (w4:H) (h0:(cX Z d0).wf=true) (h1:(cX Z d1).wf=true) (hP:P<=100) (hQ:Q<=100):
 EZ e d0 d1 P Q w4 (aP (w4+1:Nat)) (li (li w4 (mr d0 d1 P Q)) (cV w4 4 4 e G 0 0)).drew:=by
 have hw:∀z∈[d0,d1,(P:Int),(Q:Int)],(cX Z z).wf=true:=by
  exact Q0D
 have hr:=ai.new w4 Z 3 (0,0) [d0,d1,(P:Int),(Q:Int)] hw bK;have hn:=bZ (li w4 (mr d0 d1 P Q)) (cV w4 4 4 e G 0 0);rw[bF]at hn;exact⟨_,_,rfl,hn,ai.bI (hr.below (aD _ _)) 1,((aD w4 _).step (aD _ _)).bI 1,U,bu _,U⟩
theorem agK (a:aC) (c:Nat) (d:ah) (e:Int) (b:aC) (m k0:Nat) (z:ah) (k s:Int) (P Q N:Nat) (w:H) (h0:ai Z w a 4 d) (h1:ai aO w b m z) (ht:T.aH d e z) (hP:bO (d.getD 2 0) k s 0=P) (hQ:bO (d.getD 3 0) k s 0=Q) (oB:0<P) (kt:0<Q) (hN:d.getD 0 0*d.getD 1 0=N) (zM:N<=8192) (hz:(m:Int)=N*d.getD 2 0*d.getD 3 0) (sC:m<=8192):
 aA aq 234 #[aS a 4 c e b m k0,Y Z k,Y Z s] w (agI [d.getD 0 0,d.getD 1 0,P,Q] (e-k/2*2) (T.jB z (d.getD 2 0) (d.getD 3 0) k s P Q (N*(P*Q))) w):=by
 have M:=V (λw h0 h1=>(dI ht▸jr a 4 c d e b m k0 z w h0 h1:aA _ _ _ _ (dZ (aK true) w)));have OV:=V (N7 a c d k s);rw[hP,hQ,dI (show(0:Int)<P by omega),dI (show(0:Int)<Q by omega)]at OV;have C5:=h0.wf;obtain⟨b0,o0,rfl,e0⟩:=h0.cells U;have uq:∀i,i<4->(cX Z (d.getD i 0)).wf=true:=λi hi=>by
  exact Q2h
 have ET:=uq 0 U;have EU:=uq 1 U;have lS:=e0 0 U;have rD:=e0 1 U;rw[eL]at lS;have H0:=V h0;have H1:=V h1;generalize d.getD 0 0=d0 at*;generalize d.getD 1 0=d1 at*;generalize d.getD 2 0=R at*;generalize d.getD 3 0=C at*;have HN:=V hN;have HP:=V hP;have HQ:=V hQ;have HZ:=V hz;have yq:=V lS;have C7:=V rD;obtain⟨_,_,⟨Dc,vD⟩,_⟩:=ht;have ot:1<=k/\k<=5:=E (um (show 1<=bO R k s 0 by rw[hP];omega));obtain⟨kk,fH⟩:=J (k/2*2);have E0:0<=kk/\kk<=5:=U;have LS:=V (λw=>(fH▸aa6 k w ot.1 ot.2 :aA _ _ _ _ _));rw[fH];obtain⟨ZU,hE⟩:=J (e-kk);rw[hE];have Kc:Z.wrap (e-kk)=ZU:=by rw[<-hE];exact IntWalk.i64_in _ U
 have HE:=V hE;have Kd:=V Kc;clear h0 hP hQ hN hz uq C5 lS fH hE Kc;unfold aS;unfold aS at M;unfold windows at OV;go_enter func234,ntmps234;go_wp2_with fail;refine bY (M.I _ ((H0.I.below (aD _ _)).below (aD _ _)) ((H1.I.below (aD _ _)).below (aD _ _))) λw2 hb=> ?_;have HX:=V (fF (dX (bZ w _) _) hb);have x0:=aY HX.I;have HR:=V (fF (bZ (li w _) _) hb);rw[bF]at HR;have BB:=V (((aD w _).step (aD _ _)).step hb);have H2:=V (((H0.I.below (aD _ _)).below (aD _ _)).below hb);clear hb;go_wp2_with fail;refine bY (OV.I _ H2.I) λw3 hb=> ?_;have Hq:=V (fF HX.I hb);have fL:=V (fF HR.I hb);have B3:=V (BB.I.step hb);clear HR OV;go_upto_region 6 with fail;have gT:=V (bZ w3 (ag #[Y Z R,Y Z C,Y Z k,Y Z s,Y Z P,Y Z Q] 331));have xh:=V (dX Hq.I (ag #[Y Z R,Y Z C,Y Z k,Y Z s,Y Z P,Y Z Q] 331));have gU:=V (dX fL.I (ag #[Y Z R,Y Z C,Y Z k,Y Z s,Y Z P,Y Z Q] 331));have B4:=V (B3.I.step (aD w3 (ag #[Y Z R,Y Z C,Y Z k,Y Z s,Y Z P,Y Z Q] 331)));have fZ:w.heap.size+1<w3.heap.size:=bH fL.I;generalize li w3 (ag #[Y Z R,Y Z C,Y Z k,Y Z s,Y Z P,Y Z Q] 331)=w4 at*;generalize w3.heap.size=bw at*;have oW:b0<w:=jY w _ yq.I;have x0:=aY xh.I;obtain⟨_,_,_,_,p4,p5⟩:=Hp gT.I;have lS:=B4.I.cell_of yq.I;have rD:=B4.I.cell_of C7.I;have Hr:P<=100:=Q39;have Hs:Q<=100:=Q3a;have Tj:P<=20:=Q39;have Tk:Q<=20:=Q3a;go_cut [10] (λs10 wx=>EZ ZU d0 d1 P Q w4 s10 wx)
 case first=>as_aux_lemma=>
  have hE1:=HE.I;have hE2:Z.wrap ZU=ZU:=by
   have:=Kd.I;rw[HE.I]at this;exact this
  go_region_held3 (λw'=>w'.cell? ⟨w,0,G⟩=A (O (A ⟨b0,o0,G⟩) 4 c)/\w'.cell? ⟨w,1,G⟩=A (Y Z e)/\w'.cell? ⟨bw,4,G⟩=A (Y Z P)/\w'.cell? ⟨bw,5,G⟩=A (Y Z Q)/\w'.cell? ⟨b0,o0,G⟩=A (Y Z d0)/\w'.cell? ⟨b0,o0+1,G⟩=A (Y Z d1)) (go_keep) (first|(go_at_call 290;((refine(LS.I _).mono ?_);rintro e7 w7 ⟨rfl,rfl⟩)))
  all_goals
   go_wp2_with fail;go_meet
   case rel=>(try rw[hE2]);first|exact EZ.one ZU d0 d1 P Q w4 ET EU Hr Hs|exact EZ.two ZU d0 d1 P Q w4 ET EU Hr Hs
 case rest=>
  obtain⟨bo,bd,rfl,ho,vC,gi,kM,j8,zN⟩:=hcut;have lT:=V ho;have Da:=V vC;have C9:=V (fF xh.I gi);have jk:=V (fF gU.I gi);have dO:=V (fF gT.I gi);have B5:=V (B4.I.step gi);have iK:w4.heap.size<=wc:=gi.size;have ja:bw<w4:=bH gT.I;have nK:bo<wc:=bH lT.I;have A7:bd<wc:=Da.I.lt U;clear ho vC gi lS;go_wp2_with fail;obtain⟨w5,rfl⟩:∃w5:H,w5=wc:=⟨_,rfl⟩;have ME:=V (agE w w5.drew b m k0 z R C k s P Q N w.heap.size bo _ _ _ _ HP.I HQ.I oB kt zM HZ.I sC H1.I (B5.I.bI 1) C9.I lT.I U U);unfold windows at ME;have hN:=HN.I;have hNw:Z.wrap (N:Int)=N:=wrap_small N U;obtain⟨x0,_,_,_,_,_⟩:=aY C9.I;obtain⟨p0,p1,p2,p3,p4,p5⟩:=Hp dO.I;have lS:=B5.I.cell_of yq.I;have rD:=B5.I.cell_of C7.I;have vE:=V (show ¬(bw=bo) by omega);have nbx:=V (show ¬(w.heap.size=bo) by omega);have Ke:=V (show ¬(b0=bo) by omega);have vF:=V (show bw<w5 by omega);have lbx:=V (show w.heap.size<w5 by omega);have E3:=V (show b0<w5 by omega);go_region_held3 (λw'=>(w'.cell? ⟨bw,0,G⟩=A (Y Z R)/\w'.cell? ⟨bw,1,G⟩=A (Y Z C)/\w'.cell? ⟨bw,2,G⟩=A (Y Z k)/\w'.cell? ⟨bw,3,G⟩=A (Y Z s)/\w'.cell? ⟨bw,4,G⟩=A (Y Z P)/\w'.cell? ⟨bw,5,G⟩=A (Y Z Q))/\w'.cell? ⟨w,0,G⟩=A (O (A ⟨b0,o0,G⟩) 4 c)/\w'.cell? ⟨b0,o0,G⟩=A (Y Z d0)/\w'.cell? ⟨b0,o0+1,G⟩=A (Y Z d1))
   (first
    |go_keep
    |exact⟨⟨cA.I.cell vF.I vE.I p0,cA.I.cell vF.I vE.I p1,cA.I.cell vF.I vE.I p2,cA.I.cell vF.I vE.I p3,cA.I.cell vF.I vE.I p4,cA.I.cell vF.I vE.I p5⟩,cA.I.cell lbx.I nbx.I x0,cA.I.cell E3.I Ke.I lS,cA.I.cell E3.I Ke.I rD⟩)
   (first|(go_at_call 241;(refine ME.I.mono ?_);rintro e6 w6 ⟨rfl,Db,xj⟩;have cA:=V xj;have hmx:=V Db;clear Db xj))
  obtain⟨vd,Tl,A8,_⟩:=hmx.I;have yr:=(cA.I.block (w.heap.size+1) (by show w.heap.size+1<w5.heap.size;omega) (by show ¬(w.heap.size+1=bo);omega)).trans jk.I;have Ol:N*(P*Q)<=3300000:=by
   have:=mq zM (mq Tj Tk);omega
  obtain⟨av,cv,rfl,J9⟩:=ai.nJ A8 (T.agJ H1.I.wf) U;have Ka:=V J9;have rE:=V (cA.I.rowAt (by show bd<w5;omega) (by show ¬(bd=bo);omega) (Da.I.bI 1));have B6:=V (cA.I.toBelow (B5.I.bI 1) (by show w.heap.size<=w5;omega) (by rintro g rfl;omega));have lv:=V (λx (h:av=A x)=>(A8.lt x.block (by rw[h];rfl)).1);have q0:=aY Tl;have oD:=V yr;have u0:=aY yr;clear A8 J9 lS hmx;go_wp2;refine aZ (v:=aL #[aF #[O bd 4 4,Y Z ZU,O av (N*(P*Q)) cv],Y Z 0]) ?_ rfl ⟨_,_,_,_,_,_,rfl,?_,?_,?_⟩
  .simp[aW,results234,go_sem,cT oD.I]
  .exact rE.I.eJ (λx hx=>Q3A)
  .exact Ka.I.eJ (λx hx=>Q3s)
  .exact((B6.I.setCell Q2S _).setCell Q2S _).setCell Q2S _
end
theorem agQ (a:aC) (l c:Nat) (d:ah) (e:Int) (b:aC) (m k0:Nat) (z:ah) (k s:Int) (w:H) (h0:ai Z w a l d) (h1:ai aO w b m z) (ht:T.aH d e z) (ho:sZ d k s):
 aA aq 234 #[aS a l c e b m k0,Y Z k,Y Z s] w (rF (T.tj d k s) (e-k/2*2) (T.sumOf d z k s) 0 w):=by
 obtain⟨f1,f2,f3,f4,f5,f6,f7,f8,f9,_⟩:=T.facts ht ho;obtain rfl:l=4:=Q4T;rw[h1.bA]at f8 f9;exact agK a c d e b m k0 z k s (T.rowsOf d k s) (T.qg d k s) (T.j9 d) w h0 h1 ht f1 f2 f3 f4 f5 f6 f8 f9
namespace T
def qK (d:ah) (e:Int) (z:ah) (k s:Int):List Int:=if err d e z k s=0 then tj d k s else[]
def Dd (d:ah) (e:Int) (z:ah) (k s:Int):Int:=if err d e z k s=0 then e else 0
def De (d:ah) (e:Int) (z:ah) (k s:Int):List Int:=if err d e z k s=0 then maxOf d z k s else[]
def Df (d:ah) (e:Int) (z:ah) (k s:Int):List Int:=if err d e z k s=0 then Tp d z k s else[]
def Oo (d:ah) (e:Int) (z:ah) (k s:Int):Int:=if err d e z k s=0 then e-k/2*2 else 0
def Oq (d:ah) (e:Int) (z:ah) (k s:Int):List Int:=if err d e z k s=0 then sumOf d z k s else[]
end T
theorem agR (a:aC) (l c:Nat) (d:ah) (e:Int) (b:aC) (m k0:Nat) (z:ah) (k s:Int) (w:H) (h0:ai Z w a l d) (h1:ai aO w b m z):
 aA aq 195 #[aS a l c e b m k0,Y Z k,Y Z s] w (Tq (T.qK d e z k s) (T.Dd d e z k s) (T.De d e z k s) (T.Df d e z k s) (T.err d e z k s) w):=by
 unfold T.qK T.Dd T.De T.Df;by_cases h:T.err d e z k s=0
 .rw[aR h,aR h,aR h,aR h,h];obtain⟨ht,ho⟩:=T.Ts h;exact agM a l c d e b m k0 z k s w h0 h1 ht ho
 .rw[aI h,aI h,aI h,aI h];exact agN a l c d e b m k0 z k s w h0 h1 h
theorem agS (a:aC) (l c:Nat) (d:ah) (e:Int) (b:aC) (m k0:Nat) (z:ah) (k s:Int) (w:H) (h0:ai Z w a l d) (h1:ai aO w b m z):
 aA aq 234 #[aS a l c e b m k0,Y Z k,Y Z s] w (rF (T.qK d e z k s) (T.Oo d e z k s) (T.Oq d e z k s) (T.err d e z k s) w):=by
 unfold T.qK T.Oo T.Oq;by_cases h:T.err d e z k s=0
 .rw[aR h,aR h,aR h,h];obtain⟨ht,ho⟩:=T.Ts h;exact agQ a l c d e b m k0 z k s w h0 h1 ht ho
 .rw[aI h,aI h,aI h];exact agO a l c d e b m k0 z k s w h0 h1 h
def agT (ds:ah) (e:Int) (zs fs:ah) (err:Int) (w:H):Ending->H->Prop:=λr w'=>∃a l c b m k g n h,(err=0->(∀x,a=A x->w.heap.size<=x.block)/\(∀x,b=A x->w.heap.size<=x.block)/\∀x,g=A x->w.heap.size<=x.block)/\r=bG (aL #[aS a l c e b m k,O g n h,Y Z err])/\ai Z w' a l ds/\ai aO w' b m zs/\ai Z w' g n fs/\ay w w w'
theorem agU (a:aC) (l c:Nat) (d:ah) (e:Int) (b:aC) (m k0:Nat) (z:ah) (k s:Int) (w:H) (h0:ai Z w a l d) (h1:ai aO w b m z):
 aA aq 195 #[aS a l c e b m k0,Y Z k,Y Z s] w (agT (T.qK d e z k s) (T.Dd d e z k s) (T.De d e z k s) (T.Df d e z k s) (T.err d e z k s) w):=by
 by_cases h:T.err d e z k s=0
 .unfold T.qK T.Dd T.De T.Df;rw[aR h,aR h,aR h,aR h,h];obtain⟨ht,ho⟩:=T.Ts h;exact(agL a l c d e b m k0 z k s w h0 h1 ht ho).mono λ_ _ ⟨a,l,c,b,m,k,g,n,h,⟨_,f⟩,e⟩=>⟨a,l,c,b,m,k,g,n,h,λ_=>f,e⟩
 .exact(agR a l c d e b m k0 z k s w h0 h1).mono λ_ _ ⟨a,l,c,b,m,k,g,n,hh,e⟩=>⟨a,l,c,b,m,k,g,n,hh,λh'=>absurd h' h,e⟩
def vG (B ba bd:Nat) (od oe:aj) (n:Nat) (ps:List (Int×Int)) (w:H):Prop:=
 w.heap[ba]? =A (ag #[od,oe,O bd n n] 276 (0,0))/\w.ownsRow B 21 1 (O bd n n) n ((T.jC n ps).map (Y cr))/\ba≠bd
theorem vG.put {B ba q:Nat} {v u:Int} (h:vG B ba bd od oe n ps w) (hu:(T.jC n ps).getD q 0+v=u):vG B ba bd od oe n (ps++[((q:Int),v)]) (ss w ⟨bd,q,G⟩ (Y cr u)).drew:=by
 obtain⟨h1,h2,h3⟩:=h;refine⟨(Below.heap_setCell _ _ _ _ (λe=>h3 e)).trans h1,?_,h3⟩;have:=(h2.stored q (Y cr u)).1;rw[<-List.map_set,<-hu]at this;rw[T.aa9];subst hu;exact this.drew
theorem ar.ah5 {B q:Nat} {w0:H} (h:ar B (λg=>g=bd) w0 w):ar B (λg=>g=bd) w0 (ss w ⟨bd,q,G⟩ v).drew:=
 ⟨h.os,h.tape,h.output,by show w0.heap.size<=(ss w _ _).heap.size;rw[World.size_setCell];exact h.size,λg hg hn=>(Below.heap_setCell _ _ _ _ (λe=>hn e)).trans (h.block g hg hn)⟩
theorem ar.aak {B S} (h:ar B S w w') {k:ey} (hr:ai k w a n zs) (hl:∀x,a=A x->x.block<B/\¬S x.block):ai k w' a n zs:=
 ⟨hr.1,hr.2.1,hr.2.2.1,hr.2.2.2.imp id λ⟨b,off,e,hc⟩=>⟨b,off,e,λj hj=>by
  have hh:=h.block b (hl _ e).1 (hl _ e).2;have:=hc j hj;unfold kY at this⊢;simp only[hh];exact this⟩⟩
theorem ah6 (i:Nat) (a:aC) (l c:Nat) (L:ah) (bx ba bd:Nat) (od oe:aj) (pd:aC) (md cd:Nat) (D:ah) (B n:Nat) (ps:List (Int×Int)) (w:H)
 (hL:ai Z w a l L) (hl:l<=25) (hx:w ⟨bx,2,G⟩=A (O pd md cd)) (hD:ai aO w pd md D) (hi:i<md) (A6:∀z∈L,0<=z/\z<n) (hn:n<=8192) (hm:vG B ba bd od oe n ps w)
 (jd:∀p∈ps,-128<=p.2 /\p.2 <=128) (kN:ps.length<=300000) (ha:∀x,a=A x->x.block≠bd) (hd:∀x,pd=A x->x.block≠bd) (Ov:bx≠bd):
 aA aq 316 #[Y Z i,O a l c,aP ba,aP bx] w λe w'=>e=bG (aL #[])/\vG B ba bd od oe n (ps++L.map (λz=>(z,D.getD i 0))) w'/\ar w (λg=>g=bd) w w':=by
 have hv:=EW hD.wf i;have ik:=hL.bA;have hmd:=hD.eC;have HD0:=V ((hD.cells U));obtain⟨b1,o1,rfl,e1⟩:=HD0.I;have c1:=e1 i hi;have nb1:b1≠bd:=hd _ rfl;have H0:=V hL;have EP:=V A6;have HM:=V hm;have HX:=V hx;have Ow:=V c1;have HPS:=V jd;have HA:=V ha;generalize D.getD i 0=v at*;clear hL hD A6 hm hx jd ha hd;go_enter func316,ntmps316;go_wp2_with fail;go_loopw [10] (λZ9 wr=>∃j:Nat,j<=l/\Z9=Y Z j/\vG B ba bd od oe n (ps++(L.take j).map (λz=>(z,v))) wr/\ar w (λg=>g=bd) w wr) (λZ9 _=>l-(aX Z9).toNat)
 case atStart=>exact⟨0,cK _,rfl,by simpa using HM.I,rfl,rfl,rfl,bu _,λ_ _ _=>rfl⟩
 case round=>
  obtain⟨j,hj,rfl,aal,cA⟩:=hrel;have TC:=V aal;have vH:=V cA;obtain⟨Bc,aV,cI⟩:=aal;by_cases aT:j<l
  .have y0:=aY Bc;have gS:j<L.length:=U;obtain⟨b0,o0,ea,e0⟩:=H0.I.cells U;have oW:=HA.I _ ea;subst ea;have E3:=jY w _ (e0 j aT);have f0:=cA.cell (p:=⟨b0,o0+j,G⟩) E3 oW (e0 j aT);have f1:=cA.cell (jY w _ Ow.I) nb1 Ow.I;have x2:=cA.cell (jY w _ HX.I) Ov HX.I;obtain⟨a1,a2⟩:=EP.I (L.getD j 0) Q3m;have rA:(L.take (j+1)).map (λz=>(z,v))=(L.take j).map (λz=>(z,v))++[(L.getD j 0,v)]:=by
    have e:L.getD j 0=L[j]:=Q3m;rw[List.take_succ_eq_append_getElem gS,List.map_append,e];rfl
   have Bf:=V rA;have hlen:((ps++(L.take j).map (λz=>(z,v))).length:Int)<=300025:=by
    rw[dG,ib];have:=List.length_take_le j L;omega
   have ju:=V (T.Tt n (ps++(L.take j).map (λz=>(z,v))) (λp hp=>by
    rcases List.mem_append.1 hp with hp|hp
    .exact HPS.I p hp
    .obtain⟨z,_,rfl⟩:=kG.1 hp;show-128<=v/\v<=128
     omega))
   generalize hX:L.getD j 0=f at*;clear hX rA cA Bc;obtain⟨q,rfl⟩:∃q:Nat,f=q:=⟨f.toNat,U⟩;have hq:q<n:=U;generalize aam:ps++(L.take j).map (λz=>(z,v))=PS at*;have ah7:=V aam;clear aam;have f2:=aV.cellAt q U;have f3:=aV.frozenAt q;rw[List.getElem?_map,cR Q46,Option.map_some]at f2;have hg:(T.jC n PS)[q]' Q46=(T.jC n PS).getD q 0:=by
    have:q<(T.jC n PS).length:=Q46;simp[dV,cR this]
   rw[hg]at f2;have hu:=ju.I q;generalize hU:(T.jC n PS).getD q 0=u at*;have HU:=V hU;clear hg aV hU;have c5:cr.wrap (u+v)=u+v:=IntWalk.i32_in _ U;have c6:cr.wrap v=v:=IntWalk.i32_in _ U;have i1:(0:Int)<=(q:Int):=U;have i2:(q:Int)<(n:Int):=U;have i3:(0:Int)<=(i:Int):=U;have i4:(i:Int)<(md:Int):=U;go_wp2_with fail;go_region
   go_wp2_with fail;go_roundw
   case rel=>
    refine⟨j+1,U,Q2T,?_,vH.I.ah5⟩;rw[Bf.I,<-List.append_assoc,ah7.I];exact TC.I.put (by rw[HU.I])
   case measure=>exact Q5q
  .obtain rfl:j=l:=U;have rA:L.take j=L:=by rw[<-ik];exact List.take_length
   rw[rA]at TC;clear Bc aV rA cA;go_wp2_with fail;go_end0
   exact⟨rfl,TC.I,vH.I⟩
namespace T
def uw (z:ah) (R C k s:Int) (P Q n:Nat):List (Int×Int):=(List.range n).flatMap (λi=>(pY R C k s P Q i).map (λx=>(x,z.getD i 0)))
theorem aan (z:ah) (R C k s:Int) (P Q n:Nat):uw z R C k s P Q (n+1)=uw z R C k s P Q n++(pY R C k s P Q n).map (λx=>(x,z.getD n 0)):=by simp[uw,List.range_succ]
theorem TD (z:ah) (R C k s:Int) (P Q:Nat):∀n,(uw z R C k s P Q n).length<=25*n
 |0=>by simp[uw]
 |n+1=>by
  rw[aan,dG,ib];have h1:=TD z R C k s P Q n;have h2:(pY R C k s P Q n).length<=25:=by
   unfold pY ix;exact Q2f
  omega
theorem aao (h:∀x∈z,(cX aO x).wf=true) {R C:Int} {P Q:Nat}:∀p∈uw z R C k s P Q n,-128<=p.2 /\p.2 <=128:=by
 intro p hp;obtain⟨i,_,hp⟩:=List.mem_flatMap.1 hp;obtain⟨x,_,rfl⟩:=kG.1 hp;have:=EW h i;show-128<=z.getD i 0/\z.getD i 0<=128
 omega
end T
theorem vG.below {B ba:Nat} (h:vG B ba bd od oe n ps w) (hb:ay w w w'):vG B ba bd od oe n ps w':=
 ⟨fF h.1 hb,oh h.2.1 hb,h.2.2⟩
theorem ar.ah8 {B B':Nat} (h:ar B S w w') (hB:B'<=B):ar B' S w w':=⟨h.os,h.tape,h.output,h.size,λg hg hn=>h.block g (iP hg hB) hn⟩
theorem ah9 (w5:H) (b:aC) (m k0:Nat) (z:ah) (R C k s:Int) (P Q N bx bo bd n B:Nat) (od oe x0 x1:aj) (hP:bO R k s 0=P) (hQ:bO C k s 0=Q) (oB:0<P) (kt:0<Q) (hN:N<=8192) (hz:m=N*(P*Q)) (hm:m<=8192) (hn:(n:Int)=N*R*C) (Hv:n<=8192)
 (h1:ai aO w5 b m z) (hx:w5.heap[bx]? =A (ag #[x0,x1,O b m k0] 57 (0,0))) (ng:vG B bo bd od oe n [] w5) (Ov:bx≠bd) (iL:bd<w5) (gR:∀x,b=A x->x.block≠bd/\x.block<w5.heap.size):
 aA aq 241 #[windows R C k s P Q,Y Z N,.func (.func 316) #[] #[aP bo,aP bx]] w5 λe w'=>e=bG (aL #[])/\
  vG B bo bd od oe n (T.uw z R C k s P Q (N*(P*Q))) w'/\ar w5 (λg=>g=bd) w5 w':=by
 obtain⟨r1,r2,_,_,_,_,pr,_⟩:=um (show 1<=bO R k s 0 by omega);obtain⟨c1,c2,_,_,_,_,qc,_⟩:=um (show 1<=bO C k s 0 by omega);have lx:=bH hx;have cO:=aD w5 (tY R C k s P Q);have kL:=bZ w5 (tY R C k s P Q);have m9:(li w5 (tY R C k s P Q)).heap.size=w5.heap.size+1:=bF _ _;refine(ZL 316 #[aP bo,aP bx]
  (λi wr=>vG B bo bd od oe n (T.uw z R C k s P Q i) wr/\ar (w5.heap.size+1) (λg=>g=bd) (li w5 (tY R C k s P Q)) wr)
  R C k s P Q N w5 hP hQ oB kt hN (λargs w=>by simp[go_sem]) ?_ ?_ ?_ ?_).mono ?_
 .exact⟨by simpa[T.uw]using ng.below cO,rfl,rfl,rfl,bu _,λ_ _ _=>rfl⟩
 .exact Q0M
 .exact Q1p
 .intro n' i a l c wr hn' hi ⟨sF,hk⟩ dY ha;have sA:0<l:=Q4g;have hidx:n'*(P*Q)+i<m:=by
   have:=Nat.mul_le_mul_right (P*Q) (show n'+1<=N by omega);rw[Nat.succ_mul]at this;omega
  have CY:=(hk.block bx U Ov).trans (fF hx cO);have hD:ai aO wr b m z:=hk.aak (h1.below cO) (λx hx=>by have:=gR x hx;exact⟨U,this.1⟩);have J3:l<=25:=by
   rw[<-dY.bA];unfold ix;exact Q2f
  have xg:=ah6 (n'*(P*Q)+i) a l c (ix R C k s Q n' i) bx bo bd od oe b m k0 z B n (T.uw z R C k s P Q (n'*(P*Q)+i)) wr dY J3 (aY CY).2.2.1 hD hidx (by rw[hn];exact Ho r1 c1 hn') Hv sF (T.aao h1.wf) (E (T.TD z R C k s P Q (n'*(P*Q)+i)))
   (λx hx=>E (ha x hx)) (λx hx=>(gR x hx).1) Ov
  refine xg.mono ?_;rintro e w' ⟨rfl,m6,ig⟩;refine⟨rfl,?_,hk.trans (ig.ah8 (E hk.size))⟩;rw[T.aan,T.Tf R C k s P Q n' i hi];exact m6
 .exact Q0I
namespace T
end T
namespace Sh
theorem aaq:∀(l:ah) (n:Int),1<=n->(∀x∈l,1<=x/\x<=4096)->n*prod l<=8192->lC n l=n*prod l
 | [],n,_,_,_=>by simp[lC,prod]
 |x::l,n,h1,hx,hb=>by
  have x1:=hx x bK;have p1:=NM l λy hy=>(hx y Q53).1;rw[prod,<-pU]at hb⊢;have m1:1<=n*x:=by
   have:=pA h1 x1.1 U U;omega
  have m2:n*x<=n*x*prod l:=by
   have:=Int.mul_le_mul_of_nonneg_left p1 (show 0<=n*x by omega);omega
  rw[Hd U,aaq l (n*x) m1 (λy hy=>hx y Q53) hb]
theorem ahe (l1:1<=d.length) (l4:d.length<=4) (hx:∀x∈d,1<=x/\x<=4096) (hb:prod d<=8192):size d=prod d:=by
 unfold size;rw[aI U,aaq d 1 U hx U,Int.one_mul]
end Sh
namespace T
theorem ahf (ht:aH d e z) (ho:sZ d k s):Sh.size (tj d k s)=count d k s/\0<count d k s/\count d k s<=8192/\(rowsOf d k s:Int)<=d.getD 2 0/\(qg d k s:Int)<=d.getD 3 0:=by
 obtain⟨f1,f2,f3,f4,f5,f6,f7,f8,f9,f10,f11,f12,f13⟩:=facts ht ho;obtain⟨r1,r2,k1,k2,s1,s2,pr,_⟩:=um (show 1<=bO (d.getD 2 0) k s 0 by omega);obtain⟨c1,c2,_,_,_,_,qc,_⟩:=um (show 1<=bO (d.getD 3 0) k s 0 by omega);have Dk:(rowsOf d k s:Int)<=d.getD 2 0:=U;have hqc:(qg d k s:Int)<=d.getD 3 0:=U;have e1:(rowsOf d k s:Int)*qg d k s<=d.getD 2 0*d.getD 3 0:=pA Dk hqc U U;have e2:(j9 d:Int)*((rowsOf d k s:Int)*qg d k s)<=j9 d*(d.getD 2 0*d.getD 3 0):=Int.mul_le_mul_of_nonneg_left e1 U;rw[<-pU (j9 d:Int) (d.getD 2 0),<-f8]at e2;have e3:((count d k s:Nat):Int)=(j9 d:Int)*((rowsOf d k s:Int)*qg d k s):=by unfold count;push_cast;rfl
 have On:Sh.prod (tj d k s)=count d k s:=by
  unfold tj;simp only[Sh.prod,Int.mul_one];rw[e3,<-f5,pU]
 have hle:count d k s<=8192:=U;have m1:=kZ f3 f4;have m2:0<count d k s:=kZ f7 m1;have my:=Sh.iA ht.1;have d4:=ho.1;have g0:=my.get (show 0<d.length by omega);have g1:=my.get (show 1<d.length by omega);have g2:=my.get (show 2<d.length by omega);have g3:=my.get (show 3<d.length by omega);refine⟨?_,m2,hle,Dk,hqc⟩;rw[Sh.ahe (by simp[tj]) (by simp[tj]) (λx hx=> ?_) (by rw[On];omega),On];simp only[tj,List.mem_cons,List.not_mem_nil,or_false]at hx;rcases hx with rfl|rfl|rfl|rfl<;>omega
end T
theorem aoQ (a0:aC) (dW kj:Nat) (xs:ah) (a1:aC) (fh:Nat) (ys:ah) (w:H) (h0:ai Z w a0 dW xs) (h1:ai Z w a1 dW ys):
 aA aq 153 #[O a0 dW kj,O a1 dW fh] w (oa (aK (decide (xs=ys))) w):=by
 obtain⟨B,hB⟩:=J (decide (xs=ys));have HB:=V hB;rw[hB];clear hB;have H0:=V h0;have H1:=V h1;have hl:=h0.eC;have L0:=V h0.bA;have L1:=V h1.bA;have hb:((dW:Int) != (dW:Int))=ae:=Q2W;clear h0 h1;go_enter func153,ntmps153;go_wp2;go_loopw [13] (λi wr=>∃k q:Nat,k<=dW/\i=Y Z k/\(∀j,j<k->xs.getD j 0=ys.getD j 0)/\wr=w.drewN q) (λi _=>dW-(aX i).toNat)
 case atStart=>exact⟨0,0,cK _,rfl,λj hj=>U,rfl⟩
 case round=>
  exact Q00
theorem aeA (a0:aC) (dW kj:Nat) (xs:ah) (a1:aC) (jA fh:Nat) (ys:ah) (w:H) (h0:ai Z w a0 dW xs) (h1:ai Z w a1 jA ys):
 aA aq 153 #[O a0 dW kj,O a1 jA fh] w (oa (aK (decide (xs=ys))) w):=by
 by_cases c:dW=jA
 .subst c;exact aoQ a0 dW kj xs a1 fh ys w h0 h1
 .have e:decide (xs=ys)=ae:=eP λe=>c Q3Q;rw[e];have l0:=h0.eC;have l1:=h1.eC;have hb:((dW:Int) != (jA:Int))=true:=Q3r;clear h0 h1 e c;go_enter func153,ntmps153;exact Q1G
theorem Sh.aoR {y:Int} (h1:1<=x) (h2:1<=y):x<=x*y:=by rw[Int.mul_comm];exact Sh.afd h2 h1
theorem Sh.aoS {n:Int} (h:1<=x):8192/x<n↔8192<n*x:=by
 rw[Int.ediv_lt_iff_lt_mul U]
theorem aoT (a:aC) (len cap:Nat) (zs:ah) (w:H) (h:ai Z w a len zs) (h1:1<=len) (h4:len<=4):
 aA aq 92 #[O a len cap] w λe w'=>e=bG (aK (decide (0<Sh.lC 1 zs)))/\w=w':=by
 obtain⟨b,off,rfl,hc⟩:=h.cells U;have hl:=V h.bA;have HC:=V hc;clear h hc;go_enter func92,ntmps92;go_wp2;go_loop [3,16] (λn i=>∃(k:Nat) (N:Int),k<=len/\1<=N/\N<=8192/\i=Y Z k/\n=Y Z N/\Sh.lC N (zs.drop k)=Sh.lC 1 zs) (λ_ i=>len-(aX i).toNat)
 case atStart=>exact⟨0,1,cK _,U,U,rfl,rfl,rfl⟩
 case round=>
  obtain⟨k,N,hk,n1,n2,rfl,rfl,hs⟩:=hrel;by_cases aT:k<len
  .have NL:=HC.I k aT;rw[Sh.drop_cons zs k (E hl.I)]at hs;generalize zs.getD k 0=x at*;by_cases c1:x<1
   .rw[Sh.Cy (Or.inl c1)]at hs;have HS:=V hs;clear hs;exact Q1H
   .by_cases c2:4096<x
    .rw[Sh.Cy (bJ (Or.inl c2))]at hs;have HS:=V hs;clear hs;exact Q1H
    .obtain⟨m1,m2⟩:=Sh.He n1 n2 (show 1<=x by omega) (show x<=4096 by omega);have hq:=Sh.aoS (n:=N) (show 1<=x by omega);have q0:0<=8192/x:=Int.ediv_nonneg U U;have q1:8192/x<=8192:=Int.ediv_le_of_le_mul U U;by_cases c3:8192<N*x
     .rw[Sh.Cy (bJ (bJ c3))]at hs;have HS:=V hs;have pI:=hq.2 c3;clear hs hq;exact Q1H
     .rw[Sh.Hd U]at hs;have HS:=V hs;have pI:N<=8192/x:=by
       have:=λh=>c3 (hq.1 h);omega
      clear hs hq;exact Q1T
  .have yh:k=len:=U;have HS:=V (by rw[yh,List.drop_of_length_le (E hl.I)]at hs;exact hs:Sh.lC N []=Sh.lC 1 zs);clear hs yh;go_wp2;go_ret;exact⟨pC (dI (by rw[<-HS.I];show 0<N;omega)).symm,rfl⟩
theorem aoU (a:aC) (len cap:Nat) (w:H) (h:len<1\/4<len) (hb:len<=140737488351232):
 aA aq 92 #[O a len cap] w λe w'=>e=bG (aK ae)/\w=w':=by
 rcases h with h|h
 all_goals
  go_enter func92,ntmps92;go_wp2;go_ret;exact⟨rfl,rfl⟩
theorem Ns (a:aC) (len cap:Nat) (zs:ah) (w:H) (h:ai Z w a len zs):
 aA aq 92 #[O a len cap] w λe w'=>e=bG (aK (decide (0<Sh.size zs)))/\w=w':=by
 unfold Sh.size;rw[h.bA];by_cases c:len<1\/4<len
 .rw[aR c];exact aoU a len cap w c h.eC
 .rw[aI c];exact aoT a len cap zs w h U U
theorem Ry (a:aC) (len cap:Nat) (zs:ah) (w:H) (h:ai Z w a len zs):
 aA aq 36 #[O a len cap] w λe w'=>e=bG (Y Z (Sh.size zs))/\w=w':=by
 have ZW:=V h;by_cases c:0<Sh.size zs
 .have hd:=dI c;have my:=Sh.iA c;have HM:=V (λw h=>hd▸Ns a len cap zs w h);have hl:=V h.bA;have l1:1<=len:=h.bA▸my.l1;have l4:len<=4:=h.bA▸my.l4;obtain⟨b,off,rfl,hc⟩:=h.cells U;have HC:=V hc;have HY:=V my;rw[my.eq];clear h hc hd c my;go_enter func36,ntmps36;go_wp2_with fail;refine cq (HM.I _ ZW.I) ?_;go_wp2;go_loop [3,11] (λn i=>∃(k:Nat) (N:Int),k<=len/\1<=N/\N<=8192/\i=Y Z k/\n=Y Z N/\N*Sh.prod (zs.drop k)=Sh.prod zs) (λ_ i=>len-(aX i).toNat)
  case atStart=>exact⟨0,1,cK _,U,U,rfl,rfl,Q2W⟩
  case round=>
   obtain⟨k,N,hk,n1,n2,rfl,rfl,hs⟩:=hrel;by_cases aT:k<len
   .have NL:=HC.I k aT;rw[Sh.afb zs k (E hl.I),<-pU]at hs;have hx:=HY.I.get (show k<zs.length by have:=hl.I;omega);have hp:=HY.I.afc (k+1);have hle:=HY.I.le;generalize zs.getD k 0=x at*;have m:=Sh.He n1 n2 hx.1 hx.2;have hb:=Sh.aoR m.1 hp;rw[hs]at hb;have m8:N*x<=8192:=U;have m1:=m.1;have HS:=V hs;clear hs hb m;go_wp2;go_round
    case rel=>exact⟨k+1,N*x,U,m1,m8,Q2T,rfl,HS.I⟩
    case measure=>exact Q5q
   .have yh:k=len:=U;have HS:=V (by rw[yh,List.drop_of_length_le (E hl.I),Sh.prod,Int.mul_one]at hs;exact hs:N=Sh.prod zs);clear hs yh;exact Q1A
 .have hd:=eP c;have HM:=V (λw h=>hd▸Ns a len cap zs w h);rw[Sh.Sj c];clear h hd c;go_enter func36,ntmps36;go_wp2_with fail;refine cq (HM.I _ ZW.I) ?_;exact Q0d
namespace Sh
end Sh
theorem aoV (n k s p:Int) (w:H) (h:AP n k s p):aA aq 201 #[Y Z n,Y Z k,Y Z s,Y Z p] w λe w'=>e=bG (Y Z ((n+2*p-k)/s+1))/\w=w':=by
 obtain⟨h1,h2,h3,h4,h5,h6,h7,h8,h9⟩:=h;have d0:0<=(n+2*p-k)/s:=Int.ediv_nonneg U U;have d1:(n+2*p-k)/s<=100:=by
  exact Q2L
 go_enter func201,ntmps201;exact Q0d
theorem aoW (n k s p:Int) (w:H) (h:¬AP n k s p):aA aq 201 #[Y Z n,Y Z k,Y Z s,Y Z p] w λe w'=>e=bG (Y Z 0)/\w=w':=by
 have cs:n<1\/(1<=n/\16<n)\/(1<=n/\n<=16/\k<1)\/(1<=n/\n<=16/\1<=k/\5<k)\/(1<=n/\n<=16/\1<=k/\k<=5/\s<1)\/(1<=n/\n<=16/\1<=k/\k<=5/\1<=s/\4<s)\/(1<=n/\n<=16/\1<=k/\k<=5/\1<=s/\s<=4/\p<0)\/(1<=n/\n<=16/\1<=k/\k<=5/\1<=s/\s<=4/\0<=p/\k<=p)\/(1<=n/\n<=16/\1<=k/\k<=5/\1<=s/\s<=4/\0<=p/\p<k/\n+2*p<k):=by
  unfold AP at h;omega
 clear h;rcases cs with h|⟨h1,h⟩|⟨h1,h2,h⟩|⟨h1,h2,h3,h⟩|⟨h1,h2,h3,h4,h⟩|⟨h1,h2,h3,h4,h5,h⟩|⟨h1,h2,h3,h4,h5,h6,h⟩|⟨h1,h2,h3,h4,h5,h6,h7,h⟩|⟨h1,h2,h3,h4,h5,h6,h7,h8,h⟩
 all_goals
  go_enter func201,ntmps201;go_wp2;go_ret;exact⟨rfl,rfl⟩
theorem aeB (n k s p:Int) (w:H):aA aq 201 #[Y Z n,Y Z k,Y Z s,Y Z p] w λe w'=>e=bG (Y Z (bO n k s p))/\w=w':=by
 unfold bO;split
 .exact aoV n k s p w ‹_›
 .exact aoW n k s p w ‹_›
section
attribute [local go_sem ↓] wp_at_zero wp_at_succ
theorem aai:(aq.info? 21).map (λi=>(i.zero,i.size,i.bytes))=A (A (Y cr 0),1,4):=Q2Q
theorem ah1 (a:aC) (l c:Nat) (d:ah) (e:Int) (b:aC) (m k0:Nat) (z:ah) (fa:aC) (fl fc:Nat) (fs:ah) (da:aC) (dl dc:Nat) (ds:ah) (w:H) (h0:ai Z w a l d) (h1:ai aO w b m z) (h2:ai Z w fa fl fs) (h3:ai Z w da dl ds)
 (yt:¬T.aH d e z\/Sh.size ds=0):
 aA aq 275 #[aS a l c e b m k0,O fa fl fc,O da dl dc] w (rF [] 0 [] 1 w):=by
 have M:=V (jr a l c d e b m k0 z);have S:=V (EH da dl dc ds);have H0:=V h0;have H1:=V h1;have H3:=V h3;clear h0 h1 h2 h3;have Ot:=V yt;clear yt;obtain⟨n,hn⟩:=J (Sh.size ds);obtain⟨B,hB⟩:=J (decide (T.aH d e z));rw[hB]at M;rw[hn]at S Ot;have HB:=V hB;clear hB hn;unfold aS;unfold aS at M;go_enter func275,ntmps275;go_wp2_with fail;refine cq (S.I _ ((H3.I.below (aD _ _)).below (aD _ _))) ?_;go_wp2_with fail;refine bY (M.I _ ((H0.I.below (aD _ _)).below (aD _ _)) ((H1.I.below (aD _ _)).below (aD _ _))) λw2 hb=> ?_;obtain⟨z0,z1,z2,y0,y1,y2⟩:=aY (fF (bZ (li w _) _) hb);rw[bF]at z0 z1 z2 y0 y1 y2;have BB:=V (((aD w _).step (aD _ _)).step hb);clear hb M
 cases B
 .exact Q0L
 .have qh:n=0:=Ot.I.resolve_left (λh=>h (eZ HB.I));subst qh;exact Q0L
theorem ah2 (a:aC) (l c:Nat) (d:ah) (e:Int) (b:aC) (m k0:Nat) (z:ah) (fa:aC) (fl fc:Nat) (fs:ah) (da:aC) (dl dc:Nat) (ds:ah) (w:H) (h0:ai Z w a l d) (h1:ai aO w b m z) (h2:ai Z w fa fl fs) (h3:ai Z w da dl ds)
 (ht:T.aH d e z) (hs:Sh.size ds≠0) (hlen:fs.length≠z.length):
 aA aq 275 #[aS a l c e b m k0,O fa fl fc,O da dl dc] w (rF [] 0 [] 2 w):=by
 have M:=V (λw h0 h1=>(dI ht▸jr a l c d e b m k0 z w h0 h1:aA _ _ _ _ (dZ (aK true) w)));have S:=V (EH da dl dc ds);have H0:=V h0;have H1:=V h1;have H3:=V h3;rw[h2.bA,h1.bA]at hlen;have cI:((fl:Int) != (m:Int))=true:=Q3r;have yu:=h2.eC;have hm:=h1.eC;clear h0 h1 h2 h3 hlen;obtain⟨n,hn⟩:=J (Sh.size ds);rw[hn]at S hs;have qh:(n==0)=ae:=by simpa using hs
 clear hn hs;unfold aS;unfold aS at M;go_enter func275,ntmps275;go_wp2_with fail;refine cq (S.I _ ((H3.I.below (aD _ _)).below (aD _ _))) ?_;go_wp2_with fail;refine bY (M.I _ ((H0.I.below (aD _ _)).below (aD _ _)) ((H1.I.below (aD _ _)).below (aD _ _))) λw2 hb=> ?_;obtain⟨z0,z1,z2,y0,y1,y2⟩:=aY (fF (bZ (li w _) _) hb);obtain⟨x0,x1,x2,_,_,_⟩:=aY (fF (dX (bZ w _) _) hb);rw[bF]at z0 z1 z2 y0 y1 y2;have BB:=V (((aD w _).step (aD _ _)).step hb);clear hb M;go_wp2;refine aZ (v:=aL #[aF #[O G 0 0,Y Z 0,O G 0 0],Y Z 2]) ?_ rfl ⟨_,_,_,_,_,_,rfl,ai.zero _ _ _,ai.zero _ _ _,((BB.I.setCell Q2S _).setCell Q2S _).setCell Q2S _⟩;simp[aW,results275,go_sem,z0,z1,z2]
def tr (ds:ah) (dl:Nat) (e:Int) (n:Nat) (w4:H) (v:aj) (wx:H):Prop:=∃bo bl cl bd,v=aP (A ⟨bo,0,G⟩)/\wx.heap[bo]? =A (cV (A ⟨bl,0,G⟩) dl cl e (A ⟨bd,0,G⟩) n n)/\
 ai Z wx (A ⟨bl,0,G⟩) dl ds/\wx.ownsRow w4.heap.size 21 1 (O (A ⟨bd,0,G⟩) n n) n ((T.jC n []).map (Y cr))/\ay w4 w4 wx/\w4.heap.size<=bo/\w4.heap.size<=bl/\w4.heap.size<=bd/\bl≠bo/\bd≠bo/\bd≠bl
theorem ah3 (n:Nat):(madeCells #[Y cr 0] n).toList=(T.jC n []).map (Y cr):=by
 rw[toList_madeCells_one];apply List.ext_getElem
 .simp[T.jC]
 .intro i h1 h2;simp[T.jC]
theorem yv (w:H) (o1 o2 o3 o4:Obj):let wx:=li (li (li (li w o1) o2) o3) o4;wx.heap[w.heap.size]? =A o1/\wx.heap[w.heap.size+1]? =A o2/\wx.heap[w.heap.size+1+1]? =A o3/\wx.heap[w.heap.size+1+1+1]? =A o4/\ay w w wx:=by
 refine⟨dX (dX (dX (bZ w o1) _) _) _,?_,?_,?_,(((aD w _).step (aD _ _)).step (aD _ _)).step (aD _ _)⟩
 .have:=bZ (li w o1) o2;rw[bF]at this;exact dX (dX this _) _
 .have:=bZ (li (li w o1) o2) o3;rw[bF,bF]at this;exact dX this _
 .have:=bZ (li (li (li w o1) o2) o3) o4;rw[bF,bF,bF]at this;exact this
theorem tr.of {da:aC} {dl:Nat} {w4 wx:H} {bo bl cl:Nat} (ho:wx.heap[bo]? =A (cV bl dl cl e bd n n))
 (hl:wx.heap[bl]? =A (ag cs 3 (0,0))) (hd:wx.heap[bd]? =A (ag (madeCells #[Y cr 0] n) 21 (0,0))) (hcs:∀j,j<dl->cs[j]? =A (Y Z (ds.getD j 0))) (hb:ay w4 w4 wx)
 (oX:ai Z w4 da dl ds) (hn:n<=8192) (h1:w4.heap.size<=bo) (h2:w4.heap.size<=bl) (h3:w4.heap.size<=bd) (h4:bl≠bo) (h5:bd≠bo) (h6:bd≠bl):tr ds dl e n w4 (aP bo) wx:=by
 refine⟨bo,bl,cl,bd,rfl,ho,⟨oX.1,oX.2.1,oX.2.2.1,bJ ⟨bl,0,rfl,λj hj=> ?_⟩⟩,⟨by simp[T.Dh],bJ ⟨bd,n,_,rfl,h3,hd,bu _,Q2V,Q4N,?_⟩⟩,hb,h1,h2,h3,h4,h5,h6⟩
 .unfold kY;simp only[hl];rw[Nat.zero_add];exact hcs j hj
 .rw[ah3,List.take_of_length_le (by simp[T.Dh])]
theorem ai.Ou {k:ey} (h:ai k w a len zs) (o:Obj):ai k (li w o) a len zs:=h.below (aD w o)
theorem Tv (h:w.cell? p=A v) (o:Obj):(li w o).cell? p=A v:=(aD w o).cell_of h
theorem Tw (h:w.cell? p=A v):w.drew.cell? p=A v:=h
theorem ai.Ba {k:ey} (h:ai k w a len zs):ai k w.drew a len zs:=h.bI 1
theorem ah4 (a:aC) (l c:Nat) (d:ah) (e:Int) (b:aC) (m k0:Nat) (z:ah) (fa:aC) (fc:Nat) (fs:ah) (da:aC) (dl dc:Nat) (ds:ah) (n:Nat) (w:H) (h0:ai Z w a l d) (h1:ai aO w b m z) (h2:ai Z w fa m fs) (h3:ai Z w da dl ds)
 (ht:T.aH d e z) (hs:Sh.size ds=n) (qh:0<n) (ku:n<=8192) (jU:0<dl/\dl<=4) (sC:m<=8192):
 aA aq 275 #[aS a l c e b m k0,O fa m fc,O da dl dc] w (if T.E4 fs n then rF ds e (T.jC n (T.pairs fs z m)) 0 w else rF [] 0 [] 1 w):=by
 have M:=V (λw h0 h1=>(dI ht▸jr a l c d e b m k0 z w h0 h1:aA _ _ _ _ (dZ (aK true) w)));have S:=V (EH da dl dc ds);rw[hs]at S;have H0:=V h0;have H1:=V h1;have H2:=V h2;have H3:=V h3;have CL:=V (λw h=>Dg da dl dc ds w h jU.1 U);have lU:((n:Int)==0)=ae:=by rw[beq_eq_false_iff_ne];omega
 have SV:((m:Int) != (m:Int))=ae:=Q2W;clear h0 h1 h2 h3 ht hs;obtain⟨PP,E5⟩:=J (if T.E4 fs n then rF ds e (T.jC n (T.pairs fs z m)) 0 w else rF [] 0 [] 1 w);rw[E5];have Bb:=V E5;clear E5;unfold aS;unfold aS at M;go_enter func275,ntmps275;go_wp2_with fail;refine cq (S.I _ ((H3.I.below (aD _ _)).below (aD _ _))) ?_;go_wp2_with fail;refine bY (M.I _ ((H0.I.below (aD _ _)).below (aD _ _)) ((H1.I.below (aD _ _)).below (aD _ _))) λw4 hb=> ?_;have gU:=V (fF (bZ (li w _) _) hb);have xh:=V (fF (dX (bZ w _) _) hb);rw[bF]at gU;have B4:=V (((aD w _).step (aD _ _)).step hb);have E6:=V (H3.I.below B4.I);obtain⟨x0,x1,x2,_,_,_⟩:=aY xh.I;have zO:w.heap.size+1<w4.heap.size:=bH gU.I;clear hb M S;go_upto_region 6 with fail;have ur:=λw:H=>run_make_row' (P:=aq) 103 21 (Y cr 0) 4 underlying103 aai rfl Z Z n U U w;go_cut [9] (λs9 wx=>tr ds dl e n w4 s9 wx)
 case first=>
  go_region_held3 (λw'=>w'.cell? ⟨w,1,G⟩=A (Y Z e)) (first|((repeat(first|assumption|refine Tv ?_ _|refine Tw ?_));done)|go_keep)
   (first|(go_at_call 142;((refine(CL.I _ (by repeat(first|exact E6.I|refine ai.Ou ?_ _|refine ai.Ba ?_))).mono ?_);rintro e7 w7 ⟨cc,cs,rfl,rfl,hcs⟩)))
  all_goals
   go_wp2_with fail;go_meet
  .obtain⟨p1,p2,p3,p4,pb⟩:=yv w4 _ _ _ _;exact tr.of p4 p2 p3 hcs (pb.bI 2) E6.I ku U U U U U U
  .obtain⟨p1,p2,p3,p4,pb⟩:=yv w4 _ _ _ _;exact tr.of p3 p2 p4 hcs (pb.bI 2) E6.I ku U U U U U U
  .obtain⟨p1,p2,p3,p4,pb⟩:=yv w4 _ _ _ _;exact tr.of p4 p3 p1 hcs (pb.bI 2) E6.I ku U U U U U U
  .obtain⟨p1,p2,p3,p4,pb⟩:=yv w4 _ _ _ _;exact tr.of p2 p4 p1 hcs (pb.bI 2) E6.I ku U U U U U U
  .obtain⟨p1,p2,p3,p4,pb⟩:=yv w4 _ _ _ _;exact tr.of p1 p3 p4 hcs (pb.bI 2) E6.I ku U U U U U U
  .obtain⟨p1,p2,p3,p4,pb⟩:=yv w4 _ _ _ _;exact tr.of p1 p4 p2 hcs (pb.bI 2) E6.I ku U U U U U U
 case rest=>
  obtain⟨bo,bl,cl,bd,rfl,ho,tu,aV,gi,g1,g2,g3,g4,g5,g6⟩:=hcut;have lT:=V ho;have Da:=V aV;have HL5:=V tu;have dO:=V gi;have nL:w.heap.size+1<bo:=U;clear x0 x1 x2 ho aV tu gi ur CL;go_wp2_with fail;obtain⟨w5,rfl⟩:∃w5:H,w5=wc:=⟨_,rfl⟩;go_loopw [40] (λi wr=>∃j:Nat,j<=m/\i=Y Z j/\wr.ownsRow w4.heap.size 21 1 (O bd n n) n ((T.jC n (T.pairs fs z j)).map (Y cr))/\ay w4 w4 wr/\wr.heap[bo]? =A (cV bl dl cl e bd n n)/\ai Z wr bl dl ds/\∀x,x<j->0<=fs.getD x 0/\fs.getD x 0<n) (λi _=>m-(aX i).toNat)
  case atStart=>exact⟨0,cK _,rfl,Da.I,dO.I,lT.I,HL5.I,λx hx=>U⟩
  case round=>
   obtain⟨j,hj,rfl,aV,Di,Bc,tu,hs⟩:=hrel;have iR:=V aV;have jV:=V Di;have Tx:=V Bc;have Hu:=V tu;have HS:=V hs;clear hs tu;by_cases aT:j<m
   .obtain⟨x0,x1,x2,_⟩:=aY (fF xh.I Di);obtain⟨r0,r1,r2,r3,r4,r5⟩:=aY (fF gU.I Di);obtain⟨y0,y1,y2,_⟩:=aY Bc;obtain⟨p0,o0,rfl,e0⟩:=((H2.I.below B4.I).below Di).cells U;obtain⟨p1,o1,rfl,e1⟩:=((H1.I.below B4.I).below Di).cells U;have f0:=e0 j aT;have f1:=e1 j aT;have gS:j<fs.length:=by rw[H2.I.bA];exact aT
    have mZ:=V (show fs.getD j 0∈fs by simp[dV,cR gS]);have hv:=EW H1.I.wf j;have Be:=V (T.agZ fs z j);have ju:=V (T.Tt n (T.pairs fs z j) (T.aag H1.I.wf j));rw[T.aaf]at ju;clear e0 e1 Di Bc gS;generalize hX:fs.getD j 0=f at*;generalize hY:z.getD j 0=v at*;have HX:=V hX;clear hX hY;have mJ:=V (B4.I.step jV.I);by_cases c1:f<0
    .have c3:decide (f<0)=true:=dI c1;go_wp2_with fail;refine aZ (v:=aL #[aF #[O G 0 0,Y Z 0,O G 0 0],Y Z 1]) ?_ rfl ?_
     .exact Q25
     .rw[<-Bb.I,aI (λh=>E ((h _ mZ.I).1))];exact Q12
    .have c3:decide (f<0)=ae:=eP c1;by_cases c2:f<n
     .obtain⟨q,rfl⟩:∃q:Nat,f=q:=⟨f.toNat,U⟩;have hq:q<n:=U;have c4:decide ((n:Int)<=q)=ae:=eP U;have f2:=aV.cellAt q U;have f3:=aV.frozenAt q;rw[List.getElem?_map,cR Q46,Option.map_some]at f2;have hg:(T.jC n (T.pairs fs z j))[q]' Q46=(T.jC n (T.pairs fs z j)).getD q 0:=by
       have:q<(T.jC n (T.pairs fs z j)).length:=Q46;simp[dV,cR this]
      rw[hg]at f2;have hu:=ju.I q;have aaj:T.jC n (T.pairs fs z (j+1))=(T.jC n (T.pairs fs z j)).set q ((T.jC n (T.pairs fs z j)).getD q 0+v):=by
       rw[Be.I,T.aa9];rfl
      have Tz:=V aaj;clear hg aaj aV;generalize(T.jC n (T.pairs fs z j)).getD q 0=u at*;have c5:cr.wrap (u+v)=u+v:=IntWalk.i32_in _ U;have c6:cr.wrap v=v:=IntWalk.i32_in _ U;go_wp2_with fail;have i1:(0:Int)<=(q:Int):=U;have i2:(q:Int)<(n:Int):=U;have i3:(0:Int)<=(j:Int):=U;have i4:(j:Int)<(m:Int):=U;go_region
      go_wp2_with fail;go_roundw
      case rel=>
       refine⟨j+1,U,Q2T,?_,(jV.I.setCell g3 _).bI 1,?_,?_,λy hy=> ?_⟩
       .have:=(iR.I.stored q (Y cr (u+v))).1;rw[<-List.map_set,<-Tz.I]at this;exact this.drew
       .exact(Below.heap_setCell _ _ _ _ (λe=>g5 e.symm)).trans Tx.I
       .exact(Hu.I.setCell _ (λx hx=>by cases hx;exact λe=>g6 e.symm)).Ba
       .by_cases c:y=j
        .subst c;rw[HX.I];omega
        .exact HS.I y U
      case measure=>exact Q5q
     .have c4:decide ((n:Int)<=f)=true:=dI U;go_wp2_with fail;refine aZ (v:=aL #[aF #[O G 0 0,Y Z 0,O G 0 0],Y Z 1]) ?_ rfl ?_
      .exact Q25
      .rw[<-Bb.I,aI (λh=>E ((h _ mZ.I).2))];exact Q12
   .obtain rfl:m=j:=U;obtain⟨r0,r1,r2,r3,r4,r5⟩:=aY (fF gU.I Di);obtain⟨y0,y1,y2,_⟩:=aY Bc;have mJ:=V (B4.I.step jV.I);clear aV Di Bc;have CO:T.E4 fs n:=λx hx=>by
     obtain⟨i,hi,e⟩:=List.getElem_of_mem hx;have:=HS.I i (by rw[<-H2.I.bA];exact hi);rw[show fs.getD i 0=x by simp[dV,cR hi,e]]at this;exact this
    have lQ:=T.aae n (T.pairs fs z m) (T.aag H1.I.wf m) (by rw[T.aaf];omega);have HO:=V (ai.owned iR.I lQ U);have qi:=V (Bb.I);rw[aR CO]at qi;clear CO lQ;go_wp2_with fail;refine aZ (v:=aL #[aF #[O bl dl cl,Y Z e,O bd n n],Y Z 0]) ?_ rfl ?_
    .exact Q25
    .rw[<-qi.I];refine⟨_,_,_,_,_,_,rfl,Hu.I.eJ (λx hx=>by cases hx;show bl≠w.heap.size+1;omega),HO.I.eJ (λx hx=>Q3A),((mJ.I.setCell Q2S _).setCell Q2S _).setCell Q2S _⟩
theorem aha (a:aC) (l c:Nat) (d:ah) (e:Int) (b:aC) (m k0:Nat) (z:ah) (da:aC) (dl dc:Nat) (ds:ah) (k s:Int) (w:H) (h0:ai Z w a l d) (h1:ai aO w b m z) (h3:ai Z w da dl ds)
 (yt:¬(T.aH d e z/\0<Sh.size ds)):
 aA aq 276 #[aS a l c e b m k0,O da dl dc,Y Z k,Y Z s] w (rF [] 0 [] 1 w):=by
 have M:=V (jr a l c d e b m k0 z);have S:=V (Hf da dl dc ds);have H0:=V h0;have H1:=V h1;have H3:=V h3;have Ot:=V yt;clear yt;obtain⟨C,hC⟩:=J (decide (0<Sh.size ds));obtain⟨B,hB⟩:=J (decide (T.aH d e z));rw[hB]at M;rw[hC]at S;have HB:=V hB;have HC:=V hC;clear hB hC;unfold aS;unfold aS at M;go_enter func276,ntmps276;go_wp2_with fail;refine bY (M.I _ ((H0.I.below (aD _ _)).below (aD _ _)) ((H1.I.below (aD _ _)).below (aD _ _))) λw2 hb=> ?_;obtain⟨z0,z1,z2,y0,y1,y2⟩:=aY (fF (bZ (li w _) _) hb);rw[bF]at z0 z1 z2 y0 y1 y2;have BB:=V (((aD w _).step (aD _ _)).step hb);clear M
 cases B
 .go_wp2;exact Q0N
 .cases C
  .go_wp2_with fail;refine cq (S.I _ (H3.I.below BB.I)) ?_;go_wp2_with fail;exact Q0N
  .exact absurd ⟨eZ HB.I,eZ HC.I⟩ Ot.I
theorem ahb (a:aC) (l c:Nat) (d:ah) (e:Int) (b:aC) (m k0:Nat) (z:ah) (da:aC) (dl dc:Nat) (ds:ah) (k s:Int) (w:H) (h0:ai Z w a l d) (h1:ai aO w b m z) (h3:ai Z w da dl ds)
 (ht:T.aH d e z) (hs:0<Sh.size ds) (hk:¬(dl=4/\0<bO (ds.getD 2 0) k s 0/\0<bO (ds.getD 3 0) k s 0)):
 aA aq 276 #[aS a l c e b m k0,O da dl dc,Y Z k,Y Z s] w (rF [] 0 [] 2 w):=by
 have M:=V (λw h0 h1=>(dI ht▸jr a l c d e b m k0 z w h0 h1:aA _ _ _ _ (dZ (aK true) w)));have S:=V (λw h=>(dI hs▸Hf da dl dc ds w h));have OV:=V (λw h=>Tg da dl dc ds k s w h hk);have H0:=V h0;have H1:=V h1;have H3:=V h3;clear ht hs hk;unfold aS;unfold aS at M;go_enter func276,ntmps276;go_wp2_with fail;refine bY (M.I _ ((H0.I.below (aD _ _)).below (aD _ _)) ((H1.I.below (aD _ _)).below (aD _ _))) λw2 hb=> ?_;have HZ:=V (fF (bZ (li w _) _) hb);rw[bF]at HZ;have BB:=V (((aD w _).step (aD _ _)).step hb);go_wp2_with fail;refine cq (S.I _ (H3.I.below BB.I)) ?_;go_wp2_with fail;refine(OV.I _ (H3.I.below BB.I)).mono ?_;rintro e' w3 ⟨v0,v1,v2,v3,v4,v5,rfl,hb⟩;have yj:=V (fF HZ.I hb);have z0:=aY yj.I;have B3:=V (BB.I.step hb);have dQ:w.heap.size+1<w3.heap.size:=iP (bH HZ.I) hb.size;clear HZ;go_wp2_with fail;go_quiet (fail)
 go_wp2_with fail;refine aZ (v:=aL #[aF #[O G 0 0,Y Z 0,O G 0 0],Y Z 2]) ?_ rfl ⟨_,_,_,_,_,_,rfl,ai.zero _ _ _,ai.zero _ _ _,?_⟩
 .simp[aW,results276,go_sem,cT (fF (dX yj.I (ag #[Y Z v0,Y Z v1,Y Z v2,Y Z v3,Y Z v4,Y Z v5] 331)) (below_drewN _ nq))]
 .have hz:w.heap.size<=w+1:=U;exact((((B3.I.step (aD _ _)).bI nq).setCell hz _).setCell hz _).setCell hz _
theorem ahc (h:w.cell? p=A v) (n:Nat):(w.drewN n).cell? p=A v:=(below_drewN w n).cell_of h
theorem ahd (a:aC) (l c:Nat) (d:ah) (e:Int) (b:aC) (m k0:Nat) (z:ah) (da:aC) (dc:Nat) (ds:ah) (k s:Int) (P Q N n:Nat) (w:H) (h0:ai Z w a l d) (h1:ai aO w b m z) (h3:ai Z w da 4 ds)
 (ht:T.aH d e z) (hs:Sh.size ds=n) (qh:0<n) (ku:n<=8192) (hP:bO (ds.getD 2 0) k s 0=P) (hQ:bO (ds.getD 3 0) k s 0=Q) (oB:0<P) (kt:0<Q) (hN:ds.getD 0 0*ds.getD 1 0=N) (zM:N<=8192) (Kf:(n:Int)=N*ds.getD 2 0*ds.getD 3 0)
 (hm:d=[ds.getD 0 0,ds.getD 1 0,P,Q]->m=N*(P*Q)) (sC:m<=8192) (rG:0<N):
 aA aq 276 #[aS a l c e b m k0,O da 4 dc,Y Z k,Y Z s] w
  (if d=[ds.getD 0 0,ds.getD 1 0,(P:Int),(Q:Int)]then rF ds (e-k/2*2) (T.jC n (T.uw z (ds.getD 2 0) (ds.getD 3 0) k s P Q (N*(P*Q)))) 0 w else rF [] 0 [] 2 w):=by
 obtain⟨PP,E5⟩:=J (if d=[ds.getD 0 0,ds.getD 1 0,(P:Int),(Q:Int)]then rF ds (e-k/2*2) (T.jC n (T.uw z (ds.getD 2 0) (ds.getD 3 0) k s P Q (N*(P*Q)))) 0 w else rF [] 0 [] 2 w);rw[E5];have M:=V (λw h0 h1=>(dI ht▸jr a l c d e b m k0 z w h0 h1:aA _ _ _ _ (dZ (aK true) w)));have MD:=V (Hf da 4 dc ds);rw[dI (show 0<Sh.size ds by omega)]at MD;have SZ:=V (λw h=>(hs▸EH da 4 dc ds w h));have OV:=V (N7 da dc ds k s);have CL:=V (λw h=>Dg da 4 dc ds w h U U);rw[hP,hQ,dI (show(0:Int)<P by omega),dI (show(0:Int)<Q by omega)]at OV;have C5:=h3.wf;obtain⟨b0,o0,rfl,e0⟩:=h3.cells U;have uq:∀i,i<4->(cX Z (ds.getD i 0)).wf=true:=λi hi=>by
  have:i<ds.length:=by rw[h3.bA];exact hi
  exact C5 _ (by simp[dV,cR this])
 have ET:=uq 0 U;have EU:=uq 1 U;have lS:=e0 0 U;have rD:=e0 1 U;rw[eL]at lS;have H0:=V h0;have H1:=V h1;have H3:=V h3;generalize ds.getD 0 0=d0 at*;generalize ds.getD 1 0=d1 at*;generalize ds.getD 2 0=R at*;generalize ds.getD 3 0=C at*;have Bb:=V E5;have Kg:=V hm;have HN:=V hN;have HNN:=V Kf;have HP:=V hP;have HQ:=V hQ;have yq:=V lS;have C7:=V rD;obtain⟨_,_,⟨Dc,vD⟩,_⟩:=ht;have ot:1<=k/\k<=5:=E (um (show 1<=bO R k s 0 by rw[hP];omega));obtain⟨kk,fH⟩:=J (k/2*2);have E0:0<=kk/\kk<=5:=U;have LS:=V (λw=>(fH▸aa6 k w ot.1 ot.2 :aA _ _ _ _ _));rw[fH]at Bb;obtain⟨ZU,hE⟩:=J (e-kk);rw[hE]at Bb;have Kc:Z.wrap (e-kk)=ZU:=by rw[<-hE];exact IntWalk.i64_in _ U
 have HE:=V hE;have Kd:=V Kc;obtain⟨BB,E7⟩:=J (decide (d=[d0,d1,(P:Int),(Q:Int)]));have SM:=V (λa1 jA fh w h0 h1=>(E7▸Hg a l c d a1 jA fh [d0,d1,(P:Int),(Q:Int)] w h0 h1:aA _ _ _ _ (oa (aK BB) w)));have mJ:=V E7;clear h0 h1 h3 hP hQ hN uq C5 e0 lS rD fH hE Kc E5 hm Kf hs E7;unfold aS;unfold aS at M;unfold windows at OV;go_enter func276,ntmps276;go_wp2_with fail;refine bY (M.I _ ((H0.I.below (aD _ _)).below (aD _ _)) ((H1.I.below (aD _ _)).below (aD _ _))) λw2 hb=> ?_;have HX:=V (fF (dX (bZ w _) _) hb);have HR:=V (fF (bZ (li w _) _) hb);rw[bF]at HR;have B2:=V (((aD w _).step (aD _ _)).step hb);clear hb M;go_wp2_with fail;refine cq (MD.I _ (H3.I.below B2.I)) ?_;go_wp2_with fail;refine bY (OV.I _ (H3.I.below B2.I)) λw3 hb=> ?_;have Hq:=V (fF HX.I hb);have fL:=V (fF HR.I hb);have B3:=V (B2.I.step hb);clear hb HX HR B2 OV MD;go_upto_region 4 with fail;have gT:=V (bZ w3 (ag #[Y Z R,Y Z C,Y Z k,Y Z s,Y Z P,Y Z Q] 331));have xh:=V (dX Hq.I (ag #[Y Z R,Y Z C,Y Z k,Y Z s,Y Z P,Y Z Q] 331));have gU:=V (dX fL.I (ag #[Y Z R,Y Z C,Y Z k,Y Z s,Y Z P,Y Z Q] 331));have B4:=V (B3.I.step (aD w3 (ag #[Y Z R,Y Z C,Y Z k,Y Z s,Y Z P,Y Z Q] 331)));have fZ:w.heap.size+1<w3.heap.size:=bH fL.I;clear Hq fL B3;generalize li w3 (ag #[Y Z R,Y Z C,Y Z k,Y Z s,Y Z P,Y Z Q] 331)=w4 at*;generalize w3.heap.size=bw at*;have oW:b0<w:=jY w _ yq.I;obtain⟨x0,x1,x2,_,_,_⟩:=aY xh.I;obtain⟨_,_,_,_,p4,p5⟩:=Hp gT.I;have lS:=B4.I.cell_of yq.I;have rD:=B4.I.cell_of C7.I;have Hr:P<=100:=Q39;have Hs:Q<=100:=Q3a;have H04:=V (H0.I.below B4.I);have Hw:∀z∈[d0,d1,(P:Int),(Q:Int)],(cX Z z).wf=true:=by
  intro z hz;simp at hz;rcases hz with rfl|rfl|rfl|rfl
  .exact ET
  .exact EU
  .exact WalkArith.wf_i64 U
  .exact WalkArith.wf_i64 U
 go_cut [47] (λv wx=>v=aK (!BB)/\ay w4 w4 wx)
 case first=>
  go_region_held3 (λw'=>w'.cell? ⟨w,0,G⟩=A (O a l c)/\w'.cell? ⟨bw,4,G⟩=A (Y Z P)/\w'.cell? ⟨bw,5,G⟩=A (Y Z Q)/\w'.cell? ⟨b0,o0,G⟩=A (Y Z d0)/\w'.cell? ⟨b0,o0+1,G⟩=A (Y Z d1))
   ((refine⟨?_,?_,?_,?_,?_⟩<;>(repeat(first|assumption|refine Tv ?_ _|refine Tw ?_ |refine ahc ?_ _))))
   (first|(go_at_call 74;((refine(SM.I _ _ _ _ (by repeat(first|exact H04.I|refine ai.Ou ?_ _|refine ai.Ba ?_)) (by repeat(first|exact ai.new _ Z 3 (0,0) [d0,d1,(P:Int),(Q:Int)] Hw bK|refine ai.Ba ?_))).mono ?_);rintro e7 w7 ⟨rfl,q7,rfl⟩)))
  all_goals
   go_wp2_with fail;go_meet
   case rel=>exact⟨rfl,(aD _ _).bI _⟩
 case rest=>
  obtain⟨rfl,gi⟩:=hcut;have C9:=V (fF xh.I gi);have jk:=V (fF gU.I gi);have dO:=V (fF gT.I gi);have B5:=V (B4.I.step gi);have iK:w4.heap.size<=wc:=gi.size;have ja:bw<w4:=bH gT.I;obtain⟨w5,rfl⟩:∃w5:H,w5=wc:=⟨_,rfl⟩;clear gi xh gU gT B4 x0 x1 x2 p4 p5 lS rD SM
  cases BB
  .obtain⟨z0,z1,z2,y0,y1,y2⟩:=aY jk.I;go_wp2_with fail;refine aZ (v:=aL #[aF #[O G 0 0,Y Z 0,O G 0 0],Y Z 2]) ?_ rfl ?_
   .simp[aW,results276,go_sem,cT jk.I]
   .rw[<-Bb.I,aI (kH mJ.I)];exact⟨_,_,_,_,_,_,rfl,ai.zero _ _ _,ai.zero _ _ _,((B5.I.setCell Q2S _).setCell Q2S _).setCell Q2S _⟩
  .have hd:=eZ mJ.I;have Dj:=Bb.I;rw[aR hd]at Dj;have TF:=V (Kg.I hd);have qi:=V Dj;clear hd Dj Bb Kg mJ;obtain⟨x0,x1,x2,_,_,_⟩:=aY C9.I;have E8:=V (H3.I.below B5.I);go_upto_region 6 with fail;have ur:=λw:H=>run_make_row' (P:=aq) 103 21 (Y cr 0) 4 underlying103 aai rfl Z Z n U U w;go_cut [12] (λs12 wx=>tr ds 4 ZU n w5 s12 wx)
   case first=>
    have hE1:=HE.I;have hE2:Z.wrap ZU=ZU:=by
     have:=Kd.I;rw[HE.I]at this;exact this
    go_region_held3 (λw'=>w'.cell? ⟨w,1,G⟩=A (Y Z e)) (first|((repeat(first|assumption|refine Tv ?_ _|refine Tw ?_));done)|go_keep)
     (first
      |(go_at_call 142;((refine(CL.I _ Q4p).mono ?_);rintro e7 w7 ⟨cc,cs,rfl,rfl,hcs⟩))
      |(go_at_call 290;((refine(LS.I _).mono ?_);rintro e7 w7 ⟨rfl,rfl⟩))
      |(go_at_call 116;((refine(SZ.I _ Q4p).mono ?_);rintro e7 w7 ⟨rfl,rfl⟩)))
    all_goals
     go_wp2_with fail;go_meet
    .obtain⟨p1,p2,p3,p4,pb⟩:=yv w5 _ _ _ _;exact tr.of p4 p2 p3 hcs (pb.bI 2) E8.I ku U U U U U U
    .exact Q13
    .exact Q13
    .exact Q13
    .obtain⟨p1,p2,p3,p4,pb⟩:=yv w5 _ _ _ _;exact tr.of p1 p3 p4 hcs (pb.bI 2) E8.I ku U U U U U U
   case rest=>
    obtain⟨bo,bl,cl,bd,rfl,ho,tu,aV,cO,g1,g2,g3,g4,g5,g6⟩:=hcut;obtain⟨w6,rfl⟩:∃w6:H,w6=wc:=⟨_,rfl⟩;have iT:=V ho;have HL6:=V tu;have TH:=V (fF C9.I cO);have oD:=V (fF jk.I cO);have eW:=V (fF dO.I cO);have B6:=V (B5.I.step cO);have nK:w5.heap.size<=w6:=cO.size;have A7:bo<w6:=bH iT.I;have pZ:bd<w6:=(aV.lt bd rfl).2;have m9:bl<w6:=HL6.I.lt U;have Hx:w.heap.size+1<w5.heap.size:=bH jk.I;have uj:=V (show vG w5.heap.size bo bd (O bl 4 cl) (Y Z ZU) n [] w6.drew from⟨ho,aV.drew,λe=>g5 e.symm⟩);clear ho aV tu cO x0 x1 x2 CL LS SZ ur;go_wp2_with fail;have ng:0<m:=by rw[TF.I];exact kZ rG (kZ oB kt)
    have jW:=V (show ∀x,b=A x->x.block≠bd/\x.block<w6.drew.heap.size from λx hx=>by
     obtain⟨bb,oo,e,hc⟩:=H1.I.cells ng;have:=jY w _ (hc 0 ng);rw[hx]at e
     cases e;show bb≠bd/\bb<w6
     have h2:bb<w:=this;omega)
    have ME:=V (ah9 w6.drew b m k0 z R C k s P Q N w.heap.size bo bd n w5.heap.size _ _ _ _ HP.I HQ.I oB kt zM TF.I sC HNN.I ku ((H1.I.below B6.I).bI 1) TH.I uj.I U pZ jW.I);unfold windows at ME;have hN:=HN.I;have hNw:Z.wrap (N:Int)=N:=wrap_small N U;obtain⟨x0,_,_,_,_,_⟩:=aY TH.I;obtain⟨p0,p1,p2,p3,p4,p5⟩:=Hp eW.I;have lS:=B6.I.cell_of yq.I;have rD:=B6.I.cell_of C7.I;have vE:=V (show ¬(bw=bd) by omega);have Ke:=V (show ¬(b0=bd) by omega);have vF:=V (show bw<w6 by omega);have E3:=V (show b0<w6 by omega);go_region_held3 (λw'=>(w'.cell? ⟨bw,0,G⟩=A (Y Z R)/\w'.cell? ⟨bw,1,G⟩=A (Y Z C)/\w'.cell? ⟨bw,2,G⟩=A (Y Z k)/\w'.cell? ⟨bw,3,G⟩=A (Y Z s)/\w'.cell? ⟨bw,4,G⟩=A (Y Z P)/\w'.cell? ⟨bw,5,G⟩=A (Y Z Q))/\w'.cell? ⟨b0,o0,G⟩=A (Y Z d0)/\w'.cell? ⟨b0,o0+1,G⟩=A (Y Z d1))
     (first
      |go_keep
      |exact⟨⟨cA.I.cell vF.I vE.I p0,cA.I.cell vF.I vE.I p1,cA.I.cell vF.I vE.I p2,cA.I.cell vF.I vE.I p3,cA.I.cell vF.I vE.I p4,cA.I.cell vF.I vE.I p5⟩,cA.I.cell E3.I Ke.I lS,cA.I.cell E3.I Ke.I rD⟩)
     (first|(go_at_call 241;(refine ME.I.mono ?_);rintro e6 w7 ⟨rfl,Db,xj⟩;have cA:=V xj;have hmx:=V Db;clear Db xj))
    obtain⟨ho7,aap,_⟩:=hmx.I;have Bg:=(cA.I.block (w.heap.size+1) (by show w.heap.size+1<w6.heap.size;omega) (by show ¬(w.heap.size+1=bd);omega)).trans oD.I;have Ol:N*(P*Q)<=8192:=by rw[<-TF.I];exact sC
    have lQ:=T.aae n (T.uw z R C k s P Q (N*(P*Q))) (T.aao H1.I.wf) (E (T.TD z R C k s P Q (N*(P*Q))));have Ka:=V (ai.owned aap lQ U);have rE:=V (cA.I.aak (HL6.I.bI 1) (λx hx=>by cases hx;exact⟨m9,λe=>g6 e.symm⟩));have B7:=V (cA.I.toBelow (B6.I.bI 1) (by show w.heap.size<=w6;omega) (by rintro g rfl;omega));obtain⟨q0,q1,q2,_,_,_⟩:=aY ho7;have mL:=V Bg;obtain⟨u0,u1,u2,u3,u4,u5⟩:=aY Bg;clear Bg ho7 aap lQ x0 p0 p1 p2 p3 p4 p5 lS rD hmx eW TH iT ME;go_wp2_with fail;refine aZ (v:=aL #[aF #[O bl 4 cl,Y Z ZU,O bd n n],Y Z 0]) ?_ rfl ?_
    .simp[aW,results276,go_sem,cT mL.I]
    .rw[<-qi.I];exact⟨_,_,_,_,_,_,rfl,rE.I.eJ (λx hx=>by cases hx;show bl≠w.heap.size+1;omega),Ka.I.eJ (λx hx=>Q3A),((B7.I.setCell Q2S _).setCell Q2S _).setCell Q2S _⟩
end
namespace T
def Dl (gd:ah) (ge:Int) (gz fs ds:ah):List Int:=if A9 gd ge gz fs ds=0 then ds else[]
def Kh (gd:ah) (ge:Int) (gz fs ds:ah):Int:=if A9 gd ge gz fs ds=0 then ge else 0
def Ki (gd:ah) (ge:Int) (gz fs ds:ah):List Int:=if A9 gd ge gz fs ds=0 then jC (Sh.size ds).toNat (pairs fs gz gz.length)else[]
def ux (gd:ah) (ge:Int) (gz ds:ah) (k s:Int):Int:=if ¬(aH gd ge gz/\0<Sh.size ds)then 1 else if sZ ds k s/\gd=tj ds k s then 0 else 2
def Dm (gd:ah) (ge:Int) (gz ds:ah) (k s:Int):List Int:=if ux gd ge gz ds k s=0 then ds else[]
def Kj (gd:ah) (ge:Int) (gz ds:ah) (k s:Int):Int:=if ux gd ge gz ds k s=0 then ge-k/2*2 else 0
def ahg (gz ds:ah) (k s:Int):List (Int×Int):=uw gz (ds.getD 2 0) (ds.getD 3 0) k s (rowsOf ds k s) (qg ds k s) (count ds k s)
def Kk (gd:ah) (ge:Int) (gz ds:ah) (k s:Int):List Int:=if ux gd ge gz ds k s=0 then jC (Sh.size ds).toNat (ahg gz ds k s)else[]
theorem ahh {ge:Int} (h:¬(aH gd ge gz/\0<Sh.size ds)):ux gd ge gz ds k s=1:=by unfold ux;rw[aR h]
theorem ahi {ge:Int} (h:aH gd ge gz/\0<Sh.size ds) (h2:sZ ds k s/\gd=tj ds k s):ux gd ge gz ds k s=0:=by unfold ux;rw[aI (λg=>g h),aR h2]
theorem aar {ge:Int} (h:aH gd ge gz/\0<Sh.size ds) (h2:¬(sZ ds k s/\gd=tj ds k s)):ux gd ge gz ds k s=2:=by unfold ux;rw[aI (λg=>g h),aI h2]
theorem ahj (h:0<Sh.size d):aH d 0 (List.replicate (Sh.size d).toNat 0):=by
 refine⟨h,by rw[sw];omega,⟨U,U⟩,λhm=> ?_⟩;have:=(List.mem_replicate.1 hm).2;omega
theorem E9 (h:aH d e z):z.length<=8192:=by
 have my:=Sh.iA h.1;have:=my.eq;have:=my.le;have:=h.2.1;omega
end T
theorem ahk (a:aC) (l c:Nat) (d:ah) (e:Int) (b:aC) (m k0:Nat) (z:ah) (fa:aC) (fl fc:Nat) (fs:ah) (da:aC) (dl dc:Nat) (ds:ah) (w:H) (h0:ai Z w a l d) (h1:ai aO w b m z) (h2:ai Z w fa fl fs) (h3:ai Z w da dl ds):
 aA aq 275 #[aS a l c e b m k0,O fa fl fc,O da dl dc] w (rF (T.Dl d e z fs ds) (T.Kh d e z fs ds) (T.Ki d e z fs ds) (T.A9 d e z fs ds) w):=by
 unfold T.Dl T.Kh T.Ki T.A9;by_cases c1:¬T.aH d e z\/Sh.size ds=0
 .rw[aR c1,aI U,aI U,aI U];exact ah1 a l c d e b m k0 z fa fl fc fs da dl dc ds w h0 h1 h2 h3 c1
 .have ht:T.aH d e z:=oP λh=>c1 (Or.inl h);have hs:Sh.size ds≠0:=λh=>c1 (bJ h);rw[aI c1];by_cases c2:fs.length≠z.length
  .rw[aR c2,aI U,aI U,aI U];exact ah2 a l c d e b m k0 z fa fl fc fs da dl dc ds w h0 h1 h2 h3 ht hs c2
  .have hlen:fs.length=z.length:=by simpa using c2
   have sA:0<Sh.size ds:=oP λh=>hs (Sh.Sj h);have my:=Sh.iA sA;have e1:=my.eq;have e2:=my.le;have l1:=my.l1;have l4:=my.l4;have lV:=T.E9 ht;rw[h3.bA]at l1 l4;obtain⟨n,hn⟩:∃n:Nat,Sh.size ds=n:=⟨(Sh.size ds).toNat,U⟩;obtain rfl:fl=m:=by rw[<-h1.bA,<-h2.bA];exact hlen
   have hy:=ah4 a l c d e b fl k0 z fa fc fs da dl dc ds n w h0 h1 h2 h3 ht hn U U ⟨U,U⟩ (by rw[<-h1.bA];exact lV);rw[aI c2,hn,jx,h1.bA];by_cases c3:T.E4 fs n
   .rw[aR c3]at hy⊢;rw[aR rfl,aR rfl,aR rfl];exact hy
   .rw[aI c3]at hy⊢;rw[aI U,aI U,aI U];exact hy
theorem ahl (a:aC) (l c:Nat) (d:ah) (e:Int) (b:aC) (m k0:Nat) (z:ah) (da:aC) (dl dc:Nat) (ds:ah) (k s:Int) (w:H) (h0:ai Z w a l d) (h1:ai aO w b m z) (h3:ai Z w da dl ds):
 aA aq 276 #[aS a l c e b m k0,O da dl dc,Y Z k,Y Z s] w (rF (T.Dm d e z ds k s) (T.Kj d e z ds k s) (T.Kk d e z ds k s) (T.ux d e z ds k s) w):=by
 unfold T.Dm T.Kj T.Kk;by_cases c1:T.aH d e z/\0<Sh.size ds
 .by_cases c2:sZ ds k s
  .have hz:=T.ahj c1.2;obtain⟨f1,f2,f3,f4,f5,f6,f7,f8,f9,f10,f11,f12,f13⟩:=T.facts hz c2;obtain⟨s1,s2,s3,s4,s5⟩:=T.ahf hz c2;rw[sw]at f8 f9;obtain⟨n,hn⟩:∃n:Nat,Sh.size ds=n:=⟨(Sh.size ds).toNat,by have:=c1.2;omega⟩;have hp:=c1.2;have sC:=T.E9 c1.1;rw[h1.bA]at sC;rw[hn,jx]at f8 f9;obtain rfl:dl=4:=by rw[<-h3.bA];exact c2.1
   have hy:=ahd a l c d e b m k0 z da dc ds k s (T.rowsOf ds k s) (T.qg ds k s) (T.j9 ds) n w h0 h1 h3 c1.1 hn U f9 f1 f2 f3 f4 f5 f6 f8 (λhd=>by
    have h4:d=T.tj ds k s:=hd;have h5:=c1.1.2.1;rw[h4,s1,h1.bA]at h5;exact Int.ofNat.inj h5) sC f7
   by_cases c3:d=[ds.getD 0 0,ds.getD 1 0,(T.rowsOf ds k s:Int),(T.qg ds k s:Int)]
   .rw[aR c3]at hy;rw[T.ahi c1 ⟨c2,c3⟩,aR rfl,aR rfl,aR rfl,hn,jx];exact hy
   .rw[aI c3]at hy;rw[T.aar c1 (λh=>c3 h.2),aI U,aI U,aI U];exact hy
  .rw[T.aar c1 (λh=>c2 h.1),aI U,aI U,aI U];exact ahb a l c d e b m k0 z da dl dc ds k s w h0 h1 h3 c1.1 c1.2 (λh=>c2 ⟨by rw[h3.bA];exact h.1,h.2⟩)
 .rw[T.ahh c1,aI U,aI U,aI U];exact aha a l c d e b m k0 z da dl dc ds k s w h0 h1 h3 c1
end Go.Proofs.YtcpmhoodeieanaaGreatDoor
