/-
  Part 8 of the proof that TopAsk answers true: laws of the functions that it calls, on any memory that holds their arguments.
-/
import Derived.Test.YtcpmhoodeieanaaGreatDoorZC
import Derived.Test.YtcpmhoodeieanaaGreatDoorZF
import Derived.Test.YtcpmhoodeieanaaGreatDoorZG
import Derived.ChangeKeysEq
import Derived.Laws.StructEq
set_option maxRecDepth 100000
set_option maxHeartbeats 20000000
set_option linter.unusedVariables false
set_option linter.unusedSimpArgs false
open Go.Lib renaming hid→V
open Go.IntKind renaming i64→Z,i8→aO,i32→cr,u64→cD
open Go.Value renaming int→Y,slice→O,agg→aF,bool→aK,tuple→aL,pointer→aP
open Option renaming none→G,some→A
open Go renaming World→H,Value→aj,Calls→aA,results→aW,bodyPost_ret→aZ,lt_of_block→bH,heap_alloc_new→bZ,TypeId→dy,Ending→dN,maxLen→eS,info_parts→fB
open Bool renaming false→ae,and_eq_true→fS
open Go.Obj renaming cells→ag
open Go.Proofs.Tryz renaming prog→aq
open And renaming intro→aw
open Go.RowKit renaming Below→ay,intOf→aX,wrap64→cM
open Or renaming inl→aM,inr→bJ
open Nat renaming le_refl→bu,zero_le→cK,le_trans→eH,add_zero→eL,mul_one→lA,mul_le_mul→mq,le_succ→nH,mul_le_mul_right→nZ
open Go.World renaming size_alloc→bF
open Go.Ending renaming returned→bG
open List renaming getElem?_eq_getElem→cR,replicate→dz,setIfInBounds_toArray→dC,set_cons_zero→dD,set_cons_succ→dE,length_append→dG,getElem?_eq_some_iff→fX,getD_eq_getElem?_getD→gB,length_map→ib,mem_cons→jy,getElem_mem→jZ,map_append→kF,append_assoc→lL,not_mem_nil→mj,mem_of_getElem?→nB,getD_cons_zero→nC,getD_cons_succ→n7,length_cons→n8,take_of_length_le→oQ,mem_singleton→pS,flatMap_cons→rz,drop_eq_nil_iff→sx
open Go.Lit renaming int→cX
open Go.IntWalk renaming i64_in→dv,wrap64_in→iZ
open Go.RowKit.Below renaming refl→eG
open Go.Act renaming put→eR
open Go.Value renaming oneCell'→fV
open Go.World renaming ownsRow_nil→gP,size_setCell→jR,setCell→ss,alloc→li
open Int renaming natCast_mul→gQ,toNat_natCast→jx,toNat_of_nonneg→pR,mul_nonneg→qG,mul_le_mul_of_nonneg_right→vv
open Array renaming toList→jf
open Go.Exit renaming inBlock→j6
open Go.IntKind renaming wrap_u64→pT
namespace Go.Proofs.YtcpmhoodeieanaaGreatDoor
open Go.RowKit Go.Proofs.Tryz
variable {w w':H} {t:Int×Int×Int} {CS:List (Array aj)} {f:List Int->Nat->List Int} {xs:List ky} {a b c n sz:Nat} {S:Nat->Prop} {o:Obj} {α:Type} {d z:ah} {v y0 y1 y2 y3 y4 y5:aj} {e:dN}
section
attribute [local go_sem ↓] wp_at_zero wp_at_succ
def ajA (d:dL) (w:H) (e:dN) (w':H):Prop:=∃a n c,e=bG (aL #[aF (d.cells a n c),Y Z 0])/\cH kz 2 (λb=>w.heap.size<=b) w' a n d.xs/\n<=c/\ay w w w'
theorem di.many {ZU:(Nat->Prop)->H->Array aj->α->Prop} (C:Carry ZU sz) {T:dy} {B:Nat} {P:Nat->Prop} {L:List α} (h:gy ZU sz T B P w v L CS)
 (hv:∀b,v.ownBlock=A b->¬S b) (hP:∀b,b<w.heap.size->P b->¬S b):di S w λw=>gy ZU sz T B P w v L CS:=λw' k=>
 h.move C k (λb e=>⟨(h.2.2.lt b e).2,hv b e⟩) λb hb _ ho=>⟨hb,hP b hb ho,ho⟩
theorem abD:(aq.info? 54).map (λi=>(i.zero,i.size,i.bytes))=A (A (aF #[O G 0 0,Y Z 0]),2,32):=Q2Q
theorem ZY.ajB (d:dL) (hd:d.Bd) (n:Nat) (hn:d.xs.length=n) (h2:n<=64):ZY.DG d=[112,100,100,115]++(ZY.put d.a 1++(ZY.put d.b 1++(ZY.put d.c 1++(ZY.put (cD.wrap d.e) 1++(ZY.put d.k 1++(ZY.put (n:Int) 2++d.xs.flatMap ZY.mQ)))))):=by
 have w:∀x:Int,0<=x->x<=100->cD.wrap x=x:=λx h1 h2=>Q36;have h:=hd;unfold ZY.DG ZY.FH;rw[hn];simp only[rz,List.flatMap_nil,List.append_nil,lL];rw[w d.a (E h.a1) (E h.a2),w d.b (E h.b1) (E h.b2),w d.c (E h.c1) (E h.c2),w d.k (E h.k1) (E h.k2),w (n:Int) U U]
theorem ZY.ajC (x:ky) (hy:0<=x.y/\x.y<=9) (rest:ah):ZY.mQ x++rest=ZY.put x.y 1++(x.z.map ZY.eF++rest):=by
 unfold ZY.mQ;rw[ZY.UF,lL,show cD.wrap x.y=x.y by rw[pT];omega]
theorem abE {j:Nat} {x:ky} (h:xs[j]? =A x):(xs.drop j).flatMap ZY.mQ=ZY.mQ x++(xs.drop (j+1)).flatMap ZY.mQ:=by
 have hj:=(fX.1 h).1;have:xs[j]=x:=by rw[cR hj]at h;injection h
 rw[List.drop_eq_getElem_cons hj,rz,this]
theorem u8s (g:Nat) (n:Int) (R:ah) (w:H) (h:iE g ⟨ZY.put n 1++R,0⟩ w) (hl:R.length<=900000000) (h0:0<=n) (h1:n<=255):aA aq 86 #[aP g] w (NumOut g Z n ⟨R,0⟩ w):=by
 have h2:=Ih g ⟨ZY.put n 1++R,0⟩ w h (by rw[dG,ZY.fI];omega);rwa[dH.Io,show n%256=n by omega]at h2
theorem u8b (g:Nat) (n:Int) (R:ah) (w:H) (h:iE g ⟨ZY.put (cD.wrap n) 1++R,0⟩ w) (hl:R.length<=900000000):aA aq 86 #[aP g] w (NumOut g Z (ZY.eF n) ⟨R,0⟩ w):=by
 have h2:=Ih g ⟨ZY.put (cD.wrap n) 1++R,0⟩ w h (by rw[dG,ZY.fI];omega);rwa[dH.Io]at h2
theorem Ps {g:Nat} {x0 x1 x2 x3 x4 x5:aj} {t:dy} (h:w.heap[g]? =A (ag #[x0,x1,x2,x3,x4,x5] t (0,0))):
 (ss (ss (ss (ss (ss (ss w g y0) ⟨g,1,G⟩ y1) ⟨g,2,G⟩ y2) ⟨g,3,G⟩ y3) ⟨g,4,G⟩ y4) ⟨g,5,G⟩ y5).heap[g]? =A (ag #[y0,y1,y2,y3,y4,y5] t (0,0)):=by
 have h:=dF (f:=5) (dF (f:=4) (dF (f:=3) (dF (f:=2) (dF (f:=1) (dF (f:=0) h y0) y1) y2) y3) y4) y5;simp only[dC,dD,dE]at h;exact h
theorem ajD (d:dL) (a:aC) (l c:Nat) (w:H) (h:ai .u8 w a l (ZY.DG d)) (hm:d.aH=true) (lQ:∀x∈d.xs,∀y∈x.z,-128<=y/\y<=127):
 aA aq 54 #[O a l c] w (ajA d w):=by
 have o7:=V (dL.nT hm);obtain⟨n,hn⟩:=J d.xs.length;have UV:1<=n/\n<=64:=E o7.I.2;have Iw:=V (λx hx=>dL.Lp o7.I.1 (o7.I.2.2.2 x hx));have yu:=ZY.Ln (L:=d.xs) (N:=2048) (λy hy=>(Iw.I y hy).2.1);have hd:=o7.I.1;have ha:=hd.a1;have ha2:=hd.a2;have hb:=hd.b1;have du:=hd.b2;have hc:=hd.c1;have jH:=hd.c2;have he:=hd.e1;have vD:=hd.e2;have hk:=hd.k1;have ig:=hd.k2;rw[ZY.ajB d hd n hn UV.2]at h;have hlen:=h.bA;have abF:d.head (n:Int)=true:=by
  have:=hm;unfold dL.aH at this;rw[fS,hn]at this;exact this.1
 obtain⟨R6,Pt⟩:=J (d.xs.flatMap ZY.mQ);have ar1:R6.length<=200000:=by rw[<-Pt];omega
 rw[Pt]at h hlen;have NR:=V (Ur a l c _ (li w (ag (dL.cells ⟨0,0,0,0,0,[]⟩ G 0 0) 28)) (h.below (aD w _)) Q4v);have RW:=V (λg w' R (hR:R.length<=1000000) h=>(show aA aq 83 #[aP (A ⟨g,0,G⟩),Y Z 4] w' (Ig g ([112,100,100,115],⟨R,0⟩) w') by
  have h2:=KI g ⟨[112,100,100,115]++R,0⟩ 4 w' h (by simp only[dG,n8,List.length_nil];omega);rwa[dH.Ld _ _ 4 rfl U]at h2))
 have U8:=V u8s;have UB:=V u8b;have UN:=V (λg w' h=>(show aA aq 119 #[aP (A ⟨g,0,G⟩)] w' (NumOut g Z n ⟨R6,0⟩ w') by
  have h2:=Ut g ⟨ZY.put (n:Int) 2++R6,0⟩ w' h Q31;rwa[dH.UD _ _ U U]at h2))
 have DH:=V (λxa xl xm w=>abF▸abA d (n:Int) xa xl xm w);have e1:aO.wrap (ZY.eF d.e)=d.e:=ZY.Po U U;have e2:cM d.e=d.e:=iZ _ ⟨U,U⟩;have HN:=V hn;have oD:=V Pt;clear h hm hlen yu hd abF hn Pt;go_enter func54,ntmps54;go_wp2_with fail;refine NR.I.mono ?_;rintro e w1 ⟨g,rfl,h1,h2,h3⟩;have Pr:=V ((aD w _).step h3);have Lj:w.heap.size<g:=by rw[bF]at h2;omega
 have pX:g<w1:=by obtain⟨_,_,_,hb,_⟩:=h1;exact bH hb
 have KR:=V ((di.block (S:=λb=>b=g) (bV (bZ w (ag (dL.cells ⟨0,0,0,0,0,[]⟩ G 0 0) 28)) h3) U).and (di.kept _));have gG:=V h1;clear h1 h2 h3 NR;go_wp2_with fail;refine(RW.I g _ _ Q31 gG.I).mono ?_;rintro e w2 ⟨a2,l2,c2,rfl,t1,t2,t3,t4,t5⟩;have K2:=V (KR.I.step t5);have cU:=V t4;have j8:=t1.bA;obtain rfl:4=l2:=by simpa using j8
 obtain⟨b2,o2,rfl,_⟩:=t1.cells U;have CV:(convert 42 9 (O (A ⟨b2,o2,G⟩) 4 c2)).run aq w2= .ok (.string ⟨#[112,100,100,115]⟩) w2:=abw ⟨b2,o2,G⟩ c2 _ [112,100,100,115] w2 t1 rfl;obtain⟨MG,FE⟩:∃MG:ByteArray,(⟨#[112,100,100,115]⟩:ByteArray)=MG:=⟨_,rfl⟩;rw[FE]at CV;have Iu:=V FE;have pW:(MG.toList==[112,100,100,115])=true:=Q58;have ajE:(MG.toList != [112,100,100,115])=ae:=Q58;clear t1 t2 t3 t4 t5 KR gG j8 RW FE;go_wp2_with fail;refine(U8.I g _ _ _ cU.I Q31 U U).mono ?_;rintro e w3 ⟨rfl,h1,h2⟩;have K3:=V (K2.I.step h2);have fL:=V h1;clear h1 h2 K2 cU;go_wp2_with fail;refine(U8.I g _ _ _ fL.I Q31 U U).mono ?_;rintro e w4 ⟨rfl,h1,h2⟩;have K4:=V (K3.I.step h2);have gU:=V h1;clear h1 h2 K3 fL;go_wp2_with fail;refine(U8.I g _ _ _ gU.I Q31 U U).mono ?_;rintro e w5 ⟨rfl,h1,h2⟩;have K5:=V (K4.I.step h2);have jk:=V h1;clear h1 h2 K4 gU;go_wp2_with fail;refine(UB.I g _ _ _ jk.I Q31).mono ?_;rintro e w6 ⟨rfl,h1,h2⟩;have K6:=V (K5.I.step h2);have oD:=V h1;clear h1 h2 K5 jk;go_wp2_with fail;refine(U8.I g _ _ _ oD.I Q31 U U).mono ?_;rintro e w7 ⟨rfl,h1,h2⟩;have K7:=V (K6.I.step h2);have mL:=V h1;clear h1 h2 K6 oD;go_wp2_with fail;clear pW ajE CV Iu;have K8:=V (K7.I.alloc (ag (d.cells G 0 0) 28)|>.and (di.new _ (E K7.I.aN.2.size)));have tE:=V (mL.I.below (aD w7 (ag (d.cells G 0 0) 28)));obtain⟨bo,cy⟩:=J w7.heap.size;rw[cy]at K8;have ar2:g<bo:=E K7.I.aN.2.size;refine(UN.I g _ tE.I).mono ?_;rintro e w8 ⟨rfl,h1,h2⟩;have K9:=V (K8.I.step h2);have lr:=V h1;clear h1 h2 K8 tE K7 mL;rw[cy];clear cy;go_wp2_with fail;refine cq (KJ g ⟨R6,0⟩ w8 lr.I) ?_;have ajF:0<R6.length:=by
  rw[<-oD.I];have hx:=Iw.I (d.xs[0]'(E HN.I)) (jZ _);have hj:d.xs[0]? =A (d.xs[0]'(E HN.I)):=Q2W;have:=abE hj;rw[List.drop_zero]at this;rw[this,dG,ZY.abB];omega
 rw[show dH.fin ⟨R6,0⟩=5 by unfold dH.fin;rw[aR ⟨rfl,ajF⟩]];have f0:=df K9.I.aN.2;go_wp2_with fail;refine bY (DH.I _ _ _ _) λw9 hb=> ?_;have KA:=V (K9.I.below hb);have Li:=V (lr.I.below hb);clear hb K9 lr f0 DH UN;obtain⟨B,hB⟩:=J w9.heap.size;have HB:=V hB;have ajG:bo<B:=E (bH KA.I.aN.2);have DS:=V (λxa xl xm w=>aaU d.a d.b d.c d.e d.k xa xl xm w ha ha2 hb du hc jH);unfold O7 at DS;clear hB;go_wp2_with fail;go_loopw [9,8,10,12] (λi e _ _ wr=>∃(j:Nat) (vd:aj) (CS:List (Array aj)),j<=n/\i=Y Z j/\e=Y Z 0/\wr.heap[bo]? =A (ag #[Y Z d.a,Y Z d.b,Y Z d.c,Y Z d.e,Y Z d.k,vd] 28 (0,0))/\gy kz 2 54 B (λb=>B<=b) wr vd (d.xs.take j) CS/\iE g ⟨(d.xs.drop j).flatMap ZY.mQ,0⟩ wr/\ar B (λb=>b=g\/b=bo) w9 wr) (λi _ _ _ _=>n-(aX i).toNat)
 case atStart=>exact⟨0,_,[],cK _,rfl,rfl,KA.I.aN.2,Q57,by rw[List.drop_zero,oD.I];exact Li.I,ar.cP _ _ _⟩
 case round=>
  obtain⟨j,vd,CS,hj,rfl,rfl,cy,nS,fO,hk⟩:=hrel;have HO:=V cy;have HM:=V nS;have HR:=V fO;have HK:=V hk;clear cy nS fO hk;have qO:B<=wr:=Q3p;by_cases aT:j<n
  .obtain⟨x,hx⟩:∃x,d.xs[j]? =A x:=⟨d.xs[j]'(by rw[HN.I];exact aT),Q2W⟩;have jN:=nB hx;obtain⟨z1,z2,z3,z4,z5,-⟩:=Iw.I x jN;have ajH:=V (o7.I.2.2.2 x jN);have UW:=lQ x jN;have HS:=V (show d.xs.take (j+1)=d.xs.take j++[x] by
    have hj:=(fX.1 hx).1;rw[List.take_succ_eq_append_getElem hj];rw[cR hj]at hx;injection hx with hx;rw[hx])
   have BD:=ZY.Ln (L:=d.xs.drop (j+1)) (N:=2048) (λy hy=>(Iw.I y (List.mem_of_mem_drop hy)).2.1);rw[List.length_drop,HN.I]at BD;have jl:=HR.I;rw[abE hx,ZY.ajC x ⟨z4,z5⟩]at jl;obtain⟨RR,UX⟩:=J ((d.xs.drop (j+1)).flatMap ZY.mQ);rw[UX]at jl BD;have Ir:=V UX;have HRj:=V jl;have UY:RR.length<=200000:=by
    have:(n-(j+1))*(2048+1)<=64*2049:=mq U U;omega
   obtain⟨dt,rN⟩:=J (d.xs.take j);have jU:dt.length=j:=by rw[<-rN,List.length_take,HN.I];omega
   rw[rN]at HM HS;have i1:(j:Int)<(n:Int):=U;obtain⟨pa,pl,pc,rfl⟩:=HM.I.slice;have Pu:=λb (h:(O pa pl pc).ownBlock=A b)=>HM.I.2.2.lt b h;clear jl UX rN hx HR BD jN;go_wp2_with fail;refine(U8.I g _ _ _ HRj.I (by rw[dG,ib];omega) U U).mono ?_;rintro e w4 ⟨rfl,h1,h2⟩;have KM:=V ((di.block (S:=λb=>b=g) HO.I U).and (di.many (S:=λb=>b=g) iG HM.I (λb e=>E (Pu b e)) (λb hb ho=>by have ho:B<=b:=ho;omega))|>.step h2);have lu:=V (HK.I.trans' (h2.mono (C:=wr) (S':=λb=>b=g\/b=bo) (bu _) (λ_ _ h=>aM h)) qO);have gU:=V h1;have A7:wr.heap.size<=w4:=h2.size;clear h1 h2 HRj HM HO HK;obtain⟨xo,m7⟩:=J w4.heap.size;have yW:=V (KM.I.aN.2.move iG (P':=λb=>B<=b/\b≠xo) (ar.cP w4 (λ_=>False) w4) (λb e=>⟨(KM.I.aN.2.2.2.lt b e).2,id⟩) (λb hb _ ho=>⟨hb,id,ho,U⟩));have KX:=V ((di.block (S:=λb=>b=g\/b=xo) KM.I.aN.1 U).and (di.many (S:=λb=>b=g\/b=xo) iG yW.I (λb e=>E (yW.I.2.2.lt b e)) (λb hb ho=>Q3L))|>.alloc (lB G 0 0 x.y));have je:=bZ w4 (lB G 0 0 x.y);rw[m7]at je;have jk:=V (gU.I.below (aD w4 (lB G 0 0 x.y)));have rP:=V (lu.I.trans' (ar.cZ (aD w4 (lB G 0 0 x.y))) U);have f0:=df KX.I.aN.1;have qQ:=V je;have Lq:xo<(li w4 (lB G 0 0 x.y)).heap.size:=Q2Y;have hBC:B<=xo:=U;have UZ:wr.heap.size<=xo:=U;clear KM lu gU yW je;go_wp2_with fail;clear m7;generalize li w4 (lB G 0 0 x.y)=w5 at*;refine bY (DS.I _ _ _ _) λw6 hb=> ?_;have KX2:=V (KX.I.below hb);have ajI:=V (bV qQ.I hb);have abG:=V (jk.I.below hb);have lH:=V (rP.I.trans' (ar.cZ hb) U);have m9:=hb.size;clear hb KX jk rP f0;have TK:=V (show aA aq 83 #[aP g,Y Z (d.a*d.b*d.c)] w6 (Ig g (x.z.map ZY.eF,⟨RR,0⟩) w6) by
    have h2:=KI g ⟨x.z.map ZY.eF++RR,0⟩ (d.a*d.b*d.c) w6 abG.I (by rw[dG,ib];omega);rwa[dH.Ld _ _ (d.a*d.b*d.c) (by rw[ib];exact z1.symm) (by have:d.sz=d.a*d.b*d.c:=rfl;omega)]at h2)
   go_wp2_with fail;refine TK.I.mono ?_;rintro e w7 ⟨a3,l3,c3,rfl,t1,t2,t3,t4,t5⟩;have KX3:=V (KX2.I.step (t5.mono (C:=w6) (bu _) (λ_ _ h=>aM h)));have abH:=V (jE.bC t5 ajI.I U);have HT:=V t1;have UH:=V (λy hy=>(eH m9 (t3 y hy):w5.heap.size<=y.block));have mL:=V t4;have nh:=V (lH.I.trans' (t5.mono (C:=w6) (S':=λb=>b=g\/b=bo) (bu _) (λ_ _ h=>aM h)) U);have zN:=t1.bA;rw[ib]at zN;have Hx:w6.heap.size<=w7:=t5.size;clear t1 t2 t3 t4 t5 TK KX2 abG lH;go_wp2_with fail;obtain⟨C,hC⟩:=J w7.heap.size;have HC:=V hC;have FK:xo<C:=U;clear hC;go_loopw [71,12] (λi _ wx=>∃(k:Nat) (vz:aj),k<=l3/\i=Y Z k/\wx.heap[xo]? =A (ag #[vz,Y Z x.y] 54 (0,0))/\wx.ownsRow C 106 1 vz k ((x.z.take k).map (Y aO))/\ar C (λb=>b=xo) w7 wx) (λi _ _=>l3-(aX i).toNat)
   case atStart=>exact⟨0,_,cK _,rfl,abH.I,gP _ _ _ _,ar.cP _ _ _⟩
   case round=>
    obtain⟨k,vz,hk,rfl,hx,aV,fH⟩:=hrel;have FM:C<=wr:=Q3v;by_cases o8:k<l3
    .have jl:=fH.gH HT.I (λy hy h0=>by have h1:=HT.I.bC h0 hy;have h2:=UH.I y hy;rw[HC.I]at h1;exact⟨h1,U⟩);obtain⟨p0,o0,rfl,e0⟩:=jl.cells U;have c0:=e0 k o8;rw[abk _ U]at c0;have yR:=V (T.yz (z:=x.z) (k:=k) U);have hy: -128<=x.z.getD k 0/\x.z.getD k 0<=127:=UW _ (by rw[gB,cR (show k<x.z.length by omega)];exact jZ _);have e3:=ZY.Po hy.1 hy.2;generalize x.z.getD k 0=y at*;obtain⟨zt,Dz⟩:=J (x.z.take k);rw[Dz]at aV yR;have iR:=V aV;have HX:=V hx;have yX:=V fH;clear Dz aV hx fH jl e0 hy;obtain⟨i0,hi,cF,cG,cB⟩:=fB tA;have q0:=nj HX.I;have i3:(k:Int)<(l3:Int):=U;go_wp2_with (at_builtin;refine ko _ rfl _ _ 52 rfl C 106 i0 (Y aO 0) 1 1 underlying52 hi cF cG cB rfl eM vz k (zt.map (Y aO)) rfl (iR.I.alloc _) ⟨wr,0,G⟩ 1 1 [Y aO y] rfl rfl ?c1 ?c2 ?c3 ?c4 ?c5 ?c6 ?_)
     try(case c1=>exact kJ wr _ _)
     try(case c2=>simp[fV])
     try(case c3=>unfold eS;omega)
     try(case c4=>omega)
     try(case c5=>(try simp only[bF]);omega)
     try(case c6=>omega)
     intro g1 c1 BF cC bM cN ei fC;have dh:=λb (h:vz.ownBlock=A b)=>(iR.I.lt b h).1;have iD:=gI bM (dX HX.I _) (λh=>E (dh _ h));obtain⟨f1,f2,f3,f4⟩:=App.field 0 HX.I FK FM dh cC bM ei;simp only[dC,dD,dE]at f1;have U0:=V f1;have mO:=V f2;have U6:=V (yX.I.trans' f3 (bu _));have r0:=nj iD;have z3:=cE iD 0;clear cC bM cN dh f1 f2 f3 f4 iD q0;exact Q1z
    .obtain rfl:k=l3:=U;rw[oQ (by omega:x.z.length<=k)]at aV;obtain⟨pd,cd,rfl,gC⟩:=ai.nJ aV (λy hy=>yw (UW y hy).1 (UW y hy).2) U;have U7:=V (λy (hy:pd=A y)=>(aV.lt y.block (by rw[hy];rfl)));have zW:=V (KX3.I.step (fH.mono (C:=w7) Q4n (λ_ _ h=>bJ h)));have tE:=V (mL.I.kept fH U (λb h1 h2=>U));have rQ:=V (nh.I.trans' (fH.mono (C:=B) (S':=λb=>b=g\/b=bo) U (λb h1 h2=>U)) (bu _));have Lr:=V hx;have FP:=V (show kz (λb=>C<=b) wr #[O pd k cd,Y Z x.y] x from⟨_,_,_,rfl,gC,λy hy _=>(U7.I y hy).1⟩);clear gC aV hx fH KX3 mL nh HT abH;go_wp2_with fail;refine cq (KJ g ⟨RR,0⟩ wr tE.I) ?_;have Ls:(dH.fin ⟨RR,0⟩==(4:Int))=ae:=by unfold dH.fin;split<;>rfl
     generalize dH.fin ⟨RR,0⟩=fz at*;have O1:=V (ajH.I▸abz d x pa pl pc #[O pd k cd,Y Z x.y] _ wr o7.I.1 FP.I);have f0:=df zW.I.aN.1;have q0:=nj Lr.I;go_wp2_with fail;refine bY O1.I λwA hb=> ?_;have Lu:=V (zW.I.below hb);have lr:=V (tE.I.below hb);have Du:=V (rQ.I.trans' (ar.cZ hb) U);have HX9:=V (bV Lr.I hb);have Lv:=V (iG.move (fJ:=qt (λb=>B<=b/\b≠xo) (O pa pl pc)) FP.I (ar.cZ (S:=λ_=>False) hb) (λb h1 h2=>⟨h1,id,λe=>by
      have h2:C<=b:=h2;have:=Pu b e;omega,by have h2:C<=b:=h2;exact⟨U,U⟩⟩))
     have eX:B<=wA.heap.size:=eH U hb.size;clear hb f0 q0 zW tE rQ Lr FP O1 Ls;have f0:=df Lu.I.aN.1;have q0:=nj HX9.I;obtain⟨i0,hi,cF,cG,cB⟩:=fB abD;have kg:=V (show wA.ownsRow B 54 2 (O pa pl pc) j (CS.flatMap jf)from jU▸Lu.I.aN.2.2.2);go_wp2_with (at_builtin;refine ko _ rfl _ _ 26 rfl B 54 i0 (aF #[O G 0 0,Y Z 0]) 2 32 underlying26 hi cF cG cB rfl eM (O pa pl pc) j (CS.flatMap jf) rfl (kg.I.alloc _) ⟨wA,0,G⟩ 1 1 [O pd k cd,Y Z x.y] rfl rfl ?c1 ?c2 ?c3 ?c4 ?c5 ?c6 ?_)
     try(case c1=>exact xy wA #[O pd k cd,Y Z x.y] _)
     try(case c2=>simp[fV])
     try(case c3=>unfold eS;omega)
     try(case c4=>omega)
     try(case c5=>(try simp only[bF]);omega)
     try(case c6=>omega)
     intro g1 c1 BF cC bM cN ei fC;have dh:=λb (h:(O pa pl pc).ownBlock=A b)=>(kg.I.lt b h).1;have Iv:=gy.app iG Lu.I.aN.2 Lv.I (n:=j+1) U cC bM Q3B;obtain⟨vW,DK,Lw,e4'⟩:=App.field 5 Lu.I.aN.1 ajG eX dh cC bM ei;simp only[dC,dD,dE]at vW;have uD:=V (Iv.move iG (P':=λb=>B<=b) ((ar.cP BF (λb=>b=bo) BF).set (g:=bo) (aM rfl) 5 (O g1 (j+1) c1)) (λb e=>by
      have e:A g1=A b:=e;injection e with e;exact⟨U,U⟩) (λb hb _ ho=>⟨hb,Q3L,ho.1⟩))
     have HRx:=V (lr.I.kept Lw U (λb h1 h2=>U));have U9:=V (Du.I.trans' (Lw.mono (C:=B) (bu _) (λb h1 h2=>bJ h2)) (bu _));have Va:=V vW;have iD:=gI bM (dX Lu.I.aN.1 _) (λh=>E (dh _ h));have r0:=df iD;have z3':=cE iD 5;clear cC bM cN ei fC dh iD vW DK Lw e4' Iv kg f0 q0;go_wp2_with fail;clear r0 z3';generalize ss BF ⟨bo,5,G⟩ (O g1 (j+1) c1)=w8 at*;go_wp2_with fail;go_roundw
     case rel=>exact⟨j+1,_,_,U,Q2T,rfl,Va.I,Q5l,by rw[Ir.I];exact HRx.I,U9.I⟩
     case measure=>exact Q5q
  .obtain rfl:j=n:=U;have jl:=HR.I;rw[sx.2 (by have:=HN.I;omega:d.xs.length<=j)]at jl;have ng:=HM.I;rw[oQ (by have:=HN.I;omega:d.xs.length<=j)]at ng;obtain⟨pa,pc,rfl,pJ,iq,qP⟩:=ng.on iG U HN.I U (ok:=λb=>B<=b/\b<wr.heap.size) (λb hb h=>⟨h,hb⟩) (λb hb h=>⟨h,hb⟩);have lp:=V iq;have Ll:=V (show iE g ⟨[],0⟩ wr from jl);have jK:=V (HK.I.bC (g:=w) U U KA.I.aN.1.1);have jV:=V (Below.gh (Below.gh Pr.I KA.I.aN.1.2 (λb h=>by exact⟨U,U⟩)) HK.I (λb h=>by exact⟨U,U⟩));have f0:=df HO.I;have g0:=df jK.I;have y0:=λj=>cE jK.I j;clear jl ng iq HM HR HK;go_wp2_with fail;refine cq (KJ g ⟨[],0⟩ wr Ll.I) ?_;rw[show dH.fin ⟨[],0⟩=0 from rfl];go_wp2_with fail;have hk:ar wr (λb=>b=w.heap.size) wr (ss (ss (ss (ss (ss (ss wr w (Y Z d.a)) ⟨w,1,G⟩ (Y Z d.b)) ⟨w,2,G⟩ (Y Z d.c)) ⟨w,3,G⟩ (Y Z d.e)) ⟨w,4,G⟩ (Y Z d.k)) ⟨w,5,G⟩ (O pa j pc)):=
    ((((((ar.cP _ (λb=>b=w.heap.size) _).set (aM rfl) _ _).set (aM rfl) _ _).set (aM rfl) _ _).set (aM rfl) _ _).set (aM rfl) _ _).set (aM rfl) _ _
   refine aZ (v:=aL #[aF (d.cells pa j pc),Y Z 0]) ?_ rfl ⟨pa,j,pc,rfl,lp.I.move iG U hk (λb hb ho=>⟨hb,U,U⟩),pJ,Below.gh jV.I hk (λb h=>⟨U,U⟩)⟩;have t0:=df (Ps (y0:=Y Z d.a) (y1:=Y Z d.b) (y2:=Y Z d.c) (y3:=Y Z d.e) (y4:=Y Z d.k) (y5:=O pa j pc) jK.I);simp[aW,results54,go_sem,t0]
theorem ako:aq.underlying 22=A (.array 3 3):=Q2Q
theorem ac4 (a b c x y z:Int) (w:H):(Op.equalIn 10000 22 (aF #[Y Z a,Y Z b,Y Z c]) (aF #[Y Z x,Y Z y,Y Z z])).run aq w= .ok ((a==x)&&((b==y)&&(c==z))) w:=by
 obtain⟨i0,hi,cF,cG,cB⟩:=fB Dp;rw[run_equalIn_array w 9999 _ _ ako hi];have hc:aq.cellsOf 3=1:=Q2Q;by_cases h1:a=x<;>by_cases h2:b=y<;>by_cases h3:c=z<;>simp[Op.eqItems,go_sem,List.range,List.range.loop,hc,h1,h2,h3]
def Mod.goes (m:Mod) (d:dL) (h:iV):Int:=if m.a=d.a/\m.b=d.b/\m.c=d.c then m.net d.k h.b else 2
theorem ac5 (m:Mod) (d:dL) (h:iV) (ok:Nat->Prop) (xa:aC) (xl xm:Nat) (da:aC) (dl dm:Nat) (w:H) (hm:cH iM 7 ok w xa xl m.L):
 aA aq 16 #[aF (m.cells xa xl xm),aF (d.cells da dl dm),mP h] w (dZ (Y Z (m.goes d h)) w):=by
 have HX:=V (hm.bt gL U);have K3:=V (aE.lj w (ag (m.cells xa xl xm) 25) (ag (d.cells da dl dm) 28) (nI h.b h.w h.r h.m h.d h.e));have f0:=eQ K3.F.1;have g0:=df K3.F.2.1;have q0:=df K3.F.2.2.1;have CN:=V (ak7 m d.k h.b ok xa xl xm _ (HX.I _ K3.F.2.2.2));unfold mP;obtain⟨R,hR⟩:=J (m.goes d h);rw[hR];have HR:=V hR;clear hR hm;have EQ:=λw=>ac4 d.a d.b d.c m.a m.b m.c w;obtain⟨ZU,hE⟩:=J ((d.a==m.a)&&((d.b==m.b)&&(d.c==m.c)));simp only[hE]at EQ;have HE:=V hE;clear hE
 cases ZU
 .obtain rfl:2=R:=by
   rw[<-HR.I];unfold Mod.goes;rw[aI];rintro⟨h1,h2,h3⟩;have:=HE.I;simp[h1,h2,h3]at this
  go_enter func16,ntmps16;go_wp2_with fail;go_ret;exact⟨rfl,K3.F.2.2.2⟩
 .have cU:=V (show m.net d.k h.b=R by
   rw[<-HR.I];unfold Mod.goes;rw[aR];have:=HE.I;simp only[fS,beq_iff_eq]at this;exact⟨this.1.symm,this.2.1.symm,this.2.2.symm⟩)
  rw[cU.I]at CN;go_enter func16,ntmps16;go_wp2_with fail;refine CN.I.mono ?_;rintro e w2 ⟨y,rfl,hb⟩;have HB:=V (K3.F.2.2.2.step hb);go_wp2_with fail;go_ret;exact⟨rfl,HB.I⟩
namespace ZY
def step (p:bD) (g:fQ) (h:iV) (sd st ly:Int):Int×bD:=
 if(h.aH&&(ZX.within st 0 1000000&&ZX.within ly 1 12))=true then
  (if g.has=true then
   (if y7 p g≠0 then(y7 p g,bD.nil)
    else if(T.small g.w h.w sd (ZX.stream st ly 3)).1 ≠0 then((T.small g.w h.w sd (ZX.stream st ly 3)).1,bD.nil)
    else if(T.small g.b h.w sd (ZX.stream st ly 5)).1 ≠0 then((T.small g.b h.w sd (ZX.stream st ly 5)).1,bD.nil)
    else(0,⟨Dn.weights ⟨h,sd,st,ly⟩ p.w (Dn.DY ⟨h,sd,st,ly⟩ p.m (T.small g.w h.w sd (ZX.stream st ly 3)).2.z),Dn.DY ⟨h,sd,st,ly⟩ p.m (T.small g.w h.w sd (ZX.stream st ly 3)).2.z,Dn.LL ⟨h,sd,st,ly⟩ p.b (T.small g.b h.w sd (ZX.stream st ly 5)).2.z⟩))
   else(0,p))
 else(1,bD.nil)
structure Fit (p:bD) (g:fQ):Prop where
 w:T.aH p.w.d p.w.e p.w.z
 b:T.aH p.b.d p.b.e p.b.z
 gw:T.oE g.w.d g.w.e g.w.z
 gb:T.oE g.b.d g.b.e g.b.z
 m:p.m.length=p.w.z.length
 dw:g.w.d=p.w.d
 db:g.b.d=p.b.d
theorem fit {p:bD} {g:fQ} (h:y7 p g=0):Fit p g:=by
 unfold y7 at h;by_cases h1:(p.w.ok&&(p.b.ok&&(decide (T.oE g.w.d g.w.e g.w.z)&&(decide (T.oE g.b.d g.b.e g.b.z)&&(decide (p.m.length=p.w.z.length)&& !(p.m.any ZX.ni))))))=true
 .rw[aR h1]at h;by_cases h2:decide (g.w.d=p.w.d)=true
  .rw[aR h2]at h;by_cases h3:decide (g.b.d=p.b.d)=true
   .simp only[fS,decide_eq_true_eq,az.ok]at h1;exact⟨h1.1,h1.2.1,h1.2.2.1,h1.2.2.2.1,h1.2.2.2.2.1,eZ h2,eZ h3⟩
   .rw[aI h3]at h;cases h
  .rw[aI h2]at h;cases h
 .rw[aI h1]at h;cases h
end ZY
theorem T.acl {t:az} {w s st:Int} (h:(T.small t w s st).1 =0):(T.small t w s st).2.z.length=t.z.length:=by
 unfold T.small at h⊢;split at h
 .cases h
 .rename_i h1;rw[aI h1];split at h
  .cases h
  .rename_i h2;rw[aI h2];exact T.ahY _ _ _ _ _
def bD.Len (p:bD):Prop:=p.w.d.length<=1000000000/\p.w.z.length<=1000000000/\p.m.length<=1000000000/\p.b.d.length<=1000000000/\p.b.z.length<=1000000000
def akG (r:Int×bD) (w:H) (e:dN) (w':H):Prop:=∃cs,e=bG (aL #[aF cs,Y Z r.1])/\lq (λb=>w.heap.size<=b) w' cs r.2 /\ay w w w'
theorem nt {wx:H} {r:Nat} (hb:ay w w wx) (h:w.heap.size<=r) (y0 y1 y2 y3 y4 y5 y6:aj):ay w w (ss (ss (ss (ss (ss (ss (ss wx r y0) ⟨r,1,G⟩ y1) ⟨r,2,G⟩ y2) ⟨r,3,G⟩ y3) ⟨r,4,G⟩ y4) ⟨r,5,G⟩ y5) ⟨r,6,G⟩ y6):=
 ((((((hb.setCell h _).setCell h _).setCell h _).setCell h _).setCell h _).setCell h _).setCell h _
theorem lq.stored {B B' gb:Nat} {p:bD} {r1 r2 r3 r4 r5:aC} {n1 k1 n2 k2 n3 k3 n4 k4 n5 k5:Nat} (h1:dM aO B w (aS r1 n1 k1 p.w.e r2 n2 k2) p.w) (h2:ai cr w r3 n3 p.m) (oR:∀x,r3=A x->B<=x.block) (h3:dM aO B w (aS r4 n4 k4 p.b.e r5 n5 k5) p.b) (hg:gb<B) (hB:B'<=B) (y0 y1 y2 y3 y4 y5 y6:aj):
 lq (λb=>B'<=b) (ss (ss (ss (ss (ss (ss (ss w gb y0) ⟨gb,1,G⟩ y1) ⟨gb,2,G⟩ y2) ⟨gb,3,G⟩ y3) ⟨gb,4,G⟩ y4) ⟨gb,5,G⟩ y5) ⟨gb,6,G⟩ y6) #[O r1 n1 k1,Y Z p.w.e,O r2 n2 k2,O r3 n3 k3,O r4 n4 k4,Y Z p.b.e,O r5 n5 k5] p:=by
 have hk:ar w (λb=>b=gb) w _:=(ar.cP w (λb=>b=gb) w).vS (aM rfl) y0 y1 y2 y3 y4 y5 y6;obtain⟨a',l',c2,b',m',c3,e,q1,q2,q3,q4⟩:=h1;unfold aS at e;injection e with e;simp only[Array.mk.injEq,List.cons.injEq,Value.slice.injEq,and_true,true_and]at e;obtain⟨⟨rfl,rfl,rfl⟩,rfl,rfl,rfl⟩:=e;obtain⟨a',l',c2,b',m',c3,e,u1,u2,u3,u4⟩:=h3;unfold aS at e;injection e with e;simp only[Array.mk.injEq,List.cons.injEq,Value.slice.injEq,and_true,true_and]at e;obtain⟨⟨rfl,rfl,rfl⟩,rfl,rfl,rfl⟩:=e;refine⟨_,_,_,_,_,_,_,_,_,_,_,_,_,_,_,rfl,⟨?_,?_⟩,⟨?_,?_⟩,⟨?_,?_⟩,⟨?_,?_⟩,⟨?_,?_⟩⟩
 .exact hk.gH q1 (λx hx h0=>⟨q1.bC h0 hx,by have:=q3 x hx;omega⟩)
 .intro x hx _;have:=q3 x hx;omega
 .exact hk.gH q2 (λx hx h0=>⟨q2.bC h0 hx,by have:=q4 x hx;omega⟩)
 .intro x hx _;have:=q4 x hx;omega
 .exact hk.gH h2 (λx hx h0=>⟨h2.bC h0 hx,by have:=oR x hx;omega⟩)
 .intro x hx _;have:=oR x hx;omega
 .exact hk.gH u1 (λx hx h0=>⟨u1.bC h0 hx,by have:=u3 x hx;omega⟩)
 .intro x hx _;have:=u3 x hx;omega
 .exact hk.gH u2 (λx hx h0=>⟨u2.bC h0 hx,by have:=u4 x hx;omega⟩)
 .intro x hx _;have:=u4 x hx;omega
theorem wE {g:Nat} {y6:aj} (h:w.heap[b]? =A o) (cI:b≠g):(ss (ss (ss (ss (ss (ss (ss w g y0) ⟨g,1,G⟩ y1) ⟨g,2,G⟩ y2) ⟨g,3,G⟩ y3) ⟨g,4,G⟩ y4) ⟨g,5,G⟩ y5) ⟨g,6,G⟩ y6).heap[b]? =A o:=by
 rw[gj _ cI,gj _ cI,gj _ cI,gj _ cI,gj _ cI,gj _ cI,gj _ cI];exact h
theorem akH (p:bD) (g:fQ) (h:iV) (sd st ly:Int) (cs gs:Array aj) (ok:Nat->Prop) (w:H) (hp:jL w cs p) (hg:mS ok w gs g) (gD:P.Z4 sd) (hlen:p.Len):
 aA aq 191 #[aF cs,aF gs,mP h,Y cD sd,Y Z st,Y Z ly] w (akG (ZY.step p g h sd st ly) w):=by
 obtain⟨a1,l1,c1,a2,l2,c2,a3,l3,c3,a4,l4,c4,a5,l5,c5,rfl,p1,p2,p3,p4,p5⟩:=hp;obtain⟨e1,m1,d1,e2,m2,d2,e4,m4,d4,e5,m5,d5,rfl,g1,g2,g4,g5⟩:=hg;have KB:=V (aE.IK w (jq a1 l1 c1 p.w.e a2 l2 c2 a3 l3 c3 a4 l4 c4 p.b.e a5 l5 c5) (tZ g.has e1 m1 d1 g.w.e e2 m2 d2 e4 m4 d4 g.b.e e5 m5 d5) (nI h.b h.w h.r h.m h.d h.e) (jq G 0 0 0 G 0 0 G 0 0 G 0 0 0 G 0 0));have KR:=V ((p1.bt.and (p2.bt.and (p3.bt.and (p4.bt.and p5.bt)))).and (g1.1.bt.and (g2.1.bt.and (g4.1.bt.and g5.1.bt))));have HM:=V (O6 h);have OI:=V aaR;have oN:=V hlen;obtain⟨R,hR⟩:=J (ZY.step p g h sd st ly);rw[hR];unfold ZY.step at hR;obtain⟨Z3,hA⟩:=J h.aH;obtain⟨B,hB⟩:=J (ZX.within st 0 1000000);obtain⟨C,hC⟩:=J (ZX.within ly 1 12);rw[hA,hB,hC]at hR;rw[hA]at HM;have O1:=V (λw=>hB▸OI.I st 0 1000000 w);have O2:=V (λw=>hC▸OI.I ly 1 12 w);have HR:=V hR;unfold mP;unfold mP at HM;clear hA hB hC hR hlen;have f0:=df KB.F.2.2.1;go_enter func191,ntmps191;go_wp2_with fail;refine bY (HM.I _) λw1 hb=> ?_;have K1:=KB.bU hb;clear HM;have z0:=bE K1.F.2.2.2.1;have zf:=λj=>cE K1.F.2.2.2.1 j
 cases Z3
 .exact Q0t
 go_wp2_with fail;refine cq (O1.I _) ?_
 cases B
 .exact Q0t
 go_wp2_with fail;refine cq (O2.I _) ?_;obtain⟨g0,g1,g2,g3,g4,g5,g6⟩:=bE K1.F.2.1;have p0:=bE K1.F.1
 cases C
 .exact Q0t
 have cU:=V (show(if g.has=true then(if ZY.y7 p g≠0 then(ZY.y7 p g,bD.nil)else _)else(0,p))=R from HR.I);obtain⟨hs,VY⟩:=J g.has;rw[VY]at cU K1 g0;have HHs:=V VY;clear VY
 cases hs
 .obtain rfl:(0,p)=R:=cU.I;obtain⟨L1,L2,L3,L4,L5⟩:=oN.I;have W1:=V (λw h0 h1=>aci p.w (aS a1 l1 c1 p.w.e a2 l2 c2) w ⟨_,_,_,_,_,_,rfl,h0,h1⟩ L1 L2);have W2:=V (λw h0 h1=>aci p.b (aS a4 l4 c4 p.b.e a5 l5 c5) w ⟨_,_,_,_,_,_,rfl,h0,h1⟩ L4 L5);have hm3:=KR.F.1.2.2.1.bA;have lQ:=KR.F.1.2.2.1.wf;have C3:=V (λw h=>(ahw a3 l3 c3 p.m w h U).mono λ_ _ g=>g.fresh lQ U);unfold aS at W1 W2;clear lQ;go_wp2_with fail;refine cS (λw':H=>w'.heap[w.heap.size]? =A (jq a1 l1 c1 p.w.e a2 l2 c2 a3 l3 c3 a4 l4 c4 p.b.e a5 l5 c5)) (eE K1.F.1 λhS=>bR hS [0,3,6,1,4,7] (λ_ h=>bE h) ?_);refine bL 2 λK hK=> ?_;go_simp;refine(W1.I _ ((KR.aQ K1.F.2.2.2.2).1.1.below (below_drewN w1 1)) ((KR.aQ K1.F.2.2.2.2).1.2.1.below (below_drewN w1 1))).mono ?_;rintro e' w2 ⟨v,rfl,hv,hb⟩;have K2:=V ((K1.I.bI 1).step hb);have HV:=V (λw3 (b:ay w2 w2 w3)=>(hv.mono (B':=w1) (bu _)).below b);obtain⟨ra,rl,rc,rb,rm,rk,rfl,_⟩:=hv;have ja:w1.heap.size<=w2:=hb.size;unfold aS;refine cY hK K2.F.1 5 λK hK=> ?_;go_simp;refine(C3.I _ (KR.aQ K2.F.2.2.2.2).1.2.2.1).mono ?_;rintro e' w3 ⟨a,c,rfl,hr,hn,hb⟩;have K3:=K2.bU hb;have HA:=V hr.bt;have VX:=V hn;have Gc:=V (λw4 (b:ay w3 w3 w4)=>HV.I w4 (hb.step b));have nK:w2.heap.size<=w3:=hb.size;clear hr hn;refine cY hK K3.F.1 8 λK hK=> ?_;go_simp;refine(W2.I _ (KR.aQ K3.F.2.2.2.2).1.2.2.2.1 (KR.aQ K3.F.2.2.2.2).1.2.2.2.2).mono ?_;rintro e' w4 ⟨v,rfl,hv,hb⟩;have K4:=K3.bU hb;have Gd:=V (Gc.I w4 hb);have BA:=V (HA.I.jD hb);have VR:=V (hv.mono (B':=w1) U);obtain⟨qa,ql,qc,qb,qm,qk,rfl,_⟩:=hv;have cG:w.heap.size+1+1+1<w1.heap.size:=bH K1.F.2.2.2.1;clear hb;unfold aS;have z0:=bE K4.F.2.2.2.1;have zf:=λj=>cE K4.F.2.2.2.1 j;refine bB hK K4.F.1 ?_;refine bR K4.F.1 [9] (λ_ h=>bE h) (bL 10 λK hK=> ?_);go_simp;refine bB hK (wE K4.F.1 U) ?_;refine bR (wE K4.F.1 U) [11] (λ_ h=>bE h) (bW ?_);clear hS;have hn:=VX.I;go_wp2_with fail;refine aZ (v:=aL #[aF #[O ra rl rc,Y Z p.w.e,O rb rm rk,O a l3 c,O qa ql qc,Y Z p.b.e,O qb qm qk],Y Z 0]) ?_ rfl ⟨_,rfl,lq.stored Gd.I BA.I (λx hx=>E ((hn x hx).1)) VR.I cG U _ _ _ _ _ _ _,nt K4.F.2.2.2.2 U _ _ _ _ _ _ _⟩;simp[aW,results191,go_sem,oL K4.F.2.2.2.1]
 .have MG:=V (λw (hp:jL w #[O a1 l1 c1,Y Z p.w.e,O a2 l2 c2,O a3 l3 c3,O a4 l4 c4,Y Z p.b.e,O a5 l5 c5] p) (hg:mS (λ_=>True) w #[aK true,O e1 m1 d1,Y Z g.w.e,O e2 m2 d2,O e4 m4 d4,Y Z g.b.e,O e5 m5 d5] g)=>akF p g _ _ _ w hp hg);have RW:=KR.aQ K1.F.2.2.2.2;obtain⟨Z7,hZ⟩:=J (ZY.y7 p g);rw[hZ]at MG;have HZ:=V hZ;have MG2:=V (MG.I w1 ⟨_,_,_,_,_,_,_,_,_,_,_,_,_,_,_,rfl,RW.1.1,RW.1.2.1,RW.1.2.2.1,RW.1.2.2.2.1,RW.1.2.2.2.2⟩ ⟨_,_,_,_,_,_,_,_,_,_,_,_,by rw[HHs.I],⟨RW.2.1,λ_ _ _=>trivial⟩,⟨RW.2.2.1,λ_ _ _=>trivial⟩,⟨RW.2.2.2.1,λ_ _ _=>trivial⟩,⟨RW.2.2.2.2,λ_ _ _=>trivial⟩⟩);have fL:=V cU.I;clear hZ RW MG cU;go_wp2_with fail;refine bY MG2.I λw2 hb=> ?_;have K2:=K1.bU hb;clear K1 g0;by_cases hz:Z7=0
  .subst hz;have ft:=ZY.fit HZ.I;have VZ:=V ft;have gU:=V (show(if(T.small g.w h.w sd (ZX.stream st ly 3)).1 ≠0 then((T.small g.w h.w sd (ZX.stream st ly 3)).1,bD.nil)else _)=R from by have:=fL.I;rw[aR trivial,HZ.I,aI bK]at this;exact this);have PJ:=V (λw h0 h1=>ac7 ⟨h,sd,st,ly⟩ g.w (aS e1 m1 d1 g.w.e e2 m2 d2) 3 w ⟨_,_,_,_,_,_,rfl,h0,h1⟩ gD);have PK:=V (λw h0 h1=>ac7 ⟨h,sd,st,ly⟩ g.b (aS e4 m4 d4 g.b.e e5 m5 d5) 5 w ⟨_,_,_,_,_,_,rfl,h0,h1⟩ gD);have HU:=V (T.acl (t:=g.w) (w:=h.w) (s:=sd) (st:=ZX.stream st ly 3));have HV:=V (T.acl (t:=g.b) (w:=h.w) (s:=sd) (st:=ZX.stream st ly 5));unfold Dn.val aS at PJ PK;dsimp only at PJ PK
   generalize T.small g.w h.w sd (ZX.stream st ly 3)=Z4 at*;generalize T.small g.b h.w sd (ZX.stream st ly 5)=Z8 at*;obtain⟨ue,ut⟩:=Z4;obtain⟨ve,vt⟩:=Z8;have f0:=df K2.F.2.2.1;clear HZ fL ft;go_upto_region 9 with fail;have K3:=V ((aE.new w2 (pB h.b h.w h.r h.m h.d h.e sd st ly)).and (K2.I.alloc (pB h.b h.w h.r h.m h.d h.e sd st ly)));obtain⟨gd,ld⟩:=J w2.heap.size;have rR:w.heap.size+1+1+1<gd:=E (bH K2.F.2.2.2.1);rw[ld]at K3⊢;clear K2 ld;generalize li w2 (pB h.b h.w h.r h.m h.d h.e sd st ly)=w3 at*;have s0:=qB K3.F.1;have g0:=bE K3.F.2.2.1;go_wp2_with fail;refine(PJ.I _ (KR.aQ K3.F.2.2.2.2.2).2.1 (KR.aQ K3.F.2.2.2.2.2).2.2.1).mono ?_;rintro e' w4 ⟨v,rfl,hv,hb⟩;have K4:=K3.bU hb;have HVu:=V (λw5 (b:ay w4 w4 w5)=>hv.below b);obtain⟨ra,rl,rc,rb,rm,rk,rfl,_⟩:=hv;have akI:gd<w4:=bH K4.F.1;clear K3 PJ g0;unfold aS;unfold aS at HVu;go_upto_region 10 with fail;have K5:=V ((aE.new w4 (bj ra rl rc ut.e rb rm rk)).and (K4.I.alloc (bj ra rl rc ut.e rb rm rk)));have akJ:=V (λw6 (b:ay (li w4 (bj ra rl rc ut.e rb rm rk)).heap.size (li w4 (bj ra rl rc ut.e rb rm rk)) w6)=>HVu.I w6 ((aD w4 _).step b));obtain⟨gu,Lz⟩:=J w4.heap.size;rw[Lz]at K5 akI⊢;clear Lz;generalize li w4 (bj ra rl rc ut.e rb rm rk)=w5 at*;have z0:=bE K5.F.2.2.2.2.2.1;have zf:=λj=>cE K5.F.2.2.2.2.2.1 j;by_cases hu:ue=0
   .subst hu;have jk:=V (show(if ve≠0 then(ve,bD.nil)else _)=R from by have:=gU.I;rw[aI bK]at this;exact this);have HUl:=V (HU.I rfl);have s0:=qB K5.F.2.1;have g0:=bE K5.F.2.2.2.1;clear gU;go_wp2_with fail;refine(PK.I _ (KR.aQ K5.F.2.2.2.2.2.2).2.2.2.1 (KR.aQ K5.F.2.2.2.2.2.2).2.2.2.2).mono ?_;rintro e' w6 ⟨v,rfl,hv,hb⟩;have K6:=K5.bU hb;have akK:=V (λw7 (b:ay w6 w6 w7)=>akJ.I w7 (hb.step b));have HVv:=V (λw7 (b:ay w6 w6 w7)=>hv.below b);obtain⟨qa,ql,qc,qb,qm,qk,rfl,_⟩:=hv;have akL:gu<w6:=bH K6.F.1;clear K5 PK g0;unfold aS;unfold aS at HVv;go_upto_region 13 with fail;have K7:=V ((aE.new w6 (bj qa ql qc vt.e qb qm qk)).and (K6.I.alloc (bj qa ql qc vt.e qb qm qk)));have akM:=V (λw8 (b:ay (li w6 (bj qa ql qc vt.e qb qm qk)).heap.size (li w6 (bj qa ql qc vt.e qb qm qk)) w8)=>(aw (akK.I w8 ((aD w6 _).step b)) (HVv.I w8 ((aD w6 _).step b))));obtain⟨gv,mH⟩:=J w6.heap.size;rw[mH]at K7 akL⊢;clear mH;generalize li w6 (bj qa ql qc vt.e qb qm qk)=w7 at*;by_cases hv:ve=0
    .subst hv;have oD:=V (show((0:Int),(⟨Dn.weights ⟨h,sd,st,ly⟩ p.w (Dn.DY ⟨h,sd,st,ly⟩ p.m ut.z),Dn.DY ⟨h,sd,st,ly⟩ p.m ut.z,Dn.LL ⟨h,sd,st,ly⟩ p.b vt.z⟩:bD))=R from by have:=jk.I;rw[aI bK]at this;exact this);have PN:=V (HV.I rfl);have ZX:=VZ.I;have RW:=KR.aQ K7.F.2.2.2.2.2.2.2;have uv:=akM.I w7 (eG _ _);obtain⟨_,_,_,_,_,_,eu,_,ru,_⟩:=uv.1;unfold aS at eu;injection eu with eu;simp only[Array.mk.injEq,List.cons.injEq,Value.slice.injEq,and_true,true_and]at eu;obtain⟨⟨rfl,rfl,rfl⟩,rfl,rfl,rfl⟩:=eu;obtain⟨_,_,_,_,_,_,ev,_,rv,_⟩:=uv.2;unfold aS at ev;injection ev with ev;simp only[Array.mk.injEq,List.cons.injEq,Value.slice.injEq,and_true,true_and]at ev;obtain⟨⟨rfl,rfl,rfl⟩,rfl,rfl,rfl⟩:=ev;have zN:=RW.1.2.2.1.bA;have hlu:=ru.bA;have hlv:=rv.bA;have wF:=ZX.w.2.1;have hsg:=ZX.gw.2.1;have sH:=ZX.b.2.1;have mM:=ZX.gb.2.1;have uq:=ZX.dw;have VE:=ZX.db;have hm:=ZX.m;have BM:=HUl.I;have V0:=PN.I;rw[uq]at hsg;rw[VE]at mM;have lV:=(T.sI ZX.w).2.2.1;have q1:p.m.length=l3:=zN;have q2:l3<=rm:=U;have q3:l3<=8192:=U;have q4:p.b.z.length<=qm:=U;have q5:p.w.z.length<=l3:=U;have MV:=V (λw h0 h1=>akt ⟨h,sd,st,ly⟩ a3 l3 c3 p.m rb rm rk ut.z w h0 h1 q2 q3);have WT:=V (λua uc u w h0 h1 hu=>akA ⟨h,sd,st,ly⟩ p.w (aS a1 l1 c1 p.w.e a2 l2 c2) ua l3 uc u w ⟨_,_,_,_,_,_,rfl,h0,h1⟩ VZ.I.w hu q5 gD);have BI:=V (λw h0 h1 hu=>akv ⟨h,sd,st,ly⟩ p.b (aS a4 l4 c4 p.b.e a5 l5 c5) qb qm qk vt.z w ⟨_,_,_,_,_,_,rfl,h0,h1⟩ VZ.I.b hu q4 gD);unfold Dn.val at MV;unfold Dn.val aS at WT BI;dsimp only at MV WT BI
     clear jk ZX RW uv hlu hlv wF hsg sH mM uq VE hm BM V0 q1;have HRu:=V ru.bt;have HRv:=V rv.bt;clear ru rv;generalize Dn.DY ⟨h,sd,st,ly⟩ p.m ut.z=mv at*;have WT2:=V (λua uc w h0 h1 hu=>WT.I ua uc mv w h0 h1 hu);generalize PT:Dn.weights ⟨h,sd,st,ly⟩ p.w mv=wn at*;generalize Dn.LL ⟨h,sd,st,ly⟩ p.b vt.z=bn at*;have s0:=qB K7.F.2.2.1;have p0:=bE K7.F.2.2.2.1;have u0:=bP K7.F.2.1;clear WT PT;go_wp2_with fail;refine(MV.I _ (KR.aQ K7.F.2.2.2.2.2.2.2).1.2.2.1 HRu.I.aN).mono ?_;rintro e' w8 ⟨va,vc,rfl,hr,hn,hb⟩;have K8:=K7.bU hb;have HMv:=V hr.bt;have akN:=V (HRv.I.step hb);have hz7:w.heap.size+1+1+1<w7.heap.size:=bH K7.F.2.2.2.2.2.2.1;have PF:=hb.size;have PX:=V (λx hx=>(hn x hx).1);clear K7 hr hn MV;go_wp2_with fail;refine cS (λw':H=>w'.heap[gd]? =A (pB h.b h.w h.r h.m h.d h.e sd st ly)/\w'.heap[w.heap.size]? =A (jq a1 l1 c1 p.w.e a2 l2 c2 a3 l3 c3 a4 l4 c4 p.b.e a5 l5 c5)/\w'.heap[gv]? =A (bj qa ql qc vt.e qb qm qk)) (eE (⟨K8.F.2.2.1,K8.F.2.2.2.1,K8.F.1⟩) λhS=>bR hS [0,1,3,5,6,7,9,2,8,10] (λ_ h=>aw (qB h.1) (aw (bE h.2.1) (aw (bP h.2.2) (aw h.1 (aw h.2.1 h.2.2))))) ?_);refine bL 4 λK hK=> ?_;go_simp;refine(WT2.I _ _ _ ((KR.aQ K8.F.2.2.2.2.2.2.2).1.1.below (below_drewN w8 1)) ((KR.aQ K8.F.2.2.2.2.2.2.2).1.2.1.below (below_drewN w8 1)) (HMv.I.aN.below (below_drewN w8 1))).mono ?_;rintro e' w9 ⟨v,rfl,hv,hb⟩;have gK:ay w8 w8 w9:=((eG _ w8).bI 1).step hb;have K9:=K8.bU gK;have HV9:=V (λw3 (b:ay w9 w9 w3)=>(hv.mono (B':=w7) PF).below b);obtain⟨ra',rl',rc',rb',rm',rk',rfl,_⟩:=hv;have akO:=V (HMv.I.step gK);have akP:=V (akN.I.step gK);have V1:=gK.size;unfold aS;refine cY hK (⟨K9.F.2.2.1,K9.F.2.2.2.1,K9.F.1⟩) 11 λK hK=> ?_;go_simp;refine(BI.I _ (KR.aQ K9.F.2.2.2.2.2.2.2).1.2.2.2.1 (KR.aQ K9.F.2.2.2.2.2.2.2).1.2.2.2.2 akP.I.aN).mono ?_;rintro e' fU ⟨v,rfl,hv,hb⟩;have ff:=K9.bU hb;have akQ:=V (HV9.I fU hb);have akR:=V (akO.I.jD hb);have akS:=V (hv.mono (B':=w7) U);obtain⟨ka,kl,kc,kb,km,kk,rfl,_⟩:=hv;clear BI;unfold aS;have z0:=bE ff.F.2.2.2.2.2.2.1;have zf:=λj=>cE ff.F.2.2.2.2.2.2.1 j;refine bB hK (⟨ff.F.2.2.1,ff.F.2.2.2.1,ff.F.1⟩) ?_;refine bR (⟨ff.F.2.2.1,ff.F.2.2.2.1,ff.F.1⟩) [12] (λ_ h=>aw (qB h.1) (aw (bE h.2.1) (aw (bP h.2.2) (aw h.1 (aw h.2.1 h.2.2))))) (bL 13 λK hK=> ?_);go_simp;refine bB hK (⟨wE ff.F.2.2.1 U,wE ff.F.2.2.2.1 U,wE ff.F.1 U⟩) ?_;refine bR (⟨wE ff.F.2.2.1 U,wE ff.F.2.2.2.1 U,wE ff.F.1 U⟩) [14] (λ_ h=>aw (qB h.1) (aw (bE h.2.1) (aw (bP h.2.2) (aw h.1 (aw h.2.1 h.2.2))))) (bW ?_);clear hS;obtain rfl:=oD.I;go_wp2_with fail;refine aZ (v:=aL #[aF #[O ra' rl' rc',Y Z wn.e,O rb' rm' rk',O va l3 vc,O ka kl kc,Y Z bn.e,O kb km kk],Y Z 0]) ?_ rfl ⟨_,rfl,lq.stored (p:=⟨wn,mv,bn⟩) akQ.I akR.I PX.I akS.I hz7 U _ _ _ _ _ _ _,nt ff.F.2.2.2.2.2.2.2 U _ _ _ _ _ _ _⟩;simp[aW,results191,go_sem,oL ff.F.2.2.2.2.2.2.1]
    .obtain rfl:(ve,bD.nil)=R:=by have:=jk.I;rwa[aR hv]at this
     have mT:(ve != 0)=true:=by simpa using hv
     have z0:=bE K7.F.2.2.2.2.2.2.1;have zf:=λj=>cE K7.F.2.2.2.2.2.2.1 j;clear hv;go_wp2_with fail;refine aZ (v:=aL #[aF #[O G 0 0,Y Z 0,O G 0 0,O G 0 0,O G 0 0,Y Z 0,O G 0 0],Y Z ve]) ?_ rfl ⟨_,rfl,lq.nil _ _,nt K7.F.2.2.2.2.2.2.2 U _ _ _ _ _ _ _⟩;simp[aW,results191,go_sem,oL K7.F.2.2.2.2.2.2.1]
   .obtain rfl:(ue,bD.nil)=R:=by have:=gU.I;rwa[aR hu]at this
    have tD:(ue != 0)=true:=by simpa using hu
    clear hu;go_wp2_with fail;refine aZ (v:=aL #[aF #[O G 0 0,Y Z 0,O G 0 0,O G 0 0,O G 0 0,Y Z 0,O G 0 0],Y Z ue]) ?_ rfl ⟨_,rfl,lq.nil _ _,nt K5.F.2.2.2.2.2.2 U _ _ _ _ _ _ _⟩;simp[aW,results191,go_sem,oL K5.F.2.2.2.2.2.1]
  .obtain rfl:(Z7,bD.nil)=R:=by have:=fL.I;rw[aR trivial,HZ.I,aR hz]at this;exact this
   have cB:(Z7 != 0)=true:=Q37;have z0:=bE K2.F.2.2.2.1;have zf:=λj=>cE K2.F.2.2.2.1 j;clear hz;go_wp2_with fail;refine aZ (v:=aL #[aF #[O G 0 0,Y Z 0,O G 0 0,O G 0 0,O G 0 0,Y Z 0,O G 0 0],Y Z Z7]) ?_ rfl ⟨_,rfl,lq.nil _ _,nt K2.F.2.2.2.2 U _ _ _ _ _ _ _⟩;simp[aW,results191,go_sem,oL K2.F.2.2.2.1]
theorem al4 (x w:az) (vx vw:aj) (W:H) (hx:fu aO W vx x) (hw:fu aO W vw w):
 aA aq 273 #[vx,vw] W (oY cr (D.input x w) W):=by
 obtain⟨xa,xl,xc,xp,xm,xk,rfl,x0,x1⟩:=hx;obtain⟨wa,wl,wc,wp,wm,wk,rfl,w0,w1⟩:=hw;have KZ:=V (aE.lj W (bj xa xl xc x.e xp xm xk) (bj wa wl wc w.e wp wm wk) (cV G 0 0 0 G 0 0));have KR:=V ((x0.bt.and x1.bt).and (w0.bt.and w1.bt));obtain⟨R,hR⟩:=J (D.input x w);rw[hR];have HR:=V hR;unfold aS;clear x0 x1 w0 w1 hR;have f0:=bP KZ.F.1;have g0:=bP KZ.F.2.1;have K6:=V ((aE.IK W (bj xa xl xc x.e xp xm xk) (bj wa wl wc w.e wp wm wk) (cV G 0 0 0 G 0 0) (ag #[O xa xl xc,Y Z x.e,O xp xm xk,O wa wl wc,Y Z w.e,O wp wm wk] 57)).mono λw' h=>(⟨h.2.2.2.1,h.1,h.2.1,h.2.2.1,h.2.2.2.2⟩:_/\_/\_/\_/\_));have RW:=KR.aQ K6.F.2.2.2.2;have DM:=V (OX 2 [x,w] (W.heap.size+1+1+1) 2 _ rfl eM (rJ.two K6.F.1 RW.1.1 RW.1.2 RW.2.1 RW.2.2));obtain⟨Z7,hZ⟩:=J (D.aH 2 [x,w]);rw[hZ]at DM;have HZ:=V hZ;clear hZ RW;go_enter func273,ntmps273;go_wp2_with fail;refine bY DM.I λw6 hb=> ?_;have K7:=K6.bU hb;clear K6 KZ DM hb f0 g0;have r0:=aY K7.F.2.2.2.1;by_cases hz:Z7=0
 .subst hz;have my:=D.D3 HZ.I;obtain⟨mx,lx⟩:=my x bK;obtain⟨mw,lw⟩:=my w bK;obtain⟨A0,A1,ex,Ad,qW,aco,V3,hAA,acp,xF⟩:=D.two mx lx;obtain⟨B0,B1,ew,oM,FZ,akY,V4,E7,akZ,tH⟩:=D.two mw lw;have RW:=KR.aQ K7.F.2.2.2.2;have fP:=RW.1.1.bA;have mI:=RW.2.1.bA;obtain rfl:xl=2:=U;obtain rfl:wl=2:=U;obtain⟨xb,xo,rfl,gY⟩:=RW.1.1.cells U;obtain⟨wb,wo,rfl,kQ⟩:=RW.2.1.cells U;have iX:=gY 0 U;have gM:=gY 1 U;have kR:=kQ 0 U;have kS:=kQ 1 U;rw[ex]at iX gM;rw[ew]at kR kS;simp only[eL,nC,n7]at iX gM kR kS;have HX:=V (aw ex ew);have kx:=V (show(if(B0:Int)≠A1 then(2,az.zero)else D.made A0 B1 A1 (x.e+w.e) (D.Gf x w))=R by
   have:=HR.I;unfold D.input at this;rw[HZ.I,aI bK,HX.I.1,HX.I.2]at this;simpa using this)
  have KS:Hid (aE w6 (λw':H=>w' W=A (O (A ⟨xb,xo,G⟩) 2 xc)/\w' ⟨W+1,0,G⟩=A (O (A ⟨wb,wo,G⟩) 2 wc)/\w' ⟨xb,xo,G⟩=A (Y Z A0)/\w' ⟨xb,xo+1,G⟩=A (Y Z A1)/\w' ⟨wb,wo,G⟩=A (Y Z B0)/\w' ⟨wb,wo+1,G⟩=A (Y Z B1))):=V ((aE.cell (K7.F.2.1 |>λh=>bh h 0 rfl)).and ((aE.cell (K7.F.2.2.1 |>λh=>bh h 0 rfl)).and ((aE.cell iX).and ((aE.cell gM).and ((aE.cell kR).and (aE.cell kS))))));clear ex ew gY kQ iX gM kR kS RW fP mI my mx mw lx lw;obtain⟨S1,dp⟩:∃S1:H->Prop,S1=(λw':H=>w' W=A (O (A ⟨xb,xo,G⟩) 2 xc)/\w' ⟨W+1,0,G⟩=A (O (A ⟨wb,wo,G⟩) 2 wc)/\w' ⟨xb,xo,G⟩=A (Y Z A0)/\w' ⟨xb,xo+1,G⟩=A (Y Z A1)/\w' ⟨wb,wo,G⟩=A (Y Z B0)/\w' ⟨wb,wo+1,G⟩=A (Y Z B1)):=⟨_,rfl⟩;rw[<-dp]at KS;go_wp2_with fail;go_upto_region 4 with fail;go_cut [7,8,9] (λa b c wx=>∃q r,a=Y Z (A0:Int)/\b=aP (A ⟨q,0,G⟩)/\c=aP (A ⟨r,0,G⟩)/\wx.heap[q]? =A (ag #[Y Z (A1:Int)] 3 (0,0))/\wx.heap[r]? =A (ag #[Y Z (B1:Int)] 3 (0,0))/\ay w6 w6 wx)
  case first=>
   refine cS S1 (eE (KS.aQ (below_drewN w6 1)) λhS=>bR hS [0,4,8,1,5,9,2,6,10,3,7,11] (λ_ h=>Q34) ?_);refine lI 12 13 (λK hK=> ?_) (λK hK=> ?_)
   .go_simp;refine cY hK (KS.I.BS _) 13 λK hK=> ?_;exact Q0J
   .go_simp;refine cY hK (KS.I.BS _) 12 λK hK=> ?_;exact Q0J
  case rest=>
   obtain⟨gq,gr,rfl,rfl,rfl,hq,hr,dR⟩:=hcut;have K8:=K7.bU dR;have mR:=KS.bU dR;have HG:=V (aw (aE.block hq) (aE.block hr));have dQ:=dR.size;clear KS K7 r0 dR hq hr;obtain⟨w7,rfl⟩:∃w7:H,w7=wc:=⟨_,rfl⟩;have cn:=bh HG.I.1.aN 0 (v:=Y Z (A1:Int)) rfl;obtain⟨S2,bX⟩:∃S2:H->Prop,S2=(λw':H=>S1 w'/\w' gq=A (Y Z (A1:Int))):=⟨_,rfl⟩;have qV:Hid (aE w7 S2):=V Q4c;clear cn mR;obtain⟨Dc,vD⟩: -128<=x.e+w.e/\x.e+w.e<=128:=U;go_wp2_with fail;by_cases iJ:B0=A1
   .subst iJ;have HF:=V (show D.made A0 B1 B0 (x.e+w.e) (D.Gf x w)=R from by have:=kx.I;rwa[aI U]at this);refine cS S2 (eE (qV.aQ (below_drewN w7 1)) λhS=>bR hS [0,4,1,2,3,5] (λ_ h=>Q3c) ?_);refine bW ?_;have K9:=V K8.I.draw;have qX:=V (aw HG.I.1.draw HG.I.2.draw);have al0:w6.heap.size<=w7.drew.heap.size:=dQ;clear hS K8 qV HG dQ;generalize w7.drew=w8 at*;have f1:=bP K9.F.2.1;have g1:=bP K9.F.2.2.1;have c1:=bh qX.I.1.aN 0 (v:=Y Z (B0:Int)) rfl;have c3:=bh qX.I.2.aN 0 (v:=Y Z (B1:Int)) rfl;have jN:x.z.length=xm:=KR.F.1.2.bA;have rW:w.z.length=wm:=KR.F.2.2.bA;have MD:=V (OY 314 #[aP gq,aP W,aP (W+1:Nat),aP gr]
     (D.Gf x w) A0 B1 B0 (x.e+w.e) w8 U U V4 (λargs w=>Q3J)
     (λtI r c hr hc=>by
      have hN:=D.D4 tI;have iL:=D.Fp KR.F.1.2.wf KR.F.2.2.wf (λk=>r*B0+k) (λk=>k*B1+c) B0;unfold D.Gf;rw[HX.I.1,HX.I.2];simp only[n7,nC,jx];omega)
     (λr c wx tI h1 h2 hr hc hb=>by
      have hN:=D.D4 tI;have hk:=K9.aQ hb;have tJ:=KR.aQ hk.2.2.2.2;have e:D.Gf x w r c=D.dot x.z w.z (λk=>r*B0+k) (λk=>k*B1+c) B0:=by
       unfold D.Gf;rw[HX.I.1,HX.I.2];simp only[n7,nC,jx]
      rw[e];refine ain r c B0 gq W.heap.size (W.heap.size+1) gr gr B1 B1 xp xm xk x.z wp wm wk w.z wx (bh (qX.I.1.jD hb) 0 rfl) (bh hk.2.1 2 rfl) (bh hk.2.2.1 2 rfl) (bh (qX.I.2.jD hb) 0 rfl) tJ.1.2 tJ.2.2 ?_ ?_ hN U U U U U U
      .intro k hk;have:(r+1)*B0<=A0*B0:=nZ B0 U;exact Q1t
      .intro k hk;have:(k+1)*B1<=B0*B1:=nZ B1 U;rw[Nat.add_mul,Nat.one_mul]at this;omega))
    rw[HF.I]at MD;have IU:W.heap.size+1+1<w8.heap.size:=bH K9.F.2.2.2.1;clear jN rW;go_wp2_with fail;clear f1 g1 c1 c3;refine MD.I.mono ?_;rintro e' w9 ⟨v,rfl,hv,hb⟩;have ff:=K9.bU hb;have HV:=V hv;obtain⟨r,tn⟩:=R;obtain⟨ra,rl,rc,rb,rm,rk,rfl,_⟩:=hv;unfold aS at HV;unfold aS;have r0:=aY ff.F.2.2.2.1;clear hb MD;go_wp2_with fail;refine aZ (v:=aL #[aF #[O ra rl rc,Y Z tn.e,O rb rm rk],Y Z r]) ?_ rfl ⟨_,rfl,(HV.I.stored IU _ _ _).mono U,cL ff.F.2.2.2.2 U _ _ _⟩;simp[aW,results273,go_sem,cT ff.F.2.2.2.1]
   .obtain rfl:(2,az.zero)=R:=by rw[<-kx.I,aR U]
    have z1:((B0:Int) != (A1:Int))=true:=Q2R;clear iJ;refine cS S2 (eE (qV.aQ (below_drewN w7 1)) λhS=>bR hS [0,4,1,2,3,5] (λ_ h=>Q3c) ?_);refine bW ?_;have K9:=V K8.I.draw;clear hS K8 qV HG dQ;generalize w7.drew=w8 at*;have r0:=aY K9.F.2.2.2.1;go_wp2_with fail;refine aZ (v:=aL #[aF #[O G 0 0,Y Z 0,O G 0 0],Y Z 2]) ?_ rfl ⟨_,rfl,dM.zero _ _ _,cL K9.F.2.2.2.2 U _ _ _⟩;simp[aW,results273,go_sem,cT K9.F.2.2.2.1]
 .obtain rfl:(Z7,az.zero)=R:=by rw[<-HR.I];unfold D.input;rw[HZ.I,aR hz]
  have cB:(Z7 != 0)=true:=Q37;clear hz;go_wp2_with fail;refine aZ (v:=aL #[aF #[O G 0 0,Y Z 0,O G 0 0],Y Z Z7]) ?_ rfl ⟨_,rfl,dM.zero _ _ _,cL K7.F.2.2.2.2 U _ _ _⟩;simp[aW,results273,go_sem,cT K7.F.2.2.2.1]
namespace D
def wG (g:az) (r c:Nat):Int:=sumOf g.z (λk=>k*(g.d.getD 1 0).toNat+c) (g.d.getD 0 0).toNat
def zd (g:az):Int×az:=
 if aH 2 [g]≠0 then(aH 2 [g],az.zero)
 else if(made 1 (g.d.getD 1 0).toNat (g.d.getD 0 0) g.e (wG g)).1 =0 then(0,⟨[g.d.getD 1 0],(made 1 (g.d.getD 1 0).toNat (g.d.getD 0 0) g.e (wG g)).2.e,(made 1 (g.d.getD 1 0).toNat (g.d.getD 0 0) g.e (wG g)).2.z⟩)
 else made 1 (g.d.getD 1 0).toNat (g.d.getD 0 0) g.e (wG g)
end D
theorem al5 (x:az) (vx:aj) (W:H) (hx:fu aO W vx x):
 aA aq 269 #[vx] W (oY cr (D.zd x) W):=by
 obtain⟨xa,xl,xc,xp,xm,xk,rfl,x0,x1⟩:=hx;have K6:=V (aE.lj W (bj xa xl xc x.e xp xm xk) (cV G 0 0 0 G 0 0) (bj xa xl xc x.e xp xm xk));have KR:=V (x0.bt.and x1.bt);obtain⟨R,hR⟩:=J (D.zd x);rw[hR];have HR:=V hR;unfold aS;clear x0 x1 hR;obtain⟨f0,f1,f2⟩:=bP (aE.fG W (bj xa xl xc x.e xp xm xk) (cV G 0 0 0 G 0 0)).aN.1;have RW:=KR.aQ K6.F.2.2.2;have DM:=V (OX 2 [x] (W.heap.size+1+1) 1 _ rfl eM (rJ.one K6.F.2.2.1 RW.1 RW.2));obtain⟨Z7,hZ⟩:=J (D.aH 2 [x]);rw[hZ]at DM;have HZ:=V hZ;clear hZ RW;go_enter func269,ntmps269;go_wp2_with fail;refine bY DM.I λw6 hb=> ?_;have K7:=K6.bU hb;clear K6 DM hb f0 f1 f2;obtain⟨r0,r1,r2,r3,r4,r5⟩:=aY K7.F.2.1;by_cases hz:Z7=0
 .subst hz;obtain⟨mx,lx⟩:=D.D3 HZ.I x bK;obtain⟨A0,A1,ex,Ad,qW,aco,V3,hAA,acp,xF⟩:=D.two mx lx;have RW:=KR.aQ K7.F.2.2.2;have fP:=RW.1.bA;obtain rfl:xl=2:=U;obtain⟨xb,xo,rfl,gY⟩:=RW.1.cells U;have iX:=gY 0 U;have gM:=gY 1 U;rw[ex]at iX gM;simp only[eL,nC,n7]at iX gM;have HX:=V ex;have kx:=V (show(if(D.made 1 A1 A0 x.e (D.wG x)).1 =0 then(0,⟨[(A1:Int)],(D.made 1 A1 A0 x.e (D.wG x)).2.e,(D.made 1 A1 A0 x.e (D.wG x)).2.z⟩)else D.made 1 A1 A0 x.e (D.wG x))=R by
   have:=HR.I;unfold D.zd at this;rw[HZ.I,aI bK,HX.I]at this;simpa using this)
  have KS:Hid (aE w6 (λw':H=>w' W=A (O (A ⟨xb,xo,G⟩) 2 xc)/\w' ⟨xb,xo,G⟩=A (Y Z A0)/\w' ⟨xb,xo+1,G⟩=A (Y Z A1))):=V ((aE.cell (K7.F.1 |>λh=>bh h 0 rfl)).and ((aE.cell iX).and (aE.cell gM)));clear ex gY iX gM RW fP mx lx;obtain⟨S1,dp⟩:∃S1:H->Prop,S1=(λw':H=>w' W=A (O (A ⟨xb,xo,G⟩) 2 xc)/\w' ⟨xb,xo,G⟩=A (Y Z A0)/\w' ⟨xb,xo+1,G⟩=A (Y Z A1)):=⟨_,rfl⟩;rw[<-dp]at KS;go_wp2_with fail;go_upto_region 4 with fail;go_cut [5,6] (λb c wx=>∃q r,b=aP (A ⟨q,0,G⟩)/\c=aP (A ⟨r,0,G⟩)/\wx.heap[q]? =A (ag #[Y Z (A0:Int)] 3 (0,0))/\wx.heap[r]? =A (ag #[Y Z (A1:Int)] 3 (0,0))/\ay w6 w6 wx)
  case first=>
   refine cS S1 (eE (KS.aQ (below_drewN w6 1)) λhS=>bR hS [0,4,1,5,2,6,3,7] (λ_ h=>Q34) ?_);refine lI 8 9 (λK hK=> ?_) (λK hK=> ?_)
   .go_simp;refine cY hK (KS.I.BS _) 9 λK hK=> ?_;exact Q0T
   .go_simp;refine cY hK (KS.I.BS _) 8 λK hK=> ?_;exact Q0T
  case rest=>
   obtain⟨gq,gr,rfl,rfl,hq,hr,dR⟩:=hcut;have K9:=K7.bU dR;have qX:=V (aw (aE.block hq) (aE.block hr));clear KS K7 r0 r1 r2 r3 r4 r5 dR hq hr;obtain⟨w8,rfl⟩:∃w8:H,w8=wc:=⟨_,rfl⟩;obtain⟨_,f1,f2⟩:=bP K9.F.1;have c1:=bh qX.I.1.aN 0 (v:=Y Z (A0:Int)) rfl;have c3:=bh qX.I.2.aN 0 (v:=Y Z (A1:Int)) rfl;have jN:x.z.length=xm:=KR.F.2.bA;have MD:=V (OY 312 #[aP gq,aP W,aP gr]
    (D.wG x) 1 A1 A0 x.e w8 U U V3 (λargs w=>Q3J)
    (λtI r c hr hc=>by
     have hN:=D.D4 tI;have iL:=D.Uh KR.F.2.wf (λk=>k*A1+c) A0;unfold D.wG;rw[HX.I];simp only[n7,nC,jx];omega)
    (λr c wx tI h1 h2 hr hc hb=>by
     have hN:=D.D4 tI;have hk:=K9.aQ hb;have tJ:=KR.aQ hk.2.2.2;have e:D.wG x r c=D.sumOf x.z (λk=>k*A1+c) A0:=by
      unfold D.wG;rw[HX.I];simp only[n7,nC,jx]
     rw[e];refine aip r c A0 gq W.heap.size gr gr gr A1 A1 xp xm xk x.z wx (bh (qX.I.1.jD hb) 0 rfl) (bh hk.1 2 rfl) (bh (qX.I.2.jD hb) 0 rfl) tJ.2 ?_ hN U U U U U;intro k hk;have:(k+1)*A1<=A0*A1:=nZ A1 U;rw[Nat.add_mul,Nat.one_mul]at this;omega))
   have IU:W.heap.size+1<w8.heap.size:=E (bH K9.F.2.2.1);generalize D.made 1 A1 A0 x.e (D.wG x)=MM at*;clear jN;go_wp2_with fail;clear f1 f2 c1 c3;refine MD.I.mono ?_;rintro e' w9 ⟨v,rfl,hv,hb⟩;have ff:=K9.bU hb;have V1:=hb.size;obtain⟨r,tn⟩:=MM;obtain⟨ra,rl,rc,rb,rm,rk,rfl,ph,mT,IV,hv4⟩:=hv;unfold aS;go_upto_region 6 with fail;have hA:=bZ w9 (cV ra rl rc tn.e rb rm rk);have gX:=aD w9 (cV ra rl rc tn.e rb rm rk);have kT:=ff.bU gX;have c3:=bh (qX.I.2.jD (hb.step gX)) 0 (v:=Y Z (A1:Int)) rfl;have Gd:=V (ph.below gX);have ze:=V (mT.below gX);have Gc:=V IV;have uL:=V hv4;obtain⟨bo,cy⟩:=J w9.heap.size;rw[cy]at hA⊢;have hW1:W.heap.size+1<bo:=U;have Fj:=V (λ(x:Addr) (hx:rb=A x) (h0:0<rm)=>(show x.block<bo from by have:=mT.bC h0 hx;omega));have uJ:=V (hb.step gX);have h8o:w8.heap.size<=bo:=U;clear hb MD ph mT IV hv4 ff qX gX V1;generalize li w9 (cV ra rl rc tn.e rb rm rk)=fU at*;have HA:=V hA;have D7:=bH hA;obtain⟨r0,r1,r2,r3,r4,r5⟩:=aY kT.F.2.1;obtain⟨y0,y1,y2,y3,y4,y5⟩:=aY hA;clear hA;by_cases jl:r=0
   .subst jl;obtain rfl:=kx.I.symm.trans (aR rfl);go_upto_region 8 with fail;have acq:=((ar.cP fU (λb=>b=bo) fU).set (aM rfl) 0 (O fU 1 1)).trans' ((ar.cZ (S:=λb=>b=bo) (aD (ss fU bo (O fU 1 1)) (ag #[Y Z (A1:Int)] 3))).mono (C:=fU) (by rw[jR];exact bu _) (λ_ _ h=>h)) (bu _);have kL:=bZ (ss fU bo (O fU 1 1)) (ag #[Y Z (A1:Int)] 3);rw[jR]at kL;have al6:=dX (dF HA.I (O fU 1 1) (f:=0)) (ag #[Y Z (A1:Int)] 3);have ny:=V (K9.I.step ((uJ.I.setCell (p:=⟨bo,0,G⟩) h8o (O fU 1 1)).step (aD _ (ag #[Y Z (A1:Int)] 3))));have wH:=V (acq.gH ze.I (λx hx h0=>⟨ze.I.bC h0 hx,by have:=Fj.I x hx h0;omega⟩));have gZ:ai Z (li (ss fU bo (O fU 1 1)) (ag #[Y Z (A1:Int)] 3)) fU 1 [(A1:Int)]:=⟨rfl,U,λz hz=>Q4K,bJ ⟨fU.heap.size,0,rfl,λj hj=>by
     obtain rfl:j=0:=U;exact bh kL 0 rfl⟩⟩
    have gG:=V gZ;have hB:w8.heap.size<=fU:=U;clear acq kL gZ r0 r1 r2 r3 r4 r5 y0 y1 y2 y3 y4 y5 c3 kT uJ;generalize li (ss fU bo (O fU 1 1)) (ag #[Y Z (A1:Int)] 3)=BV at*;obtain⟨r0,r1,r2,r3,r4,r5⟩:=aY ny.F.2.1;obtain⟨y0,y1,y2,y3,y4,y5⟩:=aY al6;go_wp2_with fail;clear r0 r1 r2 r3 r4 r5 y0 y1 y2 y3 y4 y5;refine aZ (v:=aL #[aF #[O fU 1 1,Y Z tn.e,O rb rm rk],Y Z 0]) ?_ rfl ⟨_,rfl,(dM.stored (t:=⟨[(A1:Int)],tn.e,tn.z⟩) (show dM cr w8.heap.size BV (aS fU 1 1 tn.e rb rm rk) ⟨[(A1:Int)],tn.e,tn.z⟩from⟨_,_,_,_,_,_,rfl,gG.I,wH.I,(λx hx=>by cases hx;exact hB),uL.I⟩) IU _ _ _).mono (E ny.F.2.2.2.size),cL ny.F.2.2.2 U _ _ _⟩;simp[aW,results269,go_sem,cT ny.F.2.1]
   .obtain rfl:=kx.I.symm.trans (aI jl);have z1:(r==0)=ae:=Q4X;clear jl;go_wp2_with fail;clear r0 r1 r2 r3 r4 r5 y0 y1 y2 y3 y4 y5;refine aZ (v:=aL #[aF #[O ra rl rc,Y Z tn.e,O rb rm rk],Y Z r]) ?_ rfl ⟨_,rfl,(dM.stored (show dM cr w8.heap.size fU (aS ra rl rc tn.e rb rm rk) tn from⟨_,_,_,_,_,_,rfl,Gd.I,ze.I,Gc.I,uL.I⟩) IU _ _ _).mono (E kT.F.2.2.2.size),cL kT.F.2.2.2 U _ _ _⟩;simp[aW,results269,go_sem,cT kT.F.2.1]
 .obtain rfl:(Z7,az.zero)=R:=by rw[<-HR.I];unfold D.zd;rw[HZ.I,aR hz]
  have cB:(Z7 != 0)=true:=Q37;clear hz;go_wp2_with fail;refine aZ (v:=aL #[aF #[O G 0 0,Y Z 0,O G 0 0],Y Z Z7]) ?_ rfl ⟨_,rfl,dM.zero _ _ _,cL K7.F.2.2.2 U _ _ _⟩;simp[aW,results269,go_sem,cT K7.F.2.1]
theorem Qe (L:List az) (g n:Nat) (w:H) (hn:L.length=n) (hn4:n<=4) (h:rJ w g L):
 aA aq 286 #[O g n n] w (dZ (Y Z (D.aH 4 L)) w):=by
 obtain⟨R,hR⟩:=J (D.aH 4 L);rw[hR];have HR:=V hR;have HN:=V hn;have H0:=V h;have TM:=V jr;clear hR hn h;go_enter func286,ntmps286;go_wp2_with fail;go_loopw [9] (λi wr=>∃k:Nat,k<=n/\i=Y Z k/\(∀j,j<k->D.ok (L.getD j az.zero)=true)/\ay w w wr) (λi _=>n-(aX i).toNat)
 case atStart=>exact⟨0,cK _,rfl,λj hj=>U,eG _ _⟩
 case round=>
  obtain⟨k,hk,rfl,fY,hb⟩:=hrel;have rK:=V fY;have HB:=V hb;clear fY;by_cases aT:k<n
  .exact Q0f
  .have Fo:=V (show L.all D.ok=true from D.OU rK.I (E HN.I));clear hb rK;go_wp2_with fail;obtain⟨w1,rfl⟩:∃w1:H,w1=wr:=⟨_,rfl⟩;go_loopw [19] (λi wr=>∃k:Nat,k<=n/\i=Y Z k/\(∀j,j<k->decide (((L.getD j az.zero).d.length:Int)=4)=true)/\ay w w wr) (λi _=>n-(aX i).toNat)
   case atStart=>exact⟨0,cK _,rfl,λj hj=>U,HB.I⟩
   case round=>
    obtain⟨k,hk,rfl,fY,hb⟩:=hrel;have rK:=V fY;have HB:=V hb;clear fY;by_cases aT:k<n
    .obtain⟨a,l,c,b,m,c',c0,c1,c2,r0,r1⟩:=(H0.I.below hb) k (E HN.I);have hl:=r0.eC;obtain⟨B,hB⟩:=J (decide (((L.getD k az.zero).d.length:Int)=4));have mJ:=V hB;rw[r0.bA]at hB;rw[Nat.mul_comm 3 k]at c0 c1 c2;have dA:=V (HB.I.step (aD wr (ag #[O a l c,Y Z (L.getD k az.zero).e,O b m c'] 57)));have bb:((l:Int) != 4)= !B:=by rw[<-hB];by_cases h:(l:Int)=4<;>simp[h]
     clear r0 hB hb;generalize qj:L.getD k az.zero=t at*;have HG:=V qj;clear qj
     cases B
     .have bb2:((l:Int) != 4)=true:=bb;have bb3:(l != 4)=true:=by simp at bb2⊢;omega
      exact Q19
     .have bb2:((l:Int) != 4)=ae:=bb;have bb3:(l != 4)=ae:=by simp at bb2⊢;omega
      exact Q17
    .exact Q2z
theorem Qf {g:Nat} {y6:aj} (h:w.heap[b]? =A o) (cI:b≠g):(ss (ss (ss (ss (ss (ss (ss w g y0) ⟨g,1,G⟩ y1) ⟨g,2,G⟩ y2) ⟨g,3,G⟩ y3) ⟨g,4,G⟩ y4) ⟨g,5,G⟩ y5) ⟨g,6,G⟩ y6).drew.heap[b]? =A o:=by
 rw[show ∀u:H,u.drew.heap=u.heap from λ_=>rfl];exact wE h cI
theorem WA (r c k s p:Int) (w:H):aA aq 287 #[Y Z r,Y Z c,Y Z k,Y Z s,Y Z p] w
 λe w'=>e=bG (aL #[aF #[Y Z r,Y Z c,Y Z k,Y Z s,Y Z p,Y Z (bO r k s p),Y Z (bO c k s p)],aK (decide (0<bO r k s p)&&decide (0<bO c k s p))])/\ay w w w':=by
 have O1:=V (NT r k s p);have O2:=V (NT c k s p);generalize bO r k s p=P at*;generalize bO c k s p=Q at*;obtain⟨Z8,hV⟩:∃Z8:Bool,(decide (0<P)&&decide (0<Q))=Z8:=⟨_,rfl⟩;rw[hV];have HV:=V hV;clear hV;go_enter func287,ntmps287;go_wp2_with fail;refine cq (O1.I _) ?_;go_wp2_with fail;refine cq (O2.I _) ?_;go_wp2_with fail;go_upto_region 3 with fail;have hK:=(aE.fG w (mF 0 0 0 0 0 0 0) (mF r c k s p P Q)).aN;have HK:=V hK;generalize li (li w (mF 0 0 0 0 0 0 0)) (mF r c k s p P Q)=w4 at*;have hs:=bH hK.2.1;by_cases hP:0<P
 .have dP:decide (0<P)=true:=dI hP;obtain⟨b,hb⟩:=J (decide (0<Q));obtain rfl:b=Z8:=by rw[<-HV.I,dP,hb];rfl
  clear hP;refine cS (λw':H=>w'.heap[w.heap.size+1]? =A (mF r c k s p P Q)) (eE hK.2.1 λhS=>bR hS [0,1,2,3,4,5,6,7,8] (λ_ h=>bE h) ?_);have h0:w4.drew.heap[w.heap.size]? =A (mF 0 0 0 0 0 0 0):=hK.1;have y0:=bE hK.1;have z0:=cE hK.1 0;have z1:=cE hK.1 1;have z2:=cE hK.1 2;have z3:=cE hK.1 3;have z4:=cE hK.1 4;have z5:=cE hK.1 5;have z6:=cE hK.1 6;refine bL 9 λK hK=> ?_;go_simp;refine bB hK (Qf HK.I.2.1 (Nat.succ_ne_self _)) ?_;clear hK K;refine cQ (Qf (g:=w) HK.I.2.1 (Nat.succ_ne_self _)) [10] (bW ?_);go_wp2_with fail;refine aZ (v:=aL #[aF #[Y Z r,Y Z c,Y Z k,Y Z s,Y Z p,Y Z P,Y Z Q],aK b]) ?_ rfl ⟨rfl,?_⟩
  .simp[aW,results287,go_sem,oL hK.1]
  .exact Q0R
 .have dP:decide (0<P)=ae:=eP hP;obtain rfl:ae=Z8:=by rw[<-HV.I,dP];rfl
  clear hP;refine cS (λw':H=>w'.heap[w.heap.size+1]? =A (mF r c k s p P Q)) (eE hK.2.1 λhS=>bR hS [0,1,2,3,4,5,6,7,8] (λ_ h=>bE h) ?_);have h0:w4.drew.heap[w.heap.size]? =A (mF 0 0 0 0 0 0 0):=hK.1;have y0:=bE hK.1;have z0:=cE hK.1 0;have z1:=cE hK.1 1;have z2:=cE hK.1 2;have z3:=cE hK.1 3;have z4:=cE hK.1 4;have z5:=cE hK.1 5;have z6:=cE hK.1 6;refine bL 9 λK hK=> ?_;go_simp;refine bB hK (Qf HK.I.2.1 (Nat.succ_ne_self _)) ?_;clear hK K;refine cQ (Qf (g:=w) HK.I.2.1 (Nat.succ_ne_self _)) [10] (bW ?_);go_wp2_with fail;refine aZ (v:=aL #[aF #[Y Z r,Y Z c,Y Z k,Y Z s,Y Z p,Y Z P,Y Z Q],aK ae]) ?_ rfl ⟨rfl,?_⟩
  .simp[aW,results287,go_sem,oL hK.1]
  .exact Q0R
theorem Qg (n e:Int) (a:aC) (l c:Nat) (d:ah) (N:Nat) (w:H) (h:ai Z w a l d) (hf:D.fits n=true) (h1: -128<=e) (h2:e<=128) (hN:Sh.size d=N) (FV:1<=N) (Ky:N<=8192):
 aA aq 288 #[Y Z n,Y Z e,O a l c] w
  λr w'=>∃g,r=bG (aL #[aF #[O a l c,Y Z e,O (A ⟨g,0,G⟩) N N],Y Z 0])/\w'.ownsRow w.heap.size 21 1 (O (A ⟨g,0,G⟩) N N) N ((dz N (0:Int)).map (Y cr))/\ay w w w':=by
 have FT:=V (λw=>hf▸OT n w);have SZ:=V (λw h=>hN▸Hj a l c d w h);have hd:decide (0<Sh.size d)=true:=dI U;have MY:=V (λ(w:H) (h:ai Z w a l d)=>(hd▸CI a l c d w h:aA aq 51 #[O a l c] w λe w'=>e=bG (aK true)/\w'=w));have K1:=V (aE.fg w (cV G 0 0 0 G 0 0));have KR:=V h.bt;have d1:decide (128<e)=ae:=eP U;have d2:decide (e< -128)=ae:=eP U;have ur:=λw:H=>run_make_row' (P:=aq) 103 21 (Y cr 0) 4 underlying103 Dq rfl Z Z N U U w;clear h hf hN hd;go_enter func288,ntmps288;go_wp2_with fail;refine cq (FT.I _) ?_;go_wp2_with fail;refine cq (MY.I _ (KR.aQ K1.F.2)) ?_;go_wp2_with fail;refine cq (SZ.I _ (KR.aQ K1.F.2)) ?_;go_wp2_with fail;have hb:=(aE.fG w (cV a l c e (w+1:Nat) N N) (ag (madeCells #[Y cr 0] N) 21)).aN;refine aZ (v:=aL #[aF #[O a l c,Y Z e,O (w+1:Nat) N N],Y Z 0]) ?_ rfl ⟨_,rfl,?_,hb.2.2⟩
 .have t0:=bP hb.1;simp[aW,results288,go_sem,t0]
 .have ho:=Kl (li w (cV a l c e (w+1:Nat) N N)) cr 21 w.heap.size N Q2Y U;rw[bF]at ho;exact ho
theorem Qh (n e:Int) (a:aC) (l c:Nat) (d:ah) (w:H) (h:ai Z w a l d) (yt:(C.fresh n e d).1 ≠0):
 aA aq 288 #[Y Z n,Y Z e,O a l c] w
  λr w'=>r=bG (aL #[aF #[O G 0 0,Y Z 0,O G 0 0],Y Z (C.fresh n e d).1])/\ay w w w':=by
 have FT:=V (OT n);have MY:=V (λ(w:H) (h:ai Z w a l d)=>CI a l c d w h);have K1:=V (aE.fg w (cV G 0 0 0 G 0 0));have KR:=V h.bt;obtain⟨R,hR⟩:=J ((C.fresh n e d).1);rw[hR]at yt⊢;unfold C.fresh at hR;have KZ:=K1;have y3:=aY K1.F.1;obtain⟨ZX,hF⟩:=J (D.fits n);rw[hF]at hR FT;obtain⟨M,hM⟩:=J (decide (0<Sh.size d));rw[hM]at MY;have HR:=V hR;have HM:=V hM;clear h hF hR hM;by_cases h1:128<e
 .have d1:decide (128<e)=true:=dI h1;obtain rfl:3=R:=by rw[<-HR.I,aR U]
  clear h1
  cases ZX
  .skip
   exact Q0h
  .skip
   exact Q0h
 have d1:decide (128<e)=ae:=eP h1;by_cases h2:e< -128
 .have d2:decide (e< -128)=true:=dI h2;obtain rfl:3=R:=by rw[<-HR.I,aR U]
  clear h2
  cases ZX
  .skip
   exact Q0h
  .skip
   exact Q0h
 have d2:decide (e< -128)=ae:=eP h2
 cases ZX
 .obtain rfl:3=R:=by rw[<-HR.I,aR (λh=>by cases h.1)]
  exact Q0h
 cases M
 .obtain rfl:1=R:=by rw[<-HR.I,aI (λh=>h ⟨rfl,U,U⟩),aR (kH HM.I)]
  go_enter func288,ntmps288;go_wp2_with fail;refine cq (FT.I _) ?_;go_wp2_with fail;refine cq (MY.I _ (KR.aQ K1.F.2)) ?_;go_wp2_with fail;try simp only[j6,Exit.then]
  refine aZ (v:=aL #[aF #[O G 0 0,Y Z 0,O G 0 0],Y Z 1]) ?_ rfl ⟨rfl,KZ.F.2⟩;have t0:=bP KZ.F.1;simp[aW,results288,go_sem,t0]
 .exact absurd (by rw[<-HR.I,aI (λh=>h ⟨rfl,U,U⟩),aI (λh=>h (eZ HM.I))]) yt
theorem acU (r c k s p P Q y x:Int) (w:H):
 aA aq 289 #[aF #[Y Z r,Y Z c,Y Z k,Y Z s,Y Z p,Y Z P,Y Z Q],Y Z y,Y Z x] w (AV (jc r c y x k s p) w):=by
 have WN:=V (Zg r c y x k s p);have K1:=V (aE.fg w (mF r c k s p P Q));generalize jc r c y x k s p=L at*;have f0:=bE K1.F.1;go_enter func289,ntmps289;go_wp2_with fail;refine(WN.I _).mono ?_;rintro e' w' ⟨a,n,cc,rfl,hw,hb⟩;have K2:=K1.bU hb;go_wp2_with fail;go_ret;exact⟨_,_,_,rfl,hw,K2.F.2⟩
theorem am2 (r c k s p P Q y x:Int) (w:H) (wr:(cX Z r).wf=true) (wc:(cX Z c).wf=true):
 aA aq 315 #[aF #[Y Z r,Y Z c,Y Z k,Y Z s,Y Z p,Y Z P,Y Z Q],Y Z y,Y Z x] w (AV (lookW r c y x k s p) w):=by
 have WN:=V (λw=>alZ r c y x k s p w wr wc);have K1:=V (aE.fg w (mF r c k s p P Q));generalize lookW r c y x k s p=L at*;have f0:=bE K1.F.1;go_enter func315,ntmps315;go_wp2_with fail;refine(WN.I _).mono ?_;rintro e' w' ⟨a,n,cc,rfl,hw,hb⟩;have K2:=K1.bU hb;go_wp2_with fail;go_ret;exact⟨_,_,_,rfl,hw,K2.F.2⟩
theorem yd (n lo hi:Int) (w:H):aA aq 155 #[Y Z n,Y Z lo,Y Z hi] w λe w'=>e=bG (aK (ZX.within n lo hi))/\w=w':=by
 unfold ZX.within;by_cases h1:lo<=n
 .rw[dI h1];go_enter func155,ntmps155;exact Q0d
 .rw[eP h1];have h3:decide (lo<=n)=ae:=eP h1;go_enter func155,ntmps155;exact Q0d
theorem aoX (a b c:Int) (w:H):aA aq 154 #[aF #[Y Z a,Y Z b,Y Z c]] w (dZ (aK (Dw a b c)) w):=by
 have MI:=V yd;have hn:=bZ w (ag #[Y Z a,Y Z b,Y Z c] 3);have f0:=bh hn 0 (v:=Y Z a) rfl;have f1:=bh hn 1 (v:=Y Z b) rfl;have f2:=bh hn 2 (v:=Y Z c) rfl;unfold Dw;obtain⟨x0,e0⟩:∃y,ZX.within a 1 8=y:=⟨_,rfl⟩;obtain⟨x1,e1⟩:∃y,ZX.within b 1 16=y:=⟨_,rfl⟩;obtain⟨x2,e2⟩:∃y,ZX.within c 1 16=y:=⟨_,rfl⟩;rw[e0,e1,e2];clear hn
 cases x0<;>cases x1
 all_goals
  go_enter func154,ntmps154;go_wp2_with (go_at_call 155;refine(MI.I _ _ _ _).mono ?_;rintro e w' ⟨rfl,rfl⟩)
  go_ret;exact⟨rfl,(aD _ _)⟩
theorem aoY (x:Lay) (n:Int) (w:H) (hk:x.aB=5\/x.aB=6):aA aq 156 #[aF x.cells,Y Z n] w (dZ (aK (x.aH n)) w):=by
 obtain⟨aB,I,k,s,aG,aJ,fz⟩:=x;have hk:aB=5\/aB=6:=hk;have K1:=V (aE.fG w (ag (Lay.cells ⟨aB,I,k,s,aG,aJ,fz⟩) 102) (ag (Lay.cells ⟨aB,0,0,0,0,0,ae⟩) 102));have f0:=bE K1.F.1;have g0:=bE K1.F.2.1;have z0:=λj=>cE K1.F.2.1 j;unfold Lay.cells at*;rcases hk with rfl|rfl
 all_goals
  go_enter func156,ntmps156;go_wp2;all_goals(go_ret;exact⟨by simp_all [Lay.aH],(aD _ _).step (aD _ _)⟩)
theorem aoZ (x:Lay) (n:Int) (w:H) (hk:x.aB<1\/7<x.aB):aA aq 156 #[aF x.cells,Y Z n] w (dZ (aK (x.aH n)) w):=by
 obtain⟨aB,I,k,s,aG,aJ,fz⟩:=x;have hk:aB<1\/7<aB:=hk;have K1:=V (aE.fG w (ag (Lay.cells ⟨aB,I,k,s,aG,aJ,fz⟩) 102) (ag (Lay.cells ⟨aB,0,0,0,0,0,ae⟩) 102));have f0:=bE K1.F.1;have g0:=bE K1.F.2.1;have z0:=λj=>cE K1.F.2.1 j;unfold Lay.cells at*;have h1:(aB==1)=ae:=Q2R;have h2:(aB==2)=ae:=Q2R;have h3:(aB==3)=ae:=Q2R;have h4:(aB==4)=ae:=Q2R;have h5:(aB==5)=ae:=Q2R;have h6:(aB==6)=ae:=Q2R;have h7:(aB==7)=ae:=Q2R;have e:Lay.aH ⟨aB,I,k,s,aG,aJ,fz⟩ n=ae:=by
  exact Q1a
 rw[e];clear hk e;go_enter func156,ntmps156;go_wp2;go_ret;exact⟨rfl,K1.F.2.2⟩
theorem ap0 (x:Lay) (n:Int) (w:H) (hk:x.aB=7):aA aq 156 #[aF x.cells,Y Z n] w (dZ (aK (x.aH n)) w):=by
 obtain⟨aB,I,k,s,aG,aJ,fz⟩:=x;obtain rfl:aB=7:=hk;have K1:=V (aE.fG w (ag (Lay.cells ⟨7,I,k,s,aG,aJ,fz⟩) 102) (ag (Lay.cells ⟨7,0,0,0,0,0,ae⟩) 102));have f0:=bE K1.F.1;have g0:=bE K1.F.2.1;have z0:=λj=>cE K1.F.2.1 j;unfold Lay.cells at*;have M1:=V (yd aJ 0 (cM (n-1)));have hB:Lay.aH ⟨7,I,k,s,aG,aJ,fz⟩ n=(ZX.within aJ 0 (cM (n-1))&&decide (Lay.mk 7 I k s aG aJ fz=⟨7,0,0,0,0,aJ,ae⟩)):=rfl;rw[hB];clear hB;generalize ZX.within aJ 0 (cM (n-1))=Z3 at*;obtain⟨u,hu⟩:=J (cM (n-1));have tD:Z.wrap (n-1)=u:=(qR _).trans hu;rw[hu]at M1;clear hu
 cases Z3;all_goals
  go_enter func156,ntmps156;go_wp2_with fail;refine cq (M1.I _) ?_;go_wp2_with fail;all_goals(go_ret;exact⟨Q3N,(aD _ _).step (aD _ _)⟩)
theorem ap1 (x:Lay) (n:Int) (w:H) (hk:x.aB=1):aA aq 156 #[aF x.cells,Y Z n] w (dZ (aK (x.aH n)) w):=by
 obtain⟨aB,I,k,s,aG,aJ,fz⟩:=x;obtain rfl:aB=1:=hk;have K1:=V (aE.fG w (ag (Lay.cells ⟨1,I,k,s,aG,aJ,fz⟩) 102) (ag (Lay.cells ⟨1,0,0,0,0,0,ae⟩) 102));obtain⟨f0,f1,f2,f3,f4,f5,f6⟩:=bE K1.F.1;obtain⟨g0,g1,g2,g3,g4,g5,g6⟩:=bE K1.F.2.1;have z0:=λj=>cE K1.F.2.1 j;have M1:=V (yd I 1 4096);have hB:Lay.aH ⟨1,I,k,s,aG,aJ,fz⟩ n=(ZX.within I 1 4096&&decide (Lay.mk 1 I k s aG aJ fz=⟨1,I,0,0,0,0,fz⟩)):=rfl;rw[hB];clear hB;generalize ZX.within I 1 4096=Z3 at*;unfold Lay.cells at f0 f1 f2 f3 f4 f5 f6 g0 g1 g2 g3 g4 g5 g6⊢;go_enter func156,ntmps156;exact Q04
theorem ap2 (I k s aG aJ:Int) (fz:Bool) (n:Int) (w:H):aA aq 156 #[aF (Lay.cells ⟨3,I,k,s,aG,aJ,fz⟩),Y Z n] w (dZ (aK ((⟨3,I,k,s,aG,aJ,fz⟩:Lay).aH n)) w):=by
 have K1:=V (aE.fG w (bQ 3 I k s aG aJ fz) (bQ 3 0 0 0 0 0 ae));have f0:=bE K1.F.1;have g0:=bE K1.F.2.1;have z0:=λj=>cE K1.F.2.1 j;have M1:=V (yd k 1 5);have M2:=V (yd s 1 4);have hB:Lay.aH ⟨3,I,k,s,aG,aJ,fz⟩ n=((ZX.within k 1 5&&ZX.within s 1 4)&&decide (Lay.mk 3 I k s aG aJ fz=⟨3,0,k,s,0,0,ae⟩)):=rfl;rw[hB];clear hB;generalize ZX.within k 1 5=Z3 at*;generalize ZX.within s 1 4=B at*;unfold Lay.cells;go_enter func156,ntmps156;go_wp2_with fail;have hb:=K1.F.2.2;have hx:=K1.F.1;have hp:=K1.F.2.1;generalize li (li w (bQ 3 I k s aG aJ fz)) (bQ 3 0 0 0 0 0 ae)=W at*;refine cS (λw':H=>w'.heap[w.heap.size]? =A (bQ 3 I k s aG aJ fz)) ?_;have hb:ay w w W.drew:=hb.step (below_drewN W 1);have hx:W.drew.heap[w.heap.size]? =A (bQ 3 I k s aG aJ fz):=hx;have hp:W.drew.heap[w.heap.size+1]? =A (bQ 3 0 0 0 0 0 ae):=hp;exact Q0c
theorem ap3 (I k s aG aJ:Int) (fz:Bool) (n:Int) (w:H):aA aq 156 #[aF (Lay.cells ⟨4,I,k,s,aG,aJ,fz⟩),Y Z n] w (dZ (aK ((⟨4,I,k,s,aG,aJ,fz⟩:Lay).aH n)) w):=by
 have K1:=V (aE.fG w (bQ 4 I k s aG aJ fz) (bQ 4 0 0 0 0 0 ae));have f0:=bE K1.F.1;have g0:=bE K1.F.2.1;have z0:=λj=>cE K1.F.2.1 j;have M1:=V (yd k 1 5);have M2:=V (yd s 1 4);have hB:Lay.aH ⟨4,I,k,s,aG,aJ,fz⟩ n=((ZX.within k 1 5&&ZX.within s 1 4)&&decide (Lay.mk 4 I k s aG aJ fz=⟨4,0,k,s,0,0,ae⟩)):=rfl;rw[hB];clear hB;generalize ZX.within k 1 5=Z3 at*;generalize ZX.within s 1 4=B at*;unfold Lay.cells;go_enter func156,ntmps156;go_wp2_with fail;have hb:=K1.F.2.2;have hx:=K1.F.1;have hp:=K1.F.2.1;generalize li (li w (bQ 4 I k s aG aJ fz)) (bQ 4 0 0 0 0 0 ae)=W at*;refine cS (λw':H=>w'.heap[w.heap.size]? =A (bQ 4 I k s aG aJ fz)) ?_;have hb:ay w w W.drew:=hb.step (below_drewN W 1);have hx:W.drew.heap[w.heap.size]? =A (bQ 4 I k s aG aJ fz):=hx;have hp:W.drew.heap[w.heap.size+1]? =A (bQ 4 0 0 0 0 0 ae):=hp;exact Q0c
theorem ap4 (I k s aG aJ:Int) (fz:Bool) (n:Int) (w:H):aA aq 156 #[aF (Lay.cells ⟨2,I,k,s,aG,aJ,fz⟩),Y Z n] w (dZ (aK ((⟨2,I,k,s,aG,aJ,fz⟩:Lay).aH n)) w):=by
 have K1:=V (aE.fG w (bQ 2 I k s aG aJ fz) (bQ 2 0 0 0 0 0 ae));have f0:=bE K1.F.1;have g0:=bE K1.F.2.1;have z0:=λj=>cE K1.F.2.1 j;have M1:=V (yd I 1 8);have M2:=V (yd k 1 5);have M3:=V (yd s 1 4);have M4:=V (yd aG 0 (cM (k-1)));have hB:Lay.aH ⟨2,I,k,s,aG,aJ,fz⟩ n=((ZX.within I 1 8&&((ZX.within k 1 5&&ZX.within s 1 4)&&ZX.within aG 0 (cM (k-1))))&&decide (Lay.mk 2 I k s aG aJ fz=⟨2,I,k,s,aG,0,fz⟩)):=rfl;rw[hB];clear hB;generalize ZX.within I 1 8=Z3 at*;generalize ZX.within k 1 5=B at*;generalize ZX.within s 1 4=C at*;generalize ZX.within aG 0 (cM (k-1))=D at*;obtain⟨u,hu⟩:=J (cM (k-1));have tD:Z.wrap (k-1)=u:=(qR _).trans hu;rw[hu]at M4;clear hu;unfold Lay.cells;go_enter func156,ntmps156;go_wp2_with fail;have hb:=K1.F.2.2;have hx:=K1.F.1;have hp:=K1.F.2.1;generalize li (li w (bQ 2 I k s aG aJ fz)) (bQ 2 0 0 0 0 0 ae)=W at*;refine cS (λw':H=>w'.heap[w.heap.size]? =A (bQ 2 I k s aG aJ fz)) ?_;have hb:ay w w W.drew:=hb.step (below_drewN W 1);have hx:W.drew.heap[w.heap.size]? =A (bQ 2 I k s aG aJ fz):=hx;have hp:W.drew.heap[w.heap.size+1]? =A (bQ 2 0 0 0 0 0 ae):=hp;generalize W.drew=W0 at*;refine bR hx [0,2,4,6,8,1,3,5,7,9,10] (λ_ h=>bE h) ?_;have g0:=bE hp;have z0:=λj=>cE hp j;refine bL 11 λK hK=> ?_;go_simp;have hp:=dF (f:=1) hp (Y Z I);simp only[dC,dD,dE]at hp;have hx:(ss W0 ⟨w+1,1,G⟩ (Y Z I)).heap[w.heap.size]? =_:=(gj _ U).trans hx;have hb:ay w w (ss W0 ⟨w+1,1,G⟩ (Y Z I)):=hb.setCell (nH _) _;generalize ss W0 ⟨w+1,1,G⟩ (Y Z I)=W1 at*;refine bB hK hx ?_;refine cQ hx [12] ?_;have g0:=bE hp;have z0:=λj=>cE hp j;refine bL 13 λK hK=> ?_;go_simp;have hp:=dF (f:=2) hp (Y Z k);simp only[dC,dD,dE]at hp;have hx:(ss W1 ⟨w+1,2,G⟩ (Y Z k)).heap[w.heap.size]? =_:=(gj _ U).trans hx;have hb:ay w w (ss W1 ⟨w+1,2,G⟩ (Y Z k)):=hb.setCell (nH _) _;generalize ss W1 ⟨w+1,2,G⟩ (Y Z k)=W2 at*;refine bB hK hx ?_;refine cQ hx [14] ?_;have g0:=bE hp;have z0:=λj=>cE hp j;refine bL 15 λK hK=> ?_;go_simp;have hp:=dF (f:=3) hp (Y Z s);simp only[dC,dD,dE]at hp;have hx:(ss W2 ⟨w+1,3,G⟩ (Y Z s)).heap[w.heap.size]? =_:=(gj _ U).trans hx;have hb:ay w w (ss W2 ⟨w+1,3,G⟩ (Y Z s)):=hb.setCell (nH _) _;generalize ss W2 ⟨w+1,3,G⟩ (Y Z s)=W3 at*;refine bB hK hx ?_;refine cQ hx [16] ?_;have g0:=bE hp;have z0:=λj=>cE hp j;refine bL 17 λK hK=> ?_;go_simp;have hp:=dF (f:=4) hp (Y Z aG);simp only[dC,dD,dE]at hp;have hx:(ss W3 ⟨w+1,4,G⟩ (Y Z aG)).heap[w.heap.size]? =_:=(gj _ U).trans hx;have hb:ay w w (ss W3 ⟨w+1,4,G⟩ (Y Z aG)):=hb.setCell (nH _) _;generalize ss W3 ⟨w+1,4,G⟩ (Y Z aG)=W4 at*;refine bB hK hx ?_;refine cQ hx [18] ?_;have g0:=bE hp;have z0:=λj=>cE hp j;refine bL 19 λK hK=> ?_;go_simp;have hp:=dF (f:=6) hp (aK fz);simp only[dC,dD,dE]at hp;have hx:(ss W4 ⟨w+1,6,G⟩ (aK fz)).heap[w.heap.size]? =_:=(gj _ U).trans hx;have hb:ay w w (ss W4 ⟨w+1,6,G⟩ (aK fz)):=hb.setCell (nH _) _;generalize ss W4 ⟨w+1,6,G⟩ (aK fz)=W5 at*;refine bB hK hx ?_;refine bW ?_;have f0:=bE hx;have g0:=bE hp;have HB:=V hb;clear hx hp;go_wp2_with fail;refine cq (M1.I _) ?_
 cases Z3
 .exact Q2x
 go_wp2_with fail;refine cq (M2.I _) ?_
 cases B
 .exact Q2x
 go_wp2_with fail;refine cq (M3.I _) ?_
 cases C
 .exact Q2x
 go_wp2_with fail;refine cq (M4.I _) ?_
 cases D;all_goals
  go_wp2_with fail;all_goals(go_ret;exact⟨Q3N,HB.I⟩)
theorem ap5 (x:Lay) (n:Int) (w:H):aA aq 156 #[aF x.cells,Y Z n] w (dZ (aK (x.aH n)) w):=by
 by_cases h1:x.aB=1
 .exact ap1 x n w h1
 by_cases h5:x.aB=5\/x.aB=6
 .exact aoY x n w h5
 by_cases h7:x.aB=7
 .exact ap0 x n w h7
 by_cases h0:x.aB<1\/7<x.aB
 .exact aoZ x n w h0
 obtain⟨aB,I,k,s,aG,aJ,fz⟩:=x;have h:aB=2\/aB=3\/aB=4:=by
  have h1:¬aB=1:=h1;have h5:¬(aB=5\/aB=6):=h5;have h7:¬aB=7:=h7;have h0:¬(aB<1\/7<aB):=h0;omega
 rcases h with rfl|rfl|rfl
 .exact ap4 I k s aG aJ fz n w
 .exact ap2 I k s aG aJ fz n w
 .exact ap3 I k s aG aJ fz n w
theorem ap6 (m:Mod) (ok:Nat->Prop) (xa:aC) (xl xm:Nat) (w:H) (h:cH iM 7 ok w xa xl m.L):aA aq 90 #[aF (m.cells xa xl xm)] w (dZ (aK m.aH) w):=by
 have KB:=V (aE.fg w (ag (m.cells xa xl xm) 25));have EN:=V (aoX m.a m.b m.c);have HX:=V (h.bt gL U);have f0:=eQ KB.F.1;have hl:=h.2.1;have HL:=V h.1;unfold Mod.aH;rw[h.1];generalize Dw m.a m.b m.c=Z3 at*;obtain⟨B,hB⟩:=J (ZX.within (xl:Int) 1 12);have M2:=V (λw=>hB▸yd (xl:Int) 1 12 w);rw[hB];obtain⟨R,hR⟩:=J (Mod.xB 0 m.L);have HR:=V hR;rw[hR];clear hB hR h;go_enter func90,ntmps90;go_wp2_with fail;refine bY (EN.I _) λw2 hb=> ?_;have K2:=KB.bU hb;clear hb;have f0:=eQ K2.F.1
 cases Z3
 .exact Q0U
 go_wp2_with fail;refine cq (M2.I _) ?_
 cases B
 .exact Q0U
 go_wp2_with fail;go_loopw [19,4,3] (λi _ _ wr=>∃k:Nat,k<=xl/\i=Y Z k/\Mod.xB k (m.L.drop k)=R/\ay w w wr) (λi _ _ _=>xl-(aX i).toNat)
 case atStart=>exact⟨0,cK _,rfl,HR.I,K2.F.2⟩
 case round=>
  obtain⟨k,hk,rfl,hr,hb⟩:=hrel;have iW:=V hr;have HB:=V hb;clear hr hb;by_cases aT:k<xl
  .obtain⟨x,hx⟩:∃x,m.L[k]? =A x:=⟨m.L[k]' Q30,Q2W⟩;obtain⟨b,off,cs,rfl,_,hE,hcs⟩:=(HX.I _ HB.I).get hx;obtain rfl:cs=x.cells:=hE;have g0:=hcs 0 (Y Z x.aB) rfl;have g1:=hcs 1 (Y Z x.I) rfl;have g2:=hcs 2 (Y Z x.k) rfl;have g3:=hcs 3 (Y Z x.s) rfl;have g4:=hcs 4 (Y Z x.aG) rfl;have g5:=hcs 5 (Y Z x.aJ) rfl;have g6:=hcs 6 (aK x.fz) rfl;simp only[eL]at g0;have HD:=V (Mod.abI hx);have CF:=V (ap5 x (k:Int));exact Q0p
  .exact Q1v
theorem YA (h v k s p:Int) (w:H):aA aq 157 #[Y Z h,Y Z v,Y Z k,Y Z s,Y Z p] w λe w'=>e=bG (aL #[Y Z (bO h k s p),Y Z (bO v k s p)])/\w'=w:=by
 go_enter func157,ntmps157;go_wp2_with fail;refine cq (aeB h k s p w) ?_;go_wp2_with fail;refine cq (aeB v k s p _) ?_;go_wp2_with fail;go_ret2
 exact⟨rfl,rfl⟩
def sU (w:H) (e:dN) (w':H):Prop:=∃a l c D b,e=bG (aL #[O a l c,aK b])/\ai Z w' a l D/\(∀y,a=A y->w.heap.size<=y.block)/\ay w w w'
theorem sU.nil (h:e=bG (aL #[O G 0 0,aK ae])) (hb:ay w w w'):sU w e w':=⟨G,0,0,[],ae,h,ai.zero _ _ _,λ_ h=>Q38,hb⟩
theorem sU.box {w1:H} (h:sU w1 e w') (hb:ay w w w1):sU w e w':=by
 obtain⟨a,l,c,D,b,h1,h2,h3,h4⟩:=h;exact⟨a,l,c,D,b,h1,h2,λy hy=>eH hb.size (h3 y hy),hb.step h4⟩
theorem ap8 (I k s aG aJ:Int) (fz:Bool) (d:ah) (da:aC) (dl dc:Nat) (aa:aC) (al ac:Nat) (w:H) (hd:ai Z w da dl d) (h1:1<=dl) (h4:dl<=4) (ho:(cX Z I).wf=true):aA aq 91 #[aF (Lay.cells ⟨1,I,k,s,aG,aJ,fz⟩),O da dl dc,O aa al ac] w (sU w):=by
 have K1:=V (aE.fg w (bQ 1 I k s aG aJ fz));have f0:=bE K1.F.1;have ik:=hd.eC;clear hd;unfold Lay.cells;go_enter func91,ntmps91;go_wp2_with fail;have HR:=V (ai.new (li w (bQ 1 I k s aG aJ fz)) Z 3 (0,0) [I] (λz hz=>by rw[pS.1 hz];exact ho) bK);have hb:=K1.F.2.step (aD _ (ag #[Y Z I] 3));refine aZ (v:=aL #[O (w+1:Nat) 1 1,aK ((dl:Int)==1)]) Q41 rfl ⟨_,1,1,[I],_,rfl,?_,λy hy=>by cases hy;exact nH _,hb⟩;have h:=HR.I;rw[bF]at h;exact h
theorem ap9 (I k s aG aJ:Int) (fz:Bool) (d:ah) (da:aC) (dl dc:Nat) (aa:aC) (al ac:Nat) (w:H) (hd:ai Z w da dl d) (h1:1<=dl) (h4:dl<=4) (ho:(cX Z I).wf=true):aA aq 91 #[aF (Lay.cells ⟨2,I,k,s,aG,aJ,fz⟩),O da dl dc,O aa al ac] w (sU w):=by
 have K1:=V (aE.fg w (bQ 2 I k s aG aJ fz));have f0:=bE K1.F.1;have RD:=V (hd.below K1.F.2);have oN:=V hd.bA;have ik:=hd.eC;clear hd;unfold Lay.cells;by_cases h3:dl=3
 case neg=>
  exact Q2u
 subst h3;obtain⟨db,fK,rfl,e0⟩:=RD.I.cells U;have HW:=V (show ∀j,j<3->(cX Z (d.getD j 0)).wf=true from λj hj=>RD.I.wf _ Q3x);have HS:=V (show(li w (bQ 2 I k s aG aJ fz)).heap[w.heap.size]? =A (bQ 2 I k s aG aJ fz)/\(li w (bQ 2 I k s aG aJ fz)) ⟨db,fK+0,G⟩=A (Y Z (d.getD 0 0))/\(li w (bQ 2 I k s aG aJ fz)) ⟨db,fK+1,G⟩=A (Y Z (d.getD 1 0))/\(li w (bQ 2 I k s aG aJ fz)) ⟨db,fK+2,G⟩=A (Y Z (d.getD 2 0))from⟨K1.F.1,e0 0 U,e0 1 U,e0 2 U⟩);have sY:=HW.I 0 U;have HB:=V K1.F.2;generalize d.getD 0 0=d0 at*;generalize d.getD 1 0=d1 at*;generalize d.getD 2 0=d2 at*;have PL:=V (YA d1 d2 k s aG);have b1:=DP d1 k s aG;have b2:=DP d2 k s aG;generalize bO d1 k s aG=P at*;generalize bO d2 k s aG=Q at*;have i1:(1:Nat)<3:=U;have i2:(2:Nat)<3:=U;go_enter func91,ntmps91;go_upto_region 9 with fail;have iK:w.heap.size+1=(li w (bQ 2 I k s aG aJ fz)).heap.size:=by rw[bF]
 generalize li w (bQ 2 I k s aG aJ fz)=w1 at*;refine cS (λw':H=>w'.heap[w.heap.size]? =A (bQ 2 I k s aG aJ fz)/\w' ⟨db,fK+0,G⟩=A (Y Z d0)/\w' ⟨db,fK+1,G⟩=A (Y Z d1)/\w' ⟨db,fK+2,G⟩=A (Y Z d2)) ?_;have hS:w1.drew.heap[w.heap.size]? =A (bQ 2 I k s aG aJ fz)/\w1.drew ⟨db,fK+0,G⟩=A (Y Z d0)/\w1.drew ⟨db,fK+1,G⟩=A (Y Z d1)/\w1.drew ⟨db,fK+2,G⟩=A (Y Z d2):=HS.I;refine bR hS [0,3,6,8,10,1,4,7,9,11,2,5] (λ_ h=>aw (bE h.1) (aw h.1 (aw h.2.1 (aw h.2.2.1 h.2.2.2)))) (bL 12 λK hK=> ?_);go_simp;refine cq (PL.I _) ?_;refine bB hK hS ?_;refine cQ hS [13,14,15,16,17] (bW ?_);have dA:=V (show ay w w w1.drew from HB.I.step (below_drewN w1 1));have jI:=V hS;clear hS;have eI:w1.drew.heap.size=w1.heap.size:=rfl;generalize w1.drew=w2 at*;obtain⟨b0,s7,s8,s9⟩:=jI.I;have s0:=bE b0;rw[eL]at s7;have hp:decide (0<P)=true\/decide (0<P)=ae:=by cases decide (0<P)<;>simp
 rcases hp with hp|hp
 all_goals
  go_wp2_with fail;have HR:=V (ai.new w2 Z 3 (0,0) [I,P,Q] (λz hz=>by
   simp only[jy,mj,or_false]at hz;rcases hz with rfl|rfl|rfl
   .first|exact ho|exact sY
   .exact gF U U
   .exact gF U U) bK)
  refine aZ (v:=aL #[O w2 3 3,aK _]) (by simp[aW,results91];try rfl) rfl ⟨_,3,3,[I,P,Q],_,rfl,HR.I,λy hy=>Q3D,dA.I.step (aD _ _)⟩
theorem apa (I k s aG aJ:Int) (fz:Bool) (d:ah) (da:aC) (dl dc:Nat) (aa:aC) (al ac:Nat) (w:H) (hd:ai Z w da dl d) (h1:1<=dl) (h4:dl<=4):aA aq 91 #[aF (Lay.cells ⟨3,I,k,s,aG,aJ,fz⟩),O da dl dc,O aa al ac] w (sU w):=by
 have K1:=V (aE.fg w (bQ 3 I k s aG aJ fz));have f0:=bE K1.F.1;have RD:=V (hd.below K1.F.2);have oN:=V hd.bA;have ik:=hd.eC;clear hd;unfold Lay.cells;by_cases h3:dl=3
 case neg=>
  exact Q2u
 subst h3;obtain⟨db,fK,rfl,e0⟩:=RD.I.cells U;have HW:=V (show ∀j,j<3->(cX Z (d.getD j 0)).wf=true from λj hj=>RD.I.wf _ Q3x);have HS:=V (show(li w (bQ 3 I k s aG aJ fz)).heap[w.heap.size]? =A (bQ 3 I k s aG aJ fz)/\(li w (bQ 3 I k s aG aJ fz)) ⟨db,fK+0,G⟩=A (Y Z (d.getD 0 0))/\(li w (bQ 3 I k s aG aJ fz)) ⟨db,fK+1,G⟩=A (Y Z (d.getD 1 0))/\(li w (bQ 3 I k s aG aJ fz)) ⟨db,fK+2,G⟩=A (Y Z (d.getD 2 0))from⟨K1.F.1,e0 0 U,e0 1 U,e0 2 U⟩);have sY:=HW.I 0 U;have HB:=V K1.F.2;generalize d.getD 0 0=d0 at*;generalize d.getD 1 0=d1 at*;generalize d.getD 2 0=d2 at*;have PL:=V (YA d1 d2 k s aG);have b1:=DP d1 k s aG;have b2:=DP d2 k s aG;generalize bO d1 k s aG=P at*;generalize bO d2 k s aG=Q at*;have i1:(1:Nat)<3:=U;have i2:(2:Nat)<3:=U;go_enter func91,ntmps91;go_upto_region 9 with fail;have iK:w.heap.size+1=(li w (bQ 3 I k s aG aJ fz)).heap.size:=by rw[bF]
 generalize li w (bQ 3 I k s aG aJ fz)=w1 at*;refine cS (λw':H=>w'.heap[w.heap.size]? =A (bQ 3 I k s aG aJ fz)/\w' ⟨db,fK+0,G⟩=A (Y Z d0)/\w' ⟨db,fK+1,G⟩=A (Y Z d1)/\w' ⟨db,fK+2,G⟩=A (Y Z d2)) ?_;have hS:w1.drew.heap[w.heap.size]? =A (bQ 3 I k s aG aJ fz)/\w1.drew ⟨db,fK+0,G⟩=A (Y Z d0)/\w1.drew ⟨db,fK+1,G⟩=A (Y Z d1)/\w1.drew ⟨db,fK+2,G⟩=A (Y Z d2):=HS.I;exact Q0j
theorem apb (I k s aG aJ:Int) (fz:Bool) (d:ah) (da:aC) (dl dc:Nat) (aa:aC) (al ac:Nat) (w:H) (hd:ai Z w da dl d) (h1:1<=dl) (h4:dl<=4):aA aq 91 #[aF (Lay.cells ⟨4,I,k,s,aG,aJ,fz⟩),O da dl dc,O aa al ac] w (sU w):=by
 have K1:=V (aE.fg w (bQ 4 I k s aG aJ fz));have f0:=bE K1.F.1;have RD:=V (hd.below K1.F.2);have oN:=V hd.bA;have ik:=hd.eC;clear hd;unfold Lay.cells;by_cases h3:dl=3
 case neg=>
  exact Q2u
 subst h3;obtain⟨db,fK,rfl,e0⟩:=RD.I.cells U;have HW:=V (show ∀j,j<3->(cX Z (d.getD j 0)).wf=true from λj hj=>RD.I.wf _ Q3x);have HS:=V (show(li w (bQ 4 I k s aG aJ fz)).heap[w.heap.size]? =A (bQ 4 I k s aG aJ fz)/\(li w (bQ 4 I k s aG aJ fz)) ⟨db,fK+0,G⟩=A (Y Z (d.getD 0 0))/\(li w (bQ 4 I k s aG aJ fz)) ⟨db,fK+1,G⟩=A (Y Z (d.getD 1 0))/\(li w (bQ 4 I k s aG aJ fz)) ⟨db,fK+2,G⟩=A (Y Z (d.getD 2 0))from⟨K1.F.1,e0 0 U,e0 1 U,e0 2 U⟩);have sY:=HW.I 0 U;have HB:=V K1.F.2;generalize d.getD 0 0=d0 at*;generalize d.getD 1 0=d1 at*;generalize d.getD 2 0=d2 at*;have PL:=V (YA d1 d2 k s aG);have b1:=DP d1 k s aG;have b2:=DP d2 k s aG;generalize bO d1 k s aG=P at*;generalize bO d2 k s aG=Q at*;have i1:(1:Nat)<3:=U;have i2:(2:Nat)<3:=U;go_enter func91,ntmps91;go_upto_region 9 with fail;have iK:w.heap.size+1=(li w (bQ 4 I k s aG aJ fz)).heap.size:=by rw[bF]
 generalize li w (bQ 4 I k s aG aJ fz)=w1 at*;refine cS (λw':H=>w'.heap[w.heap.size]? =A (bQ 4 I k s aG aJ fz)/\w' ⟨db,fK+0,G⟩=A (Y Z d0)/\w' ⟨db,fK+1,G⟩=A (Y Z d1)/\w' ⟨db,fK+2,G⟩=A (Y Z d2)) ?_;have hS:w1.drew.heap[w.heap.size]? =A (bQ 4 I k s aG aJ fz)/\w1.drew ⟨db,fK+0,G⟩=A (Y Z d0)/\w1.drew ⟨db,fK+1,G⟩=A (Y Z d1)/\w1.drew ⟨db,fK+2,G⟩=A (Y Z d2):=HS.I;exact Q0j
theorem apc (I k s aG aJ:Int) (fz:Bool) (d:ah) (da:aC) (dl dc:Nat) (aa:aC) (al ac:Nat) (w:H) (hd:ai Z w da dl d) (h1:1<=dl) (h4:dl<=4):aA aq 91 #[aF (Lay.cells ⟨6,I,k,s,aG,aJ,fz⟩),O da dl dc,O aa al ac] w (sU w):=by
 have K1:=V (aE.fg w (bQ 6 I k s aG aJ fz));have f0:=bE K1.F.1;have RD:=V (hd.below K1.F.2);have ik:=hd.eC;clear hd;unfold Lay.cells;obtain⟨db,fK,rfl,e0⟩:=RD.I.cells U;have HC:=V e0;go_enter func91,ntmps91;go_wp2_with fail;have HB:=V K1.F.2;have iK:(li w (bQ 6 I k s aG aJ fz)).heap.size=w.heap.size+1:=bF _ _;generalize li w (bQ 6 I k s aG aJ fz)=w1 at*;go_loopw [69,11,13] (λi n _ wr=>∃(k:Nat) (z:Int),k<=dl/\i=Y Z k/\n=Y Z z/\(cX Z z).wf=true/\wr=w1) (λi _ _ _=>dl-(aX i).toNat)
 case atStart=>exact⟨0,1,cK _,rfl,rfl,rfl,rfl⟩
 case round=>
  obtain⟨j,z,hj,rfl,rfl,hz,rfl⟩:=hrel;by_cases aT:j<dl
  .have c0:=HC.I j aT;generalize d.getD j 0=y at*;have hw:Z.wrap (z*y)=cM (z*y):=qR _;go_wp2_with fail;go_roundw
   case rel=>exact⟨j+1,_,U,Q2T,by first|rfl|simp[qR],wrap64_wf _,Q4L⟩
   case measure=>exact Q5q
  .obtain rfl:j=dl:=U;have HR:=V (ai.new wr Z 3 (0,0) [z] (λy hy=>by rw[pS.1 hy];exact hz) bK);go_wp2_with fail;exact aZ (v:=aL #[O wr 1 1,aK true]) Q41 rfl ⟨_,1,1,[z],_,rfl,HR.I,λy hy=>by cases hy;show w.heap.size<=wr;omega,HB.I.step (aD _ _)⟩
theorem aeC:(aq.info? 3).map (λi=>(i.zero,i.size,i.bytes))=A (A (Y Z 0),1,8):=Q2Q
theorem aeD {o:Nat} {zs:ah} (h:ai Z w (A ⟨b,o,G⟩) n zs) (j:Nat) (u:aj) (hu:(zs.map (Y Z))[j]? =A u):w.cell? ((⟨b,o,G⟩:Addr).add j)=A u:=by
 obtain⟨x,hx,rfl⟩:∃x,zs[j]? =A x/\Y Z x=u:=by
  rw[List.getElem?_map]at hu
  cases hz:zs[j]? with
  |none=>rw[hz]at hu;cases hu
  |some x=>rw[hz]at hu;exact⟨x,rfl,by injection hu⟩
 have hj:=(fX.1 hx).1;have hl:=h.bA;obtain⟨b',o',e,hc⟩:=h.cells U
 cases e;have:=hc j U;rw[gB,hx,Option.getD_some]at this;by_cases h0:j=0
 .subst h0;simpa[Addr.add]using this
 .simpa[Addr.add,h0]using this
theorem apd (I k s aG aJ:Int) (fz:Bool) (d:ah) (da:aC) (dl dc:Nat) (aa:aC) (al ac:Nat) (w:H) (hd:ai Z w da dl d) (h1:1<=dl) (h4:dl<=4):aA aq 91 #[aF (Lay.cells ⟨5,I,k,s,aG,aJ,fz⟩),O da dl dc,O aa al ac] w (sU w):=by
 have K1:=V (aE.fg w (bQ 5 I k s aG aJ fz));have f0:=bE K1.F.1;have RD:=V (hd.below K1.F.2);have oN:=V hd.bA;have ik:=hd.eC;clear hd;unfold Lay.cells;have HB:=V K1.F.2;obtain⟨db,fK,rfl,-⟩:=RD.I.cells U;have iK:(li w (bQ 5 I k s aG aJ fz)).heap.size=w.heap.size+1:=bF _ _;go_enter func91,ntmps91;obtain⟨i0,hi,cF,cG,cB⟩:=fB aeC;go_wp2_with (at_builtin;refine ko _ rfl _ _ 55 rfl w.heap.size 3 i0 (Y Z 0) 1 8 underlying55 hi cF cG cB rfl eM (O G 0 0) 0 [] rfl (gP _ _ _ _) ⟨db,fK,G⟩ dl dc (d.map (Y Z)) rfl (by rw[ib,oN.I,lA]) ?c1 ?c2 ?c3 ?c4 ?c5 ?c6 ?_)
 case c1=>exact λj u hu=>aeD RD.I j u hu
 case c2=>simp[fV]
 case c3=>unfold eS;omega
 case c4=>omega
 case c5=>exact HB.I.size
 case c6=>omega
 intro g1 c1 w7 cC bM cN ei fC;have fT:w7.ownsRow w.heap.size 3 1 (O g1 dl c1) dl (d.map (Y Z)):=by simpa using cC
 obtain⟨pa,pc,e,dY⟩:=ai.nJ fT RD.I.wf U
 cases e;have dR:ay w w w7:=Below.gh HB.I (ar.grown (wq:=li w (bQ 5 I k s aG aJ fz)) (ar.cP _ (λ_=>False) _) bM (bu _) (λb h=>Q38)) (λb h=>⟨U,id⟩);have HF:=V (aw dY (aw ei dR));clear cC bM cN ei fC fT dY;go_wp2_with fail;refine aZ (v:=aL #[O g1 dl c1,aK true]) Q41 rfl ⟨_,dl,c1,d,_,rfl,HF.I.1,λy hy=>by cases hy;exact HF.I.2.1,HF.I.2.2⟩
theorem ape (I k s aG aJ:Int) (fz:Bool) (d:ah) (da:aC) (dl dc:Nat) (aa:aC) (al ac:Nat) (DS:List (List Int)) (ok:Nat->Prop) (w:H) (hd:ai Z w da dl d) (h1:1<=dl) (h4:dl<=4) (ha:cH rO 1 ok w aa al DS) (hf:0<=aJ/\aJ<(al:Int)):aA aq 91 #[aF (Lay.cells ⟨7,I,k,s,aG,aJ,fz⟩),O da dl dc,O aa al ac] w (sU w):=by
 obtain⟨q1,q2⟩:=hf;obtain⟨ZX,rfl⟩:=Int.eq_ofNat_of_zero_le q1;obtain⟨u,hu⟩:∃u,DS[ZX]? =A u:=⟨DS[ZX]'(by rw[ha.1];omega),Q2W⟩;obtain⟨ab,ao,cs,rfl,_,⟨a1,l1,c1,rfl,hD1⟩,hcs⟩:=ha.get hu;have kU:=hcs 0 (O a1 l1 c1) rfl;simp only[lA,eL]at kU;clear ha hu hcs;have K1:=V (aE.fg w (bQ 7 I k s aG (ZX:Int) fz));have f0:=bE K1.F.1;have RD:=V (hd.below K1.F.2);have RE:=V (hD1.1.below K1.F.2);have oN:=V hd.bA;have ik:=hd.eC;have j8:=hD1.1.eC;have HC:=V (K1.F.2.cell_of kU);clear hd kU;unfold Lay.cells;obtain⟨db,fK,rfl,-⟩:=RD.I.cells U;have HB:=V K1.F.2;have HX:=V K1.F.1;go_enter func91,ntmps91;go_upto_region 23 with fail;have iK:(li w (bQ 7 I k s aG (ZX:Int) fz)).heap.size=w.heap.size+1:=bF _ _;generalize li w (bQ 7 I k s aG (ZX:Int) fz)=w1 at*;refine cS (λw':H=>w'.heap[w.heap.size]? =A (bQ 7 I k s aG (ZX:Int) fz)/\w' ⟨ab,ao+ZX,G⟩=A (O a1 l1 c1)) ?_;have hS:w1.drew.heap[w.heap.size]? =A (bQ 7 I k s aG (ZX:Int) fz)/\w1.drew ⟨ab,ao+ZX,G⟩=A (O a1 l1 c1):=⟨HX.I,HC.I⟩;have q3:ZX<al:=U;refine bR hS [0,2,3,4,5,6,7] (λ_ h=>aw (bE h.1) (aw h.1 h.2)) ?_;have RDd:=V (RD.I.below (below_drewN w1 1));have REd:=V (RE.I.below (below_drewN w1 1));have ju:=V (show ay w w w1.drew from HB.I.step (below_drewN w1 1));have iK:w1.drew.heap.size=w.heap.size+1:=iK;have hS:w1.drew.heap[w.heap.size]? =A (bQ 7 I k s aG (ZX:Int) fz)/\w1.drew ⟨ab,ao+ZX,G⟩=A (O a1 l1 c1):=hS;obtain⟨i0,hi,cF,cG,cB⟩:=fB aeC;refine bL 1 λK hK=> ?_;refine step_append_lies _ cJ _ _ _ cJ w.heap.size 3 i0 _ 1 8 underlying55 hi cF cG cB rfl U (O G 0 0) 0 [] cJ (gP _ _ _ _) ⟨db,fK,G⟩ dl dc (d.map (Y Z)) cJ (by rw[ib,oN.I,lA]) (λj u hu=>aeD RDd.I j u hu) Q35 U Q2V U ju.I.size _ rfl ?_;intro g1 c7 w7 cC bM cN ei;have fT:w7.ownsRow w.heap.size 3 1 (O g1 dl c7) dl (d.map (Y Z)):=by simpa using cC
 have nk:=(fT.lt g1 rfl).1;obtain⟨pa,pc,e,dY⟩:=ai.nJ fT RD.I.wf U
 cases e;have k7:=ar.grown (S:=λ_=>False) (ar.cP _ _ w1.drew) bM (bu _) (λb h=>Q38);have dR:=Below.gh ju.I k7 (λb h=>⟨U,id⟩);have bb:ay w1.drew.heap.size w1.drew w7:=Below.gh (eG _ w1.drew) k7 (λb h=>⟨h,id⟩);have G5:=aw (bV hS.1 bb) (bb.cell_of hS.2);have HF:=V (aw dY (aw nk dR));have SM:=V (aeA (A ⟨db,fK,G⟩) dl dc d a1 l1 c1 _ w7 (RDd.I.below bb) (REd.I.below bb));clear cC bM cN ei fT dY nk bb hS;refine cY hK G5 8 λK hK=> ?_;go_simp;refine SM.I.mono ?_;rintro e' w8 ⟨rfl,q,rfl⟩;have xS:=aw (bV G5.1 (below_drewN w7 q)) ((below_drewN w7 q).cell_of G5.2);have HG:=V (aw (HF.I.1.below (below_drewN w7 q)) (aw HF.I.2.1 (HF.I.2.2.step (below_drewN w7 q))));generalize w7.drewN q=w9 at*;generalize decide (d=u)=bq at*;refine bB hK xS ?_;refine cQ xS [9,10] (bW ?_);go_wp2_with fail;refine aZ (v:=aL #[O g1 dl c7,aK bq]) Q41 rfl ⟨_,dl,c7,d,_,rfl,HG.I.1,λy hy=>by cases hy;exact HG.I.2.1,HG.I.2.2⟩
theorem apf (x:Lay) (n:Int) (d:ah) (da:aC) (dl dc:Nat) (aa:aC) (al ac:Nat) (DS:List (List Int)) (ok:Nat->Prop) (w:H) (hd:ai Z w da dl d) (h1:1<=dl) (h4:dl<=4) (hx:x.aH n=true) (ha:cH rO 1 ok w aa al DS) (hf:x.aB=7->0<=x.aJ/\x.aJ<(al:Int)) (ho:x.aB=1\/x.aB=2->(cX Z x.I).wf=true):
 aA aq 91 #[aF x.cells,O da dl dc,O aa al ac] w (sU w):=by
 obtain⟨aB,I,k,s,aG,aJ,fz⟩:=x;have hk:aB=1\/aB=2\/aB=3\/aB=4\/aB=5\/aB=6\/aB=7:=by
  unfold Lay.aH at hx;dsimp only at hx
  split at hx
  .omega
  split at hx
  .omega
  split at hx
  .omega
  split at hx
  .omega
  split at hx
  .omega
  .cases hx
 rcases hk with rfl|rfl|rfl|rfl|rfl|rfl|rfl
 .exact ap8 I k s aG aJ fz d da dl dc aa al ac w hd h1 h4 (ho (aM rfl))
 .exact ap9 I k s aG aJ fz d da dl dc aa al ac w hd h1 h4 (ho (bJ rfl))
 .exact apa I k s aG aJ fz d da dl dc aa al ac w hd h1 h4
 .exact apb I k s aG aJ fz d da dl dc aa al ac w hd h1 h4
 .exact apd I k s aG aJ fz d da dl dc aa al ac w hd h1 h4
 .exact apc I k s aG aJ fz d da dl dc aa al ac w hd h1 h4
 .exact ape I k s aG aJ fz d da dl dc aa al ac DS ok w hd h1 h4 ha (hf rfl)
def apg (m:Mod) (w:H) (e:dN) (w':H):Prop:=∃a l c n r,e=bG (aL #[O a l c,Y Z n,Y Z r])/\ay w w w'/\(r=0->m.aH=true/\∃DS,cH rO 1 (λb=>w.heap.size<=b) w' a l DS/\DS.length=m.L.length+1/\∀D∈DS,1<=D.length/\D.length<=4)
theorem gy.Nt {ZU:(Nat->Prop)->H->Array aj->α->Prop} {T:dy} {B:Nat} {P:Nat->Prop} {L:List α} (h:gy ZU sz T B P w v L CS) (C:Carry ZU sz) (w':H) (hb:ay w w w'):gy ZU sz T B P w' v L CS:=
 h.move C (ar.cZ (S:=λ_=>False) hb) (λb e=>⟨(h.2.2.lt b e).2,id⟩) (λb hb _ ho=>⟨hb,id,ho⟩)
theorem YB (m:Mod) (ok:Nat->Prop) (xa:aC) (xl xm:Nat) (w:H) (h:cH iM 7 ok w xa xl m.L):aA aq 34 #[aF (m.cells xa xl xm)] w (apg m w):=by
 have KB:=V (aE.fg w (ag (m.cells xa xl xm) 25));have MM:=V (ap6 m ok xa xl xm _ (h.below gL U KB.F.2));have HX:=V (h.bt gL U);have f0:=eQ KB.F.1;have HL:=V h.1;have hl:=h.2.1;clear h;by_cases hm:m.aH=true
 case neg=>
  have m6:m.aH=ae:=Q4Z;rw[m6]at MM;clear hm m6;go_enter func34,ntmps34;go_wp2_with fail;refine bY MM.I λw2 hb=> ?_;have K2:=KB.bU hb;clear hb KB MM;go_wp2_with fail;refine aZ (v:=aL #[O G 0 0,Y Z 0,Y Z 1]) Q4s rfl ⟨_,_,_,_,_,rfl,K2.F.2,λh=>Q38⟩
 rw[hm]at MM;obtain⟨Vi,Vj,Vk,Vl,Vm,Vn,BG,BH,mf⟩:=Mod.nT hm;have BJ:=V mf;have yQ:=V hm;rw[HL.I]at BG BH;clear hm mf;go_enter func34,ntmps34;go_wp2_with fail;refine bY MM.I λw2 hb=> ?_;have K2:=KB.bU hb;clear hb MM;have f0:=eQ K2.F.1;have Pw:=V (ai.new w2 Z 3 (0,0) [m.a,m.b,m.c] (λz hz=>by
  simp only[jy,mj,or_false]at hz;rcases hz with rfl|rfl|rfl<;>exact gF U U) bK)
 have K3:=V ((K2.I.alloc (ag #[Y Z m.a,Y Z m.b,Y Z m.c] 3)).alloc (ag #[O w2 3 3] 55));obtain⟨B,hB⟩:=J (w2.heap.size+1);have LD:w.heap.size<B:=E (bH K2.F.1);have uj:=V (show gy rO 1 55 B (λb=>w.heap.size<=b) (li (li w2 (ag #[Y Z m.a,Y Z m.b,Y Z m.c] 3)) (ag #[O w2 3 3] 55)) (O B 1 1) [[m.a,m.b,m.c]] [#[O w2 3 3]]from
  ⟨rfl,λi x hx=>by
   obtain rfl:i=0:=by
    have:=(fX.1 hx).1;simpa using this
   obtain rfl: [m.a,m.b,m.c]=x:=by simpa using hx
   exact⟨_,rfl,_,_,_,rfl,Pw.I.below (aD _ _),λy hy _=>by
    cases hy;exact⟨λe=>by
     have e:A B=A w2.heap.size:=e;injection e with e;omega,by have:=bH K2.F.1;show w.heap.size<=w2;omega⟩⟩,
  ⟨rfl,bJ ⟨B,1,#[O w2 3 3],rfl,bu _,by rw[<-hB];have:=bZ (li w2 (ag #[Y Z m.a,Y Z m.b,Y Z m.c] 3)) (ag #[O w2 3 3] 55);rwa[bF]at this,bu _,Q3h,rfl,rfl⟩⟩⟩)
 go_upto_region 4 with fail;clear hB;generalize li (li w2 (ag #[Y Z m.a,Y Z m.b,Y Z m.c] 3)) (ag #[O w2 3 3] 55)=w3 at*;have f0:=eQ K3.F.1;go_wp2_with fail;go_loopw [27,5,6,7,8,9] (λi vl _ _ _ _ wr=>∃(k:Nat) (v:aj) (l:List (List Int)) (CS:List (Array aj)),k<=xl/\i=Y Z k/\v=vl/\gy rO 1 55 B (λb=>w.heap.size<=b) wr v l CS/\(∀d∈l,1<=d.length/\d.length<=4)/\l.length=k+1/\B<=wr/\ay w w wr) (λi _ _ _ _ _ _=>xl-(aX i).toNat)
 case atStart=>exact⟨0,_,_,_,cK _,rfl,rfl,uj.I,(λd hd=>by rw[pS.1 hd];simp),rfl,Nat.le_of_lt (uj.I.2.2.lt B rfl).2,K3.F.2⟩
 case round=>
  obtain⟨k,v,l,CS,hk,rfl,rfl,nS,jU,ik,nP,hb⟩:=hrel;have HM:=V nS;have HD:=V jU;have HB:=V hb;clear nS jU hb;obtain⟨va,vc,rfl,LF,iq,dh⟩:=HM.I.on lX U (n:=k+1) ik U (ok:=λb=>w.heap.size<=b) (λb hb h=>h) (λb hb h=>U);have lp:=V iq;have HVB:=V dh;have pM:=V ik;clear ik iq dh;by_cases aT:k<xl
  .obtain⟨x,hx⟩:∃x,m.L[k]? =A x:=⟨m.L[k]' Q30,Q2W⟩;obtain⟨b,off,cs,rfl,_,hE,hcs⟩:=(HX.I _ HB.I).get hx;obtain rfl:cs=x.cells:=hE;have g0:=hcs 0 (Y Z x.aB) rfl;have g1:=hcs 1 (Y Z x.I) rfl;have g2:=hcs 2 (Y Z x.k) rfl;have g3:=hcs 3 (Y Z x.s) rfl;have g4:=hcs 4 (Y Z x.aG) rfl;have g5:=hcs 5 (Y Z x.aJ) rfl;have g6:=hcs 6 (aK x.fz) rfl;simp only[eL]at g0;have gJ:=Mod.yY BJ.I hx;rw[Nat.zero_add]at gJ;have Vo:=Lay.DR gJ;have vY:=V gJ;obtain⟨d,hd⟩:∃d,l[k]? =A d:=⟨l[k]'(by rw[pM.I];omega),Q2W⟩;have hdd:=HD.I d (nB hd);have pK:=V (HB.I.step (aD wr (ag x.cells 102)));have DT:=V (lp.I.below lX U (aD wr (ag x.cells 102)));obtain⟨lb,lo,lcs,rfl,_,⟨da,dl,dc,rfl,hdr⟩,aeE⟩:=DT.I.get hd;have HDR:=V hdr.1;have jU:=hdr.1.bA;have kU:=aeE 0 (O da dl dc) rfl;simp only[lA,eL]at kU;have qQ:=V (bZ wr (ag x.cells 102));have HG:=V (λw' hb=>apf x (k:Int) d da dl dc (A ⟨lb,lo,G⟩) (k+1) vc l (λb=>w.heap.size<=b) w' (HDR.I.below hb) U U vY.I (DT.I.below lX U hb) (λh7=>E (Lay.LB vY.I h7 U U)) (λ_=>gF U U));have HC:=V kU;dsimp only[Lay.cells]at HG pK DT qQ HC
   have i9:(k:Int)<(k:Int)+1:=U;clear hx hcs gJ hd hdr aeE kU;go_wp2_with fail;obtain⟨xo,m7⟩:=J wr.heap.size;rw[m7]at qQ⊢;have yW:=V (HM.I.Nt lX);have du:=aD wr (bQ x.aB x.I x.k x.s x.aG x.aJ x.fz);have mK:=V (yW.I _ du);have iK:(li wr (bQ x.aB x.I x.k x.s x.aG x.aJ x.fz)).heap.size=xo+1:=by rw[bF,m7]
   clear g0 lp HB;generalize li wr (bQ x.aB x.I x.k x.s x.aG x.aJ x.fz)=w5 at*;refine cS (λw':H=>w'.heap[xo]? =A (bQ x.aB x.I x.k x.s x.aG x.aJ x.fz)/\w' ⟨lb,lo+k,G⟩=A (O da dl dc)) ?_;have hS:w5.drew.heap[xo]? =A (bQ x.aB x.I x.k x.s x.aG x.aJ x.fz)/\w5.drew ⟨lb,lo+k,G⟩=A (O da dl dc):=⟨qQ.I,HC.I⟩;refine bR hS [0,1,2,5,3,4] (λ_ h=>aw (bE h.1) (aw h.1 h.2)) (bL 6 λK hK=> ?_);go_simp;refine(HG.I w5.drew (below_drewN w5 1)).mono ?_;rintro e w6 ⟨pa,pl,pc,D,bq,rfl,hr,qA,hb⟩;have cO:=(below_drewN w5 1).step hb;have HR:=V hr;have uI:=V (λy hy=>(qA y hy:w5.drew.heap.size<=y.block));have py:=aw (bV qQ.I cO) (cO.cell_of HC.I);have eW:=V (pK.I.step cO);have Cx:=V (mK.I.Nt lX _ cO);have m9:xo+1<=w6.heap.size:=E cO.size;clear hb hr qA hS HG pK DT HC qQ;refine bB hK py ?_;refine cQ py [7,8,9,10,11] (bW ?_);have i3:Z.wrap ((k:Int)+1)=(k:Int)+1:=dv _ U
   cases bq
   .go_wp2_with fail;refine aZ (v:=aL #[O G 0 0,Y Z ((k:Int)+1),Y Z 2]) Q4s rfl ⟨_,_,_,_,_,rfl,eW.I,λh=>Q38⟩
   have MD:=V (Ns pa pl pc D w6 HR.I);have vA:decide (0<Sh.size D)=true\/decide (0<Sh.size D)=ae:=by cases decide (0<Sh.size D)<;>simp
   rcases vA with vA|vA
   case inr=>
    rw[vA]at MD;go_wp2_with fail;refine cq MD.I ?_;go_wp2_with fail;refine aZ (v:=aL #[O G 0 0,Y Z ((k:Int)+1),Y Z 1]) Q4s rfl ⟨_,_,_,_,_,rfl,eW.I,λh=>Q38⟩
   rw[vA]at MD;have aeF:=V (Sh.iA (eZ vA));clear vA;have kg:=V (show w6.ownsRow B 55 1 (O (A ⟨lb,lo,G⟩) (k+1) vc) (k+1) (CS.flatMap jf)from pM.I▸Cx.I.2.2);have BK:=V (show rO (qt (λb=>w.heap.size<=b) (O (A ⟨lb,lo,G⟩) (k+1) vc)) w6 #[O pa pl pc] D from⟨_,_,_,rfl,HR.I,λy hy _=>by
    have h1:=uI.I y hy;have h1:w5.heap.size<=y.block:=h1;exact⟨λe=>by
     have:=(HVB.I _ rfl).2;have e:A lb=A y.block:=e;injection e with e;have this:lb<wr:=this;omega,by show w.heap.size<=y.block;omega⟩⟩)
   have aph:B<=w6:=U;obtain⟨i0,hi,cF,cG,cB⟩:=fB LC;go_wp2_with fail;refine cq MD.I ?_;go_wp2_with (at_builtin;refine ko _ rfl _ _ 95 rfl B 55 i0 (O G 0 0) 1 24 underlying95 hi cF cG cB rfl eM (O (A ⟨lb,lo,G⟩) (k+1) vc) (k+1) (CS.flatMap jf) rfl (kg.I.alloc _) ⟨w6,0,G⟩ 1 1 [O pa pl pc] rfl rfl ?c1 ?c2 ?c3 ?c4 ?c5 ?c6 ?_)
   try(case c1=>exact kJ w6 _ _)
   try(case c2=>simp[fV])
   try(case c3=>unfold eS;omega)
   try(case c4=>omega)
   try(case c5=>(try simp only[bF]);omega)
   try(case c6=>omega)
   intro g1 c1 w7 cC bM cN ei fC;have uD:=V (gy.app lX Cx.I BK.I (n:=k+2) (E pM.I) cC bM Q3B);have kP:=V (Below.gh eW.I (App.slot (B:=B) aph (λb h=>(kg.I.lt b h).1) bM (λ_=>False)) (λb h=>⟨U,id⟩));clear cC bM cN;go_wp2_with fail;go_roundw
   case rel=>exact⟨k+1,_,_,_,U,Q2T,rfl,uD.I,(λd hd=>by
    rcases List.mem_append.1 hd with hd|hd
    .exact HD.I d hd
    .rw[pS.1 hd];exact⟨aeF.I.l1,aeF.I.l4⟩),by rw[dG,pM.I];rfl,eH ei (Nat.le_of_lt fC),kP.I⟩
   case measure=>exact Q5q
  .obtain rfl:k=xl:=U;go_wp2_with fail;refine aZ (v:=aL #[O va (k+1) vc,Y Z 0,Y Z 0]) Q4s rfl ⟨_,_,_,_,_,rfl,HB.I,λ_=>⟨yQ.I,l,lp.I,by rw[pM.I,HL.I],HD.I⟩⟩
def AO (w:H) (e:dN) (w':H):Prop:=∃a l c D n,e=bG (aL #[O a l c,Y Z n])/\ai Z w' a l D/\l<=c/\(∀y,a=A y->w.heap.size<=y.block)/\(0<=n/\n<=4096)/\ay w w w'
theorem AO.nil (h:e=bG (aL #[O G 0 0,Y Z 0])) (hb:ay w w w'):AO w e w':=⟨G,0,0,[],0,h,ai.zero _ _ _,bu _,λ_ h=>Q38,U,hb⟩
theorem apj (I k s aG aJ:Int) (fz:Bool) (d:ah) (da:aC) (dl dc:Nat) (w:H) (hd:ai Z w da dl d) (h1:1<=dl) (ho:0<=I/\I<=4096):aA aq 93 #[aF (Lay.cells ⟨1,I,k,s,aG,aJ,fz⟩),O da dl dc] w (AO w):=by
 have K1:=V (aE.fg w (bQ 1 I k s aG aJ fz));have f0:=bE K1.F.1;have fO:=hd.below K1.F.2;obtain⟨db,fK,rfl,e0⟩:=fO.cells U;have sY:(cX Z (d.getD 0 0)).wf=true:=hd.wf _ Q4k;have c0:=e0 0 U;generalize d.getD 0 0=d0 at*;have HC:=V c0;have HX:=V K1.F.1;have HB:=V K1.F.2;have kM:0<dl:=U;clear fO hd;unfold Lay.cells;go_enter func93,ntmps93;go_upto_region 3 with fail;have iK:(li w (bQ 1 I k s aG aJ fz)).heap.size=w.heap.size+1:=bF _ _;generalize li w (bQ 1 I k s aG aJ fz)=w1 at*;refine cS (λw':H=>w'.heap[w.heap.size]? =A (bQ 1 I k s aG aJ fz)/\w' ⟨db,fK+0,G⟩=A (Y Z d0)) ?_;have hS:w1.drew.heap[w.heap.size]? =A (bQ 1 I k s aG aJ fz)/\w1.drew ⟨db,fK+0,G⟩=A (Y Z d0):=⟨HX.I,HC.I⟩;refine Lt.takes Q2U hS [0,2,6,1,3,7,4] kr rfl ?_;repeat(first|((refine Lt.more (v:= ?_) rfl (aM ⟨Q3u,?_⟩) ?_;rotate_left;(intro w' hw';obtain⟨b0,s7⟩:=hw';rw[eL]at s7;obtain⟨s0,s1,s2,s3,s4,s5,s6⟩:=bE b0;go_simp;try with_reducible rfl);try simp only[eR,dC,dD,dE]))|((refine Lt.more (v:=undef) rfl (bJ ⟨Q3u,rfl⟩) ?_;try simp only[eR,dC,dD,dE])))
 refine Lt.done ?_;have ju:=V (show ay w w w1.drew from HB.I.step (below_drewN w1 1));have ja:w1.drew.heap.size=w.heap.size+1:=iK;have hS:w1.drew.heap[w.heap.size]? =A (bQ 1 I k s aG aJ fz)/\w1.drew ⟨db,fK+0,G⟩=A (Y Z d0):=hS;generalize w1.drew=w2 at*;refine bL 5 λK hK=> ?_;go_simp;have HR:=V (ai.new w2 Z 3 (0,0) [I,d0] (λy hy=>by
  simp only[jy,mj,or_false]at hy;rcases hy with rfl|rfl
  .exact gF U U
  .exact sY
  ) bK)
 have gN:=aD w2 (ag #[Y Z I,Y Z d0] 3);have gV:=V (ju.I.step gN);have fM:=aw (bV hS.1 gN) (gN.cell_of hS.2);clear hS gN;refine bB hK fM ?_;refine cQ fM [8,9] (bW ?_);go_wp2_with fail;refine aZ (v:=aL #[O w2 2 2,Y Z I]) (by simp[aW,results93]) rfl ⟨_,2,2,[I,d0],_,rfl,HR.I,bu _,λy hy=>Q3D,ho,gV.I⟩
theorem apk (I k s aG aJ:Int) (fz:Bool) (d:ah) (da:aC) (dl dc:Nat) (w:H) (hd:ai Z w da dl d) (h1:1<=dl) (ho:0<=I/\I<=4096) (hk:(cX Z k).wf=true):aA aq 93 #[aF (Lay.cells ⟨2,I,k,s,aG,aJ,fz⟩),O da dl dc] w (AO w):=by
 have K1:=V (aE.fg w (bQ 2 I k s aG aJ fz));have f0:=bE K1.F.1;have fO:=hd.below K1.F.2;obtain⟨db,fK,rfl,e0⟩:=fO.cells U;have sY:(cX Z (d.getD 0 0)).wf=true:=hd.wf _ Q4k;have c0:=e0 0 U;generalize d.getD 0 0=d0 at*;have HC:=V c0;have HX:=V K1.F.1;have HB:=V K1.F.2;have kM:0<dl:=U;clear fO hd;unfold Lay.cells;go_enter func93,ntmps93;go_upto_region 5 with fail;have iK:(li w (bQ 2 I k s aG aJ fz)).heap.size=w.heap.size+1:=bF _ _;generalize li w (bQ 2 I k s aG aJ fz)=w1 at*;refine cS (λw':H=>w'.heap[w.heap.size]? =A (bQ 2 I k s aG aJ fz)/\w' ⟨db,fK+0,G⟩=A (Y Z d0)) ?_;have hS:w1.drew.heap[w.heap.size]? =A (bQ 2 I k s aG aJ fz)/\w1.drew ⟨db,fK+0,G⟩=A (Y Z d0):=⟨HX.I,HC.I⟩;refine Lt.takes Q2U hS [0,2,5,7,10,1,3,6,8,11,4] kr rfl ?_;repeat(first|((refine Lt.more (v:= ?_) rfl (aM ⟨Q3u,?_⟩) ?_;rotate_left;(intro w' hw';obtain⟨b0,s7⟩:=hw';rw[eL]at s7;obtain⟨s0,s1,s2,s3,s4,s5,s6⟩:=bE b0;go_simp;try with_reducible rfl);try simp only[eR,dC,dD,dE]))|((refine Lt.more (v:=undef) rfl (bJ ⟨Q3u,rfl⟩) ?_;try simp only[eR,dC,dD,dE])))
 refine Lt.done ?_;have ju:=V (show ay w w w1.drew from HB.I.step (below_drewN w1 1));have ja:w1.drew.heap.size=w.heap.size+1:=iK;have hS:w1.drew.heap[w.heap.size]? =A (bQ 2 I k s aG aJ fz)/\w1.drew ⟨db,fK+0,G⟩=A (Y Z d0):=hS;generalize w1.drew=w2 at*;refine bL 9 λK hK=> ?_;go_simp;have HR:=V (ai.new w2 Z 3 (0,0) [I,d0,k,k] (λy hy=>by
  simp only[jy,mj,or_false]at hy;rcases hy with rfl|rfl|rfl|rfl
  .exact gF U U
  .exact sY
  .exact hk
  .exact hk
  ) bK)
 have gN:=aD w2 (mr I d0 k k);have gV:=V (ju.I.step gN);have fM:=aw (bV hS.1 gN) (gN.cell_of hS.2);clear hS gN;refine bB hK fM ?_;refine cQ fM [12,13] (bW ?_);go_wp2_with fail;refine aZ (v:=aL #[O w2 4 4,Y Z I]) (by simp[aW,results93]) rfl ⟨_,4,4,[I,d0,k,k],_,rfl,HR.I,bu _,λy hy=>Q3D,ho,gV.I⟩
theorem apl (x:Lay) (da:aC) (dl dc:Nat) (w:H) (h1:x.aB≠1) (h2:x.aB≠2):aA aq 93 #[aF x.cells,O da dl dc] w (AO w):=by
 obtain⟨aB,I,k,s,aG,aJ,fz⟩:=x;have e1:(aB==1)=ae:=Q51;have e2:(aB==2)=ae:=by simpa using h2
 have K1:=V (aE.fg w (bQ aB I k s aG aJ fz));have f0:=bE K1.F.1;unfold Lay.cells;go_enter func93,ntmps93;go_wp2_with fail;exact aZ (v:=aL #[O G 0 0,Y Z 0]) (by simp[aW,results93]) rfl (AO.nil rfl K1.F.2)
theorem aeG (x:Lay) (n:Int) (d:ah) (da:aC) (dl dc:Nat) (w:H) (hx:x.aH n=true) (hd:ai Z w da dl d) (h1:1<=dl):aA aq 93 #[aF x.cells,O da dl dc] w (AO w):=by
 by_cases k1:x.aB=1
 .obtain⟨aB,I,k,s,aG,aJ,fz⟩:=x;obtain rfl:aB=1:=k1;exact apj I k s aG aJ fz d da dl dc w hd h1 (Lay.DR hx)
 by_cases k2:x.aB=2
 .obtain⟨aB,I,k,s,aG,aJ,fz⟩:=x;obtain rfl:aB=2:=k2;exact apk I k s aG aJ fz d da dl dc w hd h1 (Lay.DR hx) (by
   unfold Lay.aH Lay.xt ZX.within at hx;simp at hx;exact gF U U)
 .exact apl x da dl dc w k1 k2
theorem aeH (x:Int) (w:H) (h:P.Z4 x):aA aq 159 #[Y cD x] w λe w'=>e=bG (Y cD (P.mix x))/\w=w':=by
 obtain⟨h0,h1⟩:=h;go_enter func159,ntmps159;exact Q0d
theorem apq (a b c:Int) (w:H) (h1:P.Z4 a) (h2:P.Z4 b) (h3:P.Z4 c):aA aq 158 #[Y cD a,Y cD b,Y cD c] w λe w'=>e=bG (Y cD (P.atq a b c))/\w=w':=by
 have H1:=V h1;obtain⟨a0,a1⟩:=h1;obtain⟨b0,b1⟩:=h2;obtain⟨c0,c1⟩:=h3;have M:=V aeH;go_enter func158,ntmps158;go_wp2_with (go_at_call 159;refine(M.I _ _ (by first|exact H1.I|exact P.TI _ _)).mono ?_;rintro e w' ⟨rfl,rfl⟩)
 go_ret;exact⟨rfl,rfl⟩
theorem apr (a b c:Int) (w:H) (h1:P.Z4 a) (h2:P.Z4 b) (h3:P.Z4 c):aA aq 94 #[Y cD a,Y cD b,Y cD c,Y Z 63] w λe w'=>(∃z,e=bG (Y Z z))/\w'=w:=by
 have AT:=V (λw=>apq a b c w h1 h2 h3);have M:=V aeH;have HU:=V (P.Oy a b c);generalize P.atq a b c=x at*;go_enter func94,ntmps94;go_wp2_with fail;refine cq (AT.I _) ?_;go_wp2_with fail;go_loopw [28,10] (λi v wr=>∃(k:Nat) (y:Int),k<=100/\i=Y Z k/\v=Y cD y/\P.Z4 y/\wr=w) (λi _ _=>100-(aX i).toNat)
 case atStart=>exact⟨0,_,U,rfl,rfl,HU.I,rfl⟩
 case round=>
  obtain⟨k,y,hk,rfl,rfl,hy,rfl⟩:=hrel;have HY:=V hy;obtain⟨y0,y1⟩:=hy;by_cases aT:k<100
  .have i1:(k:Int)<100:=U;by_cases h16:16<=y
   .go_wp2_with fail;exact aZ (v:=Y Z (y%63)) (by simp[aW,results94]) rfl ⟨⟨_,rfl⟩,rfl⟩
   .go_wp2_with fail;refine cq (M.I _ _ HY.I) ?_;go_wp2_with fail;go_roundw
    case rel=>exact⟨k+1,_,U,Q2T,rfl,P.Ox y,Q4L⟩
    case measure=>exact Q5q
  .obtain rfl:k=100:=U;go_wp2_with fail;exact aZ (v:=Y Z 0) (by simp[aW,results94]) rfl ⟨⟨_,rfl⟩,rfl⟩
theorem aps (m:Mod) (ok:Nat->Prop) (xa:aC) (xl xm:Nat) (i:Nat) (w:H) (h:cH iM 7 ok w xa xl m.L) (h1:1<=i) (h2:i<=xl):aA aq 35 #[aF (m.cells xa xl xm),Y Z i] w (AO w):=by
 have KB:=V (aE.fg w (ag (m.cells xa xl xm) 25));have SH:=V (YB m ok xa xl xm _ (h.below gL U KB.F.2));have HX:=V (h.bt gL U);have f0:=eQ KB.F.1;have HL:=V h.1;have hl:=h.2.1;have j1:¬(i:Int)<1:=U;have j2:¬(xl:Int)<(i:Int):=U;have j3:Z.wrap ((i:Int)-1)=((i-1:Nat):Int):=Q3l;clear h;go_enter func35,ntmps35;go_wp2_with fail;refine SH.I.mono ?_;rintro e w2 ⟨a,l,c,n,r,rfl,hb,hr⟩;have K2:=KB.bU hb;have HR:=V hr;have gR:=KB.F.2;have vK:=V (gR.step hb);have iK:w.heap.size<=(li w (ag (m.cells xa xl xm) 25)).heap.size:=gR.size;clear hb hr;have f0:=eQ K2.F.1;by_cases jl:r=0
 case neg=>
  have e1:(r != 0)=true:=Q4X;go_wp2_with fail;exact aZ (v:=aL #[O G 0 0,Y Z 0]) (by simp[aW,results35]) rfl (AO.nil rfl K2.F.2)
 subst jl;obtain⟨uZ,DS,iq,iB,oX⟩:=HR.I rfl;obtain⟨N,rfl⟩:∃N,i=N+1:=⟨i-1,U⟩;rw[Nat.add_sub_cancel]at j3;obtain⟨x,hx⟩:∃x,m.L[N]? =A x:=⟨m.L[N]'(by rw[HL.I];omega),Q2W⟩;obtain⟨D,hD⟩:∃D,DS[N]? =A D:=⟨DS[N]'(by rw[iB,HL.I];omega),Q2W⟩;have gJ:=Mod.yY (Mod.nT uZ).2.2.2.2.2.2.2.2 hx;obtain⟨lb,lo,cs,rfl,_,hE,hcs⟩:=(HX.I _ K2.F.2).get hx;obtain rfl:cs=x.cells:=hE;obtain⟨ab,ao,cs2,rfl,_,⟨da,dl,dc,rfl,hdr⟩,EF⟩:=iq.get hD;have jU:=oX D (nB hD);have ati:=hdr.1.bA;have HS:=V (show w2.heap[w.heap.size]? =A (mG m.a m.b m.c (A ⟨lb,lo,G⟩) xl xm)/\w2 ⟨lb,lo+N*7+0,G⟩=A (Y Z x.aB)/\w2 ⟨lb,lo+N*7+1,G⟩=A (Y Z x.I)/\w2 ⟨lb,lo+N*7+2,G⟩=A (Y Z x.k)/\w2 ⟨lb,lo+N*7+3,G⟩=A (Y Z x.s)/\w2 ⟨lb,lo+N*7+4,G⟩=A (Y Z x.aG)/\w2 ⟨lb,lo+N*7+5,G⟩=A (Y Z x.aJ)/\w2 ⟨lb,lo+N*7+6,G⟩=A (aK x.fz)/\w2 ⟨ab,ao+N,G⟩=A (O da dl dc)from
  ⟨K2.F.1,hcs 0 _ rfl,hcs 1 _ rfl,hcs 2 _ rfl,hcs 3 _ rfl,hcs 4 _ rfl,hcs 5 _ rfl,hcs 6 _ rfl,Q4e⟩)
 have DM:=V (λw' hb=>aeG x _ D da dl dc w' gJ (hdr.1.below hb) U);have vO:N<l:=by have:=iq.1;have:=HL.I;omega
 have i1:(N:Int)<(xl:Int):=U;have i2:(N:Int)<(l:Int):=U;have j4:Z.wrap ((N:Int)+1-1)=(N:Int):=Q3l;have j5:Z.wrap (N:Int)=(N:Int):=dv _ U;clear hx hD uZ gJ hcs EF hdr iq oX j3;go_upto_region 4 with fail;refine cS (λw':H=>w'.heap[w.heap.size]? =A (mG m.a m.b m.c (A ⟨lb,lo,G⟩) xl xm)/\w' ⟨lb,lo+N*7+0,G⟩=A (Y Z x.aB)/\w' ⟨lb,lo+N*7+1,G⟩=A (Y Z x.I)/\w' ⟨lb,lo+N*7+2,G⟩=A (Y Z x.k)/\w' ⟨lb,lo+N*7+3,G⟩=A (Y Z x.s)/\w' ⟨lb,lo+N*7+4,G⟩=A (Y Z x.aG)/\w' ⟨lb,lo+N*7+5,G⟩=A (Y Z x.aJ)/\w' ⟨lb,lo+N*7+6,G⟩=A (aK x.fz)/\w' ⟨ab,ao+N,G⟩=A (O da dl dc)) (eE HS.I λhS=> ?_);refine Lt.takes Q2U hS [0,2,6,7,1,3,8,4,9,5,10] kr rfl ?_;repeat(first|((refine Lt.more (v:= ?_) rfl (aM ⟨Q3u,?_⟩) ?_;rotate_left;(intro w' hw';obtain⟨b0,t0,t1,t2,t3,t4,t5,t6,t7⟩:=hw';obtain⟨s0,s1,s2,s3⟩:=eQ b0;simp only[eL]at t0;go_simp;try with_reducible rfl);try simp only[eR,dC,dD,dE]))|((refine Lt.more (v:=undef) rfl (bJ ⟨Q3u,rfl⟩) ?_;try simp only[eR,dC,dD,dE])))
 refine Lt.done ?_;refine bL 11 λK hK=> ?_;go_simp;refine(DM.I _ (below_drewN w2 1)).mono ?_;rintro e' w3 ⟨pa,pl,pc,W,q,rfl,hr,pJ,qA,hq,hb⟩;have HR:=V hr;have uI:=V (λy hy=>(qA y hy:w2.drew.heap.size<=y.block));have eg:=(below_drewN w2 1).step hb;have gV:=V (vK.I.step eg);have fM:(λw':H=>w'.heap[w.heap.size]? =A (mG m.a m.b m.c (A ⟨lb,lo,G⟩) xl xm)/\w' ⟨lb,lo+N*7+0,G⟩=A (Y Z x.aB)/\w' ⟨lb,lo+N*7+1,G⟩=A (Y Z x.I)/\w' ⟨lb,lo+N*7+2,G⟩=A (Y Z x.k)/\w' ⟨lb,lo+N*7+3,G⟩=A (Y Z x.s)/\w' ⟨lb,lo+N*7+4,G⟩=A (Y Z x.aG)/\w' ⟨lb,lo+N*7+5,G⟩=A (Y Z x.aJ)/\w' ⟨lb,lo+N*7+6,G⟩=A (aK x.fz)/\w' ⟨ab,ao+N,G⟩=A (O da dl dc)) w3:=⟨bV HS.I.1 eg,eg.cell_of HS.I.2.1,eg.cell_of HS.I.2.2.1,eg.cell_of HS.I.2.2.2.1,eg.cell_of HS.I.2.2.2.2.1,eg.cell_of HS.I.2.2.2.2.2.1,eg.cell_of HS.I.2.2.2.2.2.2.1,eg.cell_of HS.I.2.2.2.2.2.2.2.1,eg.cell_of HS.I.2.2.2.2.2.2.2.2⟩;clear hr qA hS;refine bB hK fM ?_;refine cQ fM [12,13,14,15,16] (bW ?_);have MD:=V (Ns pa pl pc W w3 HR.I);generalize decide (0<Sh.size W)=bb at*;have wh:w.heap.size<=w2:=vK.I.size;have apt:=V (λy hy=>(eH wh (uI.I y hy):w.heap.size<=y.block));go_wp2_with fail;refine cq MD.I ?_
 cases bb
 .go_wp2_with fail;exact aZ (v:=aL #[O G 0 0,Y Z 0]) (by simp[aW,results35]) rfl (AO.nil rfl gV.I)
 .go_wp2_with fail;exact aZ (v:=aL #[O pa pl pc,Y Z q]) (by simp[aW,results35]) rfl ⟨_,_,_,_,_,rfl,HR.I,pJ,apt.I,hq,gV.I⟩
end
theorem D.four {t:az} (h:T.aH t.d t.e t.z) (hl:(t.d.length:Int)=4):∃n c p q:Nat,t.d=[(n:Int),(c:Int),(p:Int),(q:Int)]/\1<=n/\1<=c/\1<=p/\1<=q/\n<=4096/\c<=4096/\p<=4096/\q<=4096/\n*(c*(p*q))=t.z.length/\n*(c*(p*q))<=8192/\(-64<=t.e/\t.e<=64):=by
 obtain⟨d,e,z⟩:=t;obtain⟨h0,h1,h2,_⟩:=h;simp only at h0 h1 h2 hl⊢
 match d,hl with
 | [a,b,x,y],_=>
   have my:=Sh.iA h0;have e:=my.eq;have l:=my.le;have g0:=my.get (k:=0) bK;have g1:=my.get (k:=1) bK;have g2:=my.get (k:=2) bK;have g3:=my.get (k:=3) bK;simp at g0 g1 g2 g3;rw[show Sh.prod [a,b,x,y]=a*(b*(x*(y*1)))from rfl,Int.mul_one]at l e;have hp:((a.toNat*(b.toNat*(x.toNat*y.toNat)):Nat):Int)=a*(b*(x*y)):=by
    rw[gQ,gQ,gQ,pR U,pR U,pR U,pR U]
   refine⟨a.toNat,b.toNat,x.toNat,y.toNat,?_,U,U,U,U,U,U,U,U,?_,?_,h2⟩
   .rw[pR U,pR U,pR U,pR U]
   .have:((a.toNat*(b.toNat*(x.toNat*y.toNat)):Nat):Int)=z.length:=by rw[hp,h1,e]
    omega
   .have:((a.toNat*(b.toNat*(x.toNat*y.toNat)):Nat):Int)<=8192:=by rw[hp];exact l
    omega
theorem acV {rows aU r c k s p:Int} (h:t∈jc rows aU r c k s p):0<=t.1 /\t.1 <rows*aU/\0<=t.2.1 /\t.2.1 <k/\0<=t.2.2 /\t.2.2 <k:=by
 unfold jc at h;split at h
 .rename_i fY;obtain⟨b1,b2,b3,b4,b5,b6,b7,b8,b9⟩:=oy fY.1;obtain⟨i,j,hi,hj,h1,h2,rfl⟩:=Wn.Wq.1 h;have m1:=qG h1.1 (show 0<=aU by omega);have m2:=vv (show r*s-p+i<=rows-1 from h1.2) (show 0<=aU by omega);exact Q21
 .simp at h
theorem am4 {rows aU r c k s p:Int} (h:t∈lookW rows aU r c k s p):0<=t.1 /\t.1 <bO rows k s p*bO aU k s p/\0<=t.2.1 /\t.2.1 <k/\0<=t.2.2 /\t.2.2 <k:=by
 unfold lookW at h;split at h
 .rename_i fY;obtain⟨y,x,hy,hx,w,hw,_,rfl⟩:=Lk.Wu.1 h;unfold Am at hw;obtain⟨i,j,hi,hj,_,_,rfl⟩:=Wn.Wq.1 hw;have o1:=fY.1;have o2:=fY.2.1;generalize bO rows k s p=P at*;generalize bO aU k s p=Q at*;have m1:=qG (show(0:Int)<=y by omega) (show 0<=Q by omega);have m2:=vv (show(y:Int)<=P-1 by omega) (show 0<=Q by omega);exact Q21
 .simp at h
theorem am5 (rows aU r c k s p:Int):(lookW rows aU r c k s p).length<=10000:=by
 unfold lookW;split
 .rename_i fY;obtain⟨b1,b2,b3,b4,b5,b6,b7,b8,b9⟩:=oy fY.1;obtain⟨_,_,_,_,_,_,_,_,d9⟩:=oy fY.2.1;have h1:=Lk.Wt (Am rows aU k s p) (bO aU k s p) (r*aU+c) (λy x=>acM U y x) (bO aU k s p).toNat U (bO rows k s p).toNat;have h2:(bO rows k s p).toNat*500<=20*500:=mq U (bu _);omega
 .simp
theorem oq.WE {a:aC} {g B:Nat} {L:List (Int×Int×Int)} {z:Int} (h:oq w a n L) (kp:ar B (λb=>b=g) w w') (hB:w.heap.size<=B) (hg:w g=A (Y cr z)):oq w' a n L:=by
 obtain⟨h1,h2⟩:=h;refine⟨h1,?_⟩;by_cases hn:n=0
 .exact aM hn
 obtain⟨g',rfl,aT,hc⟩:=h2.resolve_left hn;have cI:g'≠g:=by
  rintro rfl;have:=(hc 0 U).1;rw[Nat.mul_zero,hg]at this;injection this with this
  cases this
 have jX:=kp.block g' U cI;refine bJ ⟨g',rfl,Nat.lt_of_lt_of_le aT kp.size,λj hj=> ?_⟩;have:=hc j hj;unfold World.cell? at this⊢;simp only[jX];exact this
theorem Jf {g:Nat} (e:(O g n c).ownBlock=A b):b=g:=by
 have e:A g=A b:=e;injection e with e;exact e.symm
theorem ar.drew {B:Nat} {a b:H} (h:ar B S a b):ar B S a b.drew:=⟨h.os,h.tape,h.output,h.size,h.block⟩
namespace C
theorem pr (h:a*b=c) (hc:c<=1000000):Z.wrap ((a:Int)*(b:Int))=(c:Int):=by
 rw[<-gQ,h];exact dv _ U
theorem sm (h:a+b=c) (hc:c<=1000000):Z.wrap ((a:Int)+(b:Int))=(c:Int):=by
 rw[<-Int.natCast_add,h];exact dv _ U
theorem Dv {a b:Int} (a1: -128<=a) (a2:a<=127) (b1: -128<=b) (b2:b<=127): -16384<=a*b/\a*b<=16384:=by
 have h:(a*b).natAbs<=128*128:=by rw[Int.natAbs_mul];exact mq U U
 omega
def iN (l:ah):Prop:=∀z∈l,(cX cr z).wf=true
theorem iN.Qi (n:Nat):iN (dz n 0):=λz hz=>by rw[List.eq_of_mem_replicate hz];exact Fa U U
theorem iN.set {l:ah} (h:iN l) (i:Nat) (x:Int):iN (l.set i (cr.wrap x)):=λz hz=>by
 rcases List.mem_or_eq_of_mem_set hz with hz|rfl
 .exact h z hz
 .have:=IntKind.wrap_i32 x;exact Fa U U
theorem iN.iter (h:∀l k,iN l->iN (f l k)) (hz:iN z) (n:Nat):iN (Proofs.YtcpmhoodeieanaaGreatDoor.iter f z n):=acO iN hz n λa k _ ha=>h a k ha
theorem am6 (x w b:az) (e:Int) (n jo iI I vp vq k:Nat) (f:Nat->Nat->List W) (h:iN z):iN (Jc x w b e n jo iI I vp vq k f z):=
 iN.iter (λ_ _ h=>iN.iter (λ_ _ h=>iN.iter (λ_ _ h=>iN.iter (λ_ _ h=>iN.set h _ _) h _) h _) h _) h _
theorem am7 (gz w:ah) (n I jo iI k rows aU:Nat) (f:Nat->List W) (h:iN z):iN (Jd gz w n I jo iI k rows aU f z):=
 iN.iter (λ_ _ h=>iN.iter (λ_ _ h=>iN.iter (λ_ _ h=>iN.set h _ _) h _) h _) h _
theorem am8 (gz x:ah) (n I jo iI Eb k:Nat) (f:Nat->List W) (h:iN z):iN (Je gz x n I jo iI Eb k f z):=
 iN.iter (λ_ _ h=>iN.iter (λ_ _ h=>iN.iter (λ_ _ h=>iN.iter (λ_ _ h=>iN.iter (λ_ _ h=>iN.set h _ _) h _) h _) h _) h _) h _
theorem am9 (gz:ah) (I iI n:Nat) (h:iN z):iN (Proofs.YtcpmhoodeieanaaGreatDoor.iter (Ce gz I iI) z n):=iN.iter (λ_ _ h=>iN.set h _ _) h _
structure Ix (a b c d e n:Nat) (q1 q2 q3 q4:Nat):Prop where
 e1:a*b=q1
 e2:q1+c=q2
 e3:q2*d=q3
 e4:q3+e=q4
 l1:q1<=q4
 l2:q2<=q4
 l3:q3<=q4
 lt:q4<n
theorem ix {d e m:Nat} (ha:a<m) (hc:c<b) (he:e<d) (hn:m*(b*d)=n):∃q1 q2 q3 q4,Ix a b c d e n q1 q2 q3 q4:=by
 have h1:=xL (xL ha hc) he;rw[Nat.mul_assoc,hn]at h1;have h2:a*b<=(a*b+c)*d:=eH (Nat.le_add_right _ c) (Nat.le_mul_of_pos_right _ U);have h3:a*b+c<=(a*b+c)*d:=Nat.le_mul_of_pos_right _ U;exact⟨_,_,_,_,rfl,rfl,rfl,rfl,U,U,U,h1⟩
theorem ama {t:az} (h:T.aH t.d t.e t.z) (hl:t.d.length=1) (h0:t.d.getD 0 0=(n:Int)):t.z.length=n:=by
 obtain⟨d,e,z⟩:=t;obtain⟨h1,h2,_⟩:=h;simp only at h1 h2 hl h0⊢
 match d,hl with
 | [a],_=>
   have:=(Sh.iA h1).eq;rw[show Sh.prod [a]=a*1 from rfl,Int.mul_one]at this;simp at h0;omega
end C
theorem C.Qj {n e q:Int} (hq:(C.fresh n e d).1 =q) (h:(C.fresh n e d).1 ≠0):C.fresh n e d=(q,az.zero):=by
 unfold C.fresh at hq h⊢;split at hq<;>rename_i c
 .rw[aR c];rw[<-hq]
 .rw[aI c];split at hq<;>rename_i c2
  .rw[aR c2];rw[<-hq]
  .rw[aI c,aI c2]at h;exact absurd rfl h
theorem C.Qk {n e:Int} (h:(C.fresh n e d).1 =0):D.fits n=true/\ -128<=e/\e<=128/\0<Sh.size d:=by
 unfold C.fresh at h;split at h<;>rename_i c
 .cases h
 .split at h<;>rename_i c2
  .cases h
  .have c:=Decidable.not_not.1 c;have c2:=Decidable.not_not.1 c2;exact⟨c.1,c.2.1,c.2.2,c2⟩
end Go.Proofs.YtcpmhoodeieanaaGreatDoor
