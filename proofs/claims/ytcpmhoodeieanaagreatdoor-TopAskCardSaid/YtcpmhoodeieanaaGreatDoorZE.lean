/-
  Part 5 of the proof that TopAsk answers true: laws of the functions that it calls, on any memory that holds their arguments.
-/
import Derived.Test.YtcpmhoodeieanaaGreatDoorZD
set_option maxRecDepth 100000
set_option maxHeartbeats 20000000
set_option linter.unusedVariables false
set_option linter.unusedSimpArgs false
open Go.Lib renaming hid→V
open Go.IntKind renaming i64→Z,i8→aO,i32→cr,u64→cD
open Go.Value renaming int→Y,slice→O,agg→aF,bool→aK,tuple→aL,pointer→aP
open Option renaming none→G,some→A
open Go renaming World→H,Value→aj,Calls→aA,results→aW,bodyPost_ret→aZ,lt_of_block→bH,heap_alloc_new→bZ,TypeId→dy,maxLen→eS,info_parts→fB,step_append_lies→lM
open Bool renaming false→ae,and_eq_true→fS
open Go.Obj renaming cells→ag
open Go.Proofs.Tryz renaming prog→aq
open And renaming intro→aw
open Go.RowKit renaming Below→ay,intOf→aX
open Or renaming inl→aM,inr→bJ
open Nat renaming le_refl→bu,zero_le→cK,le_trans→eH,add_zero→eL,mul_le_mul_right→nZ
open Go.World renaming size_alloc→bF
open Go.Ending renaming returned→bG
open List renaming getElem?_eq_getElem→cR,replicate→dz,setIfInBounds_toArray→dC,set_cons_zero→dD,set_cons_succ→dE,length_append→dG,getD→dV,getD_eq_getElem?_getD→gB,getElem_mem→jZ,mem_append→kE,map_append→kF,mem_map→kG,append_assoc→lL,getD_cons_zero→nC,getD_cons_succ→n7,length_cons→n8,take_of_length_le→oQ,flatMap_cons→rz,drop_eq_nil_iff→sx,take_succ_eq_append_getElem→sV
open Go.IntWalk renaming i64_in→dv
open Go.RowKit.Below renaming refl→eG
open Go.Value renaming oneCell'→fV
open Go.World renaming ownsRow_nil→gP,setCell→ss,alloc→li
open Int renaming natCast_mul→gQ,toNat_natCast→jx,toNat_of_nonneg→pR
open Go.IntKind renaming signed→nD,bits→nG,wrap_u64→pT
open Go.Region renaming wanted→n9
namespace Go.Proofs.YtcpmhoodeieanaaGreatDoor
open Go.RowKit Go.Proofs.Tryz
variable {listed:Array Bool} {w:H} {n v x:Int} {z:List ky} {j:Nat} {α:Type} {d:ah}
section
attribute [local go_sem ↓] wp_at_zero wp_at_succ
namespace T
def uz (z:ah) (s w au stream:Int):List Int:=z.mapIdx λi n=>Rd.vB (Rd.lO n s (P.atq au stream i)) w
def small (t:az) (w au stream:Int):Int×az:=
 if ¬oE t.d t.e t.z\/w<2\/8<w then(1,az.zero)else
 if ¬(-64<=t.e+max 0 (width t.d t.e t.z-(w-1))/\t.e+max 0 (width t.d t.e t.z-(w-1))<=64)then(3,az.zero)else
 (0,⟨t.d,t.e+max 0 (width t.d t.e t.z-(w-1)),uz t.z (max 0 (width t.d t.e t.z-(w-1))) w au stream⟩)
theorem ahU {t:az} {w au stream W sh:Int} (hm:oE t.d t.e t.z) (h1:2<=w) (h2:w<=8) (hW:width t.d t.e t.z=W) (hs:max 0 (W-(w-1))=sh) (hE:¬(-64<=t.e+sh/\t.e+sh<=64)):small t w au stream=(3,az.zero):=by
 unfold small;rw[aI (by rintro(h|h|h);exact h hm;omega;omega),hW,hs,aR hE]
theorem ahV {t:az} {w au stream W sh:Int} (hm:oE t.d t.e t.z) (h1:2<=w) (h2:w<=8) (hW:width t.d t.e t.z=W) (hs:max 0 (W-(w-1))=sh) (hE: -64<=t.e+sh/\t.e+sh<=64):small t w au stream=(0,⟨t.d,t.e+sh,uz t.z sh w au stream⟩):=by
 unfold small;rw[aI (by rintro(h|h|h);exact h hm;omega;omega),hW,hs,aI (λh=>h hE)]
theorem ahW (z:ah) (x s w au stream:Int):uz (z++[x]) s w au stream=uz z s w au stream++[Rd.vB (Rd.lO x s (P.atq au stream z.length)) w]:=by simp[uz,List.mapIdx_append]
theorem Ko (v w:Int) (h1:2<=w) (h2:w<=8): -127<=Rd.vB v w/\Rd.vB v w<=127:=by
 have hw:Rd.wid w<=7:=Q4E;have p1:=Rd.Hl hw;have p2:=Rd.pow_pos (Rd.wid w);rw[show(2:Int) ^ 7=128 by decide]at p1;unfold Rd.vB Rd.iC;omega
theorem ahX {z:ah} {s w au stream y:Int} (h1:2<=w) (h2:w<=8) (h:y∈uz z s w au stream):∃v:Int,-127<=y/\y<=127:=by
 unfold uz at h;rw[List.mem_mapIdx]at h;obtain⟨i,hi,rfl⟩:=h;exact⟨0,Ko _ _ h1 h2⟩
theorem ahY (z:ah) (s w au stream:Int):(uz z s w au stream).length=z.length:=by simp[uz]
end T
theorem ahZ (t:az) (v:aj) (s au stream:Int) (w:H) (h:fu cr w v t) (yt:¬T.oE t.d t.e t.z\/s<2\/8<s):
 aA aq 194 #[v,Y Z s,Y cD au,Y cD stream] w (Dr aO (1,az.zero) w):=by
 obtain⟨a,l,c,b,m,k,rfl,h0,h1⟩:=h;obtain⟨d,e,z⟩:=t;have M:=V (Km a l c d e b m k z);have KZ:=V (aE.fG w (ag #[O a l c,Y Z e,O b m k] 276) (ag #[O G 0 0,Y Z 0,O G 0 0] 57));have KB:=V (h1.bt.and h0.bt);obtain⟨B,hB⟩:=J (decide (T.oE d e z));rw[hB]at M;have cs:B=ae\/(B=true/\s<2)\/(B=true/\2<=s/\8<s):=by
  cases B
  .exact aM rfl
  .have:=eZ hB;right;rcases yt with h|h|h
   .exact absurd this h
   .exact aM ⟨rfl,h⟩
   .exact bJ ⟨rfl,U,h⟩
 unfold aS;unfold aS at M;clear h0 h1 hB yt;rcases cs with rfl|⟨rfl,hs⟩|⟨rfl,hs,ja⟩
 all_goals
  go_enter func194,ntmps194;go_wp2_with fail;refine bY (M.I _ (KB.aQ KZ.F.2.2).2 (KB.aQ KZ.F.2.2).1) λw2 hb=> ?_;have K2:=V (KZ.I.step hb).aN;obtain⟨g0,g1,g2,g3,g4,g5⟩:=aY K2.I.2.1;clear hb;go_wp2_with fail;refine aZ (v:=aL #[aF #[O G 0 0,Y Z 0,O G 0 0],Y Z 1]) ?_ rfl ⟨_,rfl,⟨dM.zero _ _ _,nM.zero⟩,((K2.I.2.2.setCell Q2S _).setCell Q2S _).setCell Q2S _⟩;simp[aW,results194,go_sem,cT K2.I.2.1]
theorem ai0 (t:az) (v:aj) (s au stream:Int) (w:H) (h:fu cr w v t) (hm:T.oE t.d t.e t.z) (iK:2<=s) (ja:s<=8) (tC:P.Z4 au) (tD:P.Z4 stream):
 aA aq 194 #[v,Y Z s,Y cD au,Y cD stream] w (Dr aO (T.small t s au stream) w):=by
 obtain⟨a,l,c,b,m,k,rfl,h0,h1⟩:=h;obtain⟨d,e,z⟩:=t;have M:=V (λw h0 h1=>(dI hm▸Km a l c d e b m k z w h0 h1:aA _ _ _ _ (dZ (aK true) w)));have WD:=V (ahS a l c d e b m k z);have Bj:=T.ahR d e z (λx hx=>H5 (h1.wf x hx));have KZ:=V (aE.fG w (ag #[O a l c,Y Z e,O b m k] 276) (ag #[O G 0 0,Y Z 0,O G 0 0] 57));have Tx:=V (λx hx h0=>h1.bC h0 (x:=x) hx);have KB:=V (h1.bt.and h0.bt);have my:=Sh.iA hm.1;have Fg:=my.l4;rw[h0.bA]at Fg;have HM:=V hm;have kM:=my.l1;rw[h0.bA]at kM;have CL:=V (λw h=>Dg a l c d w h kM U);obtain⟨R,hR⟩:=J (T.small ⟨d,e,z⟩ s au stream);rw[hR];have HR:=V hR;obtain⟨W,hW⟩:=J (T.width d e z);rw[hW]at WD Bj;have HW:=V hW;have e1:=hm.2.2.1;have e2:=hm.2.2.2;unfold aS;unfold aS at M WD;clear h0 h1 hR hW hm my;obtain⟨wb1,wb2⟩:=Bj;go_enter func194,ntmps194;go_wp2_with fail;refine bY (M.I _ (KB.aQ KZ.F.2.2).2 (KB.aQ KZ.F.2.2).1) λw2 hb=> ?_;have K2:=KZ.bU hb;clear KZ hb;obtain⟨f0,f1,f2,_⟩:=aY K2.F.1;go_wp2_with fail;refine bY (WD.I _ (KB.aQ K2.F.2.2).2 (KB.aQ K2.F.2.2).1) λw3 hb=> ?_;have K3:=K2.bU hb;clear f0 f1 f2 K2 hb M WD;obtain⟨f0,f1,f2,_⟩:=aY K3.F.1;go_upto_region 4 with fail;obtain⟨sh,mM⟩:=J (max 0 (W-(s-1)));rw[mM];have aqL:0<=sh:=U;have aqM:sh<=32:=U;have Bi:=V mM;have OJ:Z.wrap (e+sh)=e+sh:=dv _ U;clear mM;have R3:=V (KB.aQ K3.F.2.2).2;have TX:=R3;have CW:=V (λwx (b:ay w3 w3 wx)=>CL.I wx (R3.I.below b));clear CL;go_cut [11] (λv wx=>oF 57 d l (e+sh) w3 v wx)
 case first=>
  obtain⟨k1,k2,k3⟩:=uy f0;obtain⟨k4,k5,k6⟩:=uy f1;go_region_held3 (λw'=>w'.cell? ⟨w,0,G⟩=A (O a l c)/\w'.cell? ⟨w,1,G⟩=A (Y Z e)) (go_keep)
   (first|(go_at_call 142;refine(CW.I _ Q3e).mono ?_;rintro e3 w4 ⟨cc,cs,rfl,rfl,hcs⟩))
  all_goals
   go_wp2_with fail;go_meet
   first|exact oF.Kn hcs TX.I|exact oF.Fe hcs TX.I
 case rest=>
  obtain⟨bo,av,cv,rfl,ho,fO,cW,OL,nL⟩:=hcut;obtain⟨w5,rfl⟩:∃w5:H,w5=wc:=⟨_,rfl⟩;have HO:=V ho;have il:=V fO;have yF:bo<w5:=bH ho;have K5:=K3.bU cW;have aaI:=bH K3.F.2.1;have fZ:=K3.F.2.2.size;have TE:=V (λw=>Sn (e+sh) 64 w U U);obtain⟨ZU,hE⟩:=J (decide (-64<=e+sh/\e+sh<=64));rw[hE]at TE;have HE:=V hE;clear hE f0 f1 f2 K3 R3 TX CW ho fO cW;obtain⟨y0,y1,y2,_⟩:=aY HO.I;obtain⟨g0,g1,g2,g3,g4,g5⟩:=aY K5.F.2.1;go_wp2_with fail;refine cq (TE.I _) ?_
  cases ZU
  .have Bl:=HR.I.symm.trans (T.ahU (t:=⟨d,e,z⟩) HM.I iK ja HW.I Bi.I (kH HE.I));subst Bl;go_wp2_with fail;refine aZ (v:=aL #[aF #[O G 0 0,Y Z 0,O G 0 0],Y Z 3]) ?_ rfl ⟨_,rfl,⟨dM.zero _ _ _,nM.zero⟩,cL K5.F.2.2 U _ _ _⟩;simp[aW,results194,go_sem,cT K5.F.2.1]
  .have Fh:=HR.I.symm.trans (T.ahV (t:=⟨d,e,z⟩) (au:=au) (stream:=stream) HM.I iK ja HW.I Bi.I (eZ HE.I));subst Fh;obtain⟨f0,f1,f2,_⟩:=aY K5.F.1;go_wp2_with fail;have RZ:=V (KB.aQ K5.F.2.2).1;have HL:=V RZ.I.bA;have ng:=HM.I.2.1;rw[RZ.I.bA]at ng;have sC:m<=8192:=by have:=(Sh.iA HM.I.1).le;have:=(Sh.iA HM.I.1).eq;omega
   have HZ8:=V RZ.I.wf;have Kp:=V (λx (hx:av=A x)=>show w.heap.size<=x.block from Q3y);have Kq:=V (λx (hx:av=A x)=>show x.block≠w.heap.size+1 from Q3y);clear ng f0 f1 f2 y0 y1 y2 g0 g1 g2 g3 g4 g5 TE;generalize hB:w5.heap.size=B at*;have oG:=V hB;clear hB;go_loopw [49] (λi wr=>∃j:Nat,j<=m/\i=Y Z j/\tB 57 106 aO B bo (O av l cv) (Y Z (e+sh)) j (T.uz (z.take j) sh s au stream) wr/\ar B (λb=>b=bo) w5 wr) (λi _=>m-(aX i).toNat)
   case atStart=>exact⟨0,cK _,rfl,⟨_,HO.I,gP _ _ _ _,Q3Y⟩,⟨rfl,rfl,rfl,bu _,λ_ _ _=>rfl⟩⟩
   case round=>
    obtain⟨j,hj,rfl,lW,fD⟩:=hrel;have HF:=V lW;have HK:=V fD;clear lW;by_cases aT:j<m
    .obtain⟨vd,cy,aV,nP⟩:=HF.I;have vK:=V cy;have iR:=V aV;have dY:=fD.rows RZ.I (λx hx=>by
      have:=Tx.I x hx U;exact⟨U,U⟩)
     obtain⟨p0,o0,rfl,e0⟩:=dY.cells U;have f3:=e0 j aT;have gS:j<z.length:=Q30;have hx:=H5 (HZ8.I (z.getD j 0) Q3m);have HS:=V (show T.uz (z.take (j+1)) sh s au stream=T.uz (z.take j) sh s au stream++[Rd.vB (Rd.lO (z.getD j 0) sh (P.atq au stream j)) s] by rw[T.yz gS,T.ahW,List.length_take,Nat.min_eq_left U]);have AT:=V (λw=>TQ au stream (j:Int) w tC tD ⟨U,U⟩);have CH:=V (Zx (z.getD j 0) sh (P.atq au stream j) (P.wfU (P.Oy _ _ _)));have CP:=V (Sw (Rd.lO (z.getD j 0) sh (P.atq au stream j)) s);have vL:=T.Ko (Rd.lO (z.getD j 0) sh (P.atq au stream j)) s iK ja;clear e0 dY fD cy aV gS;generalize z.getD j 0=x at*;generalize P.atq au stream (j:Int)=r at*;generalize Rd.lO x sh r=y at*;generalize Rd.vB y s=u at*;obtain⟨x1,x2⟩:=hx;obtain⟨u1,u2⟩:=vL;obtain⟨i0,hi,cF,cG,cB⟩:=fB tA;have hu8:aO.wrap u=u:=Q33;go_wp2_with fail;refine cq (AT.I _) ?_;go_wp2_with fail;refine(CH.I _).mono ?_;rintro e' w6 ⟨rfl,nq,hq⟩;have iT:=V (show w6.heap[bo]? =A (ag #[O av l cv,Y Z (e+sh),vd] 57 (0,0))from hq▸vK.I);have rI:=V (show w6.ownsRow B 106 1 vd j ((T.uz (z.take j) sh s au stream).map (Y aO))from hq▸oh iR.I (below_drewN wr nq));have lH:=V (show ar B (λb=>b=bo) w5 w6 from hq▸HK.I.bI nq);have yG:B<=w6:=by rw[hq];exact nP
     clear hq f3 HF vK iR HK AT CH;go_wp2_with fail;obtain⟨_,_,c2,_,_,d2⟩:=aY iT.I;refine Lt.begins (λw':H=>w' ⟨bo,2,G⟩=A vd) (λj=>j==9) kr ?_;have hS:(λw':H=>w' ⟨bo,2,G⟩=A vd) w6.drew:=c2;refine qJ hS 0 ?_;refine qJ hS 1 ?_;refine qJ hS 2 ?_;refine qJ hS 3 ?_;refine Lt.all (rs:=[4]) kr bK (λi hq=> ?_);obtain rfl:i=4:=Q2X;clear hq;refine Lt.step rfl (λK hK=> ?_);go_simp;refine cq (CP.I _) ?_;refine bB hK hS ?_;refine qJ hS 5 ?_;refine Lt.all (rs:=[6]) kr bK (λi hq=> ?_);obtain rfl:i=6:=Q2X;clear hq;refine Lt.step rfl (λK hK=> ?_);go_simp;have bX:(λw':H=>w' ⟨bo,2,G⟩=A vd) (li w6.drew (ag #[Y aO u] 106)):=fq hS _;refine bB hK bX ?_;refine Lt.all (rs:=[7]) kr bK (λi hq=> ?_);obtain rfl:i=7:=Q2X;clear hq;refine Lt.step rfl (λK hK=> ?_);refine lM _ cJ _ _ _ cJ B 106 i0 _ 1 1 underlying52 hi cF cG cB rfl U vd j ((T.uz (z.take j) sh s au stream).map (Y aO)) cJ (rI.I.drew.alloc _) ⟨w6,0,G⟩ 1 1 [Y aO u] cJ cJ (kJ w6.drew _ _) Q35 U Q2V U Q2R _ rfl ?_;intro g1 fh w7 cC bM cN ei;have dh:=λb (h:vd.ownBlock=A b)=>(rI.I.lt b h).1;have iD:=gI bM (dX (show w6.drew.heap[bo]? =_ from iT.I) _) (λh=>E (dh _ h));have yH:B<=g1:=by
      exact Q2O
     have pG:=V (Ff.step (show w6.drew.heap[bo]? =_ from iT.I) yF yG dh cC bM (lH.I.bI 1) yH);obtain⟨_,_,c3,_,_,d3⟩:=aY iD;clear hS bX cC bM cN ei dh iD c2 d2;have hS:(λw':H=>w' ⟨bo,2,G⟩=A vd) w7:=c3;refine bB hK hS ?_;refine qJ hS 8 ?_;refine Lt.all (rs:=[9]) kr bK (λi hq=> ?_);obtain rfl:i=9:=Q2X;clear hq;refine Lt.step rfl (λK hK=> ?_);go_simp;refine jg hK ?_;clear hS c3 d3;exact Q2F
    .obtain rfl:j=m:=U;have HZ:=V (show z.take j=z by rw[<-HL.I];exact List.take_length);obtain⟨vd,cy,aV,nP⟩:=HF.I;rw[HZ.I]at aV;obtain⟨pd,cd,rfl,gC⟩:=ai.nJ aV (λy hy=>by
      obtain⟨v,h1,h2⟩:=T.ahX iK ja hy;exact yw U U) U
     have mN:=V gC;have Bm:=aaF aV rfl;have jJ:=V (λx (hx:pd=A x)=>(aV.lt x.block Q3b).1);have jK:=V (fD.bC U U K5.F.2.1);have qM:=V (fD.rows il.I (λx hx=>⟨by
      have h1:=il.I.bC kM hx;have h2:=oG.I;omega,(nL x hx).2⟩))
     have jV:=V (fD.nO K5.F.2.2 U (λb hb=>U));obtain⟨y0,y1,y2,_⟩:=aY cy;obtain⟨g0,g1,g2,g3,g4,g5⟩:=aY jK.I;clear fD aV cy gC HF HK;go_wp2_with fail;refine aZ (v:=aL #[aF #[O av l cv,Y Z (e+sh),O pd j cd],Y Z 0]) ?_ rfl ⟨_,rfl,⟨⟨_,_,_,_,_,_,rfl,?_,?_,(λx hx=>E (Kp.I x hx)),(λx hx=>E (jJ.I x hx))⟩,nM.mk Bm⟩,cL jV.I U _ _ _⟩
     .simp[aW,results194,go_sem,cT jK.I]
     .exact Q2m
     .exact Q1D
theorem TY (t:az) (v:aj) (s au stream:Int) (w:H) (h:fu cr w v t) (tC:P.Z4 au) (tD:P.Z4 stream):
 aA aq 194 #[v,Y Z s,Y cD au,Y cD stream] w (Dr aO (T.small t s au stream) w):=by
 by_cases hb:¬T.oE t.d t.e t.z\/s<2\/8<s
 .rw[show T.small t s au stream=(1,az.zero) by unfold T.small;rw[aR hb]];exact ahZ t v s au stream w h hb
 .exact ai0 t v s au stream w h (Decidable.byContradiction λg=>hb (aM g)) U U tC tD
theorem ai1 (t:az) (v:aj) (s au stream:Int) (w:H) (h:fu cr w v t) (tC:P.Z4 au) (tD:P.Z4 stream):
 aA aq 194 #[v,Y Z s,Y cD au,Y cD stream] w (oY aO (T.small t s au stream) w):=(TY t v s au stream w h tC tD).mono λ_ _ h=>h.ten
namespace D
def dot (x y:ah) (p q:Nat->Nat):Nat->Int
 |0=>0
 |k+1=>dot x y p q k+x.getD (p k) 0*y.getD (q k) 0
theorem Dv {a b:Int} (h1: -128<=a) (h2:a<=127) (h3: -128<=b) (h4:b<=127): -16384<=a*b/\a*b<=16384:=by
 rcases Int.le_total 0 a with ha|ha
 .have k1:=Int.mul_le_mul_of_nonneg_left h4 ha;have k2:=Int.mul_le_mul_of_nonneg_left h3 ha;omega
 .have k1:=Int.mul_le_mul_of_nonneg_left h4 (show 0<= -a by omega);have k2:=Int.mul_le_mul_of_nonneg_left h3 (show 0<= -a by omega);simp only[Int.neg_mul]at k1 k2;omega
theorem Fp {x y:ah} (hx:∀z∈x,(Lit.int aO z).wf=true) (hy:∀z∈y,(Lit.int aO z).wf=true) (p q:Nat->Nat):∀k:Nat,-(16384*(k:Int))<=dot x y p q k/\dot x y p q k<=16384*(k:Int)
 |0=>by simp[dot]
 |k+1=>by
  have h:=Fp hx hy p q k;have h1:=jv hx (p k);have h2:=jv hy (q k);have h3:=Dv h1.1 h1.2 h2.1 h2.2;show-(16384*((k+1:Nat):Int))<=dot x y p q k+_/\dot x y p q k+_<=16384*((k+1:Nat):Int)
  omega
end D
theorem aim (r o N:Nat) (gb ge gn gx gw:Nat) (ba:aC) (bl bc:Nat) (bz:ah) (be ZU:Int) (xa:aC) (xl xc:Nat) (xz:ah) (wa:aC) (wl wc:Nat) (wz:ah) (w:H)
 (cb2:w ⟨gb,2,G⟩=A (O ba bl bc)) (cb1:w ⟨gb,1,G⟩=A (Y Z be)) (ce:w ge=A (Y Z ZU)) (cn:w gn=A (Y Z (N:Int))) (cx:w ⟨gx,2,G⟩=A (O xa xl xc)) (cw:w ⟨gw,2,G⟩=A (O wa wl wc))
 (hb:ai aO w ba bl bz) (hx:ai aO w xa xl xz) (hw:ai aO w wa wl wz) (ho:o<bl) (hr:r*N+N<=xl) (hq:o*N+N<=wl) (hN:N<=1023) (Fq:xl<=8192) (yL:wl<=8192) (ej:bl<=8192):
 aA aq 284 #[Y Z (r:Int),Y Z (o:Int),aP gb,aP ge,aP gn,aP gx,aP gw] w
  (oa (Y Z (Rd.align (bz.getD o 0) be ZU+D.dot xz wz (λi=>r*N+i) (λi=>o*N+i) N)) w):=by
 have HX:=V hx;have HW:=V hw;have iL:=λk=>D.Fp hx.wf hw.wf (λi=>r*N+i) (λi=>o*N+i) k;have ju:=V iL;have h8:=jv hb.wf o;have vO:=Z4.OS (bz.getD o 0) be ZU h8.1 h8.2;obtain⟨Z3,hA⟩:=J (Rd.align (bz.getD o 0) be ZU);have AL:=V (λw=>hA▸(Sx (bz.getD o 0) be ZU w).mono λ_ _ ⟨a,b⟩=>(⟨a,b.symm⟩:_/\_=w));rw[hA]at vO⊢;obtain⟨pb,ob,rfl,eb⟩:=hb.cells U;have fb:=eb o ho;clear eb hx hw iL hA;generalize bz.getD o 0=v at*;obtain⟨Ht,h82⟩:=h8;have i1:(0:Int)<=(o:Int):=U;have i2:(o:Int)<(bl:Int):=U;go_enter func284,ntmps284;go_wp2_with fail;go_quiet ((go_at_call 285;exact Calls.quiet_of_same (AL.I _)))
 go_wp2_with fail;obtain⟨ha1,ha2⟩:=vO;go_loopw [10,23] (λs i wr=>∃k q:Nat,k<=N/\i=Y Z k/\s=Y Z (Z3+D.dot xz wz (λi=>r*N+i) (λi=>o*N+i) k)/\wr=w.drewN q) (λ_ i _=>N-(aX i).toNat)
 case atStart=>exact⟨0,nq,cK _,rfl,by simp[D.dot],rfl⟩
 case round=>
  obtain⟨k,q,hk,rfl,rfl,rfl⟩:=hrel;by_cases aT:k<N
  .obtain⟨px,ox,rfl,ex⟩:=HX.I.cells U;obtain⟨pw,ow,rfl,ew⟩:=HW.I.cells U;have fx:=ex (r*N+k) U;have fw:=ew (o*N+k) U;have iQ:=jv HX.I.wf (r*N+k);have eI:=jv HW.I.wf (o*N+k);have HS:=V (show D.dot xz wz (λi=>r*N+i) (λi=>o*N+i) (k+1)=D.dot xz wz (λi=>r*N+i) (λi=>o*N+i) k+xz.getD (r*N+k) 0*wz.getD (o*N+k) 0 from rfl);have hd:=ju.I k;have hm:=D.Dv iQ.1 iQ.2 eI.1 eI.2;have m1:(r:Int)*(N:Int)=((r*N:Nat):Int):=(gQ r N).symm;have m2:(o:Int)*(N:Int)=((o*N:Nat):Int):=(gQ o N).symm;clear ex ew;generalize xz.getD (r*N+k) 0=xx at*;generalize wz.getD (o*N+k) 0=ww at*;generalize D.dot xz wz (λi=>r*N+i) (λi=>o*N+i) k=S at*;generalize r*N=P at*;generalize o*N=Q at*;obtain⟨d1,d2⟩:=hd;obtain⟨n1,n2⟩:=hm;have w1:Z.wrap (P:Int)=P:=dv _ U;have w2:Z.wrap (Q:Int)=Q:=dv _ U;have w3:Z.wrap ((P:Int)+k)=P+k:=dv _ U;have w4:Z.wrap ((Q:Int)+k)=Q+k:=dv _ U;have w5:Z.wrap (xx*ww)=xx*ww:=dv _ U;have w6:Z.wrap (Z3+S+xx*ww)=Z3+S+xx*ww:=dv _ U;have t1:((P:Int)+k).toNat=P+k:=U;have t2:((Q:Int)+k).toNat=Q+k:=U;have g1:(0:Int)<=(P:Int)+k:=U;have g2:(P:Int)+k<(xl:Int):=U;have g3:(0:Int)<=(Q:Int)+k:=U;have g4:(Q:Int)+k<(wl:Int):=U;go_wp2_with fail;go_quiet (fail)
   go_wp2_with fail;go_roundw
   case rel=>exact⟨k+1,_,U,Q2T,by rw[HS.I,<-Int.add_assoc],rfl⟩
   case measure=>exact Q5q
  .exact Q1n
namespace D
def sumOf (x:ah) (p:Nat->Nat):Nat->Int
 |0=>0
 |k+1=>sumOf x p k+x.getD (p k) 0
theorem Uh {x:ah} (hx:∀z∈x,(Lit.int aO z).wf=true) (p:Nat->Nat):∀k:Nat,-(16384*(k:Int))<=sumOf x p k/\sumOf x p k<=16384*(k:Int)
 |0=>by simp[sumOf]
 |k+1=>by
  have h:=Uh hx p k;have h1:=jv hx (p k);show-(16384*((k+1:Nat):Int))<=sumOf x p k+_/\sumOf x p k+_<=16384*((k+1:Nat):Int)
  omega
end D
theorem ain (r i N:Nat) (gn gx gw gc gd:Nat) (C R:Nat) (xa:aC) (xl xc:Nat) (xz:ah) (wa:aC) (wl wc:Nat) (wz:ah) (w:H)
 (cn:w gn=A (Y Z (N:Int))) (cx:w ⟨gx,2,G⟩=A (O xa xl xc)) (cw:w ⟨gw,2,G⟩=A (O wa wl wc)) (cc:w gc=A (Y Z (C:Int)))
 (hx:ai aO w xa xl xz) (hw:ai aO w wa wl wz) (hp:∀k,k<N->r*N+k<xl) (hq:∀k,k<N->k*C+i<wl) (hN:N<=1023) (Fq:xl<=8192) (yL:wl<=8192) (hC:C<=8192) (hR:R<=8192) (h0:r<=8192) (h1:i<=8192):
 aA aq 314 #[Y Z (r:Int),Y Z (i:Int),aP gn,aP gx,aP gw,aP gc] w
  (oa (Y Z (D.dot xz wz (λk=>r*N+k) (λk=>k*C+i) N)) w):=by
 have HX:=V hx;have HW:=V hw;have ju:=V (λk=>D.Fp hx.wf hw.wf (λk=>r*N+k) (λk=>k*C+i) k);have HP:=V hp;have HQ:=V hq;clear hx hp hw hq;go_enter func314,ntmps314;go_wp2_with fail;go_loopw [9,12] (λs ii wr=>∃k q:Nat,k<=N/\ii=Y Z k/\s=Y Z (D.dot xz wz (λk=>r*N+k) (λk=>k*C+i) k)/\wr=w.drewN q) (λ_ ii _=>N-(aX ii).toNat)
 case atStart=>exact⟨0,0,cK _,rfl,rfl,rfl⟩
 case round=>
  obtain⟨k,q,hk,rfl,rfl,rfl⟩:=hrel;by_cases aT:k<N
  .have Kz:=HP.I k aT;have Ia:=HQ.I k aT;obtain⟨px,ox,rfl,ex⟩:=HX.I.cells U;have fx:=ex (r*N+k) Kz;have iQ:=jv HX.I.wf (r*N+k);obtain⟨pw,ow,rfl,ew⟩:=HW.I.cells U;have fw:=ew (k*C+i) Ia;have eI:=jv HW.I.wf (k*C+i);have HS:=V (show D.dot xz wz (λk=>r*N+k) (λk=>k*C+i) (k+1)=D.dot xz wz (λk=>r*N+k) (λk=>k*C+i) k+xz.getD (r*N+k) 0*wz.getD (k*C+i) 0 from rfl);have hd:=ju.I k;have hm:=D.Dv iQ.1 iQ.2 eI.1 eI.2;have m1:(r:Int)*(N:Int)=((r*N:Nat):Int):=(gQ r N).symm;have m2:(k:Int)*(C:Int)=((k*C:Nat):Int):=(gQ k C).symm;clear ex ew;generalize xz.getD (r*N+k) 0=xx at*;generalize wz.getD (k*C+i) 0=ww at*;generalize D.dot xz wz (λk=>r*N+k) (λk=>k*C+i) k=S at*;generalize r*N=P at*;generalize k*C=Q at*;obtain⟨d1,d2⟩:=hd;have w1:Z.wrap (P:Int)=P:=dv _ U;have w3:Z.wrap ((P:Int)+k)=P+k:=dv _ U;have t1:((P:Int)+k).toNat=P+k:=U;have g1:(0:Int)<=(P:Int)+k:=U;have g2:(P:Int)+k<(xl:Int):=U;exact Q0z
  .exact Q1n
theorem aio (r i N:Nat) (gn gx gw gc gd:Nat) (C R:Nat) (xa:aC) (xl xc:Nat) (xz:ah) (wa:aC) (wl wc:Nat) (wz:ah) (w:H)
 (cn:w gn=A (Y Z (N:Int))) (cx:w ⟨gx,2,G⟩=A (O xa xl xc)) (cd:w gd=A (Y Z (R:Int))) (cw:w ⟨gw,2,G⟩=A (O wa wl wc)) (cc:w gc=A (Y Z (C:Int)))
 (hx:ai aO w xa xl xz) (hw:ai aO w wa wl wz) (hp:∀k,k<N->k*R+r<xl) (hq:∀k,k<N->k*C+i<wl) (hN:N<=1023) (Fq:xl<=8192) (yL:wl<=8192) (hC:C<=8192) (hR:R<=8192) (h0:r<=8192) (h1:i<=8192):
 aA aq 311 #[Y Z (r:Int),Y Z (i:Int),aP gn,aP gx,aP gd,aP gw,aP gc] w
  (oa (Y Z (D.dot xz wz (λk=>k*R+r) (λk=>k*C+i) N)) w):=by
 have HX:=V hx;have HW:=V hw;have ju:=V (λk=>D.Fp hx.wf hw.wf (λk=>k*R+r) (λk=>k*C+i) k);have HP:=V hp;have HQ:=V hq;clear hx hp hw hq;go_enter func311,ntmps311;go_wp2_with fail;go_loopw [10,13] (λs ii wr=>∃k q:Nat,k<=N/\ii=Y Z k/\s=Y Z (D.dot xz wz (λk=>k*R+r) (λk=>k*C+i) k)/\wr=w.drewN q) (λ_ ii _=>N-(aX ii).toNat)
 case atStart=>exact⟨0,0,cK _,rfl,rfl,rfl⟩
 case round=>
  obtain⟨k,q,hk,rfl,rfl,rfl⟩:=hrel;by_cases aT:k<N
  .have Kz:=HP.I k aT;have Ia:=HQ.I k aT;obtain⟨px,ox,rfl,ex⟩:=HX.I.cells U;have fx:=ex (k*R+r) Kz;have iQ:=jv HX.I.wf (k*R+r);obtain⟨pw,ow,rfl,ew⟩:=HW.I.cells U;have fw:=ew (k*C+i) Ia;have eI:=jv HW.I.wf (k*C+i);have HS:=V (show D.dot xz wz (λk=>k*R+r) (λk=>k*C+i) (k+1)=D.dot xz wz (λk=>k*R+r) (λk=>k*C+i) k+xz.getD (k*R+r) 0*wz.getD (k*C+i) 0 from rfl);have hd:=ju.I k;have hm:=D.Dv iQ.1 iQ.2 eI.1 eI.2;have m1:(k:Int)*(R:Int)=((k*R:Nat):Int):=(gQ k R).symm;have m2:(k:Int)*(C:Int)=((k*C:Nat):Int):=(gQ k C).symm;clear ex ew;generalize xz.getD (k*R+r) 0=xx at*;generalize wz.getD (k*C+i) 0=ww at*;generalize D.dot xz wz (λk=>k*R+r) (λk=>k*C+i) k=S at*;generalize k*R=P at*;generalize k*C=Q at*;obtain⟨d1,d2⟩:=hd;have w1:Z.wrap (P:Int)=P:=dv _ U;have w3:Z.wrap ((P:Int)+r)=P+r:=dv _ U;have t1:((P:Int)+r).toNat=P+r:=U;have g1:(0:Int)<=(P:Int)+r:=U;have g2:(P:Int)+r<(xl:Int):=U;exact Q0z
  .exact Q1n
theorem aip (r i N:Nat) (gn gx gw gc gd:Nat) (C R:Nat) (xa:aC) (xl xc:Nat) (xz:ah) (w:H)
 (cn:w gn=A (Y Z (N:Int))) (cx:w ⟨gx,2,G⟩=A (O xa xl xc)) (cc:w gc=A (Y Z (C:Int)))
 (hx:ai aO w xa xl xz) (hp:∀k,k<N->k*C+i<xl) (hN:N<=1023) (Fq:xl<=8192) (hC:C<=8192) (hR:R<=8192) (h0:r<=8192) (h1:i<=8192):
 aA aq 312 #[Y Z (r:Int),Y Z (i:Int),aP gn,aP gx,aP gc] w
  (oa (Y Z (D.sumOf xz (λk=>k*C+i) N)) w):=by
 have HX:=V hx;have ju:=V (λk=>D.Uh hx.wf (λk=>k*C+i) k);have HP:=V hp;clear hx hp;go_enter func312,ntmps312;go_wp2_with fail;go_loopw [8,11] (λs ii wr=>∃k q:Nat,k<=N/\ii=Y Z k/\s=Y Z (D.sumOf xz (λk=>k*C+i) k)/\wr=w.drewN q) (λ_ ii _=>N-(aX ii).toNat)
 case atStart=>exact⟨0,0,cK _,rfl,rfl,rfl⟩
 case round=>
  obtain⟨k,q,hk,rfl,rfl,rfl⟩:=hrel;by_cases aT:k<N
  .have Kz:=HP.I k aT;obtain⟨px,ox,rfl,ex⟩:=HX.I.cells U;have fx:=ex (k*C+i) Kz;have iQ:=jv HX.I.wf (k*C+i);have HS:=V (show D.sumOf xz (λk=>k*C+i) (k+1)=D.sumOf xz (λk=>k*C+i) k+xz.getD (k*C+i) 0 from rfl);have hd:=ju.I k;have m1:(k:Int)*(C:Int)=((k*C:Nat):Int):=(gQ k C).symm;clear ex;generalize xz.getD (k*C+i) 0=xx at*;generalize D.sumOf xz (λk=>k*C+i) k=S at*;generalize k*C=P at*;obtain⟨d1,d2⟩:=hd;have w1:Z.wrap (P:Int)=P:=dv _ U;have w3:Z.wrap ((P:Int)+i)=P+i:=dv _ U;have t1:((P:Int)+i).toNat=P+i:=U;have g1:(0:Int)<=(P:Int)+i:=U;have g2:(P:Int)+i<(xl:Int):=U;have w6:Z.wrap (S+xx)=S+xx:=dv _ U;go_wp2_with fail;go_roundw
   case rel=>exact⟨k+1,q,U,Q2T,Q55,rfl⟩
   case measure=>exact Q5q
  .exact Q1n
theorem az.aiy {e:Int} (h:0<Sh.size d) (h1: -64<=e) (h2:e<=64):T.aH d e (dz (Sh.size d).toNat 0):=
 ⟨h,by rw[List.length_replicate];omega,⟨h1,h2⟩,λhm=>E ((List.mem_replicate.1 hm).2)⟩
def O8 (l:Nat) (d:ah) (e:Int) (w:H) (r:Ending) (w':H):Prop:=∃a c g,r=bG (aL #[aF #[O a l c,Y Z e,O (A ⟨g,0,G⟩) (Sh.size d).toNat (Sh.size d).toNat],Y Z 0])/\ai Z w' a l d/\(∀x,a=A x->w.heap.size<=x.block/\x.block≠g/\x.block<w'.heap.size)/\
 w'.ownsRow w.heap.size 106 1 (O (A ⟨g,0,G⟩) (Sh.size d).toNat (Sh.size d).toNat) (Sh.size d).toNat ((dz (Sh.size d).toNat (0:Int)).map (Y aO))/\ay w w w'
theorem aaV (a:aC) (l c:Nat) (d:ah) (e:Int) (w:H) (h0:ai Z w a l d) (hs:0<Sh.size d) (h1: -64<=e) (h2:e<=64):
 aA aq 117 #[O a l c,Y Z e] w (O8 l d e w):=by
 have my:=Sh.iA hs;have l1:=my.l1;have l4:=my.l4;have m1:=my.eq;have m2:=my.le;rw[h0.bA]at l1 l4;have gJ:=az.aiy hs h1 h2;unfold O8;obtain⟨n,hn⟩:∃n:Nat,Sh.size d=n:=⟨(Sh.size d).toNat,U⟩;rw[hn,jx]at gJ⊢;have Hv:n<=8192:=U;have ku:1<=n:=U;have SZ:=V (λw h=>hn▸EH a l c d w h);have CL:=V (λw (h:ai Z w a l d)=>(Fc a l c d w h U).mono λ_ _ g=>g.fresh h.wf U);have KB:=V (h0.bt);have K1:=V (aE.fg w (ag #[O G 0 0,Y Z 0,O G 0 0] 57));have HM:=V gJ;have ur:=λw:H=>run_make_row' (P:=aq) 52 106 (Y aO 0) 1 underlying52 tA rfl Z Z n U U w;clear h0 my gJ hn hs;go_enter func117,ntmps117;go_wp2_with fail;refine(CL.I _ (KB.aQ K1.F.2)).mono ?_;rintro e' w2 ⟨av,ac,rfl,pD,KE,du⟩;have K2:=K1.bU du;have R2:=V pD.bt;have HF:=V KE;have nQ:=K1.F.2.size;go_wp2_with fail;refine cq (SZ.I _ (KB.aQ K2.F.2)) ?_;go_wp2_with fail;have K4:=V (aE.fG w2 (ag (madeCells #[Y aO 0] n) 106) (ag #[O av l ac,Y Z e,O w2 n n] 57));have HD:=V (ai.owned (Kl w2 aO 106 w2.heap.size n (bu _) U) (λz hz=>Q56) U);have RO:=V ((Kl w2 aO 106 w2.heap.size n (bu _) U).alloc (ag #[O av l ac,Y Z e,O w2 n n] 57));have RD:=V (HD.I.bt.alloc (ag #[O av l ac,Y Z e,O w2 n n] 57));have RA:=V (R2.I.jD K4.F.2.2);have K5:=V (K2.I.step K4.F.2.2);have M:=V (λw h0 h1=>(dI HM.I▸jr av l ac d e w2 n n (dz n 0) w h0 h1:aA _ _ _ _ (dZ (aK true) w)));unfold aS at M;generalize li (li w2 (ag (madeCells #[Y aO 0] n) 106)) (ag #[O av l ac,Y Z e,O w2 n n] 57)=w6 at*;refine bY (M.I _ RA.I RD.I.aN) λw7 dR=> ?_;have K7:=V (K5.I.step dR).aN;have K8:=V (K4.I.step dR).aN;have RA7:=V (RA.I.below dR);have RD7:=V (oh RO.I dR);have Hx:=K2.F.2.size;have Ic:=bH K2.F.1;clear ur;have g0:=aY K7.I.1;have y0:=aY K8.I.2.1;go_wp2_with fail;have hO:∀(W:H),W.ownsRow w2.heap.size 106 1 (O w2 n n) n ((dz n (0:Int)).map (Y aO))->W.ownsRow w.heap.size 106 1 (O w2 n n) n ((dz n (0:Int)).map (Y aO)):=λW h=>⟨h.1,h.2.imp id λ⟨g,cap,cur,hv,hb,rest⟩=>⟨g,cap,cur,hv,by have:=K2.F.2.size;omega,rest⟩⟩;have cI:(O w2 n n).ownBlock≠A w.heap.size:=λh=>by
  have h:A w2.heap.size=A w.heap.size:=h;injection h with h;omega
 have gK:=cL K7.I.2 (bu w.heap.size) (O av l ac) (Y Z e) (O w2 n n);refine aZ (v:=aL #[aF #[O av l ac,Y Z e,O w2 n n],Y Z 0]) ?_ rfl ⟨av,ac,w2.heap.size,rfl,RA7.I.eJ (λx hx=>by have:=(HF.I x hx).1;rw[bF]at this;omega),(λx hx=>by
  have h1:=HF.I x hx;have h2:=K8.I.2.2.size;rw[bF]at h1;exact⟨U,U,by simp only[World.size_setCell];omega⟩),hO _ (ownsRow_setCell_other (ownsRow_setCell_other (ownsRow_setCell_other RD7.I cI _) cI _) cI _),gK⟩
 simp[aW,results117,go_sem,cT K7.I.1]
def bD.wf (p:bD):Prop:=(∀x∈p.w.z,-128<=x/\x<=127)/\∀x∈p.b.z,-128<=x/\x<=127
namespace ZY
def yT (d:ah):List Int:=d.flatMap λn=>put (cD.wrap n) 2
def yU (m:ah):List Int:=m.flatMap λn=>put (IntKind.u32.wrap n) 4
theorem aj5 {p:bD} (h:p.none=ae) (rest:ah):iu p++rest=put (cD.wrap (p.w.d.length:Int)) 1++(yT p.w.d++(nR p.w++(yU p.m++(put (cD.wrap (p.b.d.getD 0 0)) 2++(nR p.b++rest))))):=by
 unfold iu yT yU;rw[aI (by simp[h])];simp only[lL]
theorem abo (d:ah):(yT d).length=d.length*2:=sW (λ_=>fI _ 2) d
theorem abp (d:ah):(yU d).length=d.length*4:=sW (λ_=>fI _ 4) d
theorem aj6 (h:j<d.length) (hb:1<=d.getD j 0/\d.getD j 0<=4096) (R:ah):(⟨yT (d.drop j)++R,0⟩:dH).u16=(d.getD j 0,⟨yT (d.drop (j+1))++R,0⟩):=by
 rw[Sh.drop_cons d j h,yT,rz,lL,show cD.wrap (d.getD j 0)=d.getD j 0 by rw[pT];omega,dH.UD _ _ U U];rfl
theorem aj7 (h:j<d.length) (R:ah):(⟨yU (d.drop j)++R,0⟩:dH).u32=(IntKind.u32.wrap (d.getD j 0),⟨yU (d.drop (j+1))++R,0⟩):=by
 rw[Sh.drop_cons d j h,yU,rz,lL,dH.abj _ _ (wrap_u32_nonneg _) (Lb _)];rfl
end ZY
theorem aj8 (h1: -2147483648<=x) (h2:x<=2147483647):cr.wrap (IntKind.u32.wrap x)=x:=by
 simp[IntKind.wrap,nG,nD];omega
structure bD.Full (p:bD):Prop where
 w:T.aH p.w.d p.w.e p.w.z
 b:T.aH p.b.d p.b.e p.b.z
 one:p.b.d=[p.b.d.getD 0 0]
 ml:p.m.length=p.w.z.length
 mg:∀x∈p.m,-1048576<=x/\x<=1048576
theorem bD.full {p:bD} (h:p.aH=true) (h0:p.none=ae):p.Full:=by
 unfold bD.aH at h;rw[h0]at h;simp only[Bool.false_or,fS,az.ok,bD.moves,decide_eq_true_eq,Bool.not_eq_true',List.any_eq_false]at h;obtain⟨h1,⟨h2,h3⟩,h4,h5⟩:=h;refine⟨h1,h4,?_,h2,λx hx=> ?_⟩
 .generalize p.b.d=d at*
  match d,h5 with
  | [y],_=>rfl
 .have:=h3 x hx;simp[ZX.ni]at this;omega
theorem aj9 (q g:Nat) (p:bD) (rest:ah) (w:H) (hq:w.heap[q]? =A (ag #[aP g,Y Z 0] 174 (0,0))) (hr:iE g ⟨ZY.iu p++rest,0⟩ w) (cI:q≠g)
 (hm:p.aH=true) (h0:p.none=ae) (hz:p.wf) (hl:rest.length<=900000000):
 aA aq 87 #[aP q] w (UJ g p rest w):=by
 have hg:g<w:=Q40;have HF:=V (bD.full hm h0);have aj2:q<w:=bH hq;rw[ZY.aj5 h0]at hr;have Iq:=HF.I.one;have oW:=(Sh.iA HF.I.b.1).get (k:=0) (E ((T.sI HF.I.b).1));generalize p.b.d.getD 0 0=b0 at*;have my:=V (Sh.iA HF.I.w.1);have eI:=T.sI HF.I.w;have gR:=T.sI HF.I.b;have pW:=HF.I.ml;have eN:(cD.wrap (p.w.d.length:Int))=(p.w.d.length:Int):=Q36;obtain⟨n,hn⟩:=J p.w.d.length;obtain⟨R4,Lg⟩:=J (ZY.nR p.b++rest);obtain⟨R3,Bl⟩:=J (ZY.put (cD.wrap (b0)) 2++R4);obtain⟨R2,rH⟩:=J (ZY.yU p.m++R3);obtain⟨R1,zU⟩:=J (ZY.nR p.w++R2);have l4:R4.length<=900009000:=by rw[<-Lg,dG,ZY.Pj];omega
 have l3:R3.length<=900009100:=by rw[<-Bl,dG,ZY.fI];omega
 have l2:R2.length<=900059100:=by rw[<-rH,dG,ZY.abp];omega
 have l1:R1.length<=900069100:=by rw[<-zU,dG,ZY.Pj];omega
 rw[Lg,Bl,rH,zU,eN,hn]at hr;have eU:(⟨ZY.put (n:Int) 1++(ZY.yT p.w.d++R1),0⟩:dH).u8=((n:Int),⟨ZY.yT p.w.d++R1,0⟩):=by
  rw[dH.Io,show(n:Int)%256=n by omega]
 have KR:=V ((di.block (S:=λb=>b=g) hq cI).and (di.kept w)|>.alloc (ag yS 105)|>.and (di.new _ U)|>.alloc (ag yS 105)|>.and (di.new _ Q2Y));have zV:=V ((hr.below (aD w (ag yS 105))).below (aD _ (ag yS 105)));have U1:=V (eU▸Ih g _ _ zV.I (by simp only[dG,ZY.fI,ZY.abo];omega));have CK:=V (Pn q g);have MS:=V (λa l c w h=>(show decide (0<Sh.size p.w.d)=true by simpa using HF.I.w.1)▸CI a l c p.w.d w h);have U2:=V (λj (hj:j<n) w (h:iE g ⟨ZY.yT (p.w.d.drop j)++R1,0⟩ w)=>(show aA aq 119 #[aP g] w (NumOut g Z (p.w.d.getD j 0) ⟨ZY.yT (p.w.d.drop (j+1))++R1,0⟩ w) by
  have h2:=Ut g _ w h (by simp only[dG,ZY.abo,List.length_drop];omega);rwa[ZY.aj6 (d:=p.w.d) (j:=j) U (my.I.get (k:=j) U) R1]at h2))
 have RT:=V (λa l c w hq hr hd ha=>abl q g p.w R2 a l c w hq hr cI hd ha (by simpa[az.ok]using HF.I.w) hz.1 (by rw[zU];omega));have RB:=V (λa l c w hq hr hd ha=>abl q g p.b rest a l c w hq hr cI hd ha (by simpa[az.ok]using HF.I.b) hz.2 (by rw[Lg];omega));rw[zU]at RT;rw[Lg]at RB;have c0:=bh KR.I.aN.1.1.1 0 (v:=aP g) rfl;have Ir:=V (aw rH (aw Bl pW));clear hq hr hl eU zU rH Bl Lg hm h0;have en0:((n:Int)==0)=ae:=Q2R;have en4:decide ((n:Int)<=4)=true:=Q2R;go_enter func87,ntmps87;go_wp2_with fail;refine U1.I.mono ?_;rintro e w1 ⟨rfl,h1,h2⟩;have K1:=V (KR.I.step h2);have cU:=V h1;clear KR U1 h1 h2 c0 zV;go_wp2_with fail;refine cq (CK.I _ _ K1.I.aN.1.1.1 cU.I) ?_;go_wp2_with fail;obtain⟨B,hB⟩:=J w1.heap.size;have HB:=V hB;have oM:w.heap.size+1<B:=by have:=bH K1.I.aN.2;rw[bF]at this;omega
 clear hB;go_loopw [22,5] (λi d wr=>∃(j:Nat) (vd:aj),j<=n/\i=Y Z j/\vd=d/\wr.ownsRow B 3 1 vd j ((p.w.d.take j).map (Y Z))/\iE g ⟨ZY.yT (p.w.d.drop j)++R1,0⟩ wr/\ar B (λb=>b=g) w1 wr) (λi d _=>n-(aX i).toNat)
 case atStart=>exact⟨0,_,cK _,rfl,rfl,gP _ _ _ _,cU.I,ar.cP _ _ _⟩
 case round=>
  obtain⟨j,vd,hj,rfl,rfl,aV,fO,hk⟩:=hrel;have iR:=V aV;have il:=V fO;have HK:=V hk;clear aV fO hk;have qO:B<=wr:=Q3p;have HQ:=V (HK.I.bC (g:=q) U U K1.I.aN.1.1.1);by_cases aT:j<n
  .have c0:=bh HQ.I 0 (v:=aP g) rfl;have HS:=V (T.yz (z:=p.w.d) (k:=j) U);have U3:=V (U2.I j aT wr il.I);have hx:=my.I.get (k:=j) U;generalize p.w.d.getD j 0=x at*;obtain⟨dt,rN⟩:=J (p.w.d.take j);rw[rN]at iR HS;clear rN;obtain⟨i0,hi,cF,cG,cB⟩:=fB Dp;go_wp2_with fail;refine U3.I.mono ?_;rintro e w2 ⟨rfl,h1,h2⟩;have qM:=V h1;have dh:=λb (h:vd.ownBlock=A b)=>(iR.I.lt b h);have FD:=V (Own.kept iR.I h2 (λb hb=>by have:=dh b hb;exact⟨U,U⟩));have jF:=V (HK.I.trans' h2 qO);have du:B<=w2:=eH qO h2.size;clear h1 h2 U3 il HK iR c0 HQ dh;go_wp2_with (at_builtin;refine ko _ rfl _ _ 55 rfl B 3 i0 (Y Z 0) 1 8 underlying55 hi cF cG cB rfl eM vd j (dt.map (Y Z)) rfl (FD.I.alloc _) ⟨w2,0,G⟩ 1 1 [Y Z x] rfl rfl ?c1 ?c2 ?c3 ?c4 ?c5 ?c6 ?_)
   try(case c1=>exact kJ w2 _ _)
   try(case c2=>simp[fV])
   try(case c3=>unfold eS;omega)
   try(case c4=>omega)
   try(case c5=>(try simp only[bF]);omega)
   try(case c6=>omega)
   intro g1 c1 w7 cC bM cN ei fC;have HS7:=V (App.slot du (λb h=>(FD.I.lt b h).1) bM (λb=>b=g));have mL:=V (qM.I.kept (App.slot du (λb h=>(FD.I.lt b h).1) bM (λ_=>False)) U (λ_ _ h=>h));have mO:=V cC;clear cC bM cN FD qM;go_wp2_with fail;go_roundw
   case rel=>exact⟨j+1,_,U,Q2T,rfl,Q4R,mL.I,jF.I.trans' HS7.I (bu _)⟩
   case measure=>exact Q5q
  .obtain rfl:j=n:=U;have vQ:=V il.I;rw[sx.2 (by omega:p.w.d.length<=j)]at vQ;have aV:=iR.I;rw[oQ (by omega:p.w.d.length<=j)]at aV;obtain⟨pd,cd,rfl,gC⟩:=ai.nJ aV (λy hy=>by have:=my.I.each y hy;exact gF U U) U;have jJ:=V (λx (hx:pd=A x)=>(aV.lt x.block Q3b));have mN:=V gC;have HR:=V (show iE g ⟨R1,0⟩ wr from vQ.I);have K2:=V (K1.I.step (HK.I.mono (C:=w1) Q5n (λ_ _ h=>h))|>.and (di.row gC (λx hx=>E (jJ.I x hx))));clear aV gC vQ il HK iR HQ cU K1;have c0:=bh K2.I.aN.1.1.1.1 0 (v:=aP g) rfl;go_wp2_with fail;refine cq (MS.I _ _ _ _ mN.I) ?_;go_wp2_with fail;refine cq (CK.I _ _ K2.I.aN.1.1.1.1 HR.I) ?_;go_wp2_with fail;refine(RT.I _ _ _ _ K2.I.aN.1.1.1.1 HR.I mN.I (λx hx=>E (jJ.I x hx))).mono ?_;rintro e w2 ⟨b,m,k,rfl,h1,h2,h3,h4⟩;unfold aS;have K3:=V (K2.I.step h4|>.and (di.row h1 (λx hx=>E (h2 x hx))));have dA:=V (λx hx=>(eH qO (h2 x hx):B<=x.block));have fL:=V h3;have du:B<=w2:=eH qO h4.size;have m6:=h1.bA;clear h1 h2 h3 h4 K2 HR mN U2;obtain⟨f0,f1,f2,f3,f4,f5,f6⟩:=bE K3.I.aN.1.1.2;have z0:=λj=>cE K3.I.aN.1.1.2 j;have c1:=bh K3.I.aN.1.1.1.1.1 1 (v:=Y Z 0) rfl;simp only[bF]at f0 f1 f2 f3 f4 f5 f6 z0;go_wp2_with fail;obtain⟨w5,By⟩:=J (ss (ss (ss w2 ⟨w+1,0,G⟩ (O pd j cd)) ⟨w+1,1,G⟩ (Y Z p.w.e)) ⟨w+1,2,G⟩ (O b m k));have wX:w.heap.size+1<B:=U;have yV:ar w2 (λb=>b=w.heap.size+1) w2 w5:=by rw[<-By];exact(ar.cP _ (λb=>b=w.heap.size+1) _).eJ (aM rfl) _ _ _
   have vT:=V (show w5.heap[w.heap.size+1]? =A (jq pd j cd p.w.e b m k G 0 0 G 0 0 0 G 0 0) by
    have h:=dF (f:=2) (dF (f:=1) (dF (f:=0) K3.I.aN.1.1.2 (O pd j cd)) (Y Z p.w.e)) (O b m k);simp only[dC,dD,dE,bF]at h;rw[<-By];exact h)
   obtain⟨⟨⟨⟨⟨q1,q2⟩,q3⟩,-⟩,q4⟩,q5⟩:=K3.I.aN;have K5:=V ((di.block (S:=λb=>b=g\/b=w.heap.size+1) (yV.bC U U q1) U).and ((di.block (S:=λb=>b=g\/b=w.heap.size+1) (yV.bC U U q3) U).and
    ((di.row (S:=λb=>b=g\/b=w.heap.size+1) (yV.gH q4 (λx hx h0=>by have:=jJ.I x hx;exact⟨q4.bC h0 hx,U⟩)) (λx hx=>E (jJ.I x hx))).and
    (di.row (S:=λb=>b=g\/b=w.heap.size+1) (yV.gH q5 (λx hx h0=>by have:=dA.I x hx;exact⟨q5.bC h0 hx,U⟩)) (λx hx=>E (dA.I x hx))))))
   have abq:=V (q2.trans' (yV.mono (C:=w) (S':=λb=>b=g) U (λb h1 h2=>U)) (bu _));have jk:=V (fL.I.kept yV U (λb h1 h2=>U));have gi:B<=w5:=eH du yV.size;rw[By];clear yV q1 q2 q3 q4 q5 K3 fL f0 f1 f2 f3 f4 f5 f6 z0 c1 By du qO;obtain⟨C,hC⟩:=J w5.heap.size;have HC:=V hC;rw[hC]at gi;clear hC;obtain⟨rH,Bl,pW⟩:=Ir.I;have SV:p.m.length=m:=U;have HM:=V (show iE g ⟨ZY.yU (p.m.drop 0)++R3,0⟩ w5 by rw[List.drop_zero,rH];exact jk.I);have U3:=V (λi (hi:i<m) w (h:iE g ⟨ZY.yU (p.m.drop i)++R3,0⟩ w)=>(show aA aq 85 #[aP g] w (NumOut g .u32 (IntKind.u32.wrap (p.m.getD i 0)) ⟨ZY.yU (p.m.drop (i+1))++R3,0⟩ w) by
    have h2:=Pf g _ w h (by simp only[dG,ZY.abp,List.length_drop];omega);rwa[ZY.aj7 (d:=p.m) (j:=i) U R3]at h2))
   clear Ir;have Ir:=V Bl;clear rH Bl pW jk;go_loopw [53] (λi wr=>∃(i':Nat) (vd:aj),i'<=m/\i=Y Z i'/\wr.heap[w.heap.size+1]? =A (ag #[O pd j cd,Y Z p.w.e,O b m k,vd,O G 0 0,Y Z 0,O G 0 0] 105 (0,0))/\wr.ownsRow C 21 1 vd i' ((p.m.take i').map (Y cr))/\iE g ⟨ZY.yU (p.m.drop i')++R3,0⟩ wr/\ar C (λb=>b=g\/b=w.heap.size+1) w5 wr) (λi _=>m-(aX i).toNat)
   case atStart=>exact⟨0,_,cK _,rfl,vT.I,gP _ _ _ _,HM.I,ar.cP _ _ _⟩
   case round=>
    obtain⟨i,vd,hi',rfl,hp,aV,fO,hk⟩:=hrel;have HP:=V hp;have iR:=V aV;have il:=V fO;have HK:=V hk;clear aV fO hk hp;have qO:C<=wr:=by have:=HK.I.size;rw[HC.I]at this;exact this
    have K6:=V (K5.I.step (HK.I.mono (C:=w5) Q4n (λ_ _ h=>h)));by_cases aT:i<m
    .have HS:=V (T.yz (z:=p.m) (k:=i) U);have U4:=V (U3.I i aT wr.drew (il.I.below (below_drewN wr 1)));have hx:=HF.I.mg (p.m.getD i 0) (by rw[gB,cR (show i<p.m.length by omega)];exact jZ _);have e3:=aj8 (x:=p.m.getD i 0) U U;generalize p.m.getD i 0=x at*;obtain⟨dt,rN⟩:=J (p.m.take i);rw[rN]at iR HS;clear rN hx;have hS:(λw':H=>w' ⟨w+1,3,G⟩=A vd/\w' q=A (aP g)) wr.drew:=⟨bh HP.I 3 rfl,bh K6.I.aN.1 0 rfl⟩;obtain⟨i0,hi,cF,cG,cB⟩:=fB Dq;go_wp2_with fail;refine Lt.begins (λw':H=>w' ⟨w+1,3,G⟩=A vd/\w' q=A (aP g)) (λj=>j==11) kr ?_;refine bR hS [0,2,1,3,4,5] (λ_ h=>aw h.1 h.2) (bL 6 λK hK=> ?_);go_simp;refine U4.I.mono ?_;rintro e w6 ⟨rfl,h1,oR⟩;have h2:ar wr (λb=>b=g) wr w6:=ar.vP oR;clear oR;have qM:=V h1;have dh:=λb (h:vd.ownBlock=A b)=>(iR.I.lt b h);have FD:=V (Own.kept iR.I h2 (λb hb=>by have:=dh b hb;exact⟨this.2,U⟩));have qi:=V (h2.bC (by show _<wr.heap.size;omega) U HP.I);have K7:=V (K6.I.step (h2.mono (C:=wr) (bu _) (λ_ _ h=>aM h)));have jF:=V (HK.I.trans' (h2.mono (C:=wr) (S':=λb=>b=g\/b=w.heap.size+1) (bu _) (λ_ _ h=>aM h)) qO);have du:C<=w6:=eH qO h2.size;clear h1 h2 U4 il HK iR dh HP K6 hS;have hS:(λw':H=>w' ⟨w+1,3,G⟩=A vd/\w' q=A (aP g)) w6:=⟨bh qi.I 3 rfl,bh K7.I.aN.1 0 rfl⟩;refine bB hK hS ?_;refine bR hS [7] (λ_ h=>aw h.1 h.2) (bL 8 λK hK=> ?_);go_simp;have bX:(λw':H=>w' ⟨w+1,3,G⟩=A vd/\w' q=A (aP g)) (li w6 (ag #[Y cr x] 21)):=⟨fq hS.1 _,fq hS.2 _⟩;refine cY hK bX 9 λK hK=> ?_;refine lM _ cJ _ _ _ cJ C 21 i0 _ 1 4 underlying103 hi cF cG cB rfl U vd i (dt.map (Y cr)) cJ (FD.I.alloc _) ⟨w6,0,G⟩ 1 1 [Y cr x] cJ cJ (kJ w6 _ _) Q35 U Q2V U Q2R _ rfl ?_;intro g1 c1 w7 cC bM cN ei;have dh:=λb (h:vd.ownBlock=A b)=>(FD.I.lt b h).1;obtain⟨f1,f2,f3,f4⟩:=App.field 3 qi.I U du dh cC bM (App.at' dh cN Q5j);simp only[dC,dD,dE]at f1;have mL:=V (qM.I.kept f3 U (λb h1 h2=>U));have nh:=V (jF.I.trans' (f3.mono (C:=C) (bu _) (λb h1 h2=>bJ h2)) (bu _));have UL:=V f1;have mO:=V f2;have iD:=gI bM (dX qi.I _) (λh=>E (dh _ h));have hS:(λw':H=>w' ⟨w+1,3,G⟩=A vd/\w' q=A (aP g)) w7:=⟨bh iD 3 rfl,bh (gI bM (dX K7.I.aN.1 _) (λh=>E (dh _ h))) 0 rfl⟩;have z3:=cE iD 3;clear bX cC bM cN ei dh iD f1 f2 f3 f4;refine bB hK hS ?_;refine bR hS [10] (λ_ h=>aw h.1 h.2) ?_;obtain⟨c3,-⟩:=hS;refine bL 11 λK hK=> ?_;go_simp;refine jg hK ?_;clear c3 z3;refine bW ?_;generalize ss w7 ⟨w+1,3,G⟩ (O g1 (i+1) c1)=w8 at*;go_wp2_with fail;go_roundw
     case rel=>exact⟨i+1,_,U,Q2T,UL.I,Q4R,mL.I,nh.I⟩
     case measure=>exact Q5q
    .obtain rfl:i=m:=U;have aV:=iR.I;rw[oQ (by omega:p.m.length<=i)]at aV;obtain⟨pm,cm,rfl,gC⟩:=ai.nJ aV (λy hy=>by have:=HF.I.mg y hy;exact Fa U U) U;have UM:=V (λx (hx:pm=A x)=>(aV.lt x.block Q3b));have fO:=il.I;rw[sx.2 (by omega:p.m.length<=i)]at fO;have abr:iE g ⟨ZY.put (cD.wrap (b0)) 2++R4,0⟩ wr:=by rw[Ir.I];exact fO
     have tE:=V abr;have K8:=V (K6.I.and (di.row gC (λx hx=>E (UM.I x hx))));have abt:=V (abq.I.trans' (HK.I.mono (C:=w) (S':=λb=>b=g) U (λb h1 h2=>U)) (bu _));clear aV gC fO abr il HK iR K6 K5 abq HM U3 vT;have DB:=V (show jL wr #[O pd j cd,Y Z p.w.e,O b i k,O pm i cm,O G 0 0,Y Z 0,O G 0 0] ⟨p.w,p.m,az.zero⟩from⟨_,_,_,_,_,_,_,_,_,_,_,_,_,_,_,rfl,K8.I.aN.1.2.2.1,K8.I.aN.1.2.2.2,K8.I.aN.2,ai.zero _ _ _,ai.zero _ _ _⟩);have hmv:bD.moves ⟨p.w,p.m,az.zero⟩=true:=by
      unfold bD.moves;simp only[fS,decide_eq_true_eq,Bool.not_eq_true',List.any_eq_false];refine⟨HF.I.ml,λx hx=> ?_⟩;have:=HF.I.mg x hx;simp[ZX.ni];omega
     have MV:=V (hmv▸ab6 _ _ wr DB.I);have f0:=bE HP.I;clear hmv;go_wp2_with fail;refine bY MV.I λw9 gK=> ?_;have K9:=V (K8.I.below gK);have DC:=V (bV HP.I gK);have lr:=V (tE.I.below gK);have abu:=V (abt.I.trans' (ar.cZ gK) U);have aja:C<=w9:=eH qO gK.size;clear gK K8 HP tE abt DB MV f0 qO;go_wp2_with fail;refine cq (CK.I _ _ K9.I.aN.1.1 lr.I) ?_;have c0:=bh K9.I.aN.1.1 0 (v:=aP g) rfl;have U5:=V (show aA aq 119 #[aP g] w9 (NumOut g Z (b0) ⟨R4,0⟩ w9) by
      have h2:=Ut g _ w9 lr.I Q31;have e9:cD.wrap (b0)=b0:=Q36;rwa[e9,dH.UD _ _ U U]at h2)
     go_wp2_with fail;refine U5.I.mono ?_;rintro e wA ⟨rfl,h1,h2⟩;have KA:=V (K9.I.step (h2.mono (C:=w9) (bu _) (λ_ _ h=>aM h))|>.alloc (ag #[Y Z (b0)] 3));have Lh:=V (dX (jE.bC h2 DC.I U) (ag #[Y Z (b0)] 3));have Li:=V (h1.below (aD wA (ag #[Y Z (b0)] 3)));have abv:=V ((abu.I.trans' h2 U).trans' (ar.cZ (aD wA (ag #[Y Z (b0)] 3))) (E h2.size));have eX:C<=wA.heap.size:=eH aja h2.size;have HD:=V (show ai Z (wA.alloc (ag #[Y Z (b0)] 3)) wA 1 p.b.d by
      have h:=ai.new wA Z 3 (0,0) [b0] (λz hz=>by obtain rfl:=List.mem_singleton.1 hz;exact gF U U) bK;rw[Iq];exact h)
     clear h1 h2 K9 DC lr abu U5 c0;go_wp2_with fail;refine cq (CI _ _ _ _ _ HD.I) ?_;rw[show decide (0<Sh.size p.b.d)=true by simpa using HF.I.b.1];go_wp2_with fail;refine cq (CK.I _ _ KA.I.aN.1.1 Li.I) ?_;go_wp2_with fail;refine(RB.I _ _ _ _ KA.I.aN.1.1 Li.I HD.I (λx hx=>by cases hx;show wA.heap.size≠g;omega)).mono ?_;rintro e wB ⟨b2,m2,k2,rfl,h1,h2,h3,h4⟩;unfold aS;have KB:=V (KA.I.step (h4.mono (C:=(wA.alloc (ag #[Y Z b0] 3)).heap.size) (bu _) (λ_ _ h=>aM h)));have HPB:=V (jE.bC h4 Lh.I U);have xA:=V (jE.row h4 HD.I (λx hx=>by cases hx;show wA.heap.size≠g;omega));have HZB:=V h1;have HZL:=V (λx hx=>(eH Q2Y (h2 x hx):C<=x.block));have kx:=V h3;have ajb:=V (abv.I.trans' h4 Q2Y);have o9:wA.heap.size+1<=wB.heap.size:=by have:=h4.size;rw[bF]at this;exact this
     clear h1 h2 h3 h4 KA Lh HD Li abv;have f0:=bE HPB.I;have z0:=λj=>cE HPB.I j;have g0:=bE KB.I.aN.1.2.1;have y0:=λj=>cE KB.I.aN.1.2.1 j;go_wp2_with fail;have hkC:ar wB (λb=>b=w.heap.size+1) wB (((wB.setCell ⟨w+1,4,G⟩ (O wA 1 1)).setCell ⟨w+1,5,G⟩ (Y Z p.b.e)).setCell ⟨w+1,6,G⟩ (O b2 m2 k2)):=
      (((ar.cP _ (λb=>b=w.heap.size+1) _).set (aM rfl) _ _).set (aM rfl) _ _).set (aM rfl) _ _
     generalize(((wB.setCell ⟨w+1,4,G⟩ (O wA 1 1)).setCell ⟨w+1,5,G⟩ (Y Z p.b.e)).setCell ⟨w+1,6,G⟩ (O b2 m2 k2))=wC at*;have vU:=V (hkC.bC (g:=w) U U KB.I.aN.1.2.1);have hk:ar wB (λb=>b=w.heap.size+1\/b=w.heap.size) wB _:=(hkC.mono (S':=λb=>b=w.heap.size+1\/b=w.heap.size) (bu _) (λ_ _ h=>aM h)).vS (g:=w) (aM (bJ rfl)) (O pd j cd) (Y Z p.w.e) (O b i k) (O pm i cm) (O wA 1 1) (Y Z p.b.e) (O b2 m2 k2);refine aZ (v:=aF #[O pd j cd,Y Z p.w.e,O b i k,O pm i cm,O wA 1 1,Y Z p.b.e,O b2 m2 k2]) ?_ rfl ⟨_,rfl,⟨_,_,_,_,_,_,_,_,_,_,_,_,_,_,_,rfl,?_,?_,?_,?_,?_⟩,kx.I.kept hk U (λb h1 h2=>U),ajb.I.trans' (hk.mono (C:=w) (S':=λb=>b=g) U (λb h1 h2=>U)) (bu _)⟩
     .simp[aW,results87,go_sem,oL vU.I]
     .exact⟨hk.gH KB.I.aN.1.2.2.1 (λx hx h0=>⟨KB.I.aN.1.2.2.1.bC h0 hx,by have:=(jJ.I x hx).1;omega⟩),λx hx _=>E ((jJ.I x hx).1)⟩
     .exact⟨hk.gH KB.I.aN.1.2.2.2 (λx hx h0=>⟨KB.I.aN.1.2.2.2.bC h0 hx,by have:=dA.I x hx;omega⟩),λx hx _=>E (dA.I x hx)⟩
     .exact⟨hk.gH KB.I.aN.2 (λx hx h0=>⟨KB.I.aN.2.bC h0 hx,by have:=(UM.I x hx).1;omega⟩),λx hx _=>E ((UM.I x hx).1)⟩
     .exact⟨hk.gH xA.I (λx hx h0=>⟨xA.I.bC h0 hx,by cases hx;show ¬(wA.heap.size=_\/wA.heap.size=_);omega⟩),λx hx _=>by cases hx;show w.heap.size<=wA.heap.size;omega⟩
     .exact⟨hk.gH HZB.I (λx hx h0=>⟨HZB.I.bC h0 hx,by have:=HZL.I x hx;omega⟩),λx hx _=>E (HZL.I x hx)⟩
def ajc (s:dJ) (w:H) (e:Ending) (w':H):Prop:=∃a n c,e=bG (aL #[aF (s.cells a n c),Y Z 0])/\rM (λb=>w.heap.size<=b) w' a n s.ps/\n<=c/\ay w w w'
theorem ajd:aq.underlying 42=A (.slice 5):=Q2Q
theorem aje:aq.underlying 5=A (.int .u8):=Q2Q
theorem ajf:aq.underlying 9=A .string:=Q2Q
theorem abw (b:Addr) (c:Nat) (zs:ah) (l:List UInt8) (w:H) (h:ai .u8 w (A b) l.length zs) (hz:zs=l.map λx=>(x.toNat:Int)):(convert 42 9 (O (A b) l.length c)).run aq w= .ok (.string ⟨l.toArray⟩) w:=
 run_convert_bytes_back w 42 9 5 b c l ajd aje ajf (λj hj=>by
  obtain⟨b',o,e,hc⟩:=h.cells U;injection e with e;subst e;have:=hc j hj;have e2:(⟨b',o,G⟩:Addr).add j=⟨b',o+j,G⟩:=by unfold Addr.add;split<;>simp_all
  rw[e2,this,hz];simp[dV,hj])
theorem Pq:(aq.info? 105).map (λi=>(i.zero,i.size,i.bytes))=A (A (aF yS),7,136):=Q2Q
theorem ajg (s:dJ):ZY.enc s=[112,100,115,116]++(ZY.put s.au 8++(ZY.put (IntKind.u32.wrap s.step) 4++(ZY.put (cD.wrap (s.ps.length:Int)) 1++s.ps.flatMap ZY.iu))):=rfl
theorem ajh {ps:List bD} (h:j<ps.length):(ps.drop j).flatMap ZY.iu=ZY.iu (ps.getD j bD.nil)++(ps.drop (j+1)).flatMap ZY.iu:=by
 rw[List.drop_eq_getElem_cons h,rz];simp[dV,h]
theorem abx {T:dy} {g bo:Nat} {r:dH} {w2 W:H} {x y z a b c:aj} (hb:W.heap[bo]? =A (ag #[x,y,z] T (0,0))) (hr:iE g r W) (hk:ar w2 (λb=>b=g) w2 W) (cy:w2.heap.size<=bo) (hg:g<w2):
 ∃UO,aP bo=aP (A ⟨UO,0,G⟩)/\(ss (ss (ss W bo a) ⟨bo,1,G⟩ b) ⟨bo,2,G⟩ c).heap[UO]? =A (ag #[a,b,c] T (0,0))/\iE g r (ss (ss (ss W bo a) ⟨bo,1,G⟩ b) ⟨bo,2,G⟩ c)/\
  ar w2 (λb=>b=g) w2 (ss (ss (ss W bo a) ⟨bo,1,G⟩ b) ⟨bo,2,G⟩ c)/\w2.heap.size<=UO:=
 ⟨bo,rfl,oV hb,hr.kept ((ar.cP w2 (λb=>b=bo) W).eJ (aM rfl) a b c) hg (λd h1 h2=>U),hk.eJ (bJ cy) a b c,cy⟩
theorem aby (s:dJ) (a:aC) (l c:Nat) (w:H) (h:ai .u8 w a l (ZY.enc s)) (hm:s.aH=true) (gD:0<=s.au/\s.au<=18446744073709551615) (lQ:∀p∈s.ps,p.wf):
 aA aq 32 #[O a l c] w (ajc s w):=by
 have UQ:=hm;unfold dJ.aH at UQ;simp only[fS,decide_eq_true_eq,Bool.not_eq_true',List.any_eq_false]at UQ;obtain⟨xu,iK,aiV,hpm⟩:=UQ;have Is:=V (λ(p:bD) (hp:p∈s.ps)=>(by simpa using hpm p hp:p.aH=true));have yu:=ZY.zT (L:=s.ps) Is.I;rw[ajg]at h;have hlen:=h.bA;obtain⟨n,hn⟩:=J s.ps.length;have e32:IntKind.u32.wrap s.step=s.step:=Q33;have e64:cD.wrap (s.ps.length:Int)=(n:Int):=Q36;rw[e32,e64]at h;have NR:=V (Ur a l c _ (li w (kI 0 0 G 0 0)) (h.below (aD w _)) Q4v);have RW:=V (λg w' h=>(show aA aq 83 #[aP (A ⟨g,0,G⟩),Y Z 4] w' (Ig g ([112,100,115,116],⟨ZY.put s.au 8++(ZY.put s.step 4++(ZY.put (n:Int) 1++s.ps.flatMap ZY.iu)),0⟩) w') by
  have h2:=KI g ⟨[112,100,115,116]++(ZY.put s.au 8++(ZY.put s.step 4++(ZY.put (n:Int) 1++s.ps.flatMap ZY.iu))),0⟩ 4 w' h (by simp only[dG,ZY.fI,n8,List.length_nil];omega);rwa[dH.Ld _ _ 4 rfl U]at h2))
 have US:=V (λg w' h=>(show aA aq 84 #[aP (A ⟨g,0,G⟩)] w' (NumOut g cD s.au ⟨ZY.put s.step 4++(ZY.put (n:Int) 1++s.ps.flatMap ZY.iu),0⟩ w') by
  have h2:=aiF g ⟨ZY.put s.au 8++(ZY.put s.step 4++(ZY.put (n:Int) 1++s.ps.flatMap ZY.iu)),0⟩ w' h Q31;rwa[dH.aiY _ _ gD.1 gD.2]at h2))
 have UT:=V (λg w' h=>(show aA aq 85 #[aP (A ⟨g,0,G⟩)] w' (NumOut g .u32 s.step ⟨ZY.put (n:Int) 1++s.ps.flatMap ZY.iu,0⟩ w') by
  have h2:=Pf g ⟨ZY.put s.step 4++(ZY.put (n:Int) 1++s.ps.flatMap ZY.iu),0⟩ w' h Q31;rwa[dH.abj _ _ U U]at h2))
 have UN:=V (λg w' h=>(show aA aq 86 #[aP (A ⟨g,0,G⟩)] w' (NumOut g Z n ⟨s.ps.flatMap ZY.iu,0⟩ w') by
  have h2:=Ih g ⟨ZY.put (n:Int) 1++s.ps.flatMap ZY.iu,0⟩ w' h Q31;rwa[dH.Io,show(n:Int)%256=n by omega]at h2))
 have CK:=V Pn;have RP:=V (λq g j (hj:j<n) w' (hq:w'.heap[q]? =A (ag #[aP (A ⟨g,0,G⟩),Y Z 0] 174 (0,0))) (hr:iE g ⟨(s.ps.drop j).flatMap ZY.iu,0⟩ w') (cI:q≠g)=>(show aA aq 87 #[aP (A ⟨q,0,G⟩)] w' (UJ g (s.ps.getD j bD.nil) ((s.ps.drop (j+1)).flatMap ZY.iu) w') by
  have N5:iE g ⟨ZY.iu (s.ps.getD j bD.nil)++(s.ps.drop (j+1)).flatMap ZY.iu,0⟩ w':=by rw[<-ajh U];exact hr
  have sX:s.ps.getD j bD.nil∈s.ps:=by rw[gB,cR (show j<s.ps.length by omega)];exact jZ _
  have h1:=ZY.zT (L:=s.ps.drop (j+1)) (λp hp=>Is.I p (List.mem_of_mem_drop hp));have h2:=ZY.abb (Is.I _ sX);rw[List.length_drop]at h1;by_cases h0:(s.ps.getD j bD.nil).none=true
  .exact aj3 q g _ _ w' hq N5 cI h0 (by rw[dG];omega)
  .exact aj9 q g _ _ w' hq N5 cI (Is.I _ sX) (by simpa using h0) (lQ _ sX) U))
 have HW:=V (aw xu iK);clear h hm hpm yu hlen lQ e32 e64 gD;go_enter func32,ntmps32;go_wp2_with fail;refine NR.I.mono ?_;rintro e w1 ⟨g,rfl,h1,h2,h3⟩;have Pr:=V (h3.step (aD w1 (ag #[aP g,Y Z 0] 174)));have Lj:w.heap.size<g:=by rw[bF]at h2;omega
 have pX:g<w1:=by obtain⟨_,_,_,hb,_⟩:=h1;exact bH hb
 have KR:=V ((di.block (S:=λb=>b=g) (bV (bZ w (kI 0 0 G 0 0)) h3) U).alloc (ag #[aP g,Y Z 0] 174)|>.and (di.new _ U)|>.and (di.kept _));have gG:=V (h1.below (aD w1 (ag #[aP g,Y Z 0] 174)));clear h1 h2 h3;have c0:=bh KR.I.aN.1.2 0 (v:=aP g) rfl;go_wp2_with fail;refine(RW.I g _ gG.I).mono ?_;rintro e w2 ⟨a2,l2,c2,rfl,t1,t2,t3,t4,t5⟩;have K2:=V (KR.I.step t5);have cU:=V t4;have j8:=t1.bA;obtain rfl:4=l2:=by simpa using j8
 obtain⟨b2,o2,rfl,_⟩:=t1.cells U;have CV:(convert 42 9 (O (A ⟨b2,o2,G⟩) 4 c2)).run aq w2= .ok (.string ⟨#[112,100,115,116]⟩) w2:=abw ⟨b2,o2,G⟩ c2 _ [112,100,115,116] w2 t1 rfl;obtain⟨MG,FE⟩:∃MG:ByteArray,(⟨#[112,100,115,116]⟩:ByteArray)=MG:=⟨_,rfl⟩;rw[FE]at CV;have Iu:=V FE;clear FE;clear c0;have c0:=bh K2.I.aN.1.2 0 (v:=aP g) rfl;go_wp2_with fail;have pW:(MG.toList==[112,100,115,116])=true:=Q58;rw[pW];refine cq (CK.I _ g _ _ K2.I.aN.1.2 cU.I) ?_;have zI:g<w1:=pX;obtain⟨q,hq⟩:=J w1.heap.size;rw[hq]at K2 zI;rw[hq]at c0⊢;clear pW CV Iu hq;have pI:=bH K2.I.aN.1.2;go_upto_region 3 with fail;go_cut [5] (λv wx=>∃bo,v=aP (A ⟨bo,0,G⟩)/\wx.heap[bo]? =A (kI s.au s.step G 0 0)/\iE g ⟨ZY.put (n:Int) 1++s.ps.flatMap ZY.iu,0⟩ wx/\ar w2 (λb=>b=g) w2 wx/\w2.heap.size<=bo)
 case first=>
  have fE:=HW.I;have ew:Z.wrap s.step=s.step:=dv _ U;clear fE;refine Lt.begins (λw':H=>w' q=A (aP g)) (λj=>j==13) kr ?_;refine cQ (w:=w2.drew) c0 [0,5,1,6,2,7,3,8] ?_;refine lI 4 12 (λK hK=> ?_) (λK hK=> ?_)
  .go_simp;refine(US.I g _ (cU.I.below (below_drewN w2 1))).mono ?_;rintro e w3 ⟨rfl,h1,oR⟩;have h2:ar w2 (λb=>b=g) w2 w3:=ar.vP oR;have K3:=V (K2.I.step h2);refine bB hK (bh K3.I.aN.1.2 0 rfl) ?_;refine lI 9 12 (λK hK=> ?_) (λK hK=> ?_)
   .go_simp;refine(UT.I g _ h1).mono ?_;rintro e w4 ⟨rfl,h3,h4⟩;have K4:=V (K3.I.step h4);refine bB hK (bh K4.I.aN.1.2 0 rfl) ?_;refine cQ (w:=w4) (bh K4.I.aN.1.2 0 rfl) [10,11] (bL 12 λK hK=> ?_);go_simp;refine bB hK (bh (K4.I.alloc _).aN.1.2 0 rfl) ?_;have hN:=bZ w4 (kI 0 0 G 0 0);have z0:=aY hN;have hW:=V (aw (h3.below (aD w4 (kI s.au s.step G 0 0))) (aw ((h2.trans' h4 h2.size).trans' (ar.cZ (aD w4 (kI s.au s.step G 0 0))) (eH h2.size h4.size)) (eH h2.size h4.size)));refine bL 13 λK hK=> ?_;go_simp;refine jg hK ?_;refine bW ?_;clear hN h1 h3;go_wp2_with fail;go_meet
    exact⟨_,rfl,bZ _ _,hW.I.1,hW.I.2.1,hW.I.2.2⟩
   .go_simp;refine cY hK (bh (K3.I.alloc _).aN.1.2 0 rfl) 9 λK hK=> ?_;go_simp;refine(UT.I g _ (h1.below (aD w3 _))).mono ?_;rintro e w4 ⟨rfl,h3,h4⟩;have K4:=V ((K3.I.alloc (kI 0 0 G 0 0)).step h4);refine bB hK (bh K4.I.aN.1.2 0 rfl) ?_;refine cQ (w:=w4) (bh K4.I.aN.1.2 0 rfl) [10,11] ?_;have hN:=jE.bC h4 (bZ w3 (kI 0 0 G 0 0)) (E h2.size);have z0:=aY hN;have hW:=V (abx (a:=Y cD s.au) (b:=Y Z s.step) (c:=O G 0 0) hN h3 ((h2.trans' (ar.cZ (aD w3 (kI 0 0 G 0 0))) h2.size).trans' h4 (eH h2.size (aD w3 _).size)) h2.size U);exact Q1J
  .go_simp;have K2d:=V ((K2.I.bI 1).alloc (kI 0 0 G 0 0));refine cY hK (bh K2d.I.aN.1.2 0 rfl) 4 λK hK=> ?_;go_simp;refine(US.I g _ ((cU.I.below (below_drewN w2 1)).below (aD _ _))).mono ?_;rintro e w3 ⟨rfl,h1,h2⟩;have K3:=V (K2d.I.step h2);have oW:ar w2 (λb=>b=g) w2 (li w2.drew (kI 0 0 G 0 0)):=ar.vP (ar.cZ (aD w2.drew _));have xu:w2.heap.size+1<=(li w2.drew (kI 0 0 G 0 0)).heap.size:=by rw[bF];exact bu _
   have nK:=h2.size;have hN:=jE.bC h2 (bZ w2.drew (kI 0 0 G 0 0)) (by show w2.heap.size≠g;omega);refine cY hK (bh K3.I.aN.1.2 0 rfl) 9 λK hK=> ?_;go_simp;refine(UT.I g _ h1).mono ?_;rintro e w4 ⟨rfl,h3,h4⟩;have K4:=V (K3.I.step h4);refine bB hK (bh K4.I.aN.1.2 0 rfl) ?_;refine cQ (w:=w4) (bh K4.I.aN.1.2 0 rfl) [10,11] ?_;have hN:w4.heap[w2.heap.size]? =_:=jE.bC h4 hN (by show w2.heap.size≠g;omega);have z0:=aY hN;have hW:=V (abx (a:=Y cD s.au) (b:=Y Z s.step) (c:=O G 0 0) hN h3 ((oW.trans' h2 (Nat.le_of_succ_le xu)).trans' h4 (eH (Nat.le_of_succ_le xu) nK)) (bu _) U);exact Q1J
 case rest=>
  obtain⟨bo,rfl,cy,fO,hk,lG⟩:=hcut;have K3:=V (K2.I.step hk);have HN3:=V cy;have fL:=V fO;have cW:=bH cy;have jm:=hk.size;clear cy fO hk K2 c0;have f0:=aY HN3.I;have fE:=HW.I;have es:decide (s.step<=1000000)=true:=by simpa using fE.2
  have en:decide ((n:Int)<=12)=true:=Q2R;clear fE;go_wp2_with fail;refine cq (CK.I q g _ _ K3.I.aN.1.2 fL.I) ?_;have c0:=bh K3.I.aN.1.2 0 (v:=aP g) rfl;go_wp2_with fail;refine(UN.I g _ fL.I).mono ?_;rintro e w3 ⟨rfl,h1,h2⟩;have K4:=V (K3.I.step h2);have gU:=V h1;have HN4:=V (jE.bC h2 HN3.I U);have fZ:=eH jm h2.size;have oH:=Nat.lt_of_lt_of_le cW h2.size;clear h1 h2 c0 jm;go_wp2_with fail;refine cq (CK.I q g _ _ K4.I.aN.1.2 gU.I) ?_;go_wp2_with fail;obtain⟨B,hB⟩:=J w3.heap.size;have HB:=V hB;rw[hB]at oH fZ;clear hB;go_loopw [7] (λi wr=>∃(j:Nat) (vd:aj) (CS:List (Array aj)),j<=n/\i=Y Z j/\wr.heap[bo]? =A (ag #[Y cD s.au,Y Z s.step,vd] 48 (0,0))/\gy lq 7 105 B (λb=>B<=b) wr vd (s.ps.take j) CS/\iE g ⟨(s.ps.drop j).flatMap ZY.iu,0⟩ wr/\ar B (λb=>b=g\/b=bo) w3 wr) (λi _=>n-(aX i).toNat)
  case atStart=>exact⟨0,_,[],cK _,rfl,HN4.I,Q57,gU.I,ar.cP _ _ _⟩
  case round=>
   obtain⟨j,vd,CS,hj,rfl,cy,nS,fO,hk⟩:=hrel;have HO:=V cy;have HM:=V nS;have HR:=V fO;have HK:=V hk;clear cy nS fO hk;have qO:B<=wr:=Q3p;have HQ:=V (HK.I.bC (g:=q) U U K4.I.aN.1.2);have hqg:q≠g:=U;have c1:=bh HQ.I 1 (v:=Y Z 0) rfl;by_cases aT:j<n
   .have RPj:=V (RP.I q g j aT wr.drew HQ.I (HR.I.below (below_drewN wr 1)) hqg);have HS:=V (show s.ps.take (j+1)=s.ps.take j++[s.ps.getD j bD.nil] by rw[sV U];simp[dV,show j<s.ps.length by omega]);generalize s.ps.getD j bD.nil=p at*;obtain⟨dt,rN⟩:=J (s.ps.take j);have jU:dt.length=j:=by rw[<-rN,List.length_take];omega
    rw[rN]at HM HS;have hS:(λw':H=>w' ⟨bo,2,G⟩=A vd) wr.drew:=bh HO.I 2 rfl;obtain⟨i0,hi,cF,cG,cB⟩:=fB Pq;have i1:(j:Int)<(n:Int):=U;clear rN;go_wp2_with fail;refine Lt.begins (λw':H=>w' ⟨bo,2,G⟩=A vd) (λj=>j==7) kr ?_;refine cQ hS [0,2,1] (bL 3 λK hK=> ?_);go_simp;refine RPj.I.mono ?_;rintro e w4 ⟨cs,rfl,h1,h2,UR⟩;have h3:ar wr (λb=>b=g) wr w4:=ar.vP UR;have hv:=λb (h:vd.ownBlock=A b)=>HM.I.2.2.lt b h;have HX:=V (iF.move (fJ:=qt (λb=>B<=b) vd) h1 (ar.cP w4 (λ_=>False) w4) (λb hb ho=>by
     have ho:wr.heap.size<=b:=ho;exact⟨hb,id,λe=>E ((hv b e).2),U⟩))
    have BA:=V (HM.I.move iF (P':=λb=>B<=b) h3 (λb e=>by have:=hv b e;exact⟨this.2,U⟩) (λb hb _ ho=>⟨hb,U,ho⟩));have lJ:=V (h3.bC U U HO.I);have aji:=V h2;have lu:=V (HK.I.trans' (h3.mono (C:=wr) (S':=λb=>b=g\/b=bo) (bu _) (λ_ _ h=>aM h)) qO);have ajj:B<=w4:=eH qO h3.size;obtain⟨a1,l1,k1,a2,l2,k2,a3,l3,k3,a4,l4,k4,a5,l5,k5,rfl,-⟩:=h1;clear h2 h3 hv HM HO HR HK hS HQ;have hS:(λw':H=>w' ⟨bo,2,G⟩=A vd) w4:=bh lJ.I 2 rfl;refine cY hK hS 4 λK hK=> ?_;go_simp;have bX:(λw':H=>w' ⟨bo,2,G⟩=A vd) (li w4 (jq a1 l1 k1 p.w.e a2 l2 k2 a3 l3 k3 a4 l4 k4 p.b.e a5 l5 k5)):=fq hS _;refine bB hK bX ?_;have kg:=V (show w4.ownsRow B 105 7 vd j (CS.flatMap Array.toList)from jU▸BA.I.2.2);refine bL 5 λK hK=> ?_;refine lM _ cJ _ _ _ cJ B 105 i0 _ 7 136 underlying46 hi cF cG cB rfl U vd j (CS.flatMap Array.toList) cJ (kg.I.alloc _) ⟨w4,0,G⟩ 1 1 [O a1 l1 k1,Y Z p.w.e,O a2 l2 k2,O a3 l3 k3,O a4 l4 k4,Y Z p.b.e,O a5 l5 k5] cJ cJ (xy w4 #[O a1 l1 k1,Y Z p.w.e,O a2 l2 k2,O a3 l3 k3,O a4 l4 k4,Y Z p.b.e,O a5 l5 k5] _) Q35 U Q2V U Q2R _ rfl ?_;intro g1 c1 w7 cC bM cN ei;have dh:=λb (h:vd.ownBlock=A b)=>(kg.I.lt b h).1;have Iv:=gy.app iF BA.I HX.I (n:=j+1) U cC bM cN;obtain⟨f1,f2,f3,f4⟩:=App.field 2 lJ.I U ajj dh cC bM (App.at' dh cN Q5j);simp only[dC,dD,dE]at f1;have uD:=V (Iv.move iF (P':=λb=>B<=b) ((ar.cP w7 (λb=>b=bo) w7).set (g:=bo) (aM rfl) 2 (O g1 (j+1) c1)) (λb e=>by
     have e:A g1=A b:=e;injection e with e;have:=App.at' dh cN Q5j;exact⟨U,U⟩) (λb hb _ ho=>⟨hb,U,ho⟩))
    have mL:=V (aji.I.kept f3 U (λb h1 h2=>U));have nh:=V (lu.I.trans' (f3.mono (C:=B) (bu _) (λb h1 h2=>bJ h2)) (bu _));have UL:=V f1;have iD:=gI bM (dX lJ.I _) (λh=>E (dh _ h));have hS:(λw':H=>w' ⟨bo,2,G⟩=A vd) w7:=bh iD 2 rfl;have z3:=cE iD 2;clear cC bM cN ei dh f1;refine bB hK hS ?_;refine cQ hS [6] (bL 7 λK hK=> ?_);go_simp;refine jg hK ?_;clear hS;refine bW ?_;generalize ss w7 ⟨bo,2,G⟩ (O g1 (j+1) c1)=w8 at*;go_wp2_with fail;go_roundw
    case rel=>exact⟨j+1,_,_,U,Q2T,UL.I,Q5l,mL.I,nh.I⟩
    case measure=>exact Q5q
   .obtain rfl:j=n:=U;have jl:=HR.I;rw[sx.2 (by omega:s.ps.length<=j)]at jl;have ng:=HM.I;rw[oQ (by omega:s.ps.length<=j)]at ng;obtain⟨pa,pc,rfl,pJ,iq,qP⟩:=ng.on iF U hn U (ok:=λb=>B<=b/\b<wr.heap.size) (λb hb h=>⟨h,hb⟩) (λb hb h=>⟨h,hb⟩);have lp:=V iq;have Ll:=V (show iE g ⟨[],0⟩ wr from jl);have jK:=V (HK.I.bC (g:=w) U U K4.I.aN.1.1);have jV:=V (Below.gh (Below.gh ((aD w _).step Pr.I) K4.I.aN.2 (λb h=>by have:=Pr.I.size;rw[bF]at this;exact⟨U,U⟩)) HK.I (λb h=>by exact⟨U,U⟩));have c0:=bh HQ.I 0 (v:=aP g) rfl;have z1:=cE HQ.I 1;have f0:=aY HO.I;have g0:=aY jK.I;clear jl ng iq HM;go_wp2_with fail;refine cq (KJ g ⟨[],0⟩ wr Ll.I) ?_;rw[show dH.fin ⟨[],0⟩=0 from rfl];go_wp2_with fail;have hk:ar wr (λb=>b=q\/b=w.heap.size) wr (ss (ss (ss (ss wr ⟨q,1,G⟩ (Y Z 0)) w (Y cD s.au)) ⟨w,1,G⟩ (Y Z s.step)) ⟨w,2,G⟩ (O pa j pc)):=
     ((ar.cP _ (λb=>b=q\/b=w.heap.size) _).set (aM (aM rfl)) _ _).eJ (aM (bJ rfl)) _ _ _
    have zU:(ss wr ⟨q,1,G⟩ (Y Z 0)).heap[w.heap.size]? =_:=(gj _ U).trans jK.I;refine aZ (v:=aL #[aF (s.cells pa j pc),Y Z 0]) ?_ rfl ⟨pa,j,pc,rfl,lp.I.move iF U hk (λb hb ho=>⟨hb,U,U⟩),pJ,Below.gh jV.I hk (λb h=>⟨U,U⟩)⟩;have t0:=aY (oV (a:=Y cD s.au) (b:=Y Z s.step) (c:=O pa j pc) zU);simp[aW,results32,dJ.cells,go_sem,t0]
structure dL.Bd (d:dL):Prop where
 a1:1<=d.a
 a2:d.a<=8
 b1:1<=d.b
 b2:d.b<=16
 c1:1<=d.c
 c2:d.c<=16
 e1: -64<=d.e
 e2:d.e<=64
 k1:2<=d.k
 k2:d.k<=10
theorem dL.bd {d:dL} (h:d.head n=true):d.Bd/\1<=n/\n<=64:=by
 simp only[dL.head,ZX.within,fS,decide_eq_true_eq]at h;obtain⟨⟨h1,h2⟩,⟨h3,h4⟩,⟨h5,h6⟩,⟨h7,h8⟩,⟨h9,h10⟩,h11,h12⟩:=h;exact⟨⟨h1,h2,h3,h4,h5,h6,h7,h8,h9,h10⟩,h11,h12⟩
theorem abz (d:dL) (x:ky) (xa:aC) (xl xm:Nat) (cs:Array aj) (ok:Nat->Prop) (w:H) (hd:d.Bd) (hx:kz ok w cs x):
 aA aq 46 #[aF (d.cells xa xl xm),aF cs] w (dZ (aK (d.one x)) w):=by
 obtain⟨a1,l1,c1,rfl,r1⟩:=hx;have KB:=V (aE.fG w (ag (d.cells xa xl xm) 28) (lB a1 l1 c1 x.y));have KR:=V r1.1.bt;have DS:=V (λw=>aaU d.a d.b d.c d.e d.k xa xl xm w hd.a1 hd.a2 hd.b1 hd.b2 hd.c1 hd.c2);have CT:=V (Zj a1 l1 c1 x.z (-128));have DI:=V aaS;have hk:=hd.k1;have ig:=hd.k2;have wk:Z.wrap (d.k-1)=d.k-1:=dv _ U;have hlen:=r1.1.bA;have ik:=r1.1.eC;unfold O7 at DS;unfold dL.one dL.sz;rw[hlen];obtain⟨SZ,hSZ⟩:=J (d.a*d.b*d.c);rw[hSZ]at DS⊢;clear hSZ hd hlen;generalize x.y=y at*;obtain⟨Z3,hA⟩:=J (decide ((l1:Int)=SZ));have eA:((l1:Int)==SZ)=Z3:=by rw[<-hA];exact(Bool.eq_iff_iff.2 bK)
 obtain⟨B,hB⟩:=J (decide ((-128:Int)∈x.z));rw[hB]at CT;rw[hA,hB];clear hA hB
 cases Z3;all_goals(try cases B)
 all_goals
  go_enter func46,ntmps46;go_wp2_with fail;have K0:=V (KB.I.bI 1);refine cS (λw':H=>w'.heap[w.heap.size]? =A (ag (d.cells xa xl xm) 28 (0,0))/\w'.heap[w.heap.size+1]? =A (lB a1 l1 c1 y)) (eE (⟨K0.F.1,K0.F.2.1⟩) λhS=>bR hS [0,3,1,2] (λ_ h=>aw (df h.1) (aw (nj h.2) (aw h.1 h.2))) ?_);refine bL 4 λK hK=> ?_;go_simp;refine bY (DS.I _) λw2 hb=> ?_;have K2:=K0.bU hb;have hS:(λw':H=>w'.heap[w.heap.size]? =A (ag (d.cells xa xl xm) 28 (0,0))/\w'.heap[w.heap.size+1]? =A (lB a1 l1 c1 y)) w2:=⟨K2.F.1,K2.F.2.1⟩;refine bB hK hS ?_;refine bR hS [5,6,7,8] (λ_ h=>aw (df h.1) (aw (nj h.2) (aw h.1 h.2))) (bL 9 λK hK=> ?_);go_simp;try(refine(CT.I w2 (KR.I _ K2.F.2.2)).mono ?_;rintro e w3 ⟨rfl,rfl⟩)
  refine bB hK hS ?_;refine bR hS [10,11,12,13,15,14,16,17] (λ_ h=>aw (df h.1) (aw (nj h.2) (aw h.1 h.2))) (bL 18 λK hK=> ?_);go_simp;try(refine(DI.I _ _ _ _).mono ?_;rintro e w3 ⟨rfl,rfl⟩)
  refine bB hK hS ?_;refine bR hS [19,20] (λ_ h=>aw (df h.1) (aw (nj h.2) (aw h.1 h.2))) (bW ?_);clear hS;go_wp2_with fail;go_ret;exact⟨Q2W,K2.F.2.2⟩
theorem abA (d:dL) (n:Int) (xa:aC) (xl xm:Nat) (w:H):aA aq 43 #[aF (d.cells xa xl xm),Y Z n] w (dZ (aK (d.head n)) w):=by
 have OI:=V aaS;have BB:=V (aD w (ag (d.cells xa xl xm) 28));have f0:=df (bZ w (ag (d.cells xa xl xm) 28));unfold dL.head;obtain⟨x0,e0⟩:∃x,ZX.within d.a 1 8=x:=⟨_,rfl⟩;obtain⟨x1,e1⟩:∃x,ZX.within d.b 1 16=x:=⟨_,rfl⟩;obtain⟨x2,e2⟩:∃x,ZX.within d.c 1 16=x:=⟨_,rfl⟩;obtain⟨x3,e3⟩:∃x,ZX.within d.e (-64) 64=x:=⟨_,rfl⟩;obtain⟨x4,e4⟩:∃x,ZX.within d.k 2 10=x:=⟨_,rfl⟩;obtain⟨x5,e5⟩:∃x,ZX.within n 1 64=x:=⟨_,rfl⟩;rw[e0,e1,e2,e3,e4,e5];have cs:x0=ae\/(x0=true/\x1=ae)\/(x0=true/\x1=true/\x2=ae)\/(x0=true/\x1=true/\x2=true/\x3=ae)\/(x0=true/\x1=true/\x2=true/\x3=true/\x4=ae)\/(x0=true/\x1=true/\x2=true/\x3=true/\x4=true):=by
  cases x0<;>cases x1<;>cases x2<;>cases x3<;>cases x4<;>simp
 rcases cs with rfl|⟨rfl,rfl⟩|⟨rfl,rfl,rfl⟩|⟨rfl,rfl,rfl,rfl⟩|⟨rfl,rfl,rfl,rfl,rfl⟩|⟨rfl,rfl,rfl,rfl,rfl⟩
 all_goals
  go_enter func43,ntmps43;go_wp2_with (go_at_call 108;refine(OI.I _ _ _ _).mono ?_;rintro e w' ⟨rfl,rfl⟩)
  go_ret;exact⟨rfl,BB.I⟩
theorem ajr (d:dL) (x:ky) (g:Nat) (xa:aC) (xl xm:Nat) (cs:Array aj) (ok:Nat->Prop) (w:H) (hg:w.heap[g]? =A (ag (d.cells xa xl xm) 28 (0,0))) (hd:d.Bd) (hx:kz ok w cs x):
 aA aq 45 #[aF cs,aP g] w (dZ (aK (!d.one x)) w):=by
 have HX:=V hx;obtain⟨a1,l1,c1,rfl,-⟩:=hx;have KB:=V (aE.fg w (lB a1 l1 c1 x.y));have ZY:=V (λw h=>abz d x xa xl xm #[O a1 l1 c1,Y Z x.y] ok w hd h);have f0:=df (bV hg KB.F.2);have g0:=nj KB.F.1;generalize d.one x=B at*;clear hg hd;go_enter func45,ntmps45;go_wp2_with fail;refine bY (ZY.I _ (iG.move HX.I (ar.cZ (S:=λ_=>False) KB.F.2) (λb hb h=>⟨hb,id,h⟩))) λw2 hb=> ?_;have HB:=V (KB.F.2.step hb);go_wp2_with fail;go_ret;exact⟨rfl,HB.I⟩
theorem Lm (d:dL) (ok:Nat->Prop) (xa:aC) (xl xm:Nat) (w:H) (h:cH kz 2 ok w xa xl d.xs):
 aA aq 14 #[aF (d.cells xa xl xm)] w (dZ (aK d.aH) w):=by
 have KB:=V (aE.fg w (ag (d.cells xa xl xm) 28));have DH:=V (λn w=>abA d n xa xl xm w);have HX:=V (h.bt iG U);have f0:=df KB.F.1;have hl:=h.2.1;unfold dL.aH;rw[h.1];obtain⟨Z3,hA⟩:=J (d.head (xl:Int));have HA:=V hA;rw[hA];clear hA h;go_enter func14,ntmps14;go_wp2_with fail;refine bY (DH.I _ _) λw2 hb=> ?_;rw[HA.I];have K2:=KB.bU hb;clear hb;have f0:=df K2.F.1
 cases Z3
 .exact Q0U
 .have hd:=(dL.bd HA.I).1;have CF:=V (ajl 45 #[aP (A ⟨w,0,G⟩)] (λx=> !d.one x) ok xa xl xm d.xs w2 (HX.I _ K2.F.2) (λcs x w' hb hx=>ajr d x w.heap.size xa xl xm cs ok w' (bV K2.F.1 hb) hd hx) (λargs w=>Q3J));obtain⟨B,hB⟩:=J (d.xs.any λx=> !d.one x);rw[hB]at CF;have HB:=V hB;clear hd hB;go_wp2_with fail;refine bY CF.I λw3 hb=> ?_;have K3:=K2.bU hb;go_wp2_with fail;go_ret;exact⟨by rw[HB.I];simp,K3.F.2⟩
namespace ZY
def mQ (x:ky):List Int:=put (cD.wrap x.y) 1++x.z.flatMap λn=>put (cD.wrap n) 1
def FH (d:dL):List Int:=[d.a,d.b,d.c,d.e,d.k].flatMap λn=>put (cD.wrap n) 1
def DG (d:dL):List Int:=[112,100,100,115]++(FH d++(put (cD.wrap (d.xs.length:Int)) 2++d.xs.flatMap mQ))
theorem abB (x:ky):(mQ x).length=1+x.z.length:=by
 unfold mQ;rw[dG,fI,sW (λ_=>fI _ 1)];omega
theorem abC (d:dL):(FH d).length=5:=by
 unfold FH;rw[sW (λ_=>fI _ 1)];rfl
theorem Ln:∀{L:List ky} {N:Nat},(∀x∈L,x.z.length<=N)->(L.flatMap mQ).length<=L.length*(N+1)
 | [],N,_=>Q2W
 |x::L,N,h=>by
  have:=Ln (L:=L) (λy hy=>h y Q53);have h1:=h x bK;rw[rz,dG,abB,n8,Nat.add_mul];omega
theorem ajt {x:ky} (h:z[j]? =A x):(z.take (j+1)).flatMap mQ=(z.take j).flatMap mQ++mQ x:=by
 have hj:=(List.getElem?_eq_some_iff.1 h).1;rw[sV hj,List.flatMap_append];have:z[j]=x:=by rw[cR hj]at h;injection h
 rw[this];simp
theorem aju {d:dL} (h:x∈DG d):0<=x/\x<=255:=by
 unfold DG at h;simp only[kE,List.mem_flatMap]at h;rcases h with h|h|h|⟨y,_,h⟩
 .simp at h;omega
 .unfold FH at h;obtain⟨_,_,h⟩:=List.mem_flatMap.1 h;exact uA h
 .exact uA h
 .unfold mQ at h;rcases kE.1 h with h|h
  .exact uA h
  .obtain⟨_,_,h⟩:=List.mem_flatMap.1 h;exact uA h
end ZY
theorem dL.nT {d:dL} (h:d.aH=true):d.Bd/\1<=d.xs.length/\d.xs.length<=64/\∀x∈d.xs,d.one x=true:=by
 unfold dL.aH at h;rw[fS]at h;obtain⟨h1,h2⟩:=h;obtain⟨h3,h4,h5⟩:=dL.bd h1;refine⟨h3,U,U,λx hx=> ?_⟩;simp only[Bool.not_eq_true',List.any_eq_false]at h2;simpa using h2 x hx
theorem dL.Lp {d:dL} {x:ky} (hd:d.Bd) (h:d.one x=true):(x.z.length:Int)=d.sz/\x.z.length<=2048/\1<=x.z.length/\0<=x.y/\x.y<=9/\¬(-128:Int)∈x.z:=by
 simp only[dL.one,ZX.within,fS,decide_eq_true_eq,Bool.not_eq_true',decide_eq_false_iff_not]at h;obtain⟨h1,h2,h3,h4⟩:=h;have:=aaT hd.a1 hd.a2 hd.b1 hd.b2 hd.c1 hd.c2;have hk:=hd.k2;unfold dL.sz at h1⊢;exact⟨h1,U,U,h3,U,h2⟩
theorem ajv:aq.underlying 204=A (.array 5 3):=Q2Q
theorem ajw (a b c e k:Int) (j:Nat) (hj:j<5) (w:H):(Instr.index 204 (aF #[Y Z a,Y Z b,Y Z c,Y Z e,Y Z k]) (Y Z (j:Int))).run aq w= .ok (Y Z ([a,b,c,e,k].getD j 0)) w:=by
 obtain rfl|rfl|rfl|rfl|rfl:=(show j=0\/j=1\/j=2\/j=3\/j=4 by omega);all_goals simp[Instr.index,run_underlying ajv,asIntOf,go_sem]
theorem ajx (d:dL) (ok:Nat->Prop) (xa:aC) (xl xm:Nat) (w:H) (h:cH kz 2 ok w xa xl d.xs) (hm:d.aH=true):
 aA aq 53 #[aF (d.cells xa xl xm)] w (abf (0,ZY.DG d) w):=by
 have K1:=V (aE.fg w (ag (d.cells xa xl xm) 28));have f0:=df K1.F.1;have M:=V (hm▸Lm d ok xa xl xm _ (h.below iG U K1.F.2));have HX:=V (h.bt iG U);have HL:=V h.1;have o7:=V (dL.nT hm);have fP:1<=xl/\xl<=64:=by have:=HL.I;have:=o7.I.2;omega
 clear h hm;go_enter func53,ntmps53;go_wp2_with fail;refine bY M.I λw2 hb=> ?_;have K2:=K1.bU hb;have nQ:w.heap.size<=w2:=K2.F.2.size;have xu:=bH K2.F.1;have KC:=λ(C:Array aj) (n c:Nat)=>Uw (P:=aq) (li w2 (ag #[O G 0 0] 145)) 42 5 C n c (w2.heap.size+1) bK underlying42 underlying5;go_wp2_with fail;clear KC;have S3:=V (show qq 28 (w2.heap.size+1) w2.heap.size w.heap.size (d.cells xa xl xm) w [] (O G 0 0) (li (li w2 (ag #[O G 0 0] 145)) (ag #[Y .u8 112,Y .u8 100,Y .u8 100,Y .u8 115] 5 (4,5)))from
  ⟨⟨(aE.fG w2 _ _).aN.1,gP _ _ _ _,U,by rw[bF,bF];omega⟩,K2.F.2.step (aE.fG w2 _ _).aN.2.2,bV K2.F.1 (aE.fG w2 _ _).aN.2.2,(by intro e;cases e),U,nQ⟩)
 have R4:=V (ai.new (li w2 (ag #[O G 0 0] 145)) .u8 5 (4,5) [112,100,100,115] (by intro z hz;simp at hz;rcases hz with rfl|rfl|rfl<;>rfl) bK);have RW:=V (Uu _ _ _ _ _ (li w2 (ag #[O G 0 0] 145)).heap.size 0 4 4 _ S3.I.wr R4.I U U bK);rw[bF]at RW;refine RW.I.mono ?_;rintro e w4 ⟨rfl,v4,yK,Dy⟩;have S4:=V (S3.I.write yK Dy);clear RW;have f0:=df S4.I.box;go_wp2_with fail;generalize hp:w2.heap.size=p at*;clear hp;obtain⟨B,hB⟩:=J (p+1);rw[hB]at S4;clear hB;have Fy:=V nQ;go_loopw [34,6] (λi _ wr=>∃(j:Nat) (v:aj),j<=5/\i=Y Z j/\qq 28 B p w.heap.size (d.cells xa xl xm) w ([112,100,100,115]++([d.a,d.b,d.c,d.e,d.k].take j).flatMap λn=>ZY.put (cD.wrap n) 1) v wr) (λi _ _=>5-(aX i).toNat)
 case atStart=>exact⟨0,v4,cK _,rfl,S4.I⟩
 case round=>
  obtain⟨j,v0,hj,rfl,fE⟩:=hrel;have ST:=V fE;clear fE S4;by_cases aT:j<5
  .have hlen:([112,100,100,115]++([d.a,d.b,d.c,d.e,d.k].take j).flatMap λn=>ZY.put (cD.wrap n) 1).length<=1000:=by
    rw[dG,ZY.sW (λx=>ZY.fI _ 1),List.length_take];simp only[n8,List.length_nil];omega
   have HS:=V (ZY.KN (f:=λn=>ZY.put (cD.wrap n) 1) (z:=[d.a,d.b,d.c,d.e,d.k]) (j:=j) (by simp only[n8,List.length_nil];omega));have Z4:=V (λy=>Fv B p v0 _ y wr ST.I.wr U);obtain⟨ys,rL⟩:=J (([d.a,d.b,d.c,d.e,d.k].take j).flatMap λn=>ZY.put (cD.wrap n) 1);rw[rL]at HS Z4 ST;clear rL hlen;have IX:=λw'=>ajw d.a d.b d.c d.e d.k j aT w';generalize[d.a,d.b,d.c,d.e,d.k].getD j 0=y at*;have i1:(j:Int)<5:=U;go_wp2_with fail;refine(Z4.I _).mono ?_;rintro e w8 ⟨rfl,v8,yL,yP⟩;have T8:=V (ST.I.write yL yP);clear IX;go_wp2_with fail;go_roundw
   case rel=>exact⟨j+1,v8,U,Q2T,by rw[HS.I,<-lL];exact T8.I⟩
   case measure=>exact Q5q
  .obtain rfl:j=5:=U;have S7:=V (show qq 28 B p w.heap.size (d.cells xa xl xm) w ([112,100,100,115]++ZY.FH d) v0 wr from ST.I);clear ST;have f0:=df S7.I.box;go_wp2_with fail;refine(Uo _ _ _ _ (xl:Int) wr S7.I.wr (by rw[dG,ZY.abC];simp)).mono ?_;rintro e w5 ⟨rfl,v5,By,Uy⟩;have S8:=V (S7.I.write By Uy);have f0:=df S8.I.box;obtain⟨pre,yO⟩:=J ([112,100,100,115]++ZY.FH d++ZY.put (cD.wrap (xl:Int)) 2);rw[yO]at S8;have aiW:pre.length=11:=by rw[<-yO];simp[ZY.fI,ZY.abC]
   have Uz:=V yO;clear yO;go_wp2_with fail;go_loopw [49] (λi wr=>∃(j:Nat) (v:aj),j<=xl/\i=Y Z j/\kv B p v (pre++(d.xs.take j).flatMap ZY.mQ) wr/\ay w w wr) (λi _=>xl-(aX i).toNat)
   case atStart=>exact⟨0,v5,cK _,rfl,by simpa using S8.I.wr,S8.I.kO⟩
   case round=>
    obtain⟨j,v0,hj,rfl,fE,cW⟩:=hrel;have ST:=V fE;have SB:=V cW;clear fE cW S8;by_cases aT:j<xl
    .obtain⟨x,hx⟩:∃x,d.xs[j]? =A x:=⟨d.xs[j]' Q30,Q2W⟩;obtain⟨bb,off,cs,rfl,_,hE,hcs⟩:=(HX.I _ (eG _ _)).get hx;obtain⟨a1,l1,c1,rfl,r1⟩:=hE;have g0:=SB.I.cell_of (hcs 0 _ rfl);have g1:=SB.I.cell_of (hcs 1 _ rfl);simp only[eL]at g0;have Iq:=dL.Lp o7.I.1 (o7.I.2.2.2 x (List.mem_of_getElem? hx));have HS:=V (ZY.ajt hx);have hle:(pre++(d.xs.take j).flatMap ZY.mQ).length<=200000:=by
      have h1:=ZY.Ln (L:=d.xs.take j) (N:=2048) (λy hy=>(dL.Lp o7.I.1 (o7.I.2.2.2 y (List.mem_of_mem_take hy))).2.1);rw[dG];rw[List.length_take]at h1;omega
     obtain⟨ys,rL⟩:=J (pre++(d.xs.take j).flatMap ZY.mQ);rw[rL]at ST hle;have Pk:=V rL;have HR:=V r1.1;have DJ:=r1.1.bA;have kM:1<=l1/\l1<=2048:=U;clear rL hcs hx Iq;have T1:=V (qq.new (T':=54) (Bx:=#[O a1 l1 c1,Y Z x.y]) ST.I SB.I Fy.I);go_wp2_with fail;refine(Fv _ _ _ _ x.y _ T1.I.wr U).mono ?_;rintro e w8 ⟨rfl,v8,yL,yP⟩;have T8:=V (T1.I.write yL yP);clear g0 g1;obtain⟨g0,g1⟩:=nj T8.I.box;obtain⟨q,Pl⟩:=J wr.heap.size;rw[Pl]at T8 g0 g1⊢;clear Pl;go_wp2_with fail;clear g0 g1;go_loopw [60,10] (λi _ wx=>∃(k:Nat) (v:aj),k<=l1/\i=Y Z k/\qq 54 B p q #[O a1 l1 c1,Y Z x.y] w (ys++ZY.put (cD.wrap x.y) 1++(x.z.take k).flatMap λn=>ZY.put (cD.wrap n) 1) v wx) (λi _ _=>l1-(aX i).toNat)
     case atStart=>exact⟨0,v8,cK _,rfl,by simpa using T8.I⟩
     case round=>
      obtain⟨k,v1,hk,rfl,fE⟩:=hrel;have TA:=V fE;clear fE T8;by_cases o8:k<l1
      .obtain⟨p0,o0,rfl,e0⟩:=HR.I.cells U;have f3:=TA.I.kO.cell_of (e0 k o8);have yR:=V (ZY.KN (f:=λn=>ZY.put (cD.wrap n) 1) (z:=x.z) (j:=k) U);have H4:(ys++ZY.put (cD.wrap x.y) 1++(x.z.take k).flatMap λn=>ZY.put (cD.wrap n) 1).length<=300000:=by
        rw[dG,dG,ZY.fI,ZY.sW (λx=>ZY.fI _ 1),List.length_take];omega
       have Fq:=jv HR.I.wf k;generalize x.z.getD k 0=y at*;obtain⟨x1,x2⟩:=Fq;have Z4:=V (Fv B p v1 _ y _ TA.I.wr U);clear H4;go_wp2_with fail;refine Z4.I.mono ?_;rintro e wy ⟨rfl,v3,fZ,oJ⟩;have T3:=V (TA.I.write fZ oJ);exact Q1u
      .obtain rfl:k=l1:=U;have fE:=TA.I;rw[oQ (by omega:x.z.length<=k)]at fE;have TB:=V (show kv B p v1 (ys++ZY.mQ x) _ from by rw[ZY.mQ,<-lL];exact fE.wr);have BB:=V fE.kO;clear fE;go_wp2_with fail;go_roundw
       case rel=>exact⟨j+1,v1,U,Q2T,by rw[HS.I,<-lL,Pk.I];exact TB.I,BB.I⟩
       case measure=>exact Q5q
    .obtain rfl:j=xl:=U;have fE:=ST.I;rw[oQ (by have:=HL.I;omega:d.xs.length<=j)]at fE;have FA:pre++d.xs.flatMap ZY.mQ=ZY.DG d:=by
      rw[<-Uz.I,ZY.DG,HL.I];simp only[lL]
     have hle:(pre++d.xs.flatMap ZY.mQ).length<=1000000:=by
      have h1:=ZY.Ln (L:=d.xs) (N:=2048) (λy hy=>(dL.Lp o7.I.1 (o7.I.2.2.2 y hy)).2.1);rw[dG];have:=HL.I;omega
     have WB:=V (Pg B p v0 _ _ fE (λx hx=>ZY.aju (d:=d) (by rw[<-FA];exact hx)) U);have HE:=V FA;generalize pre++d.xs.flatMap ZY.mQ=ys at*;clear FA fE ST;go_wp2_with fail;refine WB.I.mono ?_;rintro e w8 ⟨va,vc,rfl,hr,uB,hf,hb⟩;have HR:=V hr;have UA:=V uB;have HF:=V (λx hx=>(⟨eH SB.I.size (hf x hx).1,(hf x hx).2⟩:w.heap.size<=x.block/\x.block<w8.heap.size));have HB:=V (SB.I.step hb);clear hr uB hf;go_wp2_with fail;go_ret2
     rw[<-HE.I];exact⟨va,vc,rfl,HR.I,UA.I,HF.I,HB.I⟩
structure Dn where
 h:iV
 sd:Int
 st:Int
 ly:Int
abbrev Dn.val (q:Dn):aj:=aF #[Y Z q.h.b,Y Z q.h.w,Y Z q.h.r,Y Z q.h.m,Y Z q.h.d,Y Z q.h.e,Y cD q.sd,Y Z q.st,Y Z q.ly]
theorem qB {g:Nat} {x0 x1 x2 x3 x4 x5 x6 x7 x8:aj} {T:dy} (h:w.heap[g]? =A (ag #[x0,x1,x2,x3,x4,x5,x6,x7,x8] T (0,0))):
 w g=A x0/\w ⟨g,1,G⟩=A x1/\w ⟨g,2,G⟩=A x2/\w ⟨g,3,G⟩=A x3/\w ⟨g,4,G⟩=A x4/\w ⟨g,5,G⟩=A x5/\w ⟨g,6,G⟩=A x6/\w ⟨g,7,G⟩=A x7/\w ⟨g,8,G⟩=A x8:=
 ⟨bh h 0 rfl,bh h 1 rfl,bh h 2 rfl,bh h 3 rfl,bh h 4 rfl,bh h 5 rfl,bh h 6 rfl,bh h 7 rfl,bh h 8 rfl⟩
def Dn.lO (q:Dn) (n s h i:Int):Int:=Rd.lO n s (P.atq q.sd (ZX.stream q.st q.ly h) i)
theorem ac6 (q:Dn) (n s h i:Int) (w:H) (hu:P.Z4 q.sd) (hi:0<=i/\i<=1000000000):
 aA aq 280 #[q.val,Y Z n,Y Z s,Y Z h,Y Z i] w (dZ (Y Z (q.lO n s h i)) w):=by
 have KB:=V (aE.fg w (pB q.h.b q.h.w q.h.r q.h.m q.h.d q.h.e q.sd q.st q.ly));have f0:=qB KB.F.1;have ST:=V (λw=>(O5 q.st q.ly h w).mono λ_ _ ⟨a,b⟩=>(⟨a,b.symm⟩:_/\_=w));have AT:=V (λw=>(TQ q.sd (ZX.stream q.st q.ly h) i w hu (ZX.O0 _ _ _) ⟨hi.1,U⟩).mono λ_ _ ⟨a,b⟩=>(⟨a,b.symm⟩:_/\_=w));have lR:=P.Oy q.sd (ZX.stream q.st q.ly h) i;obtain⟨VJ,Kt⟩:=hi;have hw:cD.wrap i=i:=Q36;unfold Dn.lO;obtain⟨Z3,hA⟩:=J (P.atq q.sd (ZX.stream q.st q.ly h) i);rw[hA]at AT lR⊢;have CH:=V (Zx n s Z3 (P.wfU lR));clear hA lR;unfold Dn.val;go_enter func280,ntmps280;go_wp2_with fail;generalize li w (pB q.h.b q.h.w q.h.r q.h.m q.h.d q.h.e q.sd q.st q.ly)=w1 at*;refine cS (λw':H=>w'.heap[w.heap.size]? =A (pB q.h.b q.h.w q.h.r q.h.m q.h.d q.h.e q.sd q.st q.ly)) (eE KB.F.1 λhS=>bR hS [0,1,2,4,6,8,10,3,5,7,11] (λ_ h=>qB h) ?_);refine bL 9 λK hK=> ?_;go_simp;refine cq (ST.I _) ?_;refine cY hK hS 12 λK hK=> ?_;go_simp;refine cq (AT.I _) ?_;refine cY hK hS 13 λK hK=> ?_;go_simp;refine(CH.I _).mono ?_;rintro e' w' ⟨rfl,nq,rfl⟩;refine bB hK hS ?_;refine bR hS [14] (λ_ h=>qB h) (bW ?_);go_wp2_with fail;go_ret;exact⟨rfl,KB.F.2.bI _⟩
theorem jQ {g b:Nat} {o:Obj} {x y z:aj} (h:w.heap[b]? =A o) (cI:b≠g):(ss (ss (ss w g x) ⟨g,1,G⟩ y) ⟨g,2,G⟩ z).heap[b]? =A o:=by
 rw[gj _ cI,gj _ cI,gj _ cI];exact h
theorem dM.stored {k:IntKind} {B g:Nat} {a b:aC} {l c m c':Nat} {t:az} (h:dM k B w (aS a l c t.e b m c') t) (hg:g<B) (x y z:aj):
 dM k B (ss (ss (ss w g x) ⟨g,1,G⟩ y) ⟨g,2,G⟩ z) (aS a l c t.e b m c') t:=by
 obtain⟨a',l',c2,b',m',c3,e,h1,h2,h3,h4⟩:=h;unfold aS at e;injection e with e;simp only[Array.mk.injEq,List.cons.injEq,Value.slice.injEq,and_true,true_and]at e;obtain⟨⟨rfl,rfl,rfl⟩,rfl,rfl,rfl⟩:=e;exact⟨_,_,_,_,_,_,rfl,h1.eJ (λx hx=>E (h3 x hx)),h2.eJ (λx hx=>E (h4 x hx)),h3,h4⟩
theorem ac7 (q:Dn) (t:az) (v:aj) (h:Int) (w:H) (hv:fu cr w v t) (hu:P.Z4 q.sd):
 aA aq 228 #[q.val,v,Y Z h] w (oY aO (T.small t q.h.w q.sd (ZX.stream q.st q.ly h)) w):=by
 obtain⟨xa,xl,xc,xp,xm,xk,rfl,x0,x1⟩:=hv;have KB:=V (aE.lj w (pB q.h.b q.h.w q.h.r q.h.m q.h.d q.h.e q.sd q.st q.ly) (cV xa xl xc t.e xp xm xk) (bj G 0 0 0 G 0 0));have KR:=V (x0.bt.and x1.bt);have ST:=V (λw=>(O5 q.st q.ly h w).mono λ_ _ ⟨a,b⟩=>(⟨a,b.symm⟩:_/\_=w));have SM:=V (λw h0 h1=>ai1 t (aS xa xl xc t.e xp xm xk) q.h.w q.sd (ZX.stream q.st q.ly h) w ⟨_,_,_,_,_,_,rfl,h0,h1⟩ hu (ZX.O0 _ _ _));generalize ZX.stream q.st q.ly h=S at*;generalize T.small t q.h.w q.sd S=R at*;obtain⟨r,tn⟩:=R;unfold Dn.val aS;unfold aS at SM;go_enter func228,ntmps228;go_wp2_with fail;generalize li (li (li w (pB q.h.b q.h.w q.h.r q.h.m q.h.d q.h.e q.sd q.st q.ly)) (cV xa xl xc t.e xp xm xk)) (bj G 0 0 0 G 0 0)=w1 at*;refine cS (λw':H=>w'.heap[w.heap.size]? =A (pB q.h.b q.h.w q.h.r q.h.m q.h.d q.h.e q.sd q.st q.ly)/\w'.heap[w.heap.size+1]? =A (cV xa xl xc t.e xp xm xk)) (eE (⟨KB.F.1,KB.F.2.1⟩) λhS=>bR hS [0,1,4,6,8,10,2,5,7,9,3] (λ_ h=>aw (qB h.1) (aw (bP h.2) (aw h.1 h.2))) ?_);refine bL 11 λK hK=> ?_;go_simp;refine cq (ST.I _) ?_;refine cY hK hS 12 λK hK=> ?_;go_simp;refine(SM.I _ ((KR.aQ KB.F.2.2.2).1.below (below_drewN w1 1)) ((KR.aQ KB.F.2.2.2).2.below (below_drewN w1 1))).mono ?_;rintro e' w2 ⟨v,rfl,hv,hb⟩;have K2:=V ((KB.I.bI 1).step hb);have HV:=V (hv.mono (B':=w1) (bu _));have FZ:w.heap.size+1+1<w1.heap.size:=bH KB.F.2.2.1;obtain⟨ra,rl,rc,rb,rm,rk,rfl,_⟩:=hv;unfold aS at HV;unfold aS;refine bB hK (⟨K2.F.1,K2.F.2.1⟩) ?_;have r0:=aY K2.F.2.2.1;refine bR (⟨K2.F.1,K2.F.2.1⟩) [13,14] (λ_ h=>aw (qB h.1) (aw (bP h.2) (aw h.1 h.2))) (bL 15 λK hK=> ?_);go_simp;refine bB hK (⟨jQ K2.F.1 U,jQ K2.F.2.1 U⟩) ?_;refine bR (⟨jQ K2.F.1 U,jQ K2.F.2.1 U⟩) [16] (λ_ h=>aw (qB h.1) (aw (bP h.2) (aw h.1 h.2))) (bW ?_);go_wp2_with fail;refine aZ (v:=aL #[aF #[O ra rl rc,Y Z tn.e,O rb rm rk],Y Z r]) ?_ rfl ⟨_,rfl,(HV.I.stored FZ _ _ _).mono U,cL K2.F.2.2.2 U _ _ _⟩;simp[aW,results228,go_sem,cT K2.F.2.2.1]
theorem Rd.VK {p r:Int} (hp:0<p) (h0:0<=r) (h1:r<p):min v 0<=(v+r)/p/\(v+r)/p<=max v 0:=by
 constructor
 .refine Int.le_ediv_of_mul_le hp ?_;have:min v 0*p<=min v 0*1:=Int.mul_le_mul_of_nonpos_left U U;omega
 .have h:(v+r)/p<max v 0+1:=by
   refine Int.ediv_lt_of_lt_mul hp ?_;have h2:max v 0*1<=max v 0*p:=Int.mul_le_mul_of_nonneg_left U U;rw[Int.add_mul];omega
  omega
theorem Rd.two_pos (s:Nat):(0:Int)<2 ^ s:=by
 exact Int.pow_pos U
theorem Rd.VL (h1: -4611686018427387904<=v) (h2:v<=4611686018427387904):Rd.val v=v:=Q4F
theorem Rd.akr (v s:Int) (h1: -4611686018427387904<=v) (h2:v<=4611686018427387904):min v 0<=Rd.down v s/\Rd.down v s<=max v 0:=by
 unfold Rd.down;rw[Rd.VL h1 h2];have:=Rd.VK (v:=v) (p:=2 ^ Rd.oA s) (r:=0) (Rd.two_pos _) U (Rd.two_pos _);rwa[Int.add_zero]at this
theorem Rd.VM (v s r:Int) (h1: -4611686018427387904<=v) (h2:v<=4611686018427387904):min v 0<=Rd.lO v s r/\Rd.lO v s r<=max v 0:=by
 unfold Rd.lO;rw[Rd.VL h1 h2];have hp:=Rd.two_pos (Rd.oA s);exact Rd.VK hp (Int.emod_nonneg _ U) (Int.emod_lt_of_pos _ hp)
theorem Rd.ac8 (v s:Int) (h1: -4611686018427387904<=v) (h2:v<=4611686018427387904):min v 0<=Rd.xe v s/\Rd.xe v s<=max v 0:=by
 unfold Rd.xe;rw[Rd.VL h1 h2];split
 .omega
 .rename_i hs;have hp:=Rd.two_pos (Rd.oA s);have oT:=Rd.two_pos (Rd.oA s-1);refine Rd.VK hp U ?_;obtain⟨k,hk⟩:∃k,Rd.oA s=k+1:=⟨Rd.oA s-1,U⟩;rw[hk]at oT⊢;rw[Nat.add_sub_cancel]at oT⊢;rw[Int.pow_succ];omega
def Dn.mv (q:Dn) (x u:Int):Int:=max (-1048576) (min ((if q.h.m=0 then 0 else x-Rd.down x q.h.m)+u) 1048576)
def Dn.zZ (q:Dn) (m u:ah) (n:Nat):List Int:=dU (λi=>q.mv (m.getD i 0) (u.getD i 0)) n
theorem aks (q:Dn) (m u:ah) (n:Nat):q.zZ m u (n+1)=q.zZ m u n++[q.mv (m.getD n 0) (u.getD n 0)]:=yI _ n
def Dn.DY (q:Dn) (m u:ah):List Int:=q.zZ m u m.length
theorem ac9 (q:Dn) (x u:Int): -1048576<=q.mv x u/\q.mv x u<=1048576:=by unfold Dn.mv;omega
theorem akt (q:Dn) (ma:aC) (ml mc:Nat) (m:ah) (ua:aC) (ul uc:Nat) (u:ah) (w:H) (h0:ai cr w ma ml m) (h1:ai aO w ua ul u) (hl:ml<=ul) (pW:ml<=8192):
 aA aq 229 #[q.val,O ma ml mc,O ua ul uc] w (aas cr ml (q.DY m u) w):=by
 have KB:=V (aE.fg w (pB q.h.b q.h.w q.h.r q.h.m q.h.d q.h.e q.sd q.st q.ly));have f0:=qB KB.F.1;have KR:=V (h0.bt.and h1.bt);have HL:=V h0.bA;have BM:=h1.eC;have DW:=V (λx w=>afM x q.h.m w);have IG:=V h0.wf;have Dx:=V h1.wf;obtain⟨R,hR⟩:=J (q.DY m u);rw[hR];have HR:=V hR;obtain⟨Z7,hZ⟩:=J (q.h.m==0);have HZ:=V hZ;obtain⟨B,hB⟩:=J (w.heap.size+1);have HB:=V hB;unfold Dn.val;clear hR hB;go_enter func229,ntmps229;go_wp2_with fail;have F5:(li w (pB q.h.b q.h.w q.h.r q.h.m q.h.d q.h.e q.sd q.st q.ly)).heap.size=B:=by rw[bF];exact HB.I
 have F6:=V F5;clear F5;generalize li w (pB q.h.b q.h.w q.h.r q.h.m q.h.d q.h.e q.sd q.st q.ly)=w1 at*;go_loopw [13,7,8,9,10] (λi o _ _ _ wr=>∃(k:Nat) (v:aj),k<=ml/\i=Y Z k/\v=o/\wr.ownsRow B 21 1 v k ((q.zZ m u k).map (Y cr))/\ay w1 w1 wr) (λi _ _ _ _ _=>ml-(aX i).toNat)
 case atStart=>exact⟨0,_,cK _,rfl,rfl,gP _ _ _ _,eG _ _⟩
 case round=>
  obtain⟨k,o,hk,rfl,rfl,aV,cW⟩:=hrel;have HO:=V aV;have eV:=V cW;clear aV cW;by_cases aT:k<ml
  .have KW:=V (KB.I.step eV.I);have RW:=KR.aQ KW.F.2;obtain⟨mb,mo,rfl,em⟩:=RW.1.cells U;obtain⟨ub,uo,rfl,eu⟩:=RW.2.cells U;have cm:=em k aT;have cu:=eu k U;have hx:=H5 (IG.I (m.getD k 0) (by rw[gB,cR (show k<m.length by rw[HL.I];exact aT)];exact jZ _));have hy:=jv Dx.I k;have HS:=V (aks q m u k);have hv:=ac9 q (m.getD k 0) (u.getD k 0);have hve:q.mv (m.getD k 0) (u.getD k 0)=max (-1048576) (min ((if q.h.m=0 then 0 else m.getD k 0-Rd.down (m.getD k 0) q.h.m)+u.getD k 0) 1048576):=rfl;have HVe:=V hve;clear hve em eu RW;have f0:=qB KW.F.1;have E0:B<=wr:=by have:=eV.I.size;rw[F6.I]at this;exact this
   generalize m.getD k 0=x at*;generalize u.getD k 0=y at*;generalize q.mv x y=v at*;have hd:=Rd.akr x q.h.m U U;have DX:=V (DW.I x);generalize Rd.down x q.h.m=dx at*;obtain⟨x1,x2⟩:=hx;obtain⟨y1,y2⟩:=hy;obtain⟨v1,v2⟩:=hv;obtain⟨d1,d2⟩:=hd;have arf:cr.wrap v=v:=IntWalk.i32_in _ U;obtain⟨i0,hi,cF,cG,cB⟩:=fB Dq;have d3: -2147483648<=dx:=U;have d4:dx<=2147483647:=U
   cases Z7
   .have hvv:max (-1048576) (min (x-dx+y) 1048576)=v:=by rw[HVe.I,aI (by simpa using HZ.I)]
    exact Q0i
   .have hvv:max (-1048576) (min y 1048576)=v:=by rw[HVe.I,aR (by simpa using HZ.I),Int.zero_add]
    exact Q0i
  .obtain rfl:k=ml:=U;obtain⟨va,vc,rfl,gC⟩:=ai.nJ HO.I (λy hy=>by
    unfold Dn.zZ dU at hy;obtain⟨i,_,rfl⟩:=kG.1 hy;have:=ac9 q (m.getD i 0) (u.getD i 0);exact Fa U U) U
   have aT:=λx (hx:va=A x)=>HO.I.lt x.block Q3b;go_wp2_with fail;go_ret;refine⟨va,vc,rfl,?_,λx hx=>by have:=aT x hx;have:=HB.I;omega,KB.F.2.step eV.I⟩;have e:q.zZ m u k=R:=by rw[<-HR.I];unfold Dn.DY;rw[HL.I]
   rw[<-e];exact gC
def Dn.bv (q:Dn) (x v:Int) (i:Nat):Int:=Rd.vB (x-q.lO v q.h.r 6 i) 8
def Dn.F8 (q:Dn) (b v:ah) (n:Nat):List Int:=dU (λi=>q.bv (b.getD i 0) (v.getD i 0) i) n
theorem aku (q:Dn) (b v:ah) (n:Nat):q.F8 b v (n+1)=q.F8 b v n++[q.bv (b.getD n 0) (v.getD n 0) n]:=yI _ n
def Dn.LL (q:Dn) (b:az) (v:ah):az:=⟨b.d,b.e,q.F8 b.z v b.z.length⟩
theorem aca (q:Dn) (x v:Int) (i:Nat): -127<=q.bv x v i/\q.bv x v i<=127:=by
 have:=T.Ko (x-q.lO v q.h.r 6 i) 8 U U;unfold Dn.bv;omega
theorem akv (q:Dn) (b:az) (vb:aj) (ua:aC) (ul uc:Nat) (u:ah) (w:H) (hb:fu aO w vb b) (hm:T.aH b.d b.e b.z) (hu:ai aO w ua ul u) (hl:b.z.length<=ul) (gD:P.Z4 q.sd):
 aA aq 231 #[q.val,vb,O ua ul uc] w (OM aO (q.LL b u) w):=by
 obtain⟨xa,xl,xc,xp,xm,xk,rfl,x0,x1⟩:=hb;have KZ:=V (aE.lj w (pB q.h.b q.h.w q.h.r q.h.m q.h.d q.h.e q.sd q.st q.ly) (bj xa xl xc b.e xp xm xk) (bj G 0 0 0 G 0 0));have KR:=V (x0.bt.and (x1.bt.and hu.bt));obtain⟨yJ,vC,lV,cG⟩:=T.sI hm;have fP:=x0.bA;have jN:=x1.bA;have PG:=V jN;have BM:=hu.eC;have CL:=V (λw h=>Dg xa xl xc b.d w h U U);have OC:=V (λn i w (hi:0<=i/\i<=1000000000)=>ac6 q n q.h.r 6 i w gD hi);have IG:=V x1.wf;have Dx:=V hu.wf;obtain⟨R,hR⟩:=J (q.LL b u);rw[hR];have HR:=V hR;have hmu:xm<=ul:=U;have sC:xm<=8192:=U;have kM:1<=xl:=U;unfold Dn.val aS;unfold Dn.val at OC;clear hu hR fP jN hl hm;go_enter func231,ntmps231;go_wp2_with fail;generalize li (li (li w (pB q.h.b q.h.w q.h.r q.h.m q.h.d q.h.e q.sd q.st q.ly)) (bj xa xl xc b.e xp xm xk)) (bj G 0 0 0 G 0 0)=w3 at*;have K3:=KZ;obtain⟨f0,f1,f2⟩:=bP K3.F.2.1;go_upto_region 1 with fail;have R3:=V (KR.aQ K3.F.2.2.2).1;have CW:=V (λwx (b:ay w3 w3 wx)=>CL.I wx (R3.I.below b));go_cut [7] (λv wx=>oF 57 b.d xl b.e w3 v wx)
 case first=>
  exact Q0A
 case rest=>
  obtain⟨bo,av,cv,rfl,ho,fO,cW,OL,nL⟩:=hcut;obtain⟨w5,rfl⟩:∃w5:H,w5=wc:=⟨_,rfl⟩;have HO:=V ho;have il:=V fO;have K5:=K3.bU cW;have Br:=cW.size;have wh:w.heap.size+1+1<w3.heap.size:=bH K3.F.2.2.1;have D2:=V nL;have yF:bo<w5:=bH ho;clear ho fO cW nL;have f0:=bP K5.F.2.1;go_wp2_with fail;obtain⟨B,hB⟩:=J w5.heap.size;have HB:=V hB;clear hB;go_loopw [20,8,9,10] (λi _ _ _ wr=>∃j:Nat,j<=xm/\i=Y Z j/\tB 57 106 aO B bo (O av xl cv) (Y Z b.e) j (q.F8 b.z u j) wr/\ar B (λb=>b=bo) w5 wr) (λi _ _ _ _=>xm-(aX i).toNat)
  case atStart=>exact⟨0,cK _,rfl,⟨_,HO.I,gP _ _ _ _,Q5n⟩,ar.cP _ _ _⟩
  case round=>
   obtain⟨j,hj,rfl,lW,fD⟩:=hrel;have HF:=V lW;have HK:=V fD;clear lW fD;by_cases aT:j<xm
   .obtain⟨vd,cy,aV,nP⟩:=HF.I;have vK:=V cy;have iR:=V aV;have KW:=K5.F;have hD:=HK.I.bC (g:=w) (E HB.I) U KW.1;have hX:=HK.I.bC (g:=w+1) (E HB.I) U KW.2.1;have RZ:=KR.aQ KW.2.2.2;have r1:=HK.I.gH RZ.2.1 (λx hx h0=>by have:=KR.F.2.1.bC U hx;have:=HB.I;exact⟨U,U⟩);have r2:=HK.I.gH RZ.2.2 (λx hx h0=>by have:=KR.F.2.2.bC h0 hx;have:=HB.I;exact⟨U,U⟩);obtain⟨pb,po,rfl,eb⟩:=r1.cells U;obtain⟨ub,uo,rfl,eu⟩:=r2.cells U;have cb:=eb j aT;have cu:=eu j U;have hx:=jv IG.I j;have hy:=jv Dx.I j;have HS:=V (aku q b.z u j);have iL:=aca q (b.z.getD j 0) (u.getD j 0) j;have HV:=V (show Rd.vB (b.z.getD j 0-q.lO (u.getD j 0) q.h.r 6 j) 8=q.bv (b.z.getD j 0) (u.getD j 0) j from rfl);have LM:=Rd.VM (u.getD j 0) q.h.r (P.atq q.sd (ZX.stream q.st q.ly 6) j) U U;have VN:=V (λw=>OC.I (u.getD j 0) j w ⟨U,U⟩);have LO:q.lO (u.getD j 0) q.h.r 6 j=Rd.lO (u.getD j 0) q.h.r (P.atq q.sd (ZX.stream q.st q.ly 6) j):=rfl;rw[<-LO]at LM;clear LO eb eu RZ KW aV cy;generalize q.bv (b.z.getD j 0) (u.getD j 0) j=v at*;generalize q.lO (u.getD j 0) q.h.r 6 j=cj at*;generalize b.z.getD j 0=x at*;generalize u.getD j 0=y at*;have CP:=V (Sw (x-cj) 8);rw[HV.I]at CP;obtain⟨x1,x2⟩:=hx;obtain⟨y1,y2⟩:=hy;have c1: -128<=cj:=U;have c2:cj<=127:=U;obtain⟨v1,v2⟩:=iL;have II:aO.wrap v=v:=Q33;have nQ:Z.wrap (x-cj)=x-cj:=dv _ U;have hju:j<ul:=U;have UZ:Z.wrap x=x:=dv _ U;have F9:Z.wrap y=y:=dv _ U;obtain⟨i0,hi,cF,cG,cB⟩:=fB tA;clear LM HV;go_wp2_with fail;refine cS (λw':H=>w'.heap[w.heap.size]? =A (pB q.h.b q.h.w q.h.r q.h.m q.h.d q.h.e q.sd q.st q.ly)/\w' ⟨ub,uo+j,G⟩=A (Y aO y)) (eE (⟨hD,cu⟩) λhS=>bR hS [0,2,3,4,8,11,1,5,9,6,10,7] (λ_ h=>aw (qB h.1) (aw h.1 h.2)) ?_);refine bL 12 λK hK=> ?_;go_simp;refine bY (VN.I _) λw6 hb=> ?_;have cO:ay wr wr w6:=((eG _ wr).bI 1).step hb;refine bB hK (⟨bV hD cO,cO.cell_of cu⟩) ?_;refine bR (⟨bV hD cO,cO.cell_of cu⟩) [13,14] (λ_ h=>aw (qB h.1) (aw h.1 h.2)) (bW ?_);have iT:=V (bV vK.I cO);have rI:=V (oh iR.I cO);have lH:=V (HK.I.trans' (ar.cZ cO) (by have:=HB.I;have:=HK.I.size;omega));have yG:B<=w6:=eH nP cO.size;have o9:bo<B:=E HB.I;clear hS hb hD hX cb cu HF HK nP;go_wp2_with fail;obtain⟨_,_,c3,_,_,d2⟩:=aY iT.I;refine Lt.begins (λw':H=>w' ⟨bo,2,G⟩=A vd) (λj=>j==8) kr ?_;have hS:(λw':H=>w' ⟨bo,2,G⟩=A vd) w6.drew:=c3;refine cQ hS [0,2,1] (bL 3 λK hK=> ?_);go_simp;refine cq (CP.I _) ?_;refine bB hK hS ?_;refine cQ hS [4] (bL 5 λK hK=> ?_);go_simp;refine cY hK (fq hS (ag #[Y aO v] 106)) 6 λK hK=> ?_;refine lM _ cJ _ _ _ cJ B 106 i0 _ 1 1 underlying52 hi cF cG cB rfl U vd j ((q.F8 b.z u j).map (Y aO)) cJ (rI.I.drew.alloc _) ⟨w6,0,G⟩ 1 1 [Y aO v] cJ cJ (kJ w6.drew _ _) Q35 U Q2V U Q2R _ rfl ?_;intro g1 fh w7 cC bM cN ei;have dh:=λb (h:vd.ownBlock=A b)=>(rI.I.lt b h).1;have iD:=gI bM (dX (show w6.drew.heap[bo]? =_ from iT.I) _) (λh=>E (dh _ h));have yH:B<=g1:=by
     exact Q2O
    have pG:=V (Ff.step (show w6.drew.heap[bo]? =_ from iT.I) o9 yG dh cC bM (lH.I.bI 1) yH);obtain⟨_,_,Bw,_,_,d3⟩:=aY iD;clear cC bM cN ei dh;refine bB hK Bw ?_;refine cQ Bw [7] (bL 8 λK hK=> ?_);go_simp;refine jg hK ?_;refine bW ?_;clear hS;generalize ss w7 ⟨bo,2,G⟩ (O g1 (j+1) fh)=w8 at*;exact Q0s
   .obtain rfl:j=xm:=U;obtain⟨vd,cy,aV,nP⟩:=HF.I;obtain⟨pd,cd,rfl,gC⟩:=ai.nJ aV (λy hy=>by
     unfold Dn.F8 dU at hy;obtain⟨i,_,rfl⟩:=kG.1 hy;have:=aca q (b.z.getD i 0) (u.getD i 0) i;exact yw U U) U
    have mN:=V gC;have jJ:=V (λx (hx:pd=A x)=>(aV.lt x.block Q3b).1);have jK:=V (HK.I.bC (E HB.I) U K5.F.2.2.1);have qM:=V (HK.I.gH il.I (λx hx h0=>⟨by have h1:=il.I.bC h0 hx;have h2:=HB.I;omega,(D2.I x hx).2⟩));have jV:=V (Below.gh K5.F.2.2.2 HK.I (λb hb=>⟨by have:=HB.I;omega,U⟩));have e:R=⟨b.d,b.e,q.F8 b.z u j⟩:=by rw[<-HR.I,<-PG.I];rfl
    subst e;have y0:=aY cy;have g0:=aY jK.I;have E7:=HB.I;clear aV cy gC E7;go_wp2_with fail;refine aZ (v:=aF #[O av xl cv,Y Z b.e,O pd j cd]) ?_ rfl ⟨_,rfl,⟨_,_,_,_,_,_,rfl,?_,?_,(λx hx=>E ((D2.I x hx).1)),(λx hx=>by have:=jJ.I x hx;have:=HB.I;omega)⟩,cL jV.I U _ _ _⟩
    .simp[aW,results231,go_sem,cT jK.I]
    .exact qM.I.eJ (λx hx=>E ((D2.I x hx).1))
    .exact mN.I.eJ (λx hx=>by have:=jJ.I x hx;have:=HB.I;omega)
namespace D
def Gb (x w b:az) (r o:Nat):Int:=Rd.align (b.z.getD o 0) b.e (x.e+w.e)+dot x.z w.z (λi=>r*(x.d.getD 1 0).toNat+i) (λi=>o*(x.d.getD 1 0).toNat+i) (x.d.getD 1 0).toNat
def forward (x w b:az):Int×az:=
 if ¬T.aH b.d b.e b.z then(1,az.zero)else if aH 2 [x,w]≠0 then(aH 2 [x,w],az.zero)
 else if w.d.getD 1 0≠x.d.getD 1 0\/b.d.length≠1\/b.d.getD 0 0≠w.d.getD 0 0 then(2,az.zero)
 else made (x.d.getD 0 0).toNat (w.d.getD 0 0).toNat (x.d.getD 1 0) (x.e+w.e) (Gb x w b)
theorem D3 {L:List az} (h:aH n L=0):∀t∈L,T.aH t.d t.e t.z/\(t.d.length:Int)=n:=by
 unfold aH at h;by_cases h1:L.all ok=true
 .rw[aR h1]at h;by_cases h2:(L.all λt=>decide ((t.d.length:Int)=n))=true
  .intro t ht;exact⟨eZ (List.all_eq_true.1 h1 t ht),eZ (List.all_eq_true.1 h2 t ht)⟩
  .rw[aI h2]at h;cases h
 .rw[aI h1]at h;cases h
theorem D4 {n:Nat} (h:fits (n:Int)=true):n<=1023:=by
 unfold fits at h;simp only[fS,decide_eq_true_eq]at h;omega
theorem two {t:az} (h:T.aH t.d t.e t.z) (hl:(t.d.length:Int)=2):∃r c:Nat,t.d=[(r:Int),(c:Int)]/\1<=r/\1<=c/\r<=4096/\c<=4096/\r*c=t.z.length/\r*c<=8192/\(-64<=t.e/\t.e<=64):=by
 obtain⟨d,e,z⟩:=t;obtain⟨h0,h1,h2,_⟩:=h;simp only at h0 h1 h2 hl⊢
 match d,hl with
 | [x,y],_=>
   have my:=Sh.iA h0;have e:=my.eq;have l:=my.le;have g0:=my.get (k:=0) bK;have g1:=my.get (k:=1) bK;simp at g0 g1;rw[show Sh.prod [x,y]=x*(y*1)from rfl,Int.mul_one]at l e;refine⟨x.toNat,y.toNat,?_,U,U,U,U,?_,?_,h2⟩
   .rw[pR U,pR U]
   .have:((x.toNat*y.toNat:Nat):Int)=z.length:=by rw[gQ,pR U,pR U,h1,e]
    omega
   .have:((x.toNat*y.toNat:Nat):Int)<=8192:=by rw[gQ,pR U,pR U];exact l
    omega
end D
theorem aE.draw {ZX:H->Prop} (h:aE w ZX):aE w.drew ZX:=h.bI 1
theorem aE.IK (w:H) (o p q r:Obj):aE (li (li (li (li w o) p) q) r) λw'=>w'.heap[w.heap.size]? =A o/\w'.heap[w.heap.size+1]? =A p/\w'.heap[w.heap.size+1+1]? =A q/\w'.heap[w.heap.size+1+1+1]? =A r/\ay w w w':=by
 have h:=((aE.lj w o p q).alloc r).and (aE.new (li (li (li w o) p) q) r);rw[bF,bF,bF]at h;exact h.mono λw' h=>⟨h.1.1,h.1.2.1,h.1.2.2.1,h.2,h.1.2.2.2⟩
theorem rJ.two {g:Nat} {x y:az} {a l c b m k a' l' c' b' m' k'} {T:dy} (h:w.heap[g]? =A (ag #[O a l c,Y Z x.e,O b m k,O a' l' c',Y Z y.e,O b' m' k'] T (0,0)))
 (h1:ai Z w a l x.d) (h2:ai aO w b m x.z) (h3:ai Z w a' l' y.d) (h4:ai aO w b' m' y.z):rJ w g [x,y]:=λi hi=>by
 match i,hi with
 |0,_=>exact⟨_,_,_,_,_,_,bh h 0 rfl,bh h 1 rfl,bh h 2 rfl,h1,h2⟩
 |1,_=>exact⟨_,_,_,_,_,_,bh h 3 rfl,bh h 4 rfl,bh h 5 rfl,h3,h4⟩
theorem rJ.one {g:Nat} {x:az} {a l c b m k} {T:dy} (h:w.heap[g]? =A (ag #[O a l c,Y Z x.e,O b m k] T (0,0)))
 (h1:ai Z w a l x.d) (h2:ai aO w b m x.z):rJ w g [x]:=λi hi=>by
 match i,hi with
 |0,_=>exact⟨_,_,_,_,_,_,bh h 0 rfl,bh h 1 rfl,bh h 2 rfl,h1,h2⟩
theorem akD (x w b:az) (vx vw vb:aj) (W:H) (hx:fu aO W vx x) (hw:fu aO W vw w) (hb:fu aO W vb b):
 aA aq 232 #[vx,vw,vb] W (oY cr (D.forward x w b) W):=by
 obtain⟨xa,xl,xc,xp,xm,xk,rfl,x0,x1⟩:=hx;obtain⟨wa,wl,wc,wp,wm,wk,rfl,w0,w1⟩:=hw;obtain⟨ba,bl,bc,bp,bm,bk,rfl,b0,b1⟩:=hb;have KZ:=V (aE.IK W (bj xa xl xc x.e xp xm xk) (bj wa wl wc w.e wp wm wk) (bj ba bl bc b.e bp bm bk) (cV G 0 0 0 G 0 0));have KR:=V ((x0.bt.and x1.bt).and ((w0.bt.and w1.bt).and (b0.bt.and b1.bt)));have MB:=V (jr ba bl bc b.d b.e bp bm bk b.z);obtain⟨R,hR⟩:=J (D.forward x w b);rw[hR];have HR:=V hR;obtain⟨Z3,hA⟩:=J (decide (T.aH b.d b.e b.z));rw[hA]at MB;have HA:=V hA;unfold aS;unfold aS at MB;clear x0 x1 w0 w1 b0 b1 hA hR;have f0:=bP KZ.F.2.2.1;go_enter func232,ntmps232;go_wp2_with fail;generalize li (li (li (li W (bj xa xl xc x.e xp xm xk)) (bj wa wl wc w.e wp wm wk)) (bj ba bl bc b.e bp bm bk)) (cV G 0 0 0 G 0 0)=w4 at*;refine bY (MB.I _ (KR.aQ KZ.F.2.2.2.2).2.2.1 (KR.aQ KZ.F.2.2.2.2).2.2.2) λw5 hb=> ?_;have K5:=KZ.bU hb;clear KZ MB hb f0;have r0:=aY K5.F.2.2.2.1
 cases Z3
 .obtain rfl:(1,az.zero)=R:=by rw[<-HR.I];unfold D.forward;rw[aR (kH HA.I)]
  go_wp2_with fail;refine aZ (v:=aL #[aF #[O G 0 0,Y Z 0,O G 0 0],Y Z 1]) ?_ rfl ⟨_,rfl,dM.zero _ _ _,cL K5.F.2.2.2.2 U _ _ _⟩;simp[aW,results232,go_sem,cT K5.F.2.2.2.1]
 have IA:=eZ HA.I;have f0:=bP K5.F.1;have g0:=bP K5.F.2.1;have K6:=V ((aE.new w5 (ag #[O xa xl xc,Y Z x.e,O xp xm xk,O wa wl wc,Y Z w.e,O wp wm wk] 57)).and (K5.I.alloc (ag #[O xa xl xc,Y Z x.e,O xp xm xk,O wa wl wc,Y Z w.e,O wp wm wk] 57)));have RW:=KR.aQ K6.F.2.2.2.2.2;have DM:=V (OX 2 [x,w] w5.heap.size 2 _ rfl eM (rJ.two K6.F.1 RW.1.1 RW.1.2 RW.2.1.1 RW.2.1.2));obtain⟨Z7,hZ⟩:=J (D.aH 2 [x,w]);rw[hZ]at DM;have HZ:=V hZ;have mK:=V IA;clear hZ IA RW;go_wp2_with fail;refine bY DM.I λw6 hb=> ?_;have K7:=K6.bU hb;clear K5 K6 DM hb f0 g0 r0;have r0:=aY K7.F.2.2.2.2.1;by_cases hz:Z7=0
 .subst hz;have my:=D.D3 HZ.I;obtain⟨mx,lx⟩:=my x bK;obtain⟨mw,lw⟩:=my w bK;obtain⟨b1,b4,bz8,bz1⟩:=T.sI mK.I;obtain⟨R0,N,ex,zU,FV,rH,zM,hRN,ark,xF⟩:=D.two mx lx;obtain⟨C,M,ew,VO,rU,Ga,rV,hCM,arl,tH⟩:=D.two mw lw;have RW:=KR.aQ K7.F.2.2.2.2.2;have fP:=RW.1.1.bA;have mI:=RW.2.1.1.bA;have vJ:=RW.2.2.1.bA;obtain rfl:xl=2:=U;obtain rfl:wl=2:=U;obtain⟨xb,xo,rfl,gY⟩:=RW.1.1.cells U;obtain⟨wb,wo,rfl,kQ⟩:=RW.2.1.1.cells U;obtain⟨bb,bo,rfl,D5⟩:=RW.2.2.1.cells U;have iX:=gY 0 U;have gM:=gY 1 U;have kR:=kQ 0 U;have kS:=kQ 1 U;have PH:=D5 0 U;rw[ex]at iX gM;rw[ew]at kR kS;simp only[eL,nC,n7]at iX gM kR kS PH;obtain⟨Q,hQ⟩:=J (b.d.getD 0 0);rw[hQ]at PH;have HX:=V (aw ex (aw ew hQ));have VW:=V vJ;have kx:=V (show(if(M:Int)≠N\/b.d.length≠1\/Q≠C then(2,az.zero)else D.made R0 C N (x.e+w.e) (D.Gb x w b))=R by
   have:=HR.I;unfold D.forward at this;rw[aI (λh=>h mK.I),HZ.I,aI bK,HX.I.1,HX.I.2.1,HX.I.2.2]at this;simpa using this)
  have arn:1<=bl:=U;have KS:Hid (aE w6 (λw':H=>w' W=A (O (A ⟨xb,xo,G⟩) 2 xc)/\w' ⟨W+1,0,G⟩=A (O (A ⟨wb,wo,G⟩) 2 wc)/\w' ⟨W+1+1,0,G⟩=A (O (A ⟨bb,bo,G⟩) bl bc)/\w' ⟨xb,xo,G⟩=A (Y Z R0)/\w' ⟨xb,xo+1,G⟩=A (Y Z N)/\w' ⟨wb,wo,G⟩=A (Y Z C)/\w' ⟨wb,wo+1,G⟩=A (Y Z M)/\w' ⟨bb,bo,G⟩=A (Y Z Q))):=V ((aE.cell (K7.F.2.1 |>λh=>bh h 0 rfl)).and ((aE.cell (K7.F.2.2.1 |>λh=>bh h 0 rfl)).and ((aE.cell (K7.F.2.2.2.1 |>λh=>bh h 0 rfl)).and ((aE.cell iX).and ((aE.cell gM).and ((aE.cell kR).and ((aE.cell kS).and (aE.cell PH))))))));clear ex ew hQ gY kQ D5 iX gM kR kS PH RW fP mI vJ my mx mw lx lw;obtain⟨S1,dp⟩:∃S1:H->Prop,S1=(λw':H=>w' W=A (O (A ⟨xb,xo,G⟩) 2 xc)/\w' ⟨W+1,0,G⟩=A (O (A ⟨wb,wo,G⟩) 2 wc)/\w' ⟨W+1+1,0,G⟩=A (O (A ⟨bb,bo,G⟩) bl bc)/\w' ⟨xb,xo,G⟩=A (Y Z R0)/\w' ⟨xb,xo+1,G⟩=A (Y Z N)/\w' ⟨wb,wo,G⟩=A (Y Z C)/\w' ⟨wb,wo+1,G⟩=A (Y Z M)/\w' ⟨bb,bo,G⟩=A (Y Z Q)):=⟨_,rfl⟩;rw[<-dp]at KS;go_wp2_with fail;refine cS S1 (eE (KS.aQ (below_drewN w6 1)) λhS=>bR hS [0,4,8,1,5,9,2,6,10,3,7,11] (λ_ h=>Q34) ?_);refine bL 12 λK hK=> ?_;go_simp;have dR:ay w6 w6 ((li w6 (ag #[Y Z 0] 3)).drew):=(aD w6 _).bI 1;refine bB hK (KS.aQ dR) ?_;refine bR (KS.aQ dR) [13] (λ_ h=>Q34) (bL 14 λK hK=> ?_);go_simp;have ej:ay w6 w6 ((li w6 (ag #[Y Z (N:Int)] 3)).drew):=(aD w6 _).bI 1;have xC:((li w6 (ag #[Y Z (N:Int)] 3)).drew).heap[w6.heap.size]? =A (ag #[Y Z (N:Int)] 3 (0,0)):=bZ w6 _;refine bB hK (KS.aQ ej) ?_;refine bR (KS.aQ ej) [15] (λ_ h=>Q34) (bW ?_);have K8:=V ((aE.block xC).and (K7.I.step ej));have mR:=KS.bU ej;obtain⟨gn,IL⟩:=J w6.heap.size;have aro:W.heap.size<=gn:=E K7.F.2.2.2.2.2.size;rw[IL]at K8⊢;clear IL;clear hS KS dR ej xC K7 r0;generalize(li w6 (ag #[Y Z (N:Int)] 3)).drew=w7 at*;have cn:=bh K8.F.1 0 (v:=Y Z (N:Int)) rfl;obtain⟨S2,bX⟩:∃S2:H->Prop,S2=(λw':H=>S1 w'/\w' gn=A (Y Z (N:Int))):=⟨_,rfl⟩;have qV:Hid (aE w7 S2):=V Q4c;clear cn mR;have he: -128<=x.e+w.e/\x.e+w.e<=128:=U;obtain⟨Dc,vD⟩:=he;go_wp2_with fail;by_cases iJ:M=N
  .subst iJ;by_cases jH:bl=1
   .subst jH;by_cases kf:Q=C
    .subst kf;have HF:=V (show D.made R0 C M (x.e+w.e) (D.Gb x w b)=R from by have:=kx.I;rwa[aI (E VW.I)]at this);refine cS S2 (eE (qV.aQ (below_drewN w7 1)) λhS=>bR hS [0,4,1,2,3,5,6,7,8,9,10,11,12,13,17,14,15,16,18,19] (λ_ h=>Q3c) ?_);refine bW ?_;clear hS;have K9:=V K8.I.draw;have f1:=bP K9.F.2.2.1;have g1:=bP K9.F.2.2.2.1;have cn:=bh K9.F.1 0 (v:=Y Z (M:Int)) rfl;have cnA:=(uy cn).1;clear K8 qV;generalize w7.drew=w8 at*;go_wp2_with fail;have KA:=V ((aE.new w8 (ag #[Y Z (x.e+w.e)] 3)).and (K9.I.alloc (ag #[Y Z (x.e+w.e)] 3)));have hbc:bm=C:=by
      have h1:=mK.I.2.1;have h2:=KR.F.2.2.2.bA;have h3:b.d=[(C:Int)]:=by
       have h4:=VW.I;have h5:=HX.I.2.2
       match hd:b.d,h4 with
       | [y],_=>rw[hd]at h5;simp at h5;rw[h5]
      rw[h3,h2,show Sh.size [(C:Int)]=Sh.prod [(C:Int)]from(Sh.iA (by rw[<-h3];exact mK.I.1)).eq]at h1;rw[show Sh.prod [(C:Int)]=(C:Int)*1 from rfl]at h1;omega
     have jN:x.z.length=xm:=KR.F.1.2.bA;have rW:w.z.length=wm:=KR.F.2.1.2.bA;have MD:=V (OY 284 #[aP (W+1+1:Nat),aP w8,aP gn,aP W,aP (W+1:Nat)]
      (D.Gb x w b) R0 C M (x.e+w.e) (li w8 (ag #[Y Z (x.e+w.e)] 3)) U rH Ga (λargs w=>Q3J)
      (λtI r c hr hc=>by
       have hN:=D.D4 tI;have h8:=jv KR.F.2.2.2.wf c;have vO:=Z4.OS (b.z.getD c 0) b.e (x.e+w.e) h8.1 h8.2;have iL:=D.Fp KR.F.1.2.wf KR.F.2.1.2.wf (λi=>r*M+i) (λi=>c*M+i) M;unfold D.Gb;rw[HX.I.1];simp only[n7,nC,jx];omega)
      (λr c wx tI h1 h2 hr hc hb=>by
       have hN:=D.D4 tI;have hk:=KA.aQ hb;have tJ:=KR.aQ hk.2.2.2.2.2.2.2;have e:D.Gb x w b r c=Rd.align (b.z.getD c 0) b.e (x.e+w.e)+D.dot x.z w.z (λi=>r*M+i) (λi=>c*M+i) M:=by
        unfold D.Gb;rw[HX.I.1];simp only[n7,nC,jx]
       rw[e];refine aim r c M (W.heap.size+1+1) w8.heap.size gn W.heap.size (W.heap.size+1) bp bm bk b.z b.e (x.e+w.e) xp xm xk x.z wp wm wk w.z wx (bh hk.2.2.2.2.2.1 2 rfl) (bh hk.2.2.2.2.2.1 1 rfl) (bh hk.1 0 rfl) (bh hk.2.1 0 rfl) (bh hk.2.2.2.1 2 rfl) (bh hk.2.2.2.2.1 2 rfl) tJ.2.2.2 tJ.1.2 tJ.2.1.2 U ?_ ?_ hN U U U
       .have:(r+1)*M<=R0*M:=nZ M U;exact Q1t
       .have:(c+1)*M<=C*M:=nZ M U;rw[Nat.add_mul,Nat.one_mul]at this;omega))
     rw[HF.I]at MD;have FZ:W.heap.size+1+1+1<(li w8 (ag #[Y Z (x.e+w.e)] 3)).heap.size:=bH KA.F.2.2.2.2.2.2.1;clear jN rW hbc f1 g1 cn cnA;refine MD.I.mono ?_;rintro e' w9 ⟨v,rfl,hv,hb⟩;have ff:=KA.bU hb;have HV:=V hv;obtain⟨r,tn⟩:=R;obtain⟨ra,rl,rc,rb,rm,rk,rfl,_⟩:=hv;unfold aS at HV;unfold aS;have r0:=aY ff.F.2.2.2.2.2.2.1;clear hb MD;go_wp2_with fail;refine aZ (v:=aL #[aF #[O ra rl rc,Y Z tn.e,O rb rm rk],Y Z r]) ?_ rfl ⟨_,rfl,(HV.I.stored FZ _ _ _).mono (E KA.F.2.2.2.2.2.2.2.size),cL ff.F.2.2.2.2.2.2.2 U _ _ _⟩;simp[aW,results232,go_sem,cT ff.F.2.2.2.2.2.2.1]
    .obtain rfl:(2,az.zero)=R:=by rw[<-kx.I,aR U]
     have z1:(Q != (C:Int))=true:=by simpa using kf
     clear kf;exact Q0l
   .obtain rfl:(2,az.zero)=R:=by rw[<-kx.I,aR (E VW.I)]
    have z1:((bl:Int) != 1)=true:=Q2R;clear jH;exact Q0l
  .obtain rfl:(2,az.zero)=R:=by rw[<-kx.I,aR U]
   have z1:((M:Int) != (N:Int))=true:=Q2R;clear iJ;exact Q0l
 .obtain rfl:(Z7,az.zero)=R:=by rw[<-HR.I];unfold D.forward;rw[aI (λh=>h mK.I),HZ.I,aR hz]
  have cB:(Z7 != 0)=true:=Q37;clear hz;go_wp2_with fail;refine aZ (v:=aL #[aF #[O G 0 0,Y Z 0,O G 0 0],Y Z Z7]) ?_ rfl ⟨_,rfl,dM.zero _ _ _,cL K7.F.2.2.2.2.2 U _ _ _⟩;simp[aW,results232,go_sem,cT K7.F.2.2.2.2.1]
namespace Lt
variable {P:Program} {ops:Array Oper} {Q:Exit->Act->H->Prop} {md:Region.Mode} {S:H->Prop} {late:Nat->Bool}
theorem three {i l:Nat} {o q p:Oper} {fuel:Nat} {a:Act} (hr:Region.ready md ops listed=[i,j,l]) (hi:ops.toList[i]? =A o) (hj:ops.toList[j]? =A q) (hl:ops.toList[l]? =A p)
 (h:∀K',RowKit.Hid (∀a' w',((late i=ae->S w')/\ij P md ops Q S late fuel (listed.setIfInBounds i true) a' w')->K' a' w')->if n9 o (yielded ops a.tmps)=true then Oper.wp P o a w K' Q else K' (a.put o.dst undef) w)
 (h2:∀K',RowKit.Hid (∀a' w',((late j=ae->S w')/\ij P md ops Q S late fuel (listed.setIfInBounds j true) a' w')->K' a' w')->if n9 q (yielded ops a.tmps)=true then Oper.wp P q a w K' Q else K' (a.put q.dst undef) w)
 (h3:∀K',RowKit.Hid (∀a' w',((late l=ae->S w')/\ij P md ops Q S late fuel (listed.setIfInBounds l true) a' w')->K' a' w')->if n9 p (yielded ops a.tmps)=true then Oper.wp P p a w K' Q else K' (a.put p.dst undef) w):
 ij P md ops Q S late (fuel+1) listed a w:=
 all hr bK (λk hk=>by
  simp only[List.mem_cons,List.not_mem_nil,or_false]at hk;rcases hk with rfl|rfl|rfl
  .exact step (by simpa using hi) h
  .exact step Q4m h2
  .exact step Q4l h3)
end Lt
theorem aE.BS {ZX:H->Prop} (h:aE w ZX) (a:Obj):ZX (li w a).drew:=(h.alloc a).draw.aN
theorem aE.nw {ZX:H->Prop} (h:aE w ZX) (a b:Obj):ZX (li (li w a) b).drew:=((h.alloc a).alloc b).draw.aN
theorem aE.kB {ZX:H->Prop} (h:aE w ZX) (a b c:Obj):ZX (li (li (li w a) b) c).drew:=(((h.alloc a).alloc b).alloc c).draw.aN
theorem LU (w:H) (a b:Obj):(li (li w a) b).drew.heap[w.heap.size]? =A a:=(aE.fG w a b).aN.1
theorem LV (w:H) (a b:Obj):(li (li w a) b).drew.heap[w.heap.size+1]? =A b:=(aE.fG w a b).aN.2.1
theorem LW (w:H) (a b:Obj):ay w w (li (li w a) b).drew:=(aE.fG w a b).aN.2.2.bI 1
theorem Aa (w:H) (a b c:Obj):(li (li (li w a) b) c).drew.heap[w.heap.size]? =A a:=(aE.lj w a b c).aN.1
theorem Ab (w:H) (a b c:Obj):(li (li (li w a) b) c).drew.heap[w.heap.size+1]? =A b:=(aE.lj w a b c).aN.2.1
theorem Ac (w:H) (a b c:Obj):(li (li (li w a) b) c).drew.heap[w.heap.size+1+1]? =A c:=(aE.lj w a b c).aN.2.2.1
theorem BU (w:H) (a b c:Obj):ay w w (li (li (li w a) b) c).drew:=(aE.lj w a b c).aN.2.2.2.bI 1
namespace D
def Ge (x w:az) (r c:Nat):Int:=dot x.z w.z (λk=>k*(x.d.getD 1 0).toNat+r) (λk=>k*(w.d.getD 1 0).toNat+c) (x.d.getD 0 0).toNat
def weight (x w:az):Int×az:=
 if aH 2 [x,w]≠0 then(aH 2 [x,w],az.zero)else if w.d.getD 0 0≠x.d.getD 0 0 then(2,az.zero)
 else made (x.d.getD 1 0).toNat (w.d.getD 1 0).toNat (x.d.getD 0 0) (x.e+w.e) (Ge x w)
def Gf (x w:az) (r c:Nat):Int:=dot x.z w.z (λk=>r*(x.d.getD 1 0).toNat+k) (λk=>k*(w.d.getD 1 0).toNat+c) (x.d.getD 1 0).toNat
def input (x w:az):Int×az:=
 if aH 2 [x,w]≠0 then(aH 2 [x,w],az.zero)else if w.d.getD 0 0≠x.d.getD 1 0 then(2,az.zero)
 else made (x.d.getD 0 0).toNat (w.d.getD 1 0).toNat (x.d.getD 1 0) (x.e+w.e) (Gf x w)
end D
theorem akX (x w:az) (vx vw:aj) (W:H) (hx:fu aO W vx x) (hw:fu aO W vw w):
 aA aq 268 #[vx,vw] W (oY cr (D.weight x w) W):=by
 obtain⟨xa,xl,xc,xp,xm,xk,rfl,x0,x1⟩:=hx;obtain⟨wa,wl,wc,wp,wm,wk,rfl,w0,w1⟩:=hw;have KZ:=V (aE.lj W (bj xa xl xc x.e xp xm xk) (bj wa wl wc w.e wp wm wk) (cV G 0 0 0 G 0 0));have KR:=V ((x0.bt.and x1.bt).and (w0.bt.and w1.bt));obtain⟨R,hR⟩:=J (D.weight x w);rw[hR];have HR:=V hR;unfold aS;clear x0 x1 w0 w1 hR;have f0:=bP KZ.F.1;have g0:=bP KZ.F.2.1;have K6:=V ((aE.IK W (bj xa xl xc x.e xp xm xk) (bj wa wl wc w.e wp wm wk) (cV G 0 0 0 G 0 0) (ag #[O xa xl xc,Y Z x.e,O xp xm xk,O wa wl wc,Y Z w.e,O wp wm wk] 57)).mono λw' h=>(⟨h.2.2.2.1,h.1,h.2.1,h.2.2.1,h.2.2.2.2⟩:_/\_/\_/\_/\_));have RW:=KR.aQ K6.F.2.2.2.2;have DM:=V (OX 2 [x,w] (W.heap.size+1+1+1) 2 _ rfl eM (rJ.two K6.F.1 RW.1.1 RW.1.2 RW.2.1 RW.2.2));obtain⟨Z7,hZ⟩:=J (D.aH 2 [x,w]);rw[hZ]at DM;have HZ:=V hZ;clear hZ RW;go_enter func268,ntmps268;go_wp2_with fail;refine bY DM.I λw6 hb=> ?_;have K7:=K6.bU hb;clear K6 KZ DM hb f0 g0;have r0:=aY K7.F.2.2.2.1;by_cases hz:Z7=0
 .subst hz;have my:=D.D3 HZ.I;obtain⟨mx,lx⟩:=my x bK;obtain⟨mw,lw⟩:=my w bK;obtain⟨A0,A1,ex,Ad,qW,aco,V3,hAA,acp,xF⟩:=D.two mx lx;obtain⟨B0,B1,ew,oM,FZ,akY,V4,E7,akZ,tH⟩:=D.two mw lw;have RW:=KR.aQ K7.F.2.2.2.2;have fP:=RW.1.1.bA;have mI:=RW.2.1.bA;obtain rfl:xl=2:=U;obtain rfl:wl=2:=U;obtain⟨xb,xo,rfl,gY⟩:=RW.1.1.cells U;obtain⟨wb,wo,rfl,kQ⟩:=RW.2.1.cells U;have iX:=gY 0 U;have gM:=gY 1 U;have kR:=kQ 0 U;have kS:=kQ 1 U;rw[ex]at iX gM;rw[ew]at kR kS;simp only[eL,nC,n7]at iX gM kR kS;have HX:=V (aw ex ew);have kx:=V (show(if(B0:Int)≠A0 then(2,az.zero)else D.made A1 B1 A0 (x.e+w.e) (D.Ge x w))=R by
   have:=HR.I;unfold D.weight at this;rw[HZ.I,aI bK,HX.I.1,HX.I.2]at this;simpa using this)
  have KS:Hid (aE w6 (λw':H=>w' W=A (O (A ⟨xb,xo,G⟩) 2 xc)/\w' ⟨W+1,0,G⟩=A (O (A ⟨wb,wo,G⟩) 2 wc)/\w' ⟨xb,xo,G⟩=A (Y Z A0)/\w' ⟨xb,xo+1,G⟩=A (Y Z A1)/\w' ⟨wb,wo,G⟩=A (Y Z B0)/\w' ⟨wb,wo+1,G⟩=A (Y Z B1))):=V ((aE.cell (K7.F.2.1 |>λh=>bh h 0 rfl)).and ((aE.cell (K7.F.2.2.1 |>λh=>bh h 0 rfl)).and ((aE.cell iX).and ((aE.cell gM).and ((aE.cell kR).and (aE.cell kS))))));clear ex ew gY kQ iX gM kR kS RW fP mI my mx mw lx lw;obtain⟨S1,dp⟩:∃S1:H->Prop,S1=(λw':H=>w' W=A (O (A ⟨xb,xo,G⟩) 2 xc)/\w' ⟨W+1,0,G⟩=A (O (A ⟨wb,wo,G⟩) 2 wc)/\w' ⟨xb,xo,G⟩=A (Y Z A0)/\w' ⟨xb,xo+1,G⟩=A (Y Z A1)/\w' ⟨wb,wo,G⟩=A (Y Z B0)/\w' ⟨wb,wo+1,G⟩=A (Y Z B1)):=⟨_,rfl⟩;rw[<-dp]at KS;go_wp2_with fail;go_upto_region 4 with fail;go_cut [7,8,9] (λa b c wx=>∃p q r,a=aP (A ⟨p,0,G⟩)/\b=aP (A ⟨q,0,G⟩)/\c=aP (A ⟨r,0,G⟩)/\wx.heap[p]? =A (ag #[Y Z (A0:Int)] 3 (0,0))/\wx.heap[q]? =A (ag #[Y Z (A1:Int)] 3 (0,0))/\wx.heap[r]? =A (ag #[Y Z (B1:Int)] 3 (0,0))/\ay w6 w6 wx)
  case first=>
   refine cS S1 (eE (KS.aQ (below_drewN w6 1)) λhS=>bR hS [0,4,8,1,5,9,2,6,10,3,7,11] (λ_ h=>Q34) ?_);refine Lt.three (i:=12) (j:=13) (l:=14) kr rfl rfl rfl (λK hK=> ?_) (λK hK=> ?_) (λK hK=> ?_)
   .go_simp;refine bB hK (KS.I.BS _) ?_;refine lI 13 14 (λK hK=> ?_) (λK hK=> ?_)
    .go_simp;refine cY hK (KS.I.nw _ _) 14 λK hK=> ?_;exact Q05
    .go_simp;refine cY hK (KS.I.nw _ _) 13 λK hK=> ?_;exact Q05
   .go_simp;refine bB hK (KS.I.BS _) ?_;refine lI 12 14 (λK hK=> ?_) (λK hK=> ?_)
    .go_simp;refine cY hK (KS.I.nw _ _) 14 λK hK=> ?_;exact Q05
    .go_simp;refine cY hK (KS.I.nw _ _) 12 λK hK=> ?_;exact Q05
   .go_simp;refine bB hK (KS.I.BS _) ?_;refine lI 12 13 (λK hK=> ?_) (λK hK=> ?_)
    .go_simp;refine cY hK (KS.I.nw _ _) 13 λK hK=> ?_;exact Q05
    .go_simp;refine cY hK (KS.I.nw _ _) 12 λK hK=> ?_;exact Q05
  case rest=>
   obtain⟨gp,gq,gr,rfl,rfl,rfl,hp,hq,hr,dR⟩:=hcut;have K8:=K7.bU dR;have mR:=KS.bU dR;have HG:=V (aw (aE.block hp) (aw (aE.block hq) (aE.block hr)));have dQ:=dR.size;clear KS K7 r0 dR hp hq hr;obtain⟨w7,rfl⟩:∃w7:H,w7=wc:=⟨_,rfl⟩;have cn:=bh HG.I.1.aN 0 (v:=Y Z (A0:Int)) rfl;obtain⟨S2,bX⟩:∃S2:H->Prop,S2=(λw':H=>S1 w'/\w' gp=A (Y Z (A0:Int))):=⟨_,rfl⟩;have qV:Hid (aE w7 S2):=V Q4c;clear cn mR;obtain⟨Dc,vD⟩: -128<=x.e+w.e/\x.e+w.e<=128:=U;go_wp2_with fail;by_cases iJ:B0=A0
   .subst iJ;have HF:=V (show D.made A1 B1 B0 (x.e+w.e) (D.Ge x w)=R from by have:=kx.I;rwa[aI U]at this);refine cS S2 (eE (qV.aQ (below_drewN w7 1)) λhS=>bR hS [0,4,1,2,3,5] (λ_ h=>Q3c) ?_);refine bW ?_;have K9:=V K8.I.draw;have qX:=V (aw HG.I.1.draw (aw HG.I.2.1.draw HG.I.2.2.draw));have al0:w6.heap.size<=w7.drew.heap.size:=dQ;clear hS K8 qV HG dQ;generalize w7.drew=w8 at*;have f1:=bP K9.F.2.1;have g1:=bP K9.F.2.2.1;have c1:=bh qX.I.1.aN 0 (v:=Y Z (B0:Int)) rfl;have c2:=bh qX.I.2.1.aN 0 (v:=Y Z (A1:Int)) rfl;have c3:=bh qX.I.2.2.aN 0 (v:=Y Z (B1:Int)) rfl;have jN:x.z.length=xm:=KR.F.1.2.bA;have rW:w.z.length=wm:=KR.F.2.2.bA;have MD:=V (OY 311 #[aP gp,aP W,aP gq,aP (W+1:Nat),aP gr]
     (D.Ge x w) A1 B1 B0 (x.e+w.e) w8 U U V4 (λargs w=>Q3J)
     (λtI r c hr hc=>by
      have hN:=D.D4 tI;have iL:=D.Fp KR.F.1.2.wf KR.F.2.2.wf (λk=>k*A1+r) (λk=>k*B1+c) B0;unfold D.Ge;rw[HX.I.1,HX.I.2];simp only[n7,nC,jx];omega)
     (λr c wx tI h1 h2 hr hc hb=>by
      have hN:=D.D4 tI;have hk:=K9.aQ hb;have tJ:=KR.aQ hk.2.2.2.2;have e:D.Ge x w r c=D.dot x.z w.z (λk=>k*A1+r) (λk=>k*B1+c) B0:=by
       unfold D.Ge;rw[HX.I.1,HX.I.2];simp only[n7,nC,jx]
      rw[e];refine aio r c B0 gp W.heap.size (W.heap.size+1) gr gq B1 A1 xp xm xk x.z wp wm wk w.z wx (bh (qX.I.1.jD hb) 0 rfl) (bh hk.2.1 2 rfl) (bh (qX.I.2.1.jD hb) 0 rfl) (bh hk.2.2.1 2 rfl) (bh (qX.I.2.2.jD hb) 0 rfl) tJ.1.2 tJ.2.2 ?_ ?_ hN U U U U U U
      .intro k hk;have:(k+1)*A1<=B0*A1:=nZ A1 U;exact Q1t
      .intro k hk;have:(k+1)*B1<=B0*B1:=nZ B1 U;rw[Nat.add_mul,Nat.one_mul]at this;omega))
    rw[HF.I]at MD;have IU:W.heap.size+1+1<w8.heap.size:=bH K9.F.2.2.2.1;clear jN rW;go_wp2_with fail;clear f1 g1 c1 c2 c3;refine MD.I.mono ?_;rintro e' w9 ⟨v,rfl,hv,hb⟩;have ff:=K9.bU hb;have HV:=V hv;obtain⟨r,tn⟩:=R;obtain⟨ra,rl,rc,rb,rm,rk,rfl,_⟩:=hv;unfold aS at HV;unfold aS;have r0:=aY ff.F.2.2.2.1;clear hb MD;go_wp2_with fail;refine aZ (v:=aL #[aF #[O ra rl rc,Y Z tn.e,O rb rm rk],Y Z r]) ?_ rfl ⟨_,rfl,(HV.I.stored IU _ _ _).mono U,cL ff.F.2.2.2.2 U _ _ _⟩;simp[aW,results268,go_sem,cT ff.F.2.2.2.1]
   .obtain rfl:(2,az.zero)=R:=by rw[<-kx.I,aR U]
    have z1:((B0:Int) != (A0:Int))=true:=Q2R;clear iJ;refine cS S2 (eE (qV.aQ (below_drewN w7 1)) λhS=>bR hS [0,4,1,2,3,5] (λ_ h=>Q3c) ?_);refine bW ?_;have K9:=V K8.I.draw;clear hS K8 qV HG dQ;generalize w7.drew=w8 at*;have r0:=aY K9.F.2.2.2.1;go_wp2_with fail;refine aZ (v:=aL #[aF #[O G 0 0,Y Z 0,O G 0 0],Y Z 2]) ?_ rfl ⟨_,rfl,dM.zero _ _ _,cL K9.F.2.2.2.2 U _ _ _⟩;simp[aW,results268,go_sem,cT K9.F.2.2.2.1]
 .obtain rfl:(Z7,az.zero)=R:=by rw[<-HR.I];unfold D.weight;rw[HZ.I,aR hz]
  have cB:(Z7 != 0)=true:=Q37;clear hz;go_wp2_with fail;refine aZ (v:=aL #[aF #[O G 0 0,Y Z 0,O G 0 0],Y Z Z7]) ?_ rfl ⟨_,rfl,dM.zero _ _ _,cL K7.F.2.2.2.2 U _ _ _⟩;simp[aW,results268,go_sem,cT K7.F.2.2.2.1]
end
def iter (f:α->Nat->α) (z:α):Nat->α
 |0=>z
 |k+1=>f (iter f z k) k
theorem acO {f:α->Nat->α} (Z9:α->Prop) {z:α} (h0:Z9 z):∀n,(∀a k,k<n->Z9 a->Z9 (f a k))->Z9 (iter f z n)
 |0,_=>h0
 |n+1,h=>h _ _ U (acO Z9 h0 n λa k hk=>h a k U)
theorem xL {a b n k:Nat} (ha:a<n) (hb:b<k):a*k+b<n*k:=by
 have:(a+1)*k<=n*k:=nZ k U;exact Q1t
namespace C
abbrev W:=Int×Int×Int
def w0:W:=(0,0,0)
def fresh (n e:Int) (ds:ah):Int×az:=if ¬(D.fits n=true/\ -128<=e/\e<=128)then(3,az.zero)else if ¬0<Sh.size ds then(1,az.zero)else(0,⟨ds,e,dz (Sh.size ds).toNat 0⟩)
def xi (jo iI m c:Nat) (t:W):Nat:=(m*jo+c)*iI+t.1.toNat
def wi (jo k o c:Nat) (t:W):Nat:=((o*jo+c)*k+t.2.1.toNat)*k+t.2.2.toNat
def oi (I vp vq m o p q:Nat):Nat:=((m*I+o)*vp+p)*vq+q
def Jb (x w:ah) (i j:Nat) (s:Int):Int:=wrap64 (s+x.getD i 0*w.getD j 0)
def acP (x w:ah) (jo iI k m o:Nat) (l:List W) (s:Int) (c:Nat):Int:=iter (λs j=>Jb x w (xi jo iI m c (l.getD j w0)) (wi jo k o c (l.getD j w0)) s) s l.length
def am0 (x w:ah) (jo iI k m o:Nat) (l:List W) (s:Int):Int:=iter (acP x w jo iI k m o l) s jo
def acQ (x w b:az) (e:Int) (jo iI I vp vq k:Nat) (l:List W) (p q m:Nat) (z:ah) (o:Nat):List Int:=
 z.set (oi I vp vq m o p q) (cr.wrap (am0 x.z w.z jo iI k m o l (Rd.align (b.z.getD o 0) b.e e)))
def acR (x w b:az) (e:Int) (n jo iI I vp vq k:Nat) (f:Nat->Nat->List W) (p:Nat) (z:ah) (q:Nat):List Int:=
 iter (λz m=>iter (acQ x w b e jo iI I vp vq k (f p q) p q m) z I) z n
def Jc (x w b:az) (e:Int) (n jo iI I vp vq k:Nat) (f:Nat->Nat->List W) (z:ah):List Int:=
 iter (λz p=>iter (acR x w b e n jo iI I vp vq k f p) z vq) z vp
def g (d:ah) (i:Nat):Int:=d.getD i 0
def nat (d:ah) (i:Nat):Nat:=(d.getD i 0).toNat
def forward (x w b:az) (s p:Int):Int×az:=
 if ¬T.aH b.d b.e b.z then(1,az.zero)else if D.aH 4 [x,w]≠0 then(D.aH 4 [x,w],az.zero)
 else if ¬(0<bO (g x.d 2) (g w.d 2) s p/\0<bO (g x.d 3) (g w.d 2) s p)\/g w.d 1≠g x.d 1\/g w.d 3≠g w.d 2\/b.d.length≠1\/g b.d 0≠g w.d 0 then(2,az.zero)
 else if(fresh (g x.d 1*g w.d 2*g w.d 2) (x.e+w.e) [g x.d 0,g w.d 0,bO (g x.d 2) (g w.d 2) s p,bO (g x.d 3) (g w.d 2) s p]).1 ≠0 then fresh (g x.d 1*g w.d 2*g w.d 2) (x.e+w.e) [g x.d 0,g w.d 0,bO (g x.d 2) (g w.d 2) s p,bO (g x.d 3) (g w.d 2) s p]
 else(0,⟨[g x.d 0,g w.d 0,bO (g x.d 2) (g w.d 2) s p,bO (g x.d 3) (g w.d 2) s p],x.e+w.e,
  Jc x w b (x.e+w.e) (nat x.d 0) (nat x.d 1) (nat x.d 2*nat x.d 3) (nat w.d 0) (bO (g x.d 2) (g w.d 2) s p).toNat (bO (g x.d 3) (g w.d 2) s p).toNat (nat w.d 2)
   (λp' q'=>jc (g x.d 2) (g x.d 3) p' q' (g w.d 2) s p) (dz (nat x.d 0*nat w.d 0*(bO (g x.d 2) (g w.d 2) s p).toNat*(bO (g x.d 3) (g w.d 2) s p).toNat) 0)⟩)
def acS (gz w:ah) (I jo iI k m c:Nat) (l:List W) (s:Int) (o:Nat):Int:=iter (λs j=>Jb gz w (xi I iI m o (l.getD j w0)) (wi jo k o c (l.getD j w0)) s) s l.length
def Wz (gz w:ah) (I jo iI k rows aU:Nat) (l:List W) (i m:Nat) (z:ah) (c:Nat):List Int:=z.set ((m*jo+c)*rows*aU+i) (cr.wrap (iter (acS gz w I jo iI k m c l) 0 I))
def Jd (gz w:ah) (n I jo iI k rows aU:Nat) (f:Nat->List W) (z:ah):List Int:=
 iter (λz i=>iter (λz m=>iter (Wz gz w I jo iI k rows aU (f i) i m) z jo) z n) z (rows*aU)
def input (x w:az) (rows aU s p:Int):Int×az:=
 if D.aH 4 [x,w]≠0 then(D.aH 4 [x,w],az.zero)
 else if ¬(0<bO rows (g w.d 2) s p/\0<bO aU (g w.d 2) s p)\/g w.d 0≠g x.d 1\/g w.d 3≠g w.d 2\/g x.d 2≠bO rows (g w.d 2) s p\/g x.d 3≠bO aU (g w.d 2) s p then(2,az.zero)
 else if(fresh (g x.d 1*g w.d 2*g w.d 2) (x.e+w.e) [g x.d 0,g w.d 1,rows,aU]).1 ≠0 then fresh (g x.d 1*g w.d 2*g w.d 2) (x.e+w.e) [g x.d 0,g w.d 1,rows,aU]
 else(0,⟨[g x.d 0,g w.d 1,rows,aU],x.e+w.e,
  Jd x.z w.z (nat x.d 0) (nat x.d 1) (nat w.d 1) (nat x.d 2*nat x.d 3) (nat w.d 2) rows.toNat aU.toNat (λi=>lookW rows aU (i/aU.toNat:Nat) (i%aU.toNat:Nat) (g w.d 2) s p) (dz (nat x.d 0*nat w.d 1*rows.toNat*aU.toNat) 0)⟩)
def put (z:ah) (i:Nat) (v:Int):List Int:=z.set i (cr.wrap (z.getD i 0+v))
def acT (gz x:ah) (I jo iI Eb k i:Nat) (t:W) (m o:Nat) (z:ah) (c:Nat):List Int:=put z (wi jo k o c t) (gz.getD ((m*I+o)*Eb+i) 0*x.getD (xi jo iI m c t) 0)
def Qd (gz x:ah) (n I jo iI Eb k i:Nat) (l:List W) (z:ah) (j:Nat):List Int:=
 iter (λz m=>iter (λz o=>iter (acT gz x I jo iI Eb k i (l.getD j w0) m o) z jo) z I) z n
def Je (gz x:ah) (n I jo iI Eb k:Nat) (f:Nat->List W) (z:ah):List Int:=iter (λz i=>iter (Qd gz x n I jo iI Eb k i (f i)) z (f i).length) z Eb
def weight (y x:az) (k s p:Int):Int×az:=
 if D.aH 4 [y,x]≠0 then(D.aH 4 [y,x],az.zero)
 else if ¬(0<bO (g x.d 2) k s p/\0<bO (g x.d 3) k s p)\/g x.d 0≠g y.d 0\/g y.d 2≠bO (g x.d 2) k s p\/g y.d 3≠bO (g x.d 3) k s p then(2,az.zero)
 else if(fresh (g y.d 0*bO (g x.d 2) k s p*bO (g x.d 3) k s p) (y.e+x.e) [g y.d 1,g x.d 1,k,k]).1 ≠0 then fresh (g y.d 0*bO (g x.d 2) k s p*bO (g x.d 3) k s p) (y.e+x.e) [g y.d 1,g x.d 1,k,k]
 else(0,⟨[g y.d 1,g x.d 1,k,k],y.e+x.e,
  Je y.z x.z (nat y.d 0) (nat y.d 1) (nat x.d 1) (nat x.d 2*nat x.d 3) ((bO (g x.d 2) k s p).toNat*(bO (g x.d 3) k s p).toNat) k.toNat
   (λi=>jc (g x.d 2) (g x.d 3) (i/ (bO (g x.d 3) k s p).toNat:Nat) (i%(bO (g x.d 3) k s p).toNat:Nat) k s p) (dz (nat y.d 1*nat x.d 1*k.toNat*k.toNat) 0)⟩)
def Ce (gz:ah) (I iI:Nat) (z:ah) (i:Nat):List Int:=put z (i/iI%I) (gz.getD i 0)
def zd (y:az):Int×az:=
 if D.aH 4 [y]≠0 then(D.aH 4 [y],az.zero)
 else if(fresh (g y.d 0*(g y.d 2*g y.d 3)) y.e [g y.d 1]).1 ≠0 then fresh (g y.d 0*(g y.d 2*g y.d 3)) y.e [g y.d 1]
 else(0,⟨[g y.d 1],y.e,iter (Ce y.z (nat y.d 1) (nat y.d 2*nat y.d 3)) (dz (nat y.d 1) 0) y.z.length⟩)
end C
end Go.Proofs.YtcpmhoodeieanaaGreatDoor
