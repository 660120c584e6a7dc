/-
  Part 6 of the proof that TopAsk answers true: laws of the functions that it calls, on any memory that holds their arguments.
-/
import Derived.Test.YtcpmhoodeieanaaGreatDoorZE
import Derived.Laws.Cover3
set_option maxRecDepth 100000
set_option maxHeartbeats 20000000
set_option linter.unusedVariables false
set_option linter.unusedSimpArgs false
open Go.Lib renaming hid→V
open Go.IntKind renaming i64→Z,i8→aO,i32→cr,u64→cD
open Go.Value renaming int→Y,slice→O,agg→aF,bool→aK,tuple→aL,pointer→aP
open Option renaming none→G,some→A
open Go renaming World→H,Value→aj,Calls→aA,results→aW,bodyPost_ret→aZ,lt_of_block→bH,heap_alloc_new→bZ,Ending→dN,maxLen→eS,info_parts→fB,madeCells→jz
open Bool renaming false→ae,and_eq_true→fS
open Go.Obj renaming cells→ag
open Go.Proofs.Tryz renaming prog→aq
open And renaming intro→aw
open Go.RowKit renaming Below→ay,intOf→aX,wrap64→cM
open Or renaming inl→aM,inr→bJ
open Nat renaming le_refl→bu,zero_le→cK,le_trans→eH,add_zero→eL,lt_of_lt_of_le→iP,mul_one→lA,zero_add→nF,le_succ→nH
open Go.World renaming size_alloc→bF
open Go.Ending renaming returned→bG
open List renaming getElem?_eq_getElem→cR,replicate→dz,setIfInBounds_toArray→dC,set_cons_zero→dD,set_cons_succ→dE,length_append→dG,getD→dV,getElem?_eq_some_iff→fX,getD_eq_getElem?_getD→gB,mem_cons→jy,getElem_mem→jZ,mem_append→kE,map_append→kF,mem_map→kG,not_mem_nil→mj,mem_of_getElem?→nB,mem_singleton→pS,drop_eq_nil_iff→sx,drop_eq_getElem_cons→tX
open Go.Lit renaming int→cX
open Go.IntWalk renaming i64_in→dv,wrap64_in→iZ
open Go.RowKit.Below renaming refl→eG
open Go.Value renaming oneCell'→fV
open Go.World renaming ownsRow_nil→gP,setCell→ss,alloc→li
open Int renaming toNat_natCast→jx
open Array renaming toList→jf
open Go.IntKind renaming signed→nD,bits→nG,wrap_u64→pT
namespace Go.Proofs.YtcpmhoodeieanaaGreatDoor
open Go.RowKit Go.Proofs.Tryz
variable {w:H} {n:Int} {l ls:List (List Int)} {c k:Nat} {a:aC} {d r:ah}
section
attribute [local go_sem ↓] wp_at_zero wp_at_succ
theorem qR (x:Int):Z.wrap x=cM x:=by
 unfold cM;simp[IntKind.wrap,nG,nD];omega
def Lay.aH (x:Lay) (n:Int):Bool:=
 if x.aB=1 then ZX.within x.I 1 4096&&decide (x=⟨1,x.I,0,0,0,0,x.fz⟩)
 else if x.aB=2 then(ZX.within x.I 1 8&&(x.xt&&ZX.within x.aG 0 (cM (x.k-1))))&&decide (x=⟨2,x.I,x.k,x.s,x.aG,0,x.fz⟩)
 else if x.aB=3\/x.aB=4 then x.xt&&decide (x=⟨x.aB,0,x.k,x.s,0,0,ae⟩)
 else if x.aB=5\/x.aB=6 then decide (x=⟨x.aB,0,0,0,0,0,ae⟩)
 else if x.aB=7 then ZX.within x.aJ 0 (cM (n-1))&&decide (x=⟨7,0,0,0,0,x.aJ,ae⟩)
 else ae
theorem ajJ (x:Lay) (n:Int) (w:H) (hk:x.aB=5\/x.aB=6):aA aq 177 #[aF x.cells,Y Z n] w (dZ (aK (x.aH n)) w):=by
 obtain⟨aB,I,k,s,aG,aJ,fz⟩:=x;have hk:aB=5\/aB=6:=hk;have K1:=V (aE.fG w (ag (Lay.cells ⟨aB,I,k,s,aG,aJ,fz⟩) 102) (ag (Lay.cells ⟨aB,0,0,0,0,0,ae⟩) 102));have f0:=bE K1.F.1;have g0:=bE K1.F.2.1;have z0:=λj=>cE K1.F.2.1 j;unfold Lay.cells at*;rcases hk with rfl|rfl
 all_goals
  go_enter func177,ntmps177;go_wp2;all_goals(go_ret;exact⟨by simp_all [Lay.aH],(aD _ _).step (aD _ _)⟩)
theorem ajK (x:Lay) (n:Int) (w:H) (hk:x.aB<1\/7<x.aB):aA aq 177 #[aF x.cells,Y Z n] w (dZ (aK (x.aH n)) w):=by
 obtain⟨aB,I,k,s,aG,aJ,fz⟩:=x;have hk:aB<1\/7<aB:=hk;have K1:=V (aE.fG w (ag (Lay.cells ⟨aB,I,k,s,aG,aJ,fz⟩) 102) (ag (Lay.cells ⟨aB,0,0,0,0,0,ae⟩) 102));have f0:=bE K1.F.1;have g0:=bE K1.F.2.1;have z0:=λj=>cE K1.F.2.1 j;unfold Lay.cells at*;have h1:(aB==1)=ae:=Q2R;have h2:(aB==2)=ae:=Q2R;have h3:(aB==3)=ae:=Q2R;have h4:(aB==4)=ae:=Q2R;have h5:(aB==5)=ae:=Q2R;have h6:(aB==6)=ae:=Q2R;have h7:(aB==7)=ae:=Q2R;have e:Lay.aH ⟨aB,I,k,s,aG,aJ,fz⟩ n=ae:=by
  exact Q1a
 rw[e];clear hk e;go_enter func177,ntmps177;go_wp2;go_ret;exact⟨rfl,K1.F.2.2⟩
theorem ajL (x:Lay) (n:Int) (w:H) (hk:x.aB=7):aA aq 177 #[aF x.cells,Y Z n] w (dZ (aK (x.aH n)) w):=by
 obtain⟨aB,I,k,s,aG,aJ,fz⟩:=x;obtain rfl:aB=7:=hk;have K1:=V (aE.fG w (ag (Lay.cells ⟨7,I,k,s,aG,aJ,fz⟩) 102) (ag (Lay.cells ⟨7,0,0,0,0,0,ae⟩) 102));have f0:=bE K1.F.1;have g0:=bE K1.F.2.1;have z0:=λj=>cE K1.F.2.1 j;unfold Lay.cells at*;have M1:=V (Fs aJ 0 (cM (n-1)));have hB:Lay.aH ⟨7,I,k,s,aG,aJ,fz⟩ n=(ZX.within aJ 0 (cM (n-1))&&decide (Lay.mk 7 I k s aG aJ fz=⟨7,0,0,0,0,aJ,ae⟩)):=rfl;rw[hB];clear hB;generalize ZX.within aJ 0 (cM (n-1))=Z3 at*;obtain⟨u,hu⟩:=J (cM (n-1));have tD:Z.wrap (n-1)=u:=(qR _).trans hu;rw[hu]at M1;clear hu
 cases Z3;all_goals
  go_enter func177,ntmps177;go_wp2_with fail;refine cq (M1.I _) ?_;go_wp2_with fail;all_goals(go_ret;exact⟨Q3N,(aD _ _).step (aD _ _)⟩)
theorem ajM (x:Lay) (n:Int) (w:H) (hk:x.aB=1):aA aq 177 #[aF x.cells,Y Z n] w (dZ (aK (x.aH n)) w):=by
 obtain⟨aB,I,k,s,aG,aJ,fz⟩:=x;obtain rfl:aB=1:=hk;have K1:=V (aE.fG w (ag (Lay.cells ⟨1,I,k,s,aG,aJ,fz⟩) 102) (ag (Lay.cells ⟨1,0,0,0,0,0,ae⟩) 102));obtain⟨f0,f1,f2,f3,f4,f5,f6⟩:=bE K1.F.1;obtain⟨g0,g1,g2,g3,g4,g5,g6⟩:=bE K1.F.2.1;have z0:=λj=>cE K1.F.2.1 j;have M1:=V (Fs I 1 4096);have hB:Lay.aH ⟨1,I,k,s,aG,aJ,fz⟩ n=(ZX.within I 1 4096&&decide (Lay.mk 1 I k s aG aJ fz=⟨1,I,0,0,0,0,fz⟩)):=rfl;rw[hB];clear hB;generalize ZX.within I 1 4096=Z3 at*;unfold Lay.cells at f0 f1 f2 f3 f4 f5 f6 g0 g1 g2 g3 g4 g5 g6⊢;go_enter func177,ntmps177;exact Q04
theorem ajN (x:Lay) (n:Int) (w:H) (hk:x.aB=3\/x.aB=4):aA aq 177 #[aF x.cells,Y Z n] w (dZ (aK (x.aH n)) w):=by
 obtain⟨aB,I,k,s,aG,aJ,fz⟩:=x;have hk:aB=3\/aB=4:=hk;rcases hk with rfl|rfl
 .have K1:=V (aE.fG w (ag (Lay.cells ⟨3,I,k,s,aG,aJ,fz⟩) 102) (ag (Lay.cells ⟨3,0,0,0,0,0,ae⟩) 102));obtain⟨f0,f1,f2,f3,f4,f5,f6⟩:=bE K1.F.1;obtain⟨g0,g1,g2,g3,g4,g5,g6⟩:=bE K1.F.2.1;have z0:=λj=>cE K1.F.2.1 j;have M1:=V (Uj ⟨3,I,k,s,aG,aJ,fz⟩);have hB:Lay.aH ⟨3,I,k,s,aG,aJ,fz⟩ n=(Lay.xt ⟨3,I,k,s,aG,aJ,fz⟩&&decide (Lay.mk 3 I k s aG aJ fz=⟨3,0,k,s,0,0,ae⟩)):=rfl;rw[hB];clear hB;generalize Lay.xt ⟨3,I,k,s,aG,aJ,fz⟩=Z3 at*;unfold Lay.cells at f0 f1 f2 f3 f4 f5 f6 g0 g1 g2 g3 g4 g5 g6⊢;go_enter func177,ntmps177;go_wp2_with fail;have hb:ay w w (li (li w (ag (Lay.cells ⟨3,I,k,s,aG,aJ,fz⟩) 102)) (ag (Lay.cells ⟨3,0,0,0,0,0,ae⟩) 102)):=K1.F.2.2;have hx:(li (li w (ag (Lay.cells ⟨3,I,k,s,aG,aJ,fz⟩) 102)) (ag (Lay.cells ⟨3,0,0,0,0,0,ae⟩) 102)).heap[w.heap.size]? =_:=K1.F.1;have hp:(li (li w (ag (Lay.cells ⟨3,I,k,s,aG,aJ,fz⟩) 102)) (ag (Lay.cells ⟨3,0,0,0,0,0,ae⟩) 102)).heap[w.heap.size+1]? =_:=K1.F.2.1;unfold Lay.cells at hb hx hp;generalize li (li w (bQ 3 I k s aG aJ fz)) (bQ 3 0 0 0 0 0 ae)=W at*;refine cS (λw':H=>w'.heap[w.heap.size]? =A (ag (Lay.cells ⟨3,I,k,s,aG,aJ,fz⟩) 102 (0,0))) (eE hx λhS=>bR hS [0,2,1,3,4] (λ_ h=>Q3o) ?_);have g0:=bE hp;have z0:=λj=>cE hp j;refine bL 5 λK hK=> ?_;go_simp;have oT:=dF (f:=2) hp (Y Z k);have lD:(ss W ⟨w+1,2,G⟩ (Y Z k)).heap[w.heap.size]? =_:=(gj _ U).trans hx;simp only[dC,dD,dE]at oT;have du:ay w w (ss W ⟨w+1,2,G⟩ (Y Z k)):=hb.setCell (nH _) _;have hS:(λw':H=>w'.heap[w.heap.size]? =A (ag (Lay.cells ⟨3,I,k,s,aG,aJ,fz⟩) 102 (0,0))) (ss W.drew ⟨w+1,2,G⟩ (Y Z k)):=lD;exact Q0g
 .have K1:=V (aE.fG w (ag (Lay.cells ⟨4,I,k,s,aG,aJ,fz⟩) 102) (ag (Lay.cells ⟨4,0,0,0,0,0,ae⟩) 102));obtain⟨f0,f1,f2,f3,f4,f5,f6⟩:=bE K1.F.1;obtain⟨g0,g1,g2,g3,g4,g5,g6⟩:=bE K1.F.2.1;have z0:=λj=>cE K1.F.2.1 j;have M1:=V (Uj ⟨4,I,k,s,aG,aJ,fz⟩);have hB:Lay.aH ⟨4,I,k,s,aG,aJ,fz⟩ n=(Lay.xt ⟨4,I,k,s,aG,aJ,fz⟩&&decide (Lay.mk 4 I k s aG aJ fz=⟨4,0,k,s,0,0,ae⟩)):=rfl;rw[hB];clear hB;generalize Lay.xt ⟨4,I,k,s,aG,aJ,fz⟩=Z3 at*;unfold Lay.cells at f0 f1 f2 f3 f4 f5 f6 g0 g1 g2 g3 g4 g5 g6⊢;go_enter func177,ntmps177;go_wp2_with fail;have hb:ay w w (li (li w (ag (Lay.cells ⟨4,I,k,s,aG,aJ,fz⟩) 102)) (ag (Lay.cells ⟨4,0,0,0,0,0,ae⟩) 102)):=K1.F.2.2;have hx:(li (li w (ag (Lay.cells ⟨4,I,k,s,aG,aJ,fz⟩) 102)) (ag (Lay.cells ⟨4,0,0,0,0,0,ae⟩) 102)).heap[w.heap.size]? =_:=K1.F.1;have hp:(li (li w (ag (Lay.cells ⟨4,I,k,s,aG,aJ,fz⟩) 102)) (ag (Lay.cells ⟨4,0,0,0,0,0,ae⟩) 102)).heap[w.heap.size+1]? =_:=K1.F.2.1;unfold Lay.cells at hb hx hp;generalize li (li w (bQ 4 I k s aG aJ fz)) (bQ 4 0 0 0 0 0 ae)=W at*;refine cS (λw':H=>w'.heap[w.heap.size]? =A (ag (Lay.cells ⟨4,I,k,s,aG,aJ,fz⟩) 102 (0,0))) (eE hx λhS=>bR hS [0,2,1,3,4] (λ_ h=>Q3o) ?_);have g0:=bE hp;have z0:=λj=>cE hp j;refine bL 5 λK hK=> ?_;go_simp;have oT:=dF (f:=2) hp (Y Z k);have lD:(ss W ⟨w+1,2,G⟩ (Y Z k)).heap[w.heap.size]? =_:=(gj _ U).trans hx;simp only[dC,dD,dE]at oT;have du:ay w w (ss W ⟨w+1,2,G⟩ (Y Z k)):=hb.setCell (nH _) _;have hS:(λw':H=>w'.heap[w.heap.size]? =A (ag (Lay.cells ⟨4,I,k,s,aG,aJ,fz⟩) 102 (0,0))) (ss W.drew ⟨w+1,2,G⟩ (Y Z k)):=lD;exact Q0g
theorem ajO (x:Lay) (n:Int) (w:H) (hk:x.aB=2):aA aq 177 #[aF x.cells,Y Z n] w (dZ (aK (x.aH n)) w):=by
 obtain⟨aB,I,k,s,aG,aJ,fz⟩:=x;obtain rfl:aB=2:=hk;have K1:=V (aE.fG w (bQ 2 I k s aG aJ fz) (bQ 2 0 0 0 0 0 ae));have K2:=V (aE.fG w (bQ 2 I k s aG aJ fz) (bQ 2 I k s aG 0 fz));have f0:=bE K1.F.1;have g0:=bE K1.F.2.1;have z0:=λj=>cE K1.F.2.1 j;have M1:=V (Fs I 1 8);have M2:=V (Uj ⟨2,I,k,s,aG,aJ,fz⟩);have M3:=V (Fs aG 0 (cM (k-1)));have hB:Lay.aH ⟨2,I,k,s,aG,aJ,fz⟩ n=((ZX.within I 1 8&&(Lay.xt ⟨2,I,k,s,aG,aJ,fz⟩&&ZX.within aG 0 (cM (k-1))))&&decide (Lay.mk 2 I k s aG aJ fz=⟨2,I,k,s,aG,0,fz⟩)):=rfl;rw[hB];clear hB;generalize ZX.within I 1 8=Z3 at*;generalize Lay.xt ⟨2,I,k,s,aG,aJ,fz⟩=B at*;generalize ZX.within aG 0 (cM (k-1))=C at*;obtain⟨u,hu⟩:=J (cM (k-1));have tD:Z.wrap (k-1)=u:=(qR _).trans hu;rw[hu]at M3;clear hu;dsimp only[Lay.cells]at M2⊢
 cases Z3
 .skip
  go_enter func177,ntmps177;go_wp2_with fail;refine cq (M1.I _) ?_;go_wp2_with fail;all_goals(go_ret;exact⟨Q3N,K2.F.2.2⟩)
 .skip
  go_enter func177,ntmps177;go_wp2_with fail;refine cq (M1.I _) ?_;have f0:=bE K2.F.1;go_wp2_with fail;refine bY (M2.I _) λw4 hb=> ?_;have K3:=K2.bU hb;have f0:=bE K3.F.1;have g0:=bE K3.F.2.1
  cases B
  .go_wp2_with fail;all_goals(go_ret;exact⟨Q3N,K3.F.2.2⟩)
  .go_wp2_with fail;refine cq (M3.I _) ?_
   cases C;all_goals
    go_wp2_with fail;all_goals(go_ret;exact⟨Q3N,K3.F.2.2⟩)
theorem ajP (x:Lay) (n:Int) (w:H):aA aq 177 #[aF x.cells,Y Z n] w (dZ (aK (x.aH n)) w):=by
 by_cases h1:x.aB=1
 .exact ajM x n w h1
 by_cases h2:x.aB=2
 .exact ajO x n w h2
 by_cases h3:x.aB=3\/x.aB=4
 .exact ajN x n w h3
 by_cases h5:x.aB=5\/x.aB=6
 .exact ajJ x n w h5
 by_cases h7:x.aB=7
 .exact ajL x n w h7
 .exact ajK x n w U
structure Mod where
 a:Int
 b:Int
 c:Int
 L:List Lay
abbrev Mod.cells (m:Mod) (x:aC) (l k:Nat):Array aj:=#[Y Z m.a,Y Z m.b,Y Z m.c,O x l k]
def Mod.xB (i:Nat):List Lay->Bool
 | []=>true
 |x::L=>x.aH (i:Int)&&Mod.xB (i+1) L
def Mod.aH (m:Mod):Bool:=(Dw m.a m.b m.c&&ZX.within (m.L.length:Int) 1 12)&&Mod.xB 0 m.L
theorem Mod.abI {L:List Lay} {x:Lay} (h:L[k]? =A x):Mod.xB k (L.drop k)=(x.aH (k:Int)&&Mod.xB (k+1) (L.drop (k+1))):=by
 exact Q24
theorem ajQ (m:Mod) (ok:Nat->Prop) (xa:aC) (xl xm:Nat) (w:H) (h:cH iM 7 ok w xa xl m.L):aA aq 113 #[aF (m.cells xa xl xm)] w (dZ (aK m.aH) w):=by
 have KB:=V (aE.fg w (ag (m.cells xa xl xm) 25));have EN:=V (aix m.a m.b m.c);have HX:=V (h.bt gL U);have f0:=eQ KB.F.1;have hl:=h.2.1;have HL:=V h.1;unfold Mod.aH;rw[h.1];generalize Dw m.a m.b m.c=Z3 at*;obtain⟨B,hB⟩:=J (ZX.within (xl:Int) 1 12);have M2:=V (λw=>hB▸Fs (xl:Int) 1 12 w);rw[hB];obtain⟨R,hR⟩:=J (Mod.xB 0 m.L);have HR:=V hR;rw[hR];clear hB hR h;go_enter func113,ntmps113;go_wp2_with fail;refine bY (EN.I _) λw2 hb=> ?_;have K2:=KB.bU hb;clear hb;have f0:=eQ K2.F.1
 cases Z3
 .exact Q0U
 go_wp2_with fail;refine cq (M2.I _) ?_
 cases B
 .exact Q0U
 go_wp2_with fail;go_loopw [19,4,3] (λi _ _ wr=>∃k:Nat,k<=xl/\i=Y Z k/\Mod.xB k (m.L.drop k)=R/\ay w w wr) (λi _ _ _=>xl-(aX i).toNat)
 case atStart=>exact⟨0,cK _,rfl,HR.I,K2.F.2⟩
 case round=>
  obtain⟨k,hk,rfl,hr,hb⟩:=hrel;have iW:=V hr;have HB:=V hb;clear hr hb;by_cases aT:k<xl
  .obtain⟨x,hx⟩:∃x,m.L[k]? =A x:=⟨m.L[k]' Q30,Q2W⟩;obtain⟨b,off,cs,rfl,_,hE,hcs⟩:=(HX.I _ HB.I).get hx;obtain rfl:cs=x.cells:=hE;have g0:=hcs 0 (Y Z x.aB) rfl;have g1:=hcs 1 (Y Z x.I) rfl;have g2:=hcs 2 (Y Z x.k) rfl;have g3:=hcs 3 (Y Z x.s) rfl;have g4:=hcs 4 (Y Z x.aG) rfl;have g5:=hcs 5 (Y Z x.aJ) rfl;have g6:=hcs 6 (aK x.fz) rfl;simp only[eL]at g0;have HD:=V (Mod.abI hx);have CF:=V (ajP x (k:Int));exact Q0p
  .exact Q1v
namespace Ck
def FU (n:Int):List Int->Int
 | []=>n
 |x::d=>FU (cM (n*x)) d
def product (d:ah):Int:=FU 1 d
def j9 (d:ah) (c:Int) (x:Lay):List Int:=
 if d.length≠3 then[]else if bO (d.getD 1 0) x.k x.s x.aG=0\/bO (d.getD 2 0) x.k x.s x.aG=0 then[]else[c,bO (d.getD 1 0) x.k x.s x.aG,bO (d.getD 2 0) x.k x.s x.aG]
def gives (x:Lay) (l:List (List Int)):List Int:=
 let d:=l.getD (l.length-1) []
 if x.aB=1 then(if d.length=1 then[x.I]else[])
 else if x.aB=2 then j9 d x.I x
 else if x.aB=3\/x.aB=4 then j9 d (d.getD 0 0) x
 else if x.aB=5 then d
 else if x.aB=6 then[product d]
 else if x.aB=7 then(if l.getD x.aJ.toNat []=d then d else[])
 else[]
theorem ajS (h:k<d.length) (n:Int):FU n (d.drop k)=FU (cM (n*d.getD k 0)) (d.drop (k+1)):=by
 rw[Sh.drop_cons d k h];rfl
theorem ajT (d:ah) (h:∀z∈d,(cX Z z).wf=true):(cX Z (product d)).wf=true:=by
 have hg:∀(d:ah) (n:Int),(cX Z n).wf=true->(cX Z (FU n d)).wf=true:=by
  intro d;induction d with
  |nil=>intro n h;exact h
  |cons x d ih=>intro n _;exact ih _ (wrap64_wf _)
 exact hg d 1 rfl
end Ck
def lY (B:Nat) (w:H) (a:aC) (l c:Nat) (r:ah):Prop:=(r=[]/\a=G/\l=0/\c=0)\/(r≠[]/\∃b o,a=A ⟨b,o,G⟩/\B<=b/\ai Z w (A ⟨b,o,G⟩) l r)
def abJ (r:ah) (w:H) (e:dN) (w':H):Prop:=∃a l c,e=bG (O a l c)/\ay w w w'/\lY w.heap.size w' a l c r
theorem lY.mono {B B':Nat} {l:Nat} (h:lY B w a l c r) (hB:B'<=B):lY B' w a l c r:=h.imp id λ⟨h1,b,o,h2,h3,h4⟩=>⟨h1,b,o,h2,U,h4⟩
theorem lY.new {B:Nat} {b o l:Nat} (h:ai Z w (A ⟨b,o,G⟩) l r) (hr:r≠[]) (hB:B<=b):lY B w (A ⟨b,o,G⟩) l c r:=bJ ⟨hr,b,o,rfl,hB,h⟩
theorem lY.nil (B:Nat) (w:H):lY B w G 0 0 []:=aM ⟨rfl,rfl,rfl,rfl⟩
theorem Lx (a:aC) (l c:Nat) (d:ah) (w:H) (h:ai Z w a l d):aA aq 114 #[O a l c] w λe w'=>e=bG (Y Z (Ck.product d))/\w=w':=by
 have ZW:=V h;have HL:=V h.bA;have ik:=h.eC;obtain⟨R,hR⟩:=J (Ck.product d);rw[hR];have HR:=V (show Ck.FU 1 d=R from hR);clear h hR;go_enter func114,ntmps114;go_wp2_with fail;go_loopw [8,3,5] (λi n _ wr=>∃(k:Nat) (z:Int),k<=l/\i=Y Z k/\n=Y Z z/\Ck.FU z (d.drop k)=R/\w=wr) (λi _ _ _=>l-(aX i).toNat)
 case atStart=>exact⟨0,1,cK _,rfl,rfl,HR.I,rfl⟩
 case round=>
  obtain⟨k,z,hk,rfl,rfl,hr,rfl⟩:=hrel;have iW:=V hr;clear hr;by_cases aT:k<l
  .obtain⟨b,o,rfl,hc⟩:=ZW.I.cells U;have c0:=hc k aT;have HD:=V (Ck.ajS (d:=d) (k:=k) Q30 z);generalize d.getD k 0=y at*;have hw:Z.wrap (z*y)=cM (z*y):=qR _;clear hc;go_wp2_with fail;go_roundw
   case rel=>exact⟨k+1,_,U,Q2T,by first|rfl|simp[qR],by rw[<-iW.I,HD.I],Q4L⟩
   case measure=>exact Q5q
  .obtain rfl:k=l:=U;obtain rfl:z=R:=Q3n;exact Q0S
theorem DP (n k s p:Int):0<=bO n k s p/\bO n k s p<=24:=by
 unfold bO;split
 .rename_i h;obtain⟨h1,h2,h3,h4,h5,h6,h7,h8,h9⟩:=h;have h10:(n+2*p-k)/s<=n+2*p-k:=Int.ediv_le_self _ U;have h11:0<=(n+2*p-k)/s:=Int.ediv_nonneg U U;omega
 .omega
theorem ajU (a:aC) (l k:Nat) (d:ah) (c:Int) (x:Lay) (w:H) (h:ai Z w a l d) (hc:(cX Z c).wf=true):aA aq 178 #[O a l k,Y Z c,aF x.cells] w (abJ (Ck.j9 d c x) w):=by
 have K1:=V (aE.fg w (bQ x.aB x.I x.k x.s x.aG x.aJ x.fz));have ik:=h.eC;have HL:=V h.bA;dsimp only[Lay.cells]
 by_cases h3:l=3
 .subst h3;obtain⟨b,o,rfl,e0⟩:=h.cells U;have e1:=K1.F.2.cell_of (e0 1 U);have e2:=K1.F.2.cell_of (e0 2 U);have f0:=bE K1.F.1;have OA:=V NT;have hP:Ck.j9 d c x=if bO (d.getD 1 0) x.k x.s x.aG=0\/bO (d.getD 2 0) x.k x.s x.aG=0 then[]else[c,bO (d.getD 1 0) x.k x.s x.aG,bO (d.getD 2 0) x.k x.s x.aG]:=by
   unfold Ck.j9;rw[aI (by rw[HL.I];simp)]
  obtain⟨R,hR⟩:=J (Ck.j9 d c x);rw[hR];rw[hR]at hP;have HR:=V hP.symm;clear hR hP;have b1:=DP (d.getD 1 0) x.k x.s x.aG;have b2:=DP (d.getD 2 0) x.k x.s x.aG;generalize d.getD 1 0=d1 at*;generalize d.getD 2 0=d2 at*;have HB:=V K1.F.2;clear h K1;go_enter func178,ntmps178;go_wp2_with fail;generalize hW:li w (bQ x.aB x.I x.k x.s x.aG x.aJ x.fz)=w1 at*;have dQ:w.heap.size<w1:=by rw[<-hW,bF];omega
  clear hW;go_quiet ((go_at_call 214;exact Calls.quiet_of_same (OA.I _ _ _ _ _)))
  generalize bO d1 x.k x.s x.aG=P at*;generalize bO d2 x.k x.s x.aG=Q at*;by_cases DQ:P=0
  .subst DQ;exact Q1Q
  by_cases Pv:Q=0
  .subst Pv;have e4:(P==0)=ae:=by simpa using DQ
   exact Q1Q
  have e4:(P==0)=ae:=by simpa using DQ
  have e5:(Q==0)=ae:=by simpa using Pv
  go_wp2_with fail;go_ret;obtain rfl: [c,P,Q]=R:=by rw[<-HR.I,aI U]
  refine⟨_,_,_,rfl,(HB.I.bI _).step (aD _ _),lY.new ?_ bK (by show w.heap.size<=w1;omega)⟩;exact ai.new _ Z 3 (0,0) [c,P,Q] (λz hz=>by
   simp only[jy,mj,or_false]at hz;rcases hz with rfl|rfl|rfl
   .exact hc
   .exact gF U U
   .exact gF U U) bK
 .have e3:((l:Int) != 3)=true:=by simp;omega
  have hP:Ck.j9 d c x=[]:=by unfold Ck.j9;rw[aR (by rw[HL.I];exact h3)]
  rw[hP];clear hP h;go_enter func178,ntmps178;go_wp2_with fail;go_ret;exact⟨_,_,_,rfl,K1.F.2,lY.nil _ _⟩
theorem getLastD (h:l[l.length-1]? =A d):l.getD (l.length-1) []=d:=by simp[dV,h]
theorem ajV (x:Lay) (l:List (List Int)) (ok:Nat->Prop) (la:aC) (ln lc:Nat) (w:H) (h:cH rO 1 ok w la ln l) (hl:0<ln) (hE:∀d∈l,1<=d.length/\d.length<=4) (hf:x.aB=7->0<=x.aJ/\x.aJ<(ln:Int)) (ho:(cX Z x.I).wf=true):
 aA aq 115 #[aF x.cells,O la ln lc] w (abJ (Ck.gives x l) w):=by
 obtain⟨aB,I,k,s,aG,aJ,fz⟩:=x;have K1:=V (aE.fg w (bQ aB I k s aG aJ fz));have hlen:=h.1;have iB:=h.2.1;obtain⟨d,hd⟩:∃d,l[ln-1]? =A d:=⟨l[ln-1]'U,Q2W⟩;have nk:l.getD (l.length-1) []=d:=getLastD (by rw[hlen];exact hd);obtain⟨lb,lo,cs,rfl,_,qu,hcs⟩:=h.get hd;obtain⟨da,dl,dc,rfl,rd⟩:=qu;have c0:=K1.F.2.cell_of (hcs 0 _ rfl);have RD:=V (rd.1.below K1.F.2);have hdd:=hE d (nB hd);have jU:1<=dl/\dl<=4:=E rd.1.bA;have Vf:=V rd.1.bA;have mH:Ck.gives ⟨aB,I,k,s,aG,aJ,fz⟩ l=if aB=1 then(if d.length=1 then[I]else[])else if aB=2 then Ck.j9 d I ⟨aB,I,k,s,aG,aJ,fz⟩else if aB=3\/aB=4 then Ck.j9 d (d.getD 0 0) ⟨aB,I,k,s,aG,aJ,fz⟩
  else if aB=5 then d else if aB=6 then[Ck.product d]else if aB=7 then(if l.getD aJ.toNat []=d then d else[])else[]:=by unfold Ck.gives;simp only[nk]
 obtain⟨R,hR⟩:=J (Ck.gives ⟨aB,I,k,s,aG,aJ,fz⟩ l);rw[hR]at mH⊢;have f0:=bE K1.F.1;have HB:=V K1.F.2;have HX:=V K1.F.1;have HH:=V h;dsimp only[Lay.cells]
 have i1:Z.wrap ((ln:Int)-1)=((ln-1:Nat):Int):=Q3l;have pL:=V mH;simp only[lA,eL]at c0;clear mH hR h rd hcs hd nk hdd hlen;obtain⟨N1,FV⟩:=J (ln-1);rw[FV]at c0 i1;have i2:(N1:Int)<(ln:Int):=U;clear FV;obtain⟨db,fK,rfl,e0⟩:=RD.I.cells U;have CL:=V ((Fc (A ⟨db,fK,G⟩) dl dc d _ RD.I U).mono λ_ _ g=>g.new RD.I.wf U);have abK:0<dl:=U;have PR:=V (Lx (A ⟨db,fK,G⟩) dl dc d _ RD.I);have FW:=e0 0 U;have HWF:=V RD.I.wf;have ho:(cX Z I).wf=true:=ho;have hf:aB=7->0<=aJ/\aJ<(ln:Int):=hf;have PL:=V (λc hc w h=>ajU (A ⟨db,fK,G⟩) dl dc d c ⟨aB,I,k,s,aG,aJ,fz⟩ w h hc);dsimp only[Lay.cells]at PL
 by_cases k1:aB=1
 .subst k1;clear hf;by_cases d1:dl=1
  .obtain rfl: [I]=R:=by rw[pL.I,aR rfl,aR (by rw[Vf.I];exact d1)]
   subst d1;go_enter func115,ntmps115;go_wp2_with fail;go_ret;have hr:=ai.new (li w (bQ 1 I k s aG aJ fz)) Z 3 (0,0) [I] (λz hz=>by rw[pS.1 hz];exact ho) bK;exact Q2n
  .obtain rfl: []=R:=by rw[pL.I,aR rfl,aI (by rw[Vf.I];exact d1)]
   have e1:((dl:Int)==1)=ae:=Q2R;go_enter func115,ntmps115;go_wp2_with fail;go_ret;exact Q1Z
 have e1:(aB==1)=ae:=Q4W;rw[aI k1]at pL;by_cases k2:aB=2
 .subst k2;rw[aR rfl]at pL;have HP:=V (pL.I▸PL.I I ho _ RD.I);clear hf PL;go_enter func115,ntmps115;go_wp2_with fail;refine HP.I.mono ?_;rintro e w2 ⟨pa,pl,pc,rfl,hb,hr⟩;have dA:=V (HB.I.step hb);have HR:=V (hr.mono HB.I.size);clear hb hr;exact Q1j
 have e2:(aB==2)=ae:=by simpa using k2
 rw[aI k2]at pL;by_cases k3:aB=3\/aB=4
 .rw[aR k3]at pL;have Dt:(cX Z (d.getD 0 0)).wf=true:=HWF.I _ (by rw[gB,cR (show 0<d.length by rw[Vf.I];omega)];exact jZ _);have HP:=V (λw hb=>pL.I▸PL.I (d.getD 0 0) Dt w (RD.I.below hb));generalize d.getD 0 0=d0 at*;clear hf PL Dt;rcases k3 with rfl|rfl
  .skip
   go_enter func115,ntmps115;go_wp2_with fail;have uC:=HX.I;have gN:=HB.I;have Vg:=V (HP.I _ ((eG _ _).bI 1));generalize li w (bQ 3 I k s aG aJ fz)=w1 at*;refine cS (λw':H=>w'.heap[w.heap.size]? =A (bQ 3 I k s aG aJ fz)/\w' ⟨db,fK,G⟩=A (Y Z d0)) (eE (⟨uC,FW⟩) λhS=>bR hS [0,1,4,2,3] (λ_ h=>aw (bE h.1) (aw h.1 h.2)) ?_);refine bL 5 λK hK=> ?_;go_simp;refine Vg.I.mono ?_;rintro e w2 ⟨pa,pl,pc,rfl,hb,hr⟩;have dA:=V ((gN.bI 1).step hb);have HR:=V (hr.mono gN.size);have bX:(λw':H=>w'.heap[w.heap.size]? =A (bQ 3 I k s aG aJ fz)/\w' ⟨db,fK,G⟩=A (Y Z d0)) w2:=⟨bV (show(w1.drewN 1).heap[w.heap.size]? =_ from uC) hb,Below.cell_of hb (show(w1.drewN 1) ⟨db,fK,G⟩=_ from FW)⟩;exact Q2E
  .skip
   go_enter func115,ntmps115;go_wp2_with fail;have uC:=HX.I;have gN:=HB.I;have Vg:=V (HP.I _ ((eG _ _).bI 1));generalize li w (bQ 4 I k s aG aJ fz)=w1 at*;refine cS (λw':H=>w'.heap[w.heap.size]? =A (bQ 4 I k s aG aJ fz)/\w' ⟨db,fK,G⟩=A (Y Z d0)) (eE (⟨uC,FW⟩) λhS=>bR hS [0,1,4,2,3] (λ_ h=>aw (bE h.1) (aw h.1 h.2)) ?_);refine bL 5 λK hK=> ?_;go_simp;refine Vg.I.mono ?_;rintro e w2 ⟨pa,pl,pc,rfl,hb,hr⟩;have dA:=V ((gN.bI 1).step hb);have HR:=V (hr.mono gN.size);have bX:(λw':H=>w'.heap[w.heap.size]? =A (bQ 4 I k s aG aJ fz)/\w' ⟨db,fK,G⟩=A (Y Z d0)) w2:=⟨bV (show(w1.drewN 1).heap[w.heap.size]? =_ from uC) hb,Below.cell_of hb (show(w1.drewN 1) ⟨db,fK,G⟩=_ from FW)⟩;exact Q2E
 have e3:(aB==3)=ae:=Q2R;have e4:(aB==4)=ae:=Q2R;rw[aI k3]at pL;by_cases k5:aB=5
 .rw[aR k5]at pL;obtain rfl:=pL.I;subst k5;go_enter func115,ntmps115;go_wp2_with fail;refine CL.I.mono ?_;rintro e w2 ⟨pa,pc,rfl,hr,_,KE,hb⟩;obtain⟨nb,no,rfl,_⟩:=hr.cells abK;have dA:=V (HB.I.step hb);have HR:=V (lY.new (c:=pc) hr (λe=>Q5c) (eH HB.I.size (KE _ rfl).1));clear hr;exact Q1j
 rw[aI k5]at pL;have e5:(aB==5)=ae:=by simpa using k5
 by_cases k6:aB=6
 .rw[aR k6]at pL;obtain rfl:=pL.I;subst k6;go_enter func115,ntmps115;go_wp2_with fail;refine cq PR.I ?_;go_wp2_with fail;go_ret;have hr:=ai.new (li w (bQ 6 I k s aG aJ fz)) Z 3 (0,0) [Ck.product d] (λz hz=>by rw[pS.1 hz];exact Ck.ajT d HWF.I) bK;exact Q2n
 rw[aI k6]at pL;have e6:(aB==6)=ae:=by simpa using k6
 by_cases k7:aB=7
 .rw[aR k7]at pL;subst k7;obtain⟨q1,q2⟩:=hf rfl;obtain⟨ZX,rfl⟩:=Int.eq_ofNat_of_zero_le q1;obtain⟨u,hu⟩:∃u,l[ZX]? =A u:=⟨l[ZX]'(by rw[HH.I.1];omega),Q2W⟩;obtain⟨lb',lo',Bx,e,_,Ly,abL⟩:=HH.I.get hu;injection e with e;injection e with vW DK;subst vW DK;obtain⟨ua,ul,uc,rfl,ru⟩:=Ly;have u0:=HB.I.cell_of (abL 0 _ rfl);simp only[lA,eL]at u0;have Lz:l.getD (Int.ofNat ZX).toNat []=u:=by simp[dV,hu]
  have uE:=V (pL.I.trans (by rw[Lz]:(if l.getD (Int.ofNat ZX).toNat []=d then d else[])=if u=d then d else[]));have EQ:=V (YW ua ul uc u (A ⟨db,fK,G⟩) dl dc d _ (ru.1.below HB.I) RD.I);obtain⟨D,hD⟩:=J (decide (u=d));rw[hD]at EQ;have HD:=V hD;clear hD Lz hu abL ru hf pL;go_enter func115,ntmps115;go_wp2_with fail;refine EQ.I.mono ?_;rintro e w2 ⟨rfl,nq,hq⟩;have du:ay (li w (bQ 7 I k s aG (ZX:Int) fz)).heap.size (li w (bQ 7 I k s aG (ZX:Int) fz)) w2:=by rw[hq];exact below_drewN _ _
  have dA:=V (HB.I.step du);have RD2:=V (RD.I.below du);have CL2:=V ((Fc (A ⟨db,fK,G⟩) dl dc d _ RD2.I U).mono λ_ _ g=>g.new RD2.I.wf U);clear hq u0 c0
  cases D
  .obtain rfl: []=R:=by rw[uE.I,aI (kH HD.I)]
   go_wp2_with fail;go_ret;exact⟨_,_,_,rfl,dA.I,lY.nil _ _⟩
  .obtain rfl:d=R:=by rw[uE.I,aR (eZ HD.I)]
   go_wp2_with fail;refine CL2.I.mono ?_;rintro e w3 ⟨pa,pc,rfl,hr,_,KE,hb⟩;obtain⟨nb,no,rfl,_⟩:=hr.cells abK;have gV:=V (dA.I.step hb);have HR:=V (lY.new (c:=pc) hr (λe=>Q5c) (eH dA.I.size (KE _ rfl).1));clear hr;go_wp2_with fail;go_ret;exact⟨_,_,_,rfl,gV.I,HR.I⟩
 .rw[aI k7]at pL;have e7:(aB==7)=ae:=by simpa using k7
  obtain rfl:=pL.I;go_enter func115,ntmps115;go_wp2_with fail;go_ret;exact Q1Z
namespace Ck
def uF (i:Nat):List Lay->List (List Int)->List (List Int)×Int×Int
 | [],l=>(l,0,0)
 |x::L,l=>if gives x l=[]then([],(i:Int)+1,2)else if 8192<product (gives x l)then([],(i:Int)+1,1)else uF (i+1) L (l++[gives x l])
theorem ajW {L:List Lay} {x:Lay} (h:L[k]? =A x) (l:List (List Int)):uF k (L.drop k) l=if gives x l=[]then([],(k:Int)+1,2)else if 8192<product (gives x l)then([],(k:Int)+1,1)else uF (k+1) (L.drop (k+1)) (l++[gives x l]):=by
 exact Q24
theorem ajX (d:ah) (c:Int) (x:Lay):(j9 d c x).length<=3:=by
 unfold j9;split
 .simp
 .split<;>simp
theorem abM {x:Lay} (h:∀d∈l,d.length<=4):(gives x l).length<=4:=by
 have hd:(l.getD (l.length-1) []).length<=4:=by
  rw[gB]
  cases e:l[l.length-1]? with
  |none=>simp
  |some d=>exact h d (nB e)
 unfold gives;simp only[];generalize l.getD (l.length-1) []=d at*
 repeat' split
 all_goals first|(simp;done)|exact eH (ajX _ _ _) U|exact hd
end Ck
def Mod.iy (m:Mod):List (List Int)×Int×Int:=if m.aH=true then(if 8192<Ck.product [m.a,m.b,m.c]then([],0,1)else Ck.uF 0 m.L [[m.a,m.b,m.c]])else([],0,1)
theorem Mod.yY:∀{L:List Lay} {i k:Nat} {x:Lay},Mod.xB i L=true->L[k]? =A x->x.aH ((i+k:Nat):Int)=true
 |y::L,i,0,x,h,e=>by
  obtain rfl:y=x:=by simpa using e
  unfold Mod.xB at h;rw[fS]at h;exact h.1
 |y::L,i,k+1,x,h,e=>by
  unfold Mod.xB at h;rw[fS]at h;have:=Mod.yY (k:=k) (x:=x) h.2 (by simpa using e);rwa[show i+1+k=i+(k+1) by omega]at this
theorem Lay.DR {x:Lay} (h:x.aH n=true):0<=x.I/\x.I<=4096:=by
 unfold Lay.aH ZX.within at h
 repeat' split at h
 .exact Q1N
 .exact Q1N
 .exact Q1C
 .simp only[decide_eq_true_eq]at h;rw[h];simp
 .exact Q1C
 .cases h
theorem Lay.LB {x:Lay} (h:x.aH n=true) (h7:x.aB=7) (h0:0<=n) (h1:n<=100):0<=x.aJ/\x.aJ<n:=by
 unfold Lay.aH ZX.within at h;rw[aI U,aI U,aI U,aI U,aR h7]at h;simp only[fS,decide_eq_true_eq]at h;rw[iZ _ ⟨U,U⟩]at h;omega
def ajY (r:List (List Int)×Int×Int) (w:H) (e:dN) (w':H):Prop:=∃a n c,e=bG (aL #[O a n c,Y Z r.2.1,Y Z r.2.2])/\cH rO 1 (λb=>w.heap.size<=b) w' a n r.1 /\ay w w w'
theorem LC:(aq.info? 55).map (λi=>(i.zero,i.size,i.bytes))=A (A (O G 0 0),1,24):=Q2Q
theorem Mod.nT {m:Mod} (h:m.aH=true):1<=m.a/\m.a<=8/\1<=m.b/\m.b<=16/\1<=m.c/\m.c<=16/\1<=m.L.length/\m.L.length<=12/\Mod.xB 0 m.L=true:=by
 simp only[Mod.aH,Dw,ZX.within,fS,decide_eq_true_eq]at h;obtain⟨⟨⟨⟨h1,h2⟩,⟨h3,h4⟩,h5,h6⟩,h7,h8⟩,h9⟩:=h;exact⟨h1,h2,h3,h4,h5,h6,U,U,h9⟩
theorem ajZ:aq.underlying 55=A (.slice 3):=Q2Q
theorem Vh (a:aC) (l c:Nat) (w:H):(binOp .eql 55 (O a l c) (O G 0 0)).run aq w= .ok (aK a.isNone) w:=by
 simp[binOp,run_equal_slice_nil w 55 3 a l c ajZ,go_sem];try cases a<;>rfl
theorem Iy (m:Mod) (ok:Nat->Prop) (xa:aC) (xl xm:Nat) (w:H) (h:cH iM 7 ok w xa xl m.L):aA aq 49 #[aF (m.cells xa xl xm)] w (ajY m.iy w):=by
 have KB:=V (aE.fg w (ag (m.cells xa xl xm) 25));have MM:=V (ajQ m ok xa xl xm _ (h.below gL U KB.F.2));have HX:=V (h.bt gL U);have f0:=eQ KB.F.1;have HL:=V h.1;have hl:=h.2.1;obtain⟨R,hR⟩:=J m.iy;rw[hR];unfold Mod.iy at hR;clear h;by_cases hm:m.aH=true
 .rw[aR hm]at hR;rw[hm]at MM;obtain⟨Vi,Vj,Vk,Vl,Vm,Vn,BG,BH,mf⟩:=Mod.nT hm;have BJ:=V mf;rw[HL.I]at BG BH;have HR:=V hR;clear hm mf hR;go_enter func49,ntmps49;go_wp2_with fail;refine bY MM.I λw2 hb=> ?_;have K2:=KB.bU hb;clear hb KB MM;have f0:=eQ K2.F.1;have Pw:=V (show ai Z (li w2 (ag #[O w 3 3] 55)) w 3 [m.a,m.b,m.c]from
   ⟨rfl,U,(λz hz=>by
    simp only[jy,mj,or_false]at hz;rcases hz with rfl|rfl|rfl<;>exact gF U U),bJ ⟨w.heap.size,0,rfl,λj hj=>by
    have jX:=bV K2.F.1 (aD w2 (ag #[O w 3 3] 55))
    match j,hj with
    |0,_=>exact bh jX 0 rfl
    |1,_=>exact bh jX 1 rfl
    |2,_=>exact bh jX 2 rfl⟩⟩)
  have P0:=V (Lx w 3 3 [m.a,m.b,m.c] _ Pw.I);go_wp2_with fail;refine cq P0.I ?_;obtain⟨Q,hQ⟩:=J (Ck.product [m.a,m.b,m.c]);rw[hQ]at HR⊢;clear hQ;by_cases hq:8192<Q
  .have eq1:decide (8192<Q)=true:=by simpa using hq
   obtain rfl:([],0,1)=R:=by rw[<-HR.I,aR hq]
   have HB:=V (K2.F.2.step (aD w2 (ag #[O w 3 3] 55)));go_wp2_with fail;refine aZ (v:=aL #[O G 0 0,Y Z 0,Y Z 1]) Q42 rfl ⟨_,_,_,rfl,cH.nil _ _ _ _ _,HB.I⟩
  have eq1:decide (8192<Q)=ae:=Q2X;have cU:=V (show Ck.uF 0 m.L [[m.a,m.b,m.c]]=R by have:=HR.I;rwa[aI hq]at this);have K3:=V (K2.I.step (aD w2 (ag #[O w 3 3] 55)));obtain⟨B,hB⟩:=J w2.heap.size;have LD:w.heap.size<B:=E (bH K2.F.1);have uj:=V (show gy rO 1 55 B (λb=>w.heap.size<=b) (li w2 (ag #[O w 3 3] 55)) (O B 1 1) [[m.a,m.b,m.c]] [#[O w 3 3]]from
   ⟨rfl,λi x hx=>by
    obtain rfl:i=0:=by
     have:=(fX.1 hx).1;simpa using this
    obtain rfl: [m.a,m.b,m.c]=x:=by simpa using hx
    exact⟨_,rfl,_,_,_,rfl,Pw.I,λy hy _=>by
     cases hy;exact⟨λe=>by
      have e:A B=A w.heap.size:=e;injection e with e;omega,bu _⟩⟩,
   ⟨rfl,bJ ⟨B,1,#[O w 3 3],rfl,bu _,by rw[<-hB];exact bZ w2 _,bu _,Q3h,rfl,rfl⟩⟩⟩)
  clear HR hq;have f0:=eQ K3.F.1;rw[hB];clear hB;go_wp2_with fail;go_loopw [23,7,6,8,5] (λi _ _ _ vl wr=>∃(k:Nat) (v:aj) (l:List (List Int)) (CS:List (Array aj)),k<=xl/\i=Y Z k/\v=vl/\gy rO 1 55 B (λb=>w.heap.size<=b) wr v l CS/\Ck.uF k (m.L.drop k) l=R/\(∀d∈l,1<=d.length/\d.length<=4)/\l.length=k+1/\B<=wr/\ay w w wr) (λi _ _ _ _ _=>xl-(aX i).toNat)
  case atStart=>exact⟨0,_,_,_,cK _,rfl,rfl,uj.I,cU.I,(λd hd=>by rw[pS.1 hd];simp),rfl,Nat.le_of_lt (uj.I.2.2.lt B rfl).2,K3.F.2⟩
  case round=>
   obtain⟨k,v,l,CS,hk,rfl,rfl,nS,mM,jU,ik,nP,hb⟩:=hrel;have HM:=V nS;have Bi:=V mM;have HD:=V jU;have HB:=V hb;clear nS mM jU hb;obtain⟨va,vc,rfl,LF,iq,dh⟩:=HM.I.on lX U (n:=k+1) ik U (ok:=λb=>w.heap.size<=b) (λb hb h=>h) (λb hb h=>U);have lp:=V iq;have pM:=V ik;clear ik;by_cases aT:k<xl
   .obtain⟨x,hx⟩:∃x,m.L[k]? =A x:=⟨m.L[k]' Q30,Q2W⟩;obtain⟨b,off,cs,rfl,_,hE,hcs⟩:=(HX.I _ HB.I).get hx;obtain rfl:cs=x.cells:=hE;have g0:=hcs 0 (Y Z x.aB) rfl;have g1:=hcs 1 (Y Z x.I) rfl;have g2:=hcs 2 (Y Z x.k) rfl;have g3:=hcs 3 (Y Z x.s) rfl;have g4:=hcs 4 (Y Z x.aG) rfl;have g5:=hcs 5 (Y Z x.aJ) rfl;have g6:=hcs 6 (aK x.fz) rfl;simp only[eL]at g0;have gJ:=Mod.yY BJ.I hx;rw[nF]at gJ;have Vo:=Lay.DR gJ;have HG:=V (λw' hh=>ajV x l (λb=>w.heap.size<=b) va (k+1) vc w' hh U HD.I (λh7=>E (Lay.LB gJ h7 U U)) (gF U U));have iw:=V (Bi.I.symm.trans (Ck.ajW hx l)).symm;have sJ:=V (Ck.abM (x:=x) (l:=l) (λd hd=>(HD.I d hd).2));generalize Ck.gives x l=r at*;obtain⟨q0,q1,q2,q3,q4,q5,q6⟩:=bE (bZ wr (ag x.cells 102));have pK:=V (HB.I.step (aD wr (ag x.cells 102)));have DT:=V (lp.I.below lX U (aD wr (ag x.cells 102)));dsimp only[Lay.cells]at HG q0 q1 q2 q3 q4 q5 q6 pK DT
    clear hx hcs gJ iq dh;go_wp2_with fail;refine(HG.I _ DT.I).mono ?_;rintro e w5 ⟨pa,pl,pc,rfl,hb,hr⟩;have dO:=V (pK.I.step hb);have du:ay wr wr w5:=(aD wr _).step hb;have yW:=V (HM.I.move lX (P':=λb=>w.heap.size<=b) (ar.cZ (S:=λ_=>False) du) (λb e=>⟨(HM.I.2.2.lt b e).2,id⟩) (λb hb _ ho=>⟨hb,id,ho⟩));have pZ:B<=w5:=eH nP du.size;have EN:=λa l c w=>Vh a l c w;rw[bF]at hr;clear hb g0 q0 q1 q2 q3 q4 q5 q6 lp DT pK HG;rcases hr with⟨rfl,rfl,rfl,rfl⟩|⟨tF,nb,no,rfl,xC,qp⟩
    .obtain rfl:([],(k:Int)+1,2)=R:=by rw[<-iw.I,aR rfl]
     have i3:Z.wrap ((k:Int)+1)=(k:Int)+1:=dv _ U;go_wp2_with fail;refine aZ (v:=aL #[O G 0 0,Y Z ((k:Int)+1),Y Z 2]) Q42 rfl ⟨_,_,_,rfl,cH.nil _ _ _ _ _,dO.I⟩
    .have jk:=V qp;have P5:=V (Lx _ pl pc r _ qp);have qv:=V (show(if 8192<Ck.product r then([],(k:Int)+1,1)else Ck.uF (k+1) (m.L.drop (k+1)) (l++[r]))=R by have:=iw.I;rwa[aI tF]at this);have tu:=qp.bA;clear qp iw;generalize Ck.product r=Q2 at*;go_wp2_with fail;refine cq P5.I ?_;by_cases hq:8192<Q2
     .have eq2:decide (8192<Q2)=true:=by simpa using hq
      obtain rfl:([],(k:Int)+1,1)=R:=by rw[<-qv.I,aR hq]
      have i3:Z.wrap ((k:Int)+1)=(k:Int)+1:=dv _ U;go_wp2_with fail;refine aZ (v:=aL #[O G 0 0,Y Z ((k:Int)+1),Y Z 1]) Q42 rfl ⟨_,_,_,rfl,cH.nil _ _ _ _ _,dO.I⟩
     .have eq2:decide (8192<Q2)=ae:=by simpa using hq
      have uG:=V (show Ck.uF (k+1) (m.L.drop (k+1)) (l++[r])=R by have:=qv.I;rwa[aI hq]at this);have kg:=V (show w5.ownsRow B 55 1 (O va (k+1) vc) (k+1) (CS.flatMap jf)from pM.I▸yW.I.2.2);have BK:=V (show rO (qt (λb=>w.heap.size<=b) (O va (k+1) vc)) w5 #[O (A ⟨nb,no,G⟩) pl pc] r from⟨_,_,_,rfl,jk.I,λy hy _=>by
       cases hy;exact⟨λe=>by
        have:nb<wr:=(HM.I.2.2.lt _ e).2;have xC:wr.heap.size+1<=nb:=xC;omega,by have:=HB.I.size;have xC:wr.heap.size+1<=nb:=xC;show w.heap.size<=nb;omega⟩⟩)
      obtain⟨i0,hi,cF,cG,cB⟩:=fB LC;clear hq qv;go_wp2_with (at_builtin;refine ko _ rfl _ _ 95 rfl B 55 i0 (O G 0 0) 1 24 underlying95 hi cF cG cB rfl eM (O va (k+1) vc) (k+1) (CS.flatMap jf) rfl (kg.I.alloc _) ⟨w5,0,G⟩ 1 1 [O (A ⟨nb,no,G⟩) pl pc] rfl rfl ?c1 ?c2 ?c3 ?c4 ?c5 ?c6 ?_)
      try(case c1=>exact kJ w5 _ _)
      try(case c2=>simp[fV])
      try(case c3=>unfold eS;omega)
      try(case c4=>omega)
      try(case c5=>(try simp only[bF]);omega)
      try(case c6=>omega)
      intro g1 c1 w7 cC bM cN ei fC;have uD:=V (gy.app lX yW.I BK.I (n:=k+2) (E pM.I) cC bM Q3B);have kP:=V (Below.gh dO.I (App.slot (B:=B) pZ (λb h=>(kg.I.lt b h).1) bM (λ_=>False)) (λb h=>⟨U,id⟩));clear cC bM cN;go_wp2_with fail;go_roundw
      case rel=>exact⟨k+1,_,_,_,U,Q2T,rfl,uD.I,uG.I,(λd hd=>by
       rcases kE.1 hd with hd|hd
       .exact HD.I d hd
       .rw[pS.1 hd];exact⟨by have:r.length≠0:=λe=>tF (List.length_eq_zero_iff.1 e);omega,sJ.I⟩),by rw[dG,pM.I];rfl,eH ei (Nat.le_of_lt fC),kP.I⟩
      case measure=>exact Q5q
   .obtain rfl:k=xl:=U;obtain rfl:(l,0,0)=R:=by rw[<-Bi.I,sx.2 Q3k];rfl
    clear iq dh;go_wp2_with fail;refine aZ (v:=aL #[O va (k+1) vc,Y Z 0,Y Z 0]) Q42 rfl ⟨_,_,_,rfl,lp.I,HB.I⟩
 .rw[aI hm]at hR;obtain rfl:=hR;have m6:m.aH=ae:=Q4Z;rw[m6]at MM;clear hm m6;go_enter func49,ntmps49;go_wp2_with fail;refine bY MM.I λw2 hb=> ?_;have K2:=KB.bU hb;clear hb MM;go_wp2_with fail;refine aZ (v:=aL #[O G 0 0,Y Z 0,Y Z 1]) Q42 rfl ⟨_,_,_,rfl,cH.nil _ _ _ _ _,K2.F.2⟩
namespace Ck
def jB (x:Lay) (f t:ah) (b:Int):List Int×Int:=
 if x.aB=1 then([f.getD 0 0,x.I,b],cM (x.I*f.getD 0 0))
 else if x.aB=2 then([cM (f.getD 0 0*cM (x.k*x.k)),cM (x.I*cM (x.k*x.k)),cM (cM (b*t.getD 1 0)*t.getD 2 0)],cM (cM (x.I*f.getD 0 0)*cM (x.k*x.k)))
 else([],0)
end Ck
def ak1 (r:List Int×Int) (w:H) (e:dN) (w':H):Prop:=∃a l c,e=bG (aL #[O a l c,Y Z r.2])/\ai Z w' a l r.1 /\ay w w w'
theorem ak2 (x:Lay) (fa ta:aC) (fl fc tl tc:Nat) (f t:ah) (b:Int) (w:H) (h1:ai Z w fa fl f) (h2:ai Z w ta tl t) (hf:1<=fl) (ht:x.aB=2->tl=3) (ho:(cX Z x.I).wf=true) (hb:(cX Z b).wf=true):
 aA aq 173 #[aF x.cells,O fa fl fc,O ta tl tc,Y Z b] w (ak1 (Ck.jB x f t b) w):=by
 obtain⟨aB,I,k,s,aG,aJ,fz⟩:=x;have K1:=V (aE.fg w (bQ aB I k s aG aJ fz));obtain⟨fb,fo,rfl,e0⟩:=h1.cells U;have c0:=K1.F.2.cell_of (e0 0 U);simp only[eL]at c0;have f0:=bE K1.F.1;have HB:=V K1.F.2;have HX:=V K1.F.1;have ho:(cX Z I).wf=true:=ho;have ht:aB=2->tl=3:=ht;have Iz:(cX Z (f.getD 0 0)).wf=true:=h1.wf _ Q4r;have H2:=V h2;dsimp only[Lay.cells]
 clear h1;by_cases k1:aB=1
 .subst k1;have hR:Ck.jB ⟨1,I,k,s,aG,aJ,fz⟩ f t b=([f.getD 0 0,I,b],cM (I*f.getD 0 0)):=rfl;rw[hR];clear hR ht H2;generalize f.getD 0 0=y at*;have hw:Z.wrap (I*y)=cM (I*y):=qR _;go_enter func173,ntmps173;go_wp2_with fail;have hx:=HX.I;generalize li w (bQ 1 I k s aG aJ fz)=w1 at*;refine cS (λw':H=>w'.heap[w.heap.size]? =A (bQ 1 I k s aG aJ fz)/\w' ⟨fb,fo,G⟩=A (Y Z y)) (eE (⟨hx,c0⟩) λhS=> ?_);have yu:0<fl:=U;refine bR hS [0,3,5,7,9,1,4,8,10,2,11,12] (λ_ h=>aw (bE h.1) (aw h.1 h.2)) (bL 6 λK hK=> ?_);go_simp;have bX:(λw':H=>w'.heap[w.heap.size]? =A (bQ 1 I k s aG aJ fz)/\w' ⟨fb,fo,G⟩=A (Y Z y)) (li w1.drew (ag #[Y Z y,Y Z I,Y Z b] 3)):=⟨dX hx _,fq (show w1.drew.cell? _=_ from c0) _⟩;refine bB hK bX ?_;refine bR bX [13,14] (λ_ h=>aw h.1 h.2) (bW ?_);clear hS hx;go_wp2_with fail;have hr:=ai.new w1.drew Z 3 (0,0) [y,I,b] (λz hz=>by
   simp only[jy,mj,or_false]at hz;rcases hz with rfl|rfl|rfl<;>assumption) bK
  go_ret2
  exact⟨_,_,_,rfl,hr,(HB.I.bI 1).step (aD _ _)⟩
 have e1:(aB==1)=ae:=Q4W;by_cases k2:aB=2
 .subst k2;obtain rfl:=ht rfl;obtain⟨tb,td,rfl,e0⟩:=H2.I.cells U;have d1:=HB.I.cell_of (e0 1 U);have d2:=HB.I.cell_of (e0 2 U);have hR:Ck.jB ⟨2,I,k,s,aG,aJ,fz⟩ f t b=([cM (f.getD 0 0*cM (k*k)),cM (I*cM (k*k)),cM (cM (b*t.getD 1 0)*t.getD 2 0)],cM (cM (I*f.getD 0 0)*cM (k*k))):=rfl;rw[hR];clear hR ht;generalize f.getD 0 0=y at*;generalize t.getD 1 0=t1 at*;generalize t.getD 2 0=t2 at*;have hk:Z.wrap (k*k)=cM (k*k):=qR _;obtain⟨kk,fH⟩:=J (cM (k*k));rw[fH]at hk⊢;have g1:Z.wrap (y*kk)=cM (y*kk):=qR _;have g2:Z.wrap (I*kk)=cM (I*kk):=qR _;have g3:Z.wrap (b*t1)=cM (b*t1):=qR _;have g4:Z.wrap (cM (b*t1)*t2)=cM (cM (b*t1)*t2):=qR _;have g5:Z.wrap (I*y)=cM (I*y):=qR _;have g6:Z.wrap (cM (I*y)*kk)=cM (cM (I*y)*kk):=qR _;clear fH;go_enter func173,ntmps173;go_wp2_with fail;have hx:=HX.I;generalize li w (bQ 2 I k s aG aJ fz)=w1 at*;refine cS (λw':H=>w'.heap[w.heap.size]? =A (bQ 2 I k s aG aJ fz)/\w' ⟨fb,fo,G⟩=A (Y Z y)/\w' ⟨tb,td+1,G⟩=A (Y Z t1)/\w' ⟨tb,td+2,G⟩=A (Y Z t2)) (eE (⟨hx,c0,d1,d2⟩) λhS=> ?_);have yu:0<fl:=U;refine bR hS [0,3,5,7,9,10,14,19,21,25,1,6,11,15,20,22,2,8,12,16,23,4,13,24,17,26] (λ_ h=>aw (bE h.1) (aw h.1 (aw h.2.1 (aw h.2.2.1 h.2.2.2)))) (bL 18 λK hK=> ?_);go_simp;have bX:(λw':H=>w'.heap[w.heap.size]? =A (bQ 2 I k s aG aJ fz)/\w' ⟨fb,fo,G⟩=A (Y Z y)/\w' ⟨tb,td+1,G⟩=A (Y Z t1)/\w' ⟨tb,td+2,G⟩=A (Y Z t2)) (li w1.drew (ag #[Y Z (cM (y*kk)),Y Z (cM (I*kk)),Y Z (cM (cM (b*t1)*t2))] 3)):=⟨dX hx _,fq (show w1.drew.cell? _=_ from c0) _,fq (show w1.drew.cell? _=_ from d1) _,fq (show w1.drew.cell? _=_ from d2) _⟩;refine bB hK bX ?_;refine bR bX [27,28] (λ_ h=>aw h.1 (aw h.2.1 (aw h.2.2.1 h.2.2.2))) (bW ?_);clear hS hx;go_wp2_with fail;have hr:=ai.new w1.drew Z 3 (0,0) [cM (y*kk),cM (I*kk),cM (cM (b*t1)*t2)] (λz hz=>by
   simp only[jy,mj,or_false]at hz;rcases hz with rfl|rfl|rfl<;>exact wrap64_wf _) bK
  go_ret2
  exact⟨_,_,_,rfl,hr,(HB.I.bI 1).step (aD _ _)⟩
 .have e2:(aB==2)=ae:=by simpa using k2
  have hR:Ck.jB ⟨aB,I,k,s,aG,aJ,fz⟩ f t b=([],0):=by unfold Ck.jB;rw[aI k1,aI k2]
  rw[hR];clear hR ht;go_enter func173,ntmps173;go_wp2_with fail;go_ret2
  exact⟨_,_,_,rfl,ai.zero _ _ _,HB.I⟩
namespace Ck
theorem abN:∀(L:List Lay) (i:Nat) (l0 l:List (List Int)) (n:Int),l0.length=i+1->(∀d∈l0,1<=d.length/\d.length<=4)->uF i L l0=(l,n,0)->
 l.length=i+1+L.length/\(∀d∈l,1<=d.length/\d.length<=4)/\(∀j,j<l0.length->l[j]? =l0[j]?)/\∀k x,L[k]? =A x->x.aB=2->(l.getD (i+k+1) []).length=3
 | [],i,l0,l,n,h1,h2,h3=>by
   unfold uF at h3;obtain⟨rfl,-⟩:=Prod.mk.inj h3;exact⟨Q51,h2,λ_ _=>rfl,λk x h=>Q4b⟩
 |x::L,i,l0,l,n,h1,h2,h3=>by
  unfold uF at h3;by_cases hg:gives x l0=[]
  .rw[aR hg]at h3;exact Q1b
  rw[aI hg]at h3;by_cases hq:8192<product (gives x l0)
  .rw[aR hq]at h3;exact Q1b
  rw[aI hq]at h3;have nk:=abM (x:=x) (l:=l0) (λd hd=>(h2 d hd).2);have pX:1<=(gives x l0).length:=by have:(gives x l0).length≠0:=λe=>hg (List.length_eq_zero_iff.1 e);omega
  obtain⟨r1,r2,r3,r4⟩:=abN L (i+1) (l0++[gives x l0]) l n (by rw[dG,h1];rfl) (λd hd=>by
   rcases kE.1 hd with hd|hd
   .exact h2 d hd
   .rw[pS.1 hd];exact⟨pX,nk⟩) h3
  refine⟨by rw[r1,List.length_cons];omega,r2,λj hj=>(r3 j (by rw[dG];omega)).trans (List.getElem?_append_left hj),λk y hy hk=> ?_⟩
  match k,hy with
  |0,hy=>
   obtain rfl:x=y:=Q3w;have:=r3 (i+1) (by rw[dG,h1];simp);rw[List.getElem?_append_right U,h1]at this;rw[gB,eL,this];simp only[Nat.sub_self,List.getElem?_cons_zero,Option.getD_some];have kN:gives x l0=j9 (l0.getD (l0.length-1) []) x.I x:=by unfold gives;simp[hk]
   rw[kN]at hg⊢;unfold j9 at hg⊢;split at hg
   .exact absurd rfl hg
   .rename_i h5;rw[aI h5];split at hg
    .exact absurd rfl hg
    .rename_i h6;rw[aI h6];rfl
  |k+1,hy=>exact(by rw[show i+(k+1)+1=i+1+k+1 by omega];exact r4 k y Q3w hk)
def yZ (b:Int) (ls:List (List Int)):Nat->List Lay->Int
 |_,[]=>0
 |i,x::L=>if 8192<cM (b*max (product (ls.getD i [])) (product (ls.getD (i+1) [])))\/8192<(jB x (ls.getD i []) (ls.getD (i+1) []) b).2 then 1
  else if(jB x (ls.getD i []) (ls.getD (i+1) []) b).1.all D.fits=true then yZ b ls (i+1) L else 3
theorem ak3 {b:Int} {L:List Lay} {x:Lay} (h:L[k]? =A x):yZ b ls k (L.drop k)=if 8192<cM (b*max (product (ls.getD k [])) (product (ls.getD (k+1) [])))\/8192<(jB x (ls.getD k []) (ls.getD (k+1) []) b).2 then 1
 else if(jB x (ls.getD k []) (ls.getD (k+1) []) b).1.all D.fits=true then yZ b ls (k+1) (L.drop (k+1))else 3:=by
 have hk:=(fX.1 h).1;have e:L[k]=x:=Q3F;rw[tX hk,e];rfl
end Ck
theorem Mod.zX {m:Mod} (h:m.iy=(l,n,0)):m.aH=true/\l.length=1+m.L.length/\(∀d∈l,1<=d.length/\d.length<=4)/\l[0]? =A [m.a,m.b,m.c]/\∀k x,m.L[k]? =A x->x.aB=2->(l.getD (k+1) []).length=3:=by
 unfold Mod.iy at h;by_cases hm:m.aH=true
 .rw[aR hm]at h;by_cases hq:8192<Ck.product [m.a,m.b,m.c]
  .rw[aR hq]at h;exact Q1c
  rw[aI hq]at h;obtain⟨r1,r2,r3,r4⟩:=Ck.abN m.L 0 [[m.a,m.b,m.c]] l n rfl (λd hd=>by rw[pS.1 hd];simp) h;exact⟨hm,U,r2,r3 0 bK,λk x hx hk=>by have:=r4 k x hx hk;rwa[nF]at this⟩
 .rw[aI hm]at h;exact Q1c
def Mod.net (m:Mod) (c b:Int):Int:=
 if m.iy.2.2 ≠0 then m.iy.2.2 else if c<2\/10<c\/b<1\/8<b then 1
 else if(m.iy.1.getD (m.iy.1.length-1) []).length≠1\/(m.iy.1.getD (m.iy.1.length-1) []).getD 0 0≠c then 2 else Ck.yZ b m.iy.1 0 m.L
def ak4 (r:Int) (w:H) (e:dN) (w':H):Prop:=∃x y:Int,e=bG (aL #[Y Z x,Y Z y,Y Z r])/\ay w w w'
theorem ak5 (m:Mod) (c b:Int) (ok:Nat->Prop) (xa:aC) (xl xm:Nat) (w:H) (h:cH iM 7 ok w xa xl m.L):aA aq 112 #[aF (m.cells xa xl xm),Y Z c,Y Z b,aK ae] w (ak4 (m.net c b) w):=by
 have KB:=V (aE.fg w (ag (m.cells xa xl xm) 25));have SH:=V (Iy m ok xa xl xm _ (h.below gL U KB.F.2));have HX:=V (h.bt gL U);obtain⟨f0,f1,f2,f3⟩:=eQ KB.F.1;have HL:=V h.1;have hl:=h.2.1;obtain⟨R,hR⟩:=J (m.net c b);rw[hR];unfold Mod.net at hR;obtain⟨S,hS⟩:=J m.iy;rw[hS]at hR SH;obtain⟨l,n,e⟩:=S;have HR:=V hR;have HS:=V hS;clear h hR hS;go_enter func112,ntmps112;go_wp2_with fail;refine SH.I.mono ?_;rintro e' w2 ⟨la,ln,lc,rfl,hm,hb⟩;have K2:=KB.bU hb;have HM:=V hm;clear hb hm f0 f1 f2 f3 SH KB;by_cases he:e=0
 .subst he;have cU:=V (show(if c<2\/10<c\/b<1\/8<b then 1 else if(l.getD (l.length-1) []).length≠1\/(l.getD (l.length-1) []).getD 0 0≠c then 2 else Ck.yZ b l 0 m.L)=R by have:=HR.I;simpa using this);clear HR;obtain⟨mm,ml,md,m0,mk⟩:=Mod.zX HS.I;have vX:=V md;have Vr:=V mk;have ik:l.length=xl+1:=by rw[ml,HL.I];omega
  obtain rfl:ln=xl+1:=by rw[<-HM.I.1];exact ik
  have fP:xl<=12:=by have:=(Mod.nT mm).2.2.2.2.2.2.2.1;rw[HL.I]at this;exact this
  have BJ:=V (Mod.nT mm).2.2.2.2.2.2.2.2;obtain⟨d,hd⟩:∃d,l[xl]? =A d:=⟨l[xl]'U,Q2W⟩;obtain⟨lb,lo,cs,rfl,_,qu,hcs⟩:=HM.I.get hd;obtain⟨da,dl,dc,rfl,rd⟩:=qu;have c0:=hcs 0 _ rfl;have jU:=vX.I d (nB hd);have ar5:1<=dl:=E rd.1.bA;obtain⟨db,fK,rfl,e0⟩:=rd.1.cells U;have FW:=e0 0 U;have nk:l.getD (l.length-1) []=d:=by rw[ik,Nat.add_sub_cancel];simp[dV,hd]
  have abO:=rd.1.bA;rw[nk,abO]at cU;simp only[lA,eL]at c0 FW;generalize d.getD 0 0=d0 at*;have i1:Z.wrap (((xl+1:Nat):Int)-1)=(xl:Int):=Q3l;have i2:(xl:Int)<((xl+1:Nat):Int):=U;clear mm ml md mk m0 e0 hcs hd nk rd abO;have HLL:=V ik;clear ik jU;by_cases h1:c<2
  .have z1:decide (c<2)=true:=by simpa using h1
   obtain rfl:1=R:=Q4P;clear h1;exact Q0H
  have zE:decide (c<2)=ae:=Q51;by_cases h2:10<c
  .have z1:decide (10<c)=true:=by simpa using h2
   obtain rfl:1=R:=Q4P;clear h2;exact Q0H
  have oR:decide (10<c)=ae:=by simpa using h2
  by_cases h3:b<1
  .have z1:decide (b<1)=true:=by simpa using h3
   obtain rfl:1=R:=Q4P;clear h3;exact Q0H
  have UR:decide (b<1)=ae:=by simpa using h3
  by_cases h4:8<b
  .have z1:decide (8<b)=true:=by simpa using h4
   obtain rfl:1=R:=Q4P;clear h4;exact Q0H
  have h4':decide (8<b)=ae:=by simpa using h4
  have fL:=V (show(if dl≠1\/d0≠c then 2 else Ck.yZ b l 0 m.L)=R by have:=cU.I;rwa[aI U]at this);clear cU;by_cases h5:dl=1
  .subst h5;by_cases h6:d0=c
   .subst h6;have gU:=V (show Ck.yZ b l 0 m.L=R by have:=fL.I;rwa[aI U]at this);obtain⟨g0,g1,g2,g3⟩:=eQ K2.F.1;have oW:1<=b/\b<=8:=U;clear fL h1 h2 h3 h4;go_wp2_with fail;have Px:=V (HM.I.bt lX U);have ak6:(cX Z b).wf=true:=gF U U;clear g0 g1 g2 g3 c0 FW i1 i2 zE oR UR h4';go_loopw [72,15,16,17,18,19,21] (λi lg _ _ _ _ _ wr=>∃(k:Nat) (g:Int),k<=xl/\i=Y Z k/\lg=Y Z g/\Ck.yZ b l k (m.L.drop k)=R/\ay w2 w2 wr) (λi _ _ _ _ _ _ _=>xl-(aX i).toNat)
    case atStart=>exact⟨0,0,cK _,rfl,rfl,gU.I,eG _ _⟩
    case round=>
     obtain⟨k,g,hk,rfl,rfl,nU,cW⟩:=hrel;have iW:=V nU;have HB:=V cW;clear nU cW gU;by_cases aT:k<xl
     .obtain⟨x,hx⟩:∃x,m.L[k]? =A x:=⟨m.L[k]' Q30,Q2W⟩;obtain⟨xb,abP,cs,rfl,_,hE,hcs⟩:=(HX.I _ (K2.F.2.step HB.I)).get hx;obtain rfl:cs=x.cells:=hE;have g0:=hcs 0 (Y Z x.aB) rfl;have g1:=hcs 1 (Y Z x.I) rfl;have g2:=hcs 2 (Y Z x.k) rfl;have g3:=hcs 3 (Y Z x.s) rfl;have g4:=hcs 4 (Y Z x.aG) rfl;have g5:=hcs 5 (Y Z x.aJ) rfl;have g6:=hcs 6 (aK x.fz) rfl;simp only[eL]at g0;have gJ:=Mod.yY BJ.I hx;have Vo:=Lay.DR gJ;have iw:=V (iW.I.symm.trans (Ck.ak3 hx)).symm;have fH:=Vr.I k x hx;obtain⟨u,hu⟩:∃u,l[k]? =A u:=⟨l[k]'(by rw[HLL.I];omega),Q2W⟩;obtain⟨v,hv⟩:∃v,l[k+1]? =A v:=⟨l[k+1]'(by rw[HLL.I];omega),Q2W⟩;rw[show l.getD k []=u by simp[dV,hu],show l.getD (k+1) []=v by simp[dV,hv]]at iw;rw[show l.getD (k+1) []=v by simp[dV,hv]]at fH;obtain⟨b1,o1,c1,e,_,tC,DU⟩:=(Px.I _ HB.I).get hu;injection e with e;injection e with vW DK;subst vW DK;obtain⟨ua,ul,uc,rfl,ru⟩:=tC;obtain⟨b1,o1,c1,e,_,ph,hcv⟩:=(Px.I _ HB.I).get hv;injection e with e;injection e with vW DK;subst vW DK;obtain⟨va,vl,vc,rfl,rv⟩:=ph;have cu:=DU 0 _ rfl;have cv:=hcv 0 _ rfl;simp only[lA,eL]at cu cv;have BM:=vX.I u (nB hu);have Py:=ru.1.bA;have ar6:=rv.1.bA;have RU:=V ru.1;have RV:=V rv.1;have SM:=V (λw h1 h2=>ak2 x ua va ul uc vl vc u v b w h1 h2 U (λhk=>E (fH hk)) (gF U U) ak6);dsimp only[Lay.cells]at SM
      obtain⟨xo,m7⟩:=J wr.heap.size;have je:=bZ wr (bQ x.aB x.I x.k x.s x.aG x.aJ x.fz);rw[m7]at je;have pN:=aD wr (bQ x.aB x.I x.k x.s x.aG x.aJ x.fz);clear hx hcs hu hv DU hcv ru rv fH gJ Vo;have i5:(k:Int)<(xl:Int)+1:=U;have i6:(k:Int)+1<(xl:Int)+1:=U;have i8:(0:Int)<=(k:Int)+1:=U;have i9:((k:Int)+1).toNat=k+1:=U;have i7:Z.wrap ((k:Int)+1)=(k:Int)+1:=dv _ U;go_wp2_with fail;clear m7;generalize li wr (bQ x.aB x.I x.k x.s x.aG x.aJ x.fz)=w5 at*;refine cS (λw':H=>w'.heap[xo]? =A (bQ x.aB x.I x.k x.s x.aG x.aJ x.fz)/\w' ⟨lb,lo+k,G⟩=A (O ua ul uc)/\w' ⟨lb,lo+(k+1),G⟩=A (O va vl vc)) (eE (⟨je,pN.cell_of cu,pN.cell_of cv⟩) λhS=>bR hS [0,1,2,5,6,10,3,7,4,8,9] (λ_ h=>aw (bE h.1) (aw h.1 (aw h.2.1 h.2.2))) ?_);refine bL 11 λK hK=> ?_;go_simp;refine(SM.I _ ((RU.I.below pN).below (below_drewN w5 1)) ((RV.I.below pN).below (below_drewN w5 1))).mono ?_;rintro e' w6 ⟨ca,cl,cc,rfl,hr,hb⟩;have cO:ay wr wr w6:=(pN.bI 1).step hb;have bX:(λw':H=>w'.heap[xo]? =A (bQ x.aB x.I x.k x.s x.aG x.aJ x.fz)/\w' ⟨lb,lo+k,G⟩=A (O ua ul uc)/\w' ⟨lb,lo+(k+1),G⟩=A (O va vl vc)) w6:=⟨bV (show w5.drew.heap[xo]? =_ from je) hb,cO.cell_of cu,cO.cell_of cv⟩;refine bB hK bX ?_;refine bR bX [12,13,14,15,16] (λ_ h=>aw h.1 (aw h.2.1 h.2.2)) (bW ?_);have eW:=V (HB.I.step cO);have HC:=V hr;have vL:=hr.bA;have Vs:=cO.cell_of cu;have Vt:=cO.cell_of cv;have PU:=V (Lx ua ul uc u w6.drew ((RU.I.below cO).below (below_drewN w6 1)));have PV:=V (Lx va vl vc v w6.drew ((RV.I.below cO).below (below_drewN w6 1)));clear hr hb cO hS bX je pN cu cv g0 g1 g2 g3 g4 g5 g6 SM;generalize Ck.product u=pu at*;generalize Ck.product v=pv at*;generalize Ck.jB x u v b=sm at*;obtain⟨cs,wt⟩:=sm;have qv:=V (show(if 8192<cM (b*max pu pv)\/8192<wt then 1 else if cs.all D.fits=true then Ck.yZ b l (k+1) (m.L.drop (k+1))else 3)=R from iw.I);have Vu:=V (show ai Z w6 ca cl cs from HC.I);have abQ:cs.length=cl:=vL;clear HC iw vL;obtain⟨Z7,hZ⟩:=J (cM (b*max pu pv));have hZ2:Z.wrap (b*max pu pv)=Z7:=(qR _).trans hZ;rw[hZ]at qv;clear hZ;by_cases hz:8192<Z7
      .obtain rfl:1=R:=by rw[<-qv.I,aR (aM hz)]
       have z1:decide (8192<Z7)=true:=Q37;clear hz;exact Q0r
      have z1:decide (8192<Z7)=ae:=Q37;by_cases hy:8192<wt
      .obtain rfl:1=R:=by rw[<-qv.I,aR (bJ hy)]
       have z2:decide (8192<wt)=true:=Q3w;clear hy;exact Q0r
      have z2:decide (8192<wt)=ae:=Q3w;have uG:=V (show(if cs.all D.fits=true then Ck.yZ b l (k+1) (m.L.drop (k+1))else 3)=R by have:=qv.I;rwa[aI U]at this);clear hz hy qv;go_wp2_with fail;refine cS (λw':H=>w' ⟨lb,lo+k,G⟩=A (O ua ul uc)/\w' ⟨lb,lo+(k+1),G⟩=A (O va vl vc)) (eE (⟨Vs,Vt⟩) λfM=>bR fM [0,1,2,6,7,3,8,4,9,10] (λ_ h=>aw h.1 h.2) ?_);refine bL 5 λK hK=> ?_;go_simp;refine cq PU.I ?_;refine cY hK fM 11 λK hK=> ?_;go_simp;refine cq PV.I ?_;refine bB hK fM ?_;refine bR fM [12,13,14,15,16,17,18] (λ_ h=>aw h.1 h.2) (bW ?_);clear fM PU PV Vs Vt;have LG:=V (show ai Z w6.drew ca cl cs from Vu.I.below (below_drewN w6 1));have kP:=V (show ay w2 w2 w6.drew from eW.I.bI 1);have Vv:=V abQ;have FT:=V OT;clear Vu eW abQ z1 z2 hZ2;generalize w6.drew=w7 at*;have ar7:=LG.I.eC;go_wp2_with fail;go_loopw [115,15,21] (λi lg _ wr=>∃(q:Nat) (g2:Int),q<=cl/\i=Y Z q/\lg=Y Z g2/\(cs.take q).all D.fits=true/\w7=wr) (λi _ _ _=>cl-(aX i).toNat)
      case atStart=>exact⟨0,g,cK _,rfl,rfl,Q2W,rfl⟩
      case round=>
       obtain⟨q,g2,hq,rfl,rfl,CO,rfl⟩:=hrel;have HA:=V CO;clear CO;by_cases Vw:q<cl
       .obtain⟨p0,o0,rfl,e0⟩:=LG.I.cells U;have c0:=e0 q Vw;have HT:=V (T.yz (z:=cs) (k:=q) (by rw[Vv.I];exact Vw));have mZ:=V (show cs.getD q 0∈cs by rw[gB,cR (show q<cs.length by rw[Vv.I];exact Vw)];exact jZ _);generalize cs.getD q 0=y at*;have FY:=V (FT.I y);obtain⟨ZX,hF⟩:=J (D.fits y);rw[hF]at FY;have HF:=V hF;clear hF e0;go_wp2_with fail;refine cq (FY.I _) ?_
        cases ZX
        .obtain rfl:3=R:=by
          rw[<-uG.I,aI];intro h;have:=List.all_eq_true.1 h y mZ.I;rw[HF.I]at this
          cases this
         go_wp2_with fail;refine aZ (v:=aL #[Y Z 0,Y Z ((k:Int)+1),Y Z 3]) Q3G rfl ⟨_,_,rfl,K2.F.2.step kP.I⟩
        .go_wp2_with fail;go_roundw
         case rel=>exact⟨q+1,_,U,Q2T,rfl,by rw[HT.I,List.all_append,HA.I];simp[HF.I],Q4L⟩
         case measure=>exact Q5q
       .obtain rfl:q=cl:=U;have hR:Ck.yZ b l (k+1) (m.L.drop (k+1))=R:=by
         have:=uG.I;rwa[aR (by have:=HA.I;rwa[List.take_of_length_le (by rw[Vv.I];exact bu _)]at this)]at this
        have jk:=V hR;clear hR;go_wp2_with fail;go_roundw
        case rel=>exact⟨k+1,_,U,Q2T,rfl,jk.I,kP.I⟩
        case measure=>exact Q5q
     .obtain rfl:k=xl:=U;obtain rfl:0=R:=Q3n;go_wp2_with fail;refine aZ (v:=aL #[Y Z g,Y Z 0,Y Z 0]) Q3G rfl ⟨_,_,rfl,K2.F.2.step HB.I⟩
   .have z1:(d0 != c)=true:=by simpa using h6
    obtain rfl:2=R:=by rw[<-fL.I,aR U]
    clear h6;exact Q1P
  .have z1:((dl:Int) != 1)=true:=by simp;omega
   obtain rfl:2=R:=by rw[<-fL.I,aR U]
   clear h5;exact Q1P
 .have hr:e=R:=by have:=HR.I;simpa[he]using this
  subst hr;have e1:(e != 0)=true:=Q3d;have hi:Z.wrap ((ln:Int)-1)=Z.wrap ((ln:Int)-1):=rfl;clear he hi;go_wp2_with fail;refine aZ (v:=aL #[Y Z 0,Y Z n,Y Z e]) Q3G rfl ⟨_,_,rfl,K2.F.2⟩
theorem ak7 (m:Mod) (c b:Int) (ok:Nat->Prop) (xa:aC) (xl xm:Nat) (w:H) (h:cH iM 7 ok w xa xl m.L):aA aq 48 #[aF (m.cells xa xl xm),Y Z c,Y Z b] w λe w'=>∃x:Int,e=bG (aL #[Y Z x,Y Z (m.net c b)])/\ay w w w':=by
 have KB:=V (aE.fg w (ag (m.cells xa xl xm) 25));have CW:=V (ak5 m c b ok xa xl xm _ (h.below gL U KB.F.2));obtain⟨f0,f1,f2,f3⟩:=eQ KB.F.1;generalize m.net c b=R at*;clear h;go_enter func48,ntmps48;go_wp2_with fail;refine CW.I.mono ?_;rintro e w2 ⟨x,y,rfl,hb⟩;have HB:=V (KB.F.2.step hb);clear hb f0 f1 f2 f3;go_wp2_with fail;go_ret2
 exact⟨_,rfl,HB.I⟩
namespace Ck
def lZ (x:Lay) (f:ah):List Int×Int:=if x.aB=1 then([x.I,f.getD 0 0],x.I)else if x.aB=2 then([x.I,f.getD 0 0,x.k,x.k],x.I)else([],0)
end Ck
def abR (r:List Int×Int) (w:H) (e:dN) (w':H):Prop:=∃a l c,e=bG (aL #[O a l c,Y Z r.2])/\ay w w w'/\lY w.heap.size w' a l c r.1
theorem abS (x:Lay) (fa:aC) (fl fc:Nat) (f:ah) (w:H) (h1:ai Z w fa fl f) (hf:1<=fl) (ho:(cX Z x.I).wf=true) (hk:(cX Z x.k).wf=true):
 aA aq 50 #[aF x.cells,O fa fl fc] w (abR (Ck.lZ x f) w):=by
 obtain⟨aB,I,k,s,aG,aJ,fz⟩:=x;have K1:=V (aE.fg w (bQ aB I k s aG aJ fz));obtain⟨fb,fo,rfl,e0⟩:=h1.cells U;have c0:=K1.F.2.cell_of (e0 0 U);simp only[eL]at c0;have f0:=bE K1.F.1;have HB:=V K1.F.2;have HX:=V K1.F.1;have ho:(cX Z I).wf=true:=ho;have hk:(cX Z k).wf=true:=hk;have Iz:(cX Z (f.getD 0 0)).wf=true:=h1.wf _ Q4r;dsimp only[Lay.cells]
 clear h1;by_cases k1:aB=1
 .subst k1;have hR:Ck.lZ ⟨1,I,k,s,aG,aJ,fz⟩ f=([I,f.getD 0 0],I):=rfl;rw[hR];clear hR;generalize f.getD 0 0=y at*;go_enter func50,ntmps50;go_wp2_with fail;have hx:=HX.I;generalize li w (bQ 1 I k s aG aJ fz)=w1 at*;refine cS (λw':H=>w'.heap[w.heap.size]? =A (bQ 1 I k s aG aJ fz)/\w' ⟨fb,fo,G⟩=A (Y Z y)) (eE (⟨hx,c0⟩) λhS=> ?_);have yu:0<fl:=U;refine bR hS [0,2,6,1,3,7,4] (λ_ h=>aw (bE h.1) (aw h.1 h.2)) (bL 5 λK hK=> ?_);go_simp;have bX:(λw':H=>w'.heap[w.heap.size]? =A (bQ 1 I k s aG aJ fz)/\w' ⟨fb,fo,G⟩=A (Y Z y)) (li w1.drew (ag #[Y Z I,Y Z y] 3)):=⟨dX hx _,fq (show w1.drew.cell? _=_ from c0) _⟩;refine bB hK bX ?_;refine bR bX [8,9] (λ_ h=>aw (bE h.1) (aw h.1 h.2)) (bW ?_);clear hS hx;go_wp2_with fail;have hr:=ai.new w1.drew Z 3 (0,0) [I,y] (λz hz=>by
   simp only[jy,mj,or_false]at hz;rcases hz with rfl|rfl<;>assumption) bK
  exact Q28
 have e1:(aB==1)=ae:=Q4W;by_cases k2:aB=2
 .subst k2;have hR:Ck.lZ ⟨2,I,k,s,aG,aJ,fz⟩ f=([I,f.getD 0 0,k,k],I):=rfl;rw[hR];clear hR;generalize f.getD 0 0=y at*;go_enter func50,ntmps50;go_wp2_with fail;have hx:=HX.I;generalize li w (bQ 2 I k s aG aJ fz)=w1 at*;refine cS (λw':H=>w'.heap[w.heap.size]? =A (bQ 2 I k s aG aJ fz)/\w' ⟨fb,fo,G⟩=A (Y Z y)) (eE (⟨hx,c0⟩) λhS=> ?_);have yu:0<fl:=U;refine bR hS [0,2,5,7,10,1,3,6,8,11,4] (λ_ h=>aw (bE h.1) (aw h.1 h.2)) (bL 9 λK hK=> ?_);go_simp;have bX:(λw':H=>w'.heap[w.heap.size]? =A (bQ 2 I k s aG aJ fz)/\w' ⟨fb,fo,G⟩=A (Y Z y)) (li w1.drew (mr I y k k)):=⟨dX hx _,fq (show w1.drew.cell? _=_ from c0) _⟩;refine bB hK bX ?_;refine bR bX [12,13] (λ_ h=>aw (bE h.1) (aw h.1 h.2)) (bW ?_);clear hS hx;go_wp2_with fail;have hr:=ai.new w1.drew Z 3 (0,0) [I,y,k,k] (λz hz=>by
   simp only[jy,mj,or_false]at hz;rcases hz with rfl|rfl|rfl|rfl<;>assumption) bK
  exact Q28
 .have e2:(aB==2)=ae:=by simpa using k2
  have hR:Ck.lZ ⟨aB,I,k,s,aG,aJ,fz⟩ f=([],0):=by unfold Ck.lZ;rw[aI k1,aI k2]
  rw[hR];clear hR;go_enter func50,ntmps50;go_wp2_with fail;go_ret2
  exact Q1Z
theorem Lay.abT {x:Lay} (h:x.aH n=true):0<=x.k/\x.k<=5:=by
 unfold Lay.aH Lay.xt ZX.within at h
 repeat' split at h
 .exact Q1C
 .exact Q1N
 .exact Q1N
 .simp only[decide_eq_true_eq]at h;rw[h];simp
 .exact Q1C
 .cases h
theorem lY.row {B:Nat} {l:Nat} (h:lY B w a l c r):ai Z w a l r:=by
 rcases h with⟨rfl,rfl,rfl,rfl⟩|⟨_,b,o,rfl,_,h⟩
 .exact ai.zero _ _ _
 .exact h
namespace Ck
def pd (x:Lay) (f:ah):List Int×Int:=if 0<Sh.size (lZ x f).1 then lZ x f else([],0)
end Ck
theorem ak8 (m:Mod) (ok:Nat->Prop) (xa:aC) (xl xm:Nat) (l:List (List Int)) (n:Int) (i:Nat) (x:Lay) (w:H) (h:cH iM 7 ok w xa xl m.L) (hs:m.iy=(l,n,0)) (hx:m.L[i]? =A x):
 aA aq 71 #[aF (m.cells xa xl xm),Y Z ((i:Int)+1)] w (abR (Ck.pd x (l.getD i [])) w):=by
 have KB:=V (aE.fg w (ag (m.cells xa xl xm) 25));have SH:=V (hs▸Iy m ok xa xl xm _ (h.below gL U KB.F.2));have HX:=V (h.bt gL U);have f0:=eQ KB.F.1;obtain⟨mm,ml,md,m0,mk⟩:=Mod.zX hs;have hil:=(fX.1 hx).1;have fP:xl=m.L.length:=h.1.symm;have abU:xl<=12:=E ((Mod.nT mm).2.2.2.2.2.2.2.1);have gJ:=Mod.yY (Mod.nT mm).2.2.2.2.2.2.2.2 hx;have ho:=Lay.DR gJ;have hk:=Lay.abT gJ;obtain⟨u,hu⟩:∃u,l[i]? =A u:=⟨l[i]'U,Q2W⟩;have BM:=md u (nB hu);rw[show l.getD i []=u by simp[dV,hu]];have HU:=V hu;have HXi:=V hx;obtain⟨R,hR⟩:=J (Ck.pd x u);rw[hR];have Ll:=V hR;clear hR;have Ob:i<xl:=U;clear h hs mm ml md mk gJ fP hil hu hx;go_enter func71,ntmps71;go_wp2_with fail;refine SH.I.mono ?_;rintro e w2 ⟨la,ln,lc,rfl,hm,hb⟩;have K2:=KB.bU hb;obtain⟨b,off,cs,rfl,_,hE,hcs⟩:=(HX.I _ K2.F.2).get HXi.I;obtain rfl:cs=x.cells:=hE;have g0:=hcs 0 (Y Z x.aB) rfl;have g1:=hcs 1 (Y Z x.I) rfl;have g2:=hcs 2 (Y Z x.k) rfl;have g3:=hcs 3 (Y Z x.s) rfl;have g4:=hcs 4 (Y Z x.aG) rfl;have g5:=hcs 5 (Y Z x.aJ) rfl;have g6:=hcs 6 (aK x.fz) rfl;simp only[eL]at g0;obtain⟨lb,lo,cs,rfl,_,tC,DU⟩:=hm.get HU.I;obtain⟨ua,ul,uc,rfl,ru⟩:=tC;have cu:=DU 0 _ rfl;simp only[lA,eL]at cu;have iB:l.length=ln:=hm.1;have Py:=ru.1.bA;have ar9:i<ln:=E ((fX.1 HU.I).1);have PO:=V (abS x ua ul uc u w2.drew (ru.1.below (below_drewN w2 1)) U (gF U U) (gF U U));dsimp only[Lay.cells]at PO
 have HR:=V (show(if 0<Sh.size (Ck.lZ x u).1 then Ck.lZ x u else([],0))=R from Ll.I);generalize Ck.lZ x u=r at*;obtain⟨dm,nb⟩:=r;have abV:=K2.F.1;obtain⟨q0,q1,q2,q3⟩:=eQ abV;have i1:Z.wrap ((i:Int)+1-1)=(i:Int):=Q3l;have i0:Z.wrap (i:Int)=(i:Int):=dv _ U;have i2:decide ((i:Int)+1<1)=ae:=Q2R;have i3:decide ((xl:Int)<(i:Int)+1)=ae:=Q2R;have i4:(i:Int)<(xl:Int):=U;have i5:(i:Int)<(ln:Int):=U;clear hm hcs DU ru iB Py;go_wp2_with fail;refine cS (λw':H=>ay w2 w2 w') (eE (below_drewN w2 1) λhS=>bR hS [0,2,6,7,1,3,8,4,9,5,10] (λ_ h=>aw (Below.cell_of h g0) (aw (Below.cell_of h g1) (aw (Below.cell_of h g2) (aw (Below.cell_of h g3) (aw (Below.cell_of h g4) (aw (Below.cell_of h g5) (aw (Below.cell_of h g6) (aw (Below.cell_of h cu) (Below.cell_of h q3))))))))) ?_);refine bL 11 λK hK=> ?_;go_simp;refine PO.I.mono ?_;rintro e w3 ⟨da,dl,dc,rfl,hb,hr⟩;have bX:(λw':H=>ay w2 w2 w') w3:=(below_drewN w2 1).step hb;refine bB hK bX ?_;refine cQ bX [12,13,14,15,16] (bW ?_);have HB:=V (K2.F.2.step bX);have HD:=V (hr.mono (show w.heap.size<=w2.drew.heap.size from K2.F.2.size));have MS:=V (CI da dl dc dm w3 hr.row);clear hS hr g0 cu abV;obtain⟨Z7,hZ⟩:=J (decide (0<Sh.size dm));rw[hZ]at MS;have HZ:=V hZ;clear hZ;go_wp2_with fail;refine cq MS.I ?_
 cases Z7
 .obtain rfl:([],0)=R:=by rw[<-HR.I,aI (kH HZ.I)]
  go_wp2_with fail;go_ret2
  exact Q1Z
 .obtain rfl:(dm,nb)=R:=by rw[<-HR.I,aR (eZ HZ.I)]
  go_wp2_with fail;go_ret2
  exact⟨_,_,_,rfl,HB.I,HD.I⟩
def bD.goes (p:bD) (x:Lay) (u:ah):Bool:=
 if(Ck.pd x u).1 =[]then p.nothing&& !(x.aB==1||x.aB==2)
 else p.w.ok&&(p.b.ok&&(decide (p.w.d=(Ck.pd x u).1)&&(decide (p.b.d=[(Ck.pd x u).2])&&(decide (p.m.length=p.w.z.length)&& !(p.m.any ZX.ni)))))
def Mod.BN (ls:List (List Int)):Nat->List Lay->List bD->Bool
 |i,x::L,p::ps=>p.goes x (ls.getD i [])&&Mod.BN ls (i+1) L ps
 |_,_,_=>true
def Mod.qT (m:Mod) (ps:List bD):Bool:=decide (m.iy.2.2 =0)&&(decide (ps.length=m.L.length)&&Mod.BN m.iy.1 0 m.L ps)
theorem Mod.ak9 {L:List Lay} {ps:List bD} {x:Lay} {p:bD} (h:L[k]? =A x) (h2:ps[k]? =A p):Mod.BN ls k (L.drop k) (ps.drop k)=(p.goes x (ls.getD k [])&&Mod.BN ls (k+1) (L.drop (k+1)) (ps.drop (k+1))):=by
 have hk:=(fX.1 h).1;have e:L[k]=x:=Q3F;have ig:=(fX.1 h2).1;have e2:ps[k]=p:=by rw[cR ig]at h2;injection h2
 rw[tX hk,e,tX ig,e2];rfl
theorem Ck.aka {x:Lay} (h:x.aH n=true) (u:ah):(cX Z (Ck.pd x u).2).wf=true:=by
 have ho:=Lay.DR h;unfold Ck.pd Ck.lZ
 repeat' split
 all_goals exact gF (by first|omega|simp) (by first|omega|simp)
theorem Pz (m:Mod) (ok:Nat->Prop) (xa:aC) (xl xm:Nat) (ps:List bD) (pa:aC) (pl pm:Nat) (w:H) (h:cH iM 7 ok w xa xl m.L) (hp:pH w pa pl ps):
 aA aq 27 #[aF (m.cells xa xl xm),O pa pl pm] w (dZ (aK (m.qT ps)) w):=by
 have KB:=V (aE.fg w (ag (m.cells xa xl xm) 25));have SH:=V (Iy m ok xa xl xm _ (h.below gL U KB.F.2));have HX:=V (h.bt gL U);have HP:=V hp.bt;have qy:=V hp.1;have kN:=hp.2.1;obtain⟨f0,f1,f2,f3⟩:=eQ KB.F.1;have HL:=V h.1;have fP:=h.2.1;obtain⟨R,hR⟩:=J (m.qT ps);rw[hR];unfold Mod.qT at hR;obtain⟨S,hS⟩:=J m.iy;rw[hS]at hR SH;obtain⟨l,n,e⟩:=S;have HR:=V hR;have HS:=V hS;clear h hp hR hS;go_enter func27,ntmps27;go_wp2_with fail;refine SH.I.mono ?_;rintro e' w2 ⟨la,ln,lc,rfl,hm,hb⟩;have K2:=KB.bU hb;clear hb hm f0 f1 f2 f3 SH KB;by_cases he:e=0
 .subst he;obtain⟨f0,f1,f2,f3⟩:=eQ K2.F.1;by_cases pF:pl=xl
  .subst pF;have cU:=V (show Mod.BN l 0 m.L ps=R by have:=HR.I;rw[qy.I,HL.I]at this;simpa using this);clear HR;obtain⟨mm,ml,md,m0,mk⟩:=Mod.zX HS.I;have abU:pl<=12:=Q4J;clear mm ml md m0 mk;go_wp2_with fail;clear f0 f1 f2 f3;go_loopw [31,8,9,10,11,12] (λi _ _ _ _ _ wr=>∃k:Nat,k<=pl/\i=Y Z k/\Mod.BN l k (m.L.drop k) (ps.drop k)=R/\ay w2 w2 wr) (λi _ _ _ _ _ _=>pl-(aX i).toNat)
   case atStart=>exact⟨0,cK _,rfl,cU.I,eG _ _⟩
   case round=>
    obtain⟨k,hk,rfl,nU,cW⟩:=hrel;have iW:=V nU;have HB:=V cW;clear nU cW cU;by_cases aT:k<pl
    .obtain⟨x,hx⟩:∃x,m.L[k]? =A x:=⟨m.L[k]' Q30,Q2W⟩;obtain⟨p,hp⟩:∃p,ps[k]? =A p:=⟨ps[k]' Q4C,Q2W⟩;have iw:=V (iW.I.symm.trans (Mod.ak9 hx hp)).symm;obtain⟨pb,po,a1,l1,c1,a2,l2,c2,a3,l3,c3,a4,l4,c4,a5,l5,c5,rfl,FX,g0,g1,g2,g3,g4,g5,g6⟩:=(HP.I _ (K2.F.2.step HB.I)).get aT;rw[show ps.getD k bD.nil=p by simp[dV,hp]]at FX g1 g5;have KP:=V FX.bt;have K3:=V (aE.fg wr (jq a1 l1 c1 p.w.e a2 l2 c2 a3 l3 c3 a4 l4 c4 p.b.e a5 l5 c5));have DM:=V (λw h=>ak8 m ok xa pl xm l n k x w h HS.I hx);have HXk:=V hx;have i7:Z.wrap ((k:Int)+1)=(k:Int)+1:=dv _ U;have IA:=bV K2.F.1 (HB.I.step K3.F.2);obtain⟨q0,q1,q2,q3⟩:=eQ IA;clear hx hp FX;go_wp2_with fail;refine(DM.I _ (HX.I _ (K2.F.2.step (HB.I.step K3.F.2)))).mono ?_;rintro e' w3 ⟨da,dl,dc,rfl,hb,hr⟩;have K4:=K3.bU hb;have fL:=V hr.row;obtain⟨xb,abP,cs,rfl,_,hE,hcs⟩:=(HX.I _ (eG _ _)).get HXk.I;obtain rfl:cs=x.cells:=hE;have xk:=(K2.F.2.step (HB.I.step K4.F.2)).cell_of (hcs 0 (Y Z x.aB) rfl);simp only[eL]at xk;have akb:=bV IA hb;have EN:=λa l c w=>Vh a l c w;have i4:(k:Int)<(pl:Int):=U;clear hb hcs q0 q1 q2 q3 g0 g1 g2 g3 g4 g5 g6 IA K3 DM;obtain⟨q0,q1,q2,q3⟩:=eQ akb;obtain⟨g0,g1,g2,g3,g4,g5,g6⟩:=bE K4.F.1;have Vx:=V (λw' (h:ay w3 w3 w')=>KP.I w' (K4.F.2.step h));have IB:=V (HB.I.step K4.F.2);rcases hr with⟨hn,rfl,rfl,rfl⟩|⟨hn,nb,no,rfl,-,-⟩
     .have HG:=V (show((p.nothing&& !(x.aB==1||x.aB==2))&&Mod.BN l (k+1) (m.L.drop (k+1)) (ps.drop (k+1)))=R by
       have:=iw.I;unfold bD.goes at this;rwa[aR hn]at this)
      have PZ:=V (aiz #[O a1 l1 c1,Y Z p.w.e,O a2 l2 c2,O a3 l3 c3,O a4 l4 c4,Y Z p.b.e,O a5 l5 c5] p w3 (Vx.I _ (eG _ _)));clear iw hn;generalize p.nothing=Z3 at*;generalize FZ:(x.aB==1)=B1 at*;generalize xD:(x.aB==2)=B2 at*;go_wp2_with fail;refine bY PZ.I λw4 hb=> ?_;have gT:=V (IB.I.step hb);clear hb q0 q1 q2 q3 g0 g1 g2 g3 g4 g5 g6
      cases Z3
      .exact Q15
      cases B1
      .cases B2
       .go_wp2_with fail;go_roundw
        case rel=>exact⟨k+1,U,Q2T,by rw[<-HG.I];rfl,gT.I⟩
        case measure=>exact Q5q
       .exact Q15
      .exact Q15
     .have HG:=V (show((p.w.ok&&(p.b.ok&&(decide (p.w.d=(Ck.pd x (l.getD k [])).1)&&(decide (p.b.d=[(Ck.pd x (l.getD k [])).2])&&(decide (p.m.length=p.w.z.length)&& !(p.m.any ZX.ni))))))&&Mod.BN l (k+1) (m.L.drop (k+1)) (ps.drop (k+1)))=R by
       have:=iw.I;unfold bD.goes at this;rwa[aI hn]at this)
      have uH:=Ck.aka (by have:=Mod.yY (Mod.nT (Mod.zX HS.I).1).2.2.2.2.2.2.2.2 HXk.I;exact this) (l.getD k []);have Vy:=V (eG w3 w3);clear iw hn;generalize Ck.pd x (l.getD k [])=r at*;obtain⟨dm,PB⟩:=r;obtain⟨-,-,r1,r2,r3,r4,r5⟩:=(Vx.I _ (eG _ _)).wt;have n3:=r3.bA;have n2:=r2.bA;have KR:=V (λw' (h:ay wr wr w')=>(show ai Z w' a1 l1 p.w.d/\ai aO w' a2 l2 p.w.z/\ai cr w' a3 l3 p.m/\ai Z w' a4 l4 p.b.d/\ai aO w' a5 l5 p.b.z/\True from by
       obtain⟨-,-,r1,r2,r3,r4,r5⟩:=(KP.I w' h).wt;exact⟨r1,r2,r3,r4,r5,trivial⟩))
      have Vz:=V fL.I.bt;have e5:((l3:Int) != (l2:Int))= !decide (p.m.length=p.w.z.length):=by
       rw[n3,n2];by_cases h:l3=l2
       .subst h;simp
       .have:((l3:Int) != (l2:Int))=true:=by simp;omega
        rw[this];simp[h]
      obtain⟨Z3,hA⟩:=J p.w.ok;obtain⟨B,hB⟩:=J p.b.ok;have T1:=V (λw h1 h2=>(show decide (T.aH p.w.d p.w.e p.w.z)=Z3 from hA)▸jr a1 l1 c1 p.w.d p.w.e a2 l2 c2 p.w.z w h1 h2);have T2:=V (λw h1 h2=>(show decide (T.aH p.b.d p.b.e p.b.z)=B from hB)▸jr a4 l4 c4 p.b.d p.b.e a5 l5 c5 p.b.z w h1 h2);have S1:=V (Ii a1 l1 c1 p.w.d (A ⟨nb,no,G⟩) dl dc dm);have S2:=V (λw b h1 h2=>Ii a4 l4 c4 p.b.d b 1 1 [PB] w h1 h2);have G1:=V (ais a3 l3 c3 p.m);rw[hA,hB]at HG;generalize decide (p.w.d=dm)=C at*;generalize decide (p.b.d=[PB])=D at*;generalize decide (p.m.length=p.w.z.length)=ZU at*;generalize p.m.any ZX.ni=ZX at*;clear hA hB n3 n2 r1 r2 r3 r4 r5 Vx IB;unfold aS at T1 T2;go_wp2_with fail;obtain⟨r1,r2,r3,r4,r5,r6⟩:=KR.I _ K4.F.2;refine bY (T1.I _ r1 r2) λw4 hb=> ?_;have K5:=K4.bU hb;have IE:=V (Vy.I.step hb);clear hb g0 g1 g2 g3 g4 g5 g6 r1 r2 r3 r4 r5 r6;obtain⟨g0,g1,g2,g3,g4,g5,g6⟩:=bE K5.F.1
      cases Z3
      .obtain rfl:ae=R:=by rw[<-HG.I];simp
       go_wp2_with fail;go_ret;exact⟨rfl,K2.F.2.step (HB.I.step K5.F.2)⟩
      go_wp2_with fail;obtain⟨r1,r2,r3,r4,r5,r6⟩:=KR.I _ K5.F.2;refine bY (T2.I _ r4 r5) λw5 hb=> ?_;have K6:=K5.bU hb;have HC6:=V (IE.I.step hb);clear hb g0 g1 g2 g3 g4 g5 g6 r1 r2 r3 r4 r5 r6;obtain⟨g0,g1,g2,g3,g4,g5,g6⟩:=bE K6.F.1
      cases B
      .obtain rfl:ae=R:=by rw[<-HG.I];simp
       go_wp2_with fail;go_ret;exact⟨rfl,K2.F.2.step (HB.I.step K6.F.2)⟩
      go_wp2_with fail;obtain⟨r1,r2,r3,r4,r5,r6⟩:=KR.I _ K6.F.2;refine bY (S1.I _ r1 (Vz.I _ HC6.I)) λw6 hb=> ?_;have K7:=K6.bU hb;clear hb g0 g1 g2 g3 g4 g5 g6 r1 r2 r3 r4 r5 r6;obtain⟨g0,g1,g2,g3,g4,g5,g6⟩:=bE K7.F.1
      cases C
      .obtain rfl:ae=R:=by rw[<-HG.I];simp
       go_wp2_with fail;go_ret;exact⟨rfl,K2.F.2.step (HB.I.step K7.F.2)⟩
      have VA:=ai.new w6 Z 3 (0,0) [PB] (λz hz=>by rw[pS.1 hz];exact uH) bK;have K8:=V (K7.I.step (aD w6 (ag #[Y Z PB] 3)));go_wp2_with fail;obtain⟨r1,r2,r3,r4,r5,r6⟩:=KR.I _ K8.F.2;refine bY (S2.I _ _ r4 VA) λw7 hb=> ?_;have K9:=K8.bU hb;clear hb g0 g1 g2 g3 g4 g5 g6 r1 r2 r3 r4 r5 r6;obtain⟨g0,g1,g2,g3,g4,g5,g6⟩:=bE K9.F.1
      cases D
      .exact Q0Y
      cases ZU
      .skip
       exact Q0Y
      go_wp2_with fail;obtain⟨r1,r2,r3,r4,r5,r6⟩:=KR.I _ K9.F.2;refine cq (G1.I _ r3) ?_
      cases ZX
      .go_wp2_with fail;go_roundw
       case rel=>exact⟨k+1,U,Q2T,by rw[<-HG.I];simp,HB.I.step K9.F.2⟩
       case measure=>exact Q5q
      .skip
       exact Q0Y
    .obtain rfl:k=pl:=U;obtain rfl:true=R:=by rw[<-iW.I,sx.2 Q3k];unfold Mod.BN;rfl
     go_wp2_with fail;go_ret;exact⟨rfl,K2.F.2.step HB.I⟩
  .obtain rfl:ae=R:=by rw[<-HR.I,qy.I,HL.I];simp[pF]
   have e1:((pl:Int) != (xl:Int))=true:=Q2R;exact Q0U
 .obtain rfl:ae=R:=by rw[<-HR.I];simp[he]
  have e1:(e != 0)=true:=Q3d;exact Q0U
def zY (au fN:Int) (i:Nat):Int:=P.below au fN (i:Int) 63-31
def bD.made (d:ah) (n:Nat) (au fN:Int):bD:=⟨⟨d,-7,dU (zY au fN) (Sh.size d).toNat⟩,dz (Sh.size d).toNat 0,⟨[(n:Int)],-7,dz n 0⟩⟩
def ake (p:bD) (w:H) (e:dN) (w':H):Prop:=∃cs,e=bG (aF cs)/\lq (λb=>w.heap.size<=b) w' cs p/\ay w w w'
theorem VB (au fN:Int) (i:Nat): -31<=zY au fN i/\zY au fN i<=31:=by
 have:=P.Hz au fN (i:Int) 63;unfold zY;omega
theorem akf (f:Nat->Int) {N i:Nat} (h:i<N):(dU f i++dz (N-i) (0:Int)).set i (f i)=dU f (i+1)++dz (N-(i+1)) 0:=by
 have hl:(dU f i).length=i:=by simp[dU]
 obtain⟨m,hm⟩:∃m,N-i=m+1:=⟨N-i-1,U⟩;rw[hm,show N-(i+1)=m by omega,List.set_append_right _ _ (by rw[hl];exact bu _),hl,Nat.sub_self,List.replicate_succ,dD,yI];simp
theorem akg (a:aC) (l c:Nat) (d:ah) (n:Nat) (au:Int) (fN:Nat) (w:H) (h:ai Z w a l d) (hs:0<Sh.size d) (hn:1<=n/\n<=4096) (hu:P.Z4 au) (hl:fN<=100):
 aA aq 52 #[O a l c,Y Z (n:Int),Y cD au,Y Z (fN:Int)] w (ake (bD.made d n au fN) w):=by
 have K0:=V (aE.fg w (ag yS 105));have Z1:=V (aaV a l c d (-7) _ (h.below K0.F.2) hs U U);have my:=Sh.iA hs;obtain⟨N,hN⟩:∃N:Nat,(Sh.size d).toNat=N:=⟨_,rfl⟩;have Ky:1<=N/\N<=8192:=by have:=my.eq;have:=my.le;have:=my.one;omega
 unfold bD.made;unfold O8 at Z1;rw[hN]at Z1⊢;have rB:Sh.size [(n:Int)]=n:=by simp[Sh.size,Sh.lC];omega
 have Z2:=V (λw b (h:ai Z w b 1 [(n:Int)])=>(by
  have h2:=aaV b 1 1 [(n:Int)] (-7) w h U U U;unfold O8 at h2;rwa[rB,jx]at h2:aA aq 117 #[O b 1 1,Y Z (-7)] w _))
 have BW:=V (λ(i:Nat) (hi:i<N) w=>aax au (fN:Int) (i:Int) 63 w hu ⟨U,U⟩ ⟨U,U⟩);clear h hs my rB hu hN;go_enter func52,ntmps52;go_wp2_with fail;refine Z1.I.mono ?_;rintro e w1 ⟨da,dc,dg,rfl,t1,t2,t3,t4⟩;have K1:=V (K0.I.step t4|>.alloc (bj da l dc (-7) dg N N));have akh:=V (t1.bt.alloc (bj da l dc (-7) dg N N));have Pp:=V t2;have jO:=V (t3.alloc (bj da l dc (-7) dg N N));have hdg:=t3.lt dg rfl;have aki:=t4.size;have K2:=V ((aE.block (bZ w1 (bj da l dc (-7) dg N N))));rw[bF]at aki hdg;clear Z1;have ZB:=V (Z2.I (li (li w1 (bj da l dc (-7) dg N N)) (ag #[Y Z n] 3)) (w1+1:Nat) (by
  have hr:=ai.new (li w1 (bj da l dc (-7) dg N N)) Z 3 (0,0) [(n:Int)] (λz hz=>Q4K) bK;rw[bF]at hr;exact hr))
 go_wp2_with fail;refine ZB.I.mono ?_;rintro e w3 ⟨ba,bc,bg,rfl,u1,u2,u3,u4⟩;have eg:ay (li w1 (bj da l dc (-7) dg N N)).heap.size (li w1 (bj da l dc (-7) dg N N)) (li w3 (bj ba 1 bc (-7) bg n n)):=((aD _ _).step u4).step (aD _ _);have hrb:=ai.owned u3 (λz hz=>Q56) U;have VC:=u3.lt bg rfl;rw[bF,bF]at VC;have gX:=λx hx=>(u2 x hx);have nK:=u4.size;rw[bF,bF]at nK;have K4:=V (aw (K1.I _ eg) (aw (akh.I _ eg) (K2.I _ eg)));have abW:=V (oh jO.I eg);have F3:=V (aw (u1.below (aD w3 (bj ba 1 bc (-7) bg n n))) (hrb.below (aD w3 (bj ba 1 bc (-7) bg n n))));have HBa:=V gX;have DV:=V (bZ w3 (bj ba 1 bc (-7) bg n n));clear hrb gX;have x0:=aY K4.I.2.2;go_wp2_with fail;obtain⟨B,hB⟩:=J (w3.heap.size+1);obtain⟨w4,yK⟩:=J (li w3 (bj ba 1 bc (-7) bg n n));have hB4:w4.heap.size=B:=by rw[<-yK,bF];exact hB
 rw[yK]at K4 abW F3 DV⊢;clear yK;have gT:=V hB4;have PD:dg≠w1.heap.size/\dg≠w.heap.size/\dg≠w3.heap.size:=U;clear hB4;go_loopw [28,13] (λi _ wr=>∃k:Nat,k<=N/\i=Y Z k/\wr.ownsRow w.heap.size 106 1 (O dg N N) N ((dU (zY au fN) k++dz (N-k) (0:Int)).map (Y aO))/\ar B (λb=>b=dg) w4 wr) (λi _ _=>N-(aX i).toNat)
 case atStart=>exact⟨0,cK _,rfl,by
  have h:=abW.I;obtain⟨h1,h2⟩:=h;have h0:(dU (zY au fN) 0++dz (N-0) (0:Int))=dz N 0:=by simp[dU]
  rw[h0];exact⟨h1,h2.imp id λ⟨g,cap,cur,hv,hb,rest⟩=>⟨g,cap,cur,hv,by rw[bF]at hb;omega,rest⟩⟩,ar.cP _ _ _⟩
 case round=>
  obtain⟨k,hk,rfl,aV,cA⟩:=hrel;have HO:=V aV;have HK:=V cA;clear aV cA;have hT:=HK.I.bC (g:=w1) U (λh=>PD.1 h.symm) K4.I.2.2;by_cases aT:k<N
  .have BWk:=V (BW.I k aT wr.drew);have Bj:=VB au fN k;have IF:=akf (zY au fN) aT;have rR:zY au fN k=P.below au fN (k:Int) 63-31:=rfl;have HFs:=V (rR▸IF);rw[rR]at Bj;clear rR IF;generalize P.below au fN (k:Int) 63=y at*;have y1:Z.wrap (y-31)=y-31:=dv _ U;have y2:aO.wrap (y-31)=y-31:=Q33;have y3:cD.wrap (fN:Int)=(fN:Int):=Q36;have y4:cD.wrap (k:Int)=(k:Int):=Q36;have i1:(k:Int)<(N:Int):=U;go_wp2_with fail;refine cS (λw':H=>w'.heap[w1.heap.size]? =A (bj da l dc (-7) dg N N)) (eE hT λhS=>bR hS [0,2,3,4,6,1,5,7] (λ_ h=>bP h) ?_);refine bL 8 λK hK=> ?_;go_simp;refine cq BWk.I ?_;refine bB hK hS ?_;refine bR hS [9,10,11] (λ_ h=>bP h) ?_;have hlen:(dU (zY au fN) k++dz (N-k) (0:Int)).length=N:=by simp[dU];omega
   have c9:=vI HO.I k aT hlen;have f9:=HO.I.frozenAt k;refine bL 12 λK hK=> ?_;go_simp;refine bB hK ((gj _ (λh=>PD.1 h.symm)).trans hT) ?_;refine bW ?_;have jP:=V (show(ss wr.drew ⟨dg,k,G⟩ (Y aO (y-31))).ownsRow w.heap.size 106 1 (O dg N N) N ((dU (zY au fN) (k+1)++dz (N-(k+1)) (0:Int)).map (Y aO))from by
    have h:=zP (q:=k) (oh HO.I (below_drewN wr 1)) (y-31);rw[HFs.I]at h;exact h)
   have jF:=V (show ar B (λb=>b=dg) w4 (ss wr.drew ⟨dg,k,G⟩ (Y aO (y-31)))from(HK.I.bI 1).set (aM rfl) _ _);clear hS hT HO HK;exact Q1R
  .obtain rfl:k=N:=U;have aV:=HO.I;rw[Nat.sub_self,List.replicate_zero,List.append_nil]at aV;have gC:=ai.owned aV (λz hz=>by
    obtain⟨i,_,rfl⟩:=kG.1 hz;have:=VB au fN i;exact yw U U) U
   have arb:=aV.lt dg rfl;have LH:=V gC;have jK:=V (HK.I.bC (g:=w) (E gT.I) (λh=>PD.2.1 h.symm) K4.I.1.1);have abX:=V (HK.I.bC (g:=w3) U (λh=>PD.2.2 h.symm) DV.I);have HDD:=V (HK.I.gH K4.I.2.1 (λx hx h0=>by have:=Pp.I x hx;have h9:=K4.I.2.1.bC h0 hx;rw[gT.I]at h9;exact⟨h9,this.2.1⟩));have ju:=V (HK.I.gH F3.I.1 (λx hx h0=>by have:=HBa.I x hx;have h9:=F3.I.1.bC h0 hx;rw[gT.I]at h9;rw[bF,bF]at this;exact⟨h9,U⟩));have HBz:=V (HK.I.gH F3.I.2 (λx hx h0=>by have h9:=F3.I.2.bC h0 hx;rw[gT.I]at h9;cases hx;exact⟨h9,by show ¬bg=dg;omega⟩));have jV:=V (Below.gh K4.I.1.2 HK.I (λb hb=>⟨U,by have:=aV.lt dg rfl;omega⟩));clear aV gC;have x0:=aY hT;have ur:=λw:H=>run_make_row' (P:=aq) 103 21 (Y cr 0) 4 underlying103 Dq rfl Z Z k U U w;go_wp2_with fail;refine Lt.begins (λw':H=>w'.heap[w1.heap.size]? =A (bj da l dc (-7) dg k k)/\w'.heap[w3.heap.size]? =A (bj ba 1 bc (-7) bg n n)) (λj=>j==7) kr ?_;have hS:(λw':H=>w'.heap[w1.heap.size]? =A (bj da l dc (-7) dg k k)/\w'.heap[w3.heap.size]? =A (bj ba 1 bc (-7) bg n n)) wr.drew:=⟨hT,abX.I⟩;refine bR hS [0,1,5,2,3] (λ_ h=>aw (bP h.1) (aw (bP h.2) (aw h.1 h.2))) (bL 4 λK hK=> ?_);go_simp;have xE:ay wr wr ((li wr (ag (jz #[Y cr 0] k) 21)).drew):=(aD wr _).bI 1;have bX:(λw':H=>w'.heap[w1.heap.size]? =A (bj da l dc (-7) dg k k)/\w'.heap[w3.heap.size]? =A (bj ba 1 bc (-7) bg n n)) ((li wr (ag (jz #[Y cr 0] k) 21)).drew):=⟨bV hT xE,bV abX.I xE⟩;have HMr:=V (show ai cr ((li wr (ag (jz #[Y cr 0] k) 21)).drew) wr k (dz k 0)from(ai.owned (Kl wr cr 21 wr.heap.size k (bu _) U) (λz hz=>by rw[(List.mem_replicate.1 hz).2];exact Fa U U) U).below (below_drewN _ 1));have abY:=V (HDD.I.below xE);have abZ:=V (ju.I.below xE);have ac0:=V (HBz.I.below xE);have ac1:=V (LH.I.below xE);have VD:=V (bV jK.I xE);have akj:=V (jV.I.step xE);have arc:wr.heap.size<((li wr (ag (jz #[Y cr 0] k) 21)).drew).heap.size:=by show wr.heap.size<(li wr _).heap.size;rw[bF];omega
   have PE:B<=wr:=by have:=HK.I.size;rw[gT.I]at this;exact this
   refine bB hK bX ?_;refine bR bX [6] (λ_ h=>aw h.1 h.2) ?_;clear hS xE;generalize((li wr (ag (jz #[Y cr 0] k) 21)).drew)=wM at*;have q0:=bE VD.I;have z0:=λj=>cE VD.I j;refine bL 7 λK hK=> ?_;go_simp;refine jg hK ?_;refine bW ?_;go_wp2_with fail;have hk:ar wM (λb=>b=w.heap.size) wM _:=(ar.cP wM (λb=>b=w.heap.size) wM).vS (aM rfl) (O da l dc) (Y Z (-7)) (O dg k k) (O wr k k) (O ba 1 bc) (Y Z (-7)) (O bg n n);have r1:=λ(x:Addr) (hx:da=A x)=>(show w.heap.size<x.block by have:=(Pp.I x hx).1;rw[bF]at this;omega);have r4:=λ(x:Addr) (hx:ba=A x)=>(show w.heap.size<x.block by have:=(HBa.I x hx).1;rw[bF,bF]at this;omega);refine aZ (v:=aF #[O da l dc,Y Z (-7),O dg k k,O wr k k,O ba 1 bc,Y Z (-7),O bg n n]) ?_ rfl ⟨_,rfl,⟨_,_,_,_,_,_,_,_,_,_,_,_,_,_,_,rfl,⟨?_,?_⟩,⟨?_,?_⟩,⟨?_,?_⟩,⟨?_,?_⟩,⟨?_,?_⟩⟩,Below.gh akj.I hk (λb hb=>⟨U,U⟩)⟩
   .simp[aW,results52,go_sem,oL VD.I]
   .exact hk.gH abY.I (λx hx h0=>⟨abY.I.bC h0 hx,by have:=r1 x hx;omega⟩)
   .intro x hx _;have:=r1 x hx;omega
   .exact hk.gH ac1.I (λx hx h0=>⟨ac1.I.bC h0 hx,by cases hx;show ¬dg=_;omega⟩)
   .intro x hx _;cases hx;show w.heap.size<=dg;omega
   .exact hk.gH HMr.I (λx hx h0=>⟨HMr.I.bC h0 hx,by cases hx;show ¬wr.heap.size=_;omega⟩)
   .intro x hx _;cases hx;show w.heap.size<=wr;omega
   .exact hk.gH abZ.I (λx hx h0=>⟨abZ.I.bC h0 hx,by have:=r4 x hx;omega⟩)
   .intro x hx _;have:=r4 x hx;omega
   .exact hk.gH ac0.I (λx hx h0=>⟨ac0.I.bC h0 hx,by cases hx;show ¬bg=_;omega⟩)
   .intro x hx _;cases hx;show w.heap.size<=bg;omega
def Ck.tG (ls:List (List Int)) (au:Int):Nat->List Lay->List bD->Int×List bD
 |_,[],acc=>(0,acc)
 |i,x::L,acc=>if(Ck.lZ x (ls.getD i [])).1 =[]then Ck.tG ls au (i+1) L (acc++[bD.nil])
  else if 0<Sh.size (Ck.lZ x (ls.getD i [])).1 then Ck.tG ls au (i+1) L (acc++[bD.made (Ck.lZ x (ls.getD i [])).1 (Ck.lZ x (ls.getD i [])).2.toNat au ((i+1:Nat):Int)])else(1,[])
def Mod.init (m:Mod) (au:Int):Int×List bD:=if m.iy.2.2 ≠0 then(m.iy.2.2,[])else Ck.tG m.iy.1 au 0 m.L []
theorem Ck.akk {au:Int} {L:List Lay} {x:Lay} (h:L[k]? =A x) (acc:List bD):Ck.tG ls au k (L.drop k) acc=if(Ck.lZ x (ls.getD k [])).1 =[]then Ck.tG ls au (k+1) (L.drop (k+1)) (acc++[bD.nil])
 else if 0<Sh.size (Ck.lZ x (ls.getD k [])).1 then Ck.tG ls au (k+1) (L.drop (k+1)) (acc++[bD.made (Ck.lZ x (ls.getD k [])).1 (Ck.lZ x (ls.getD k [])).2.toNat au ((k+1:Nat):Int)])else(1,[]):=by
 have hk:=(fX.1 h).1;have e:L[k]=x:=Q3F;rw[tX hk,e];rfl
theorem Ck.ac2 {x:Lay} (h:x.aH n=true) (f:ah) (hd:(Ck.lZ x f).1 ≠[]):1<=(Ck.lZ x f).2 /\(Ck.lZ x f).2 <=4096:=by
 unfold Ck.lZ at hd⊢;unfold Lay.aH ZX.within at h;by_cases h1:x.aB=1
 .rw[aR h1]at h⊢;simp only[fS,decide_eq_true_eq]at h;exact h.1
 rw[aI h1]at h hd⊢;by_cases h2:x.aB=2
 .rw[aR h2]at h⊢;simp only[fS,decide_eq_true_eq]at h;show 1<=x.I/\x.I<=4096
  omega
 .rw[aI h2]at hd;exact absurd rfl hd
def akl (r:Int×List bD) (w:H) (e:dN) (w':H):Prop:=∃a n c,e=bG (aL #[O a n c,Y Z r.1])/\rM (λb=>w.heap.size<=b) w' a n r.2 /\n<=c/\ay w w w'
theorem akm (m:Mod) (ok:Nat->Prop) (xa:aC) (xl xm:Nat) (au:Int) (w:H) (h:cH iM 7 ok w xa xl m.L) (hu:P.Z4 au):aA aq 17 #[aF (m.cells xa xl xm),Y cD au] w (akl (m.init au) w):=by
 have KB:=V (aE.fg w (ag (m.cells xa xl xm) 25));have SH:=V (Iy m ok xa xl xm _ (h.below gL U KB.F.2));have HX:=V (h.bt gL U);obtain⟨f0,f1,f2,f3⟩:=eQ KB.F.1;have HL:=V h.1;have fP:=h.2.1;obtain⟨R,hR⟩:=J (m.init au);rw[hR];unfold Mod.init at hR;obtain⟨S,hS⟩:=J m.iy;rw[hS]at hR SH;obtain⟨l,n,e⟩:=S;have HR:=V hR;have HS:=V hS;have HU:=V hu;clear h hR hS hu;go_enter func17,ntmps17;go_wp2_with fail;refine SH.I.mono ?_;rintro e' w2 ⟨la,ln,lc,rfl,hm,hb⟩;have K2:=KB.bU hb;have Px:=V (hm.bt lX U);have iB:l.length=ln:=hm.1;clear hb hm f0 f1 f2 f3 SH KB;by_cases he:e=0
 .subst he;obtain⟨f0,f1,f2,f3⟩:=eQ K2.F.1;have cU:=V (show Ck.tG l au 0 m.L []=R by have:=HR.I;simpa using this);clear HR;obtain⟨mm,ml,md,m0,mk⟩:=Mod.zX HS.I;have abU:xl<=12:=Q4J;have Ij:ln=xl+1:=by rw[<-iB,ml,HL.I];omega
  subst Ij;have BJ:=V (Mod.nT mm).2.2.2.2.2.2.2.2;have vX:=V md;have BQ:=V iB;obtain⟨B,hB⟩:=J w2.heap.size;have LD:w.heap.size<B:=E (bH K2.F.1);have eV:=V hB;clear mm ml md m0 mk iB hB;go_wp2_with fail;clear f0 f1 f2 f3;go_loopw [27,10,11,12,13,14,9] (λi _ _ _ _ _ vo wr=>∃(k:Nat) (v:aj) (acc:List bD) (CS:List (Array aj)),k<=xl/\i=Y Z k/\v=vo/\gy lq 7 105 B (λb=>w.heap.size<=b) wr v acc CS/\acc.length=k/\Ck.tG l au k (m.L.drop k) acc=R/\ay w2 w2 wr) (λi _ _ _ _ _ _ _=>xl-(aX i).toNat)
  case atStart=>exact⟨0,_,[],[],cK _,rfl,rfl,gy.nil _ _ _ _ _ _,rfl,cU.I,eG _ _⟩
  case round=>
   obtain⟨k,v,acc,CS,hk,rfl,rfl,nS,vO,nU,cW⟩:=hrel;have HM:=V nS;have sK:=V vO;have iW:=V nU;have HB:=V cW;have nP:B<=wr:=Q5g;clear nS nU cW cU vO;by_cases aT:k<xl
   .obtain⟨x,hx⟩:∃x,m.L[k]? =A x:=⟨m.L[k]' Q30,Q2W⟩;obtain⟨xb,abP,cs,rfl,_,hE,hcs⟩:=(HX.I _ (K2.F.2.step HB.I)).get hx;obtain rfl:cs=x.cells:=hE;have g0:=hcs 0 (Y Z x.aB) rfl;have g1:=hcs 1 (Y Z x.I) rfl;have g2:=hcs 2 (Y Z x.k) rfl;have g3:=hcs 3 (Y Z x.s) rfl;have g4:=hcs 4 (Y Z x.aG) rfl;have g5:=hcs 5 (Y Z x.aJ) rfl;have g6:=hcs 6 (aK x.fz) rfl;simp only[eL]at g0;have gJ:=Mod.yY BJ.I hx;have ho:=Lay.DR gJ;have fH:=Lay.abT gJ;have iw:=V (iW.I.symm.trans (Ck.akk hx acc)).symm;obtain⟨u,hu⟩:∃u,l[k]? =A u:=⟨l[k]'(by rw[BQ.I];omega),Q2W⟩;rw[show l.getD k []=u by simp[dV,hu]]at iw;have oX:=λhd=>Ck.ac2 gJ u hd;have BM:=vX.I u (nB hu);obtain⟨lb,lo,cs,rfl,_,tC,DU⟩:=(Px.I _ HB.I).get hu;obtain⟨ua,ul,uc,rfl,ru⟩:=tC;have cu:=DU 0 _ rfl;simp only[lA,eL]at cu;have Py:=ru.1.bA;have je:=bZ wr (bQ x.aB x.I x.k x.s x.aG x.aJ x.fz);have pN:=aD wr (bQ x.aB x.I x.k x.s x.aG x.aJ x.fz);have PO:=V (λw' h1=>abS x ua ul uc u w' h1 U (gF U U) (gF U U));have RU:=V ru.1;dsimp only[Lay.cells]at PO
    generalize Ck.lZ x u=r at*;obtain⟨dm,nb⟩:=r;obtain⟨xo,m7⟩:=J wr.heap.size;rw[m7]at je;have i5:(k:Int)<(xl:Int)+1:=U;clear hx hcs gJ hu DU ru ho fH BM Py;go_wp2_with fail;clear m7;generalize li wr (bQ x.aB x.I x.k x.s x.aG x.aJ x.fz)=w5 at*;refine cS (λw':H=>w'.heap[xo]? =A (bQ x.aB x.I x.k x.s x.aG x.aJ x.fz)/\w' ⟨lb,lo+k,G⟩=A (O ua ul uc)) (eE (⟨je,pN.cell_of cu⟩) λhS=>bR hS [0,1,2,3,4] (λ_ h=>aw (bE h.1) (aw h.1 h.2)) ?_);refine bL 5 λK hK=> ?_;go_simp;refine(PO.I _ ((RU.I.below pN).below (below_drewN w5 1))).mono ?_;rintro e' w6 ⟨da,dl,dc,rfl,hb,hr⟩;have cO:ay wr wr w6:=(pN.bI 1).step hb;have bX:(λw':H=>w'.heap[xo]? =A (bQ x.aB x.I x.k x.s x.aG x.aJ x.fz)/\w' ⟨lb,lo+k,G⟩=A (O ua ul uc)) w6:=⟨bV (show w5.drew.heap[xo]? =_ from je) hb,cO.cell_of cu⟩;refine bB hK bX ?_;clear hK K;refine bR bX [6,7,8,9,10] (λ_ h=>aw h.1 h.2) (bW ?_);have pZ:wr.heap.size<=w5.drew.heap.size:=pN.size;have vQ:=V (hr.mono pZ);have eW:=V cO;have EN:=λa l c w=>Vh a l c w;clear hS bX hb je pN cu g0 g1 g2 g3 g4 g5 g6 PO hr cO;obtain⟨po,Ta⟩:=J w6.heap.size;have qP:=bZ w6 (jq G 0 0 0 G 0 0 G 0 0 G 0 0 0 G 0 0);have dR:=aD w6 (jq G 0 0 0 G 0 0 G 0 0 G 0 0 0 G 0 0);rw[Ta]at qP;obtain⟨p0,p1,p2,p3,p4,p5,p6⟩:=bE qP;have z0:=λj=>cE qP j;have hv:=λb (h:v.ownBlock=A b)=>HM.I.2.2.lt b h;rcases vQ.I with⟨hn,rfl,rfl,rfl⟩|⟨hn,db,fK,rfl,VE,hdr⟩
    .have uG:=V (show Ck.tG l au (k+1) (m.L.drop (k+1)) (acc++[bD.nil])=R by have:=iw.I;rwa[aR hn]at this);have vY:=V (HM.I.move iF (P':=λb=>w.heap.size<=b) (ar.cZ (S:=λ_=>False) (eW.I.step dR)) (λb e=>⟨(hv b e).2,id⟩) (λb hb _ ho=>⟨hb,id,ho⟩));have LI:=V (lq.nil (qt (λb=>w.heap.size<=b) v) (li w6 (jq G 0 0 0 G 0 0 G 0 0 G 0 0 0 G 0 0)));have IB:=V (HB.I.step (eW.I.step dR));have VF:B<=(li w6 (jq G 0 0 0 G 0 0 G 0 0 G 0 0 0 G 0 0)).heap.size:=eH nP (eW.I.step dR).size;clear iw vQ hn hv dR p0 p1 p2 p3 p4 p5 p6 z0;go_upto_region 14 with fail;generalize li w6 (jq G 0 0 0 G 0 0 G 0 0 G 0 0 0 G 0 0)=w7 at*;obtain⟨p0,p1,p2,p3,p4,p5,p6⟩:=bE qP;obtain⟨i0,hi,cF,cG,cB⟩:=fB Pq;have kg:=V (show w7.ownsRow B 105 7 v k (CS.flatMap jf)from sK.I▸vY.I.2.2);go_wp2_with (at_builtin;refine ko _ rfl _ _ 46 rfl B 105 i0 (aF #[O G 0 0,Y Z 0,O G 0 0,O G 0 0,O G 0 0,Y Z 0,O G 0 0]) 7 136 underlying46 hi cF cG cB rfl eM v k (CS.flatMap jf) rfl (kg.I.alloc _) ⟨w7,0,G⟩ 1 1 [O G 0 0,Y Z 0,O G 0 0,O G 0 0,O G 0 0,Y Z 0,O G 0 0] rfl rfl ?c1 ?c2 ?c3 ?c4 ?c5 ?c6 ?_)
     try(case c1=>exact xy w7 #[O G 0 0,Y Z 0,O G 0 0,O G 0 0,O G 0 0,Y Z 0,O G 0 0] _)
     try(case c2=>simp[fV])
     try(case c3=>unfold eS;omega)
     try(case c4=>omega)
     try(case c5=>(try simp only[bF]);omega)
     try(case c6=>omega)
     exact Q0C
    .have mL:=V (hdr.below dR);have MS:=V (CI (A ⟨db,fK,G⟩) dl dc dm _ (hdr.below dR));have qv:=V (show(if 0<Sh.size dm then Ck.tG l au (k+1) (m.L.drop (k+1)) (acc++[bD.made dm nb.toNat au ((k+1:Nat):Int)])else(1,[]))=R by have:=iw.I;rwa[aI hn]at this);have xC:=oX hn;have kP:=V (eW.I.step dR);have F4:=V qP;clear iw vQ hdr hn;obtain⟨Z7,hZ⟩:=J (decide (0<Sh.size dm));rw[hZ]at MS;have HZ:=V hZ;clear hZ;go_wp2_with fail;refine cq MS.I ?_
     cases Z7
     .obtain rfl:(1,[])=R:=by rw[<-qv.I,aI (kH HZ.I)]
      go_wp2_with fail;go_ret2
      exact⟨_,_,_,rfl,cH.nil _ _ _ _ _,bu _,K2.F.2.step (HB.I.step kP.I)⟩
     .have dQ:=eZ HZ.I;have uG:=V (show Ck.tG l au (k+1) (m.L.drop (k+1)) (acc++[bD.made dm nb.toNat au ((k+1:Nat):Int)])=R by have:=qv.I;rwa[aR dQ]at this);obtain⟨N,hN⟩:∃N:Nat,nb=N:=⟨nb.toNat,U⟩;subst hN;rw[jx]at uG;have MD:=V (akg (A ⟨db,fK,G⟩) dl dc dm N au (k+1) _ mL.I dQ U HU.I U);have ot:((k+1:Nat):Int)=(k:Int)+1:=U;rw[ot]at MD uG;generalize bD.made dm N au ((k:Int)+1)=p at*;have i7:Z.wrap ((k:Int)+1)=(k:Int)+1:=dv _ U;clear dQ qv ot xC oX dR MS mL p0 p1 p2 p3 p4 p5 p6 z0;have hpw:po<(li w6 (jq G 0 0 0 G 0 0 G 0 0 G 0 0 0 G 0 0)).heap.size:=bH F4.I;generalize li w6 (jq G 0 0 0 G 0 0 G 0 0 G 0 0 0 G 0 0)=w7 at*;go_wp2_with fail;refine MD.I.mono ?_;rintro e' w8 ⟨cs,rfl,qA,hb⟩;have uI:=V qA;obtain⟨a1,l1,k1,a2,l2,k2,a3,l3,k3,a4,l4,k4,a5,l5,k5,rfl,-⟩:=qA;have VG:=bV F4.I hb;obtain⟨p0,p1,p2,p3,p4,p5,p6⟩:=bE VG;have z0:=λj=>cE VG j;have PF:=hb.size;have uJ:=V (kP.I.step hb);have vZ:ar w8 (λb=>b=po) w8 (ss (ss (ss (ss (ss (ss (ss w8 po (O a1 l1 k1)) ⟨po,1,G⟩ (Y Z p.w.e)) ⟨po,2,G⟩ (O a2 l2 k2)) ⟨po,3,G⟩ (O a3 l3 k3)) ⟨po,4,G⟩ (O a4 l4 k4)) ⟨po,5,G⟩ (Y Z p.b.e)) ⟨po,6,G⟩ (O a5 l5 k5)):=(ar.cP w8 (λb=>b=po) w8).vS (aM rfl) _ _ _ _ _ _ _;have vY:=V ((HM.I.move iF (P':=λb=>w.heap.size<=b/\b≠po) (ar.cZ (S:=λ_=>False) uJ.I) (λb e=>⟨(hv b e).2,id⟩) (λb hb _ ho=>⟨hb,id,ho,by have:=eW.I.size;omega⟩)).move iF (P':=λb=>w.heap.size<=b) vZ (λb e=>by have:=hv b e;have:=eW.I.size;exact⟨U,U⟩) (λb hb _ ho=>⟨hb,ho.2,ho.1⟩));have LI:=V (iF.move (fJ:=qt (λb=>w.heap.size<=b) v) uI.I vZ (λb hb ho=>by
       have ho:w7.heap.size<=b:=ho;have h6:=eW.I.size;exact⟨hb,U,λe=>E (hv b e),by have:=K2.F.2.size;have:=HB.I.size;show w.heap.size<=b;omega⟩))
      have IB:=V (Below.gh (HB.I.step uJ.I) vZ (λb hb=>by have:=HB.I.size;have:=uJ.I.size;have:=eW.I.size;exact⟨U,U⟩));have VF:B<=(ss (ss (ss (ss (ss (ss (ss w8 po (O a1 l1 k1)) ⟨po,1,G⟩ (Y Z p.w.e)) ⟨po,2,G⟩ (O a2 l2 k2)) ⟨po,3,G⟩ (O a3 l3 k3)) ⟨po,4,G⟩ (O a4 l4 k4)) ⟨po,5,G⟩ (Y Z p.b.e)) ⟨po,6,G⟩ (O a5 l5 k5)).heap.size:=by simp only[World.size_setCell];have:=uJ.I.size;omega
      have pJ:=FC (y0:=O a1 l1 k1) (y1:=Y Z p.w.e) (y2:=O a2 l2 k2) (y3:=O a3 l3 k3) (y4:=O a4 l4 k4) (y5:=Y Z p.b.e) (y6:=O a5 l5 k5) VG;clear hb vZ MD hv;go_upto_region 14 with fail;clear p0 p1 p2 p3 p4 p5 p6 z0;generalize(ss (ss (ss (ss (ss (ss (ss w8 po (O a1 l1 k1)) ⟨po,1,G⟩ (Y Z p.w.e)) ⟨po,2,G⟩ (O a2 l2 k2)) ⟨po,3,G⟩ (O a3 l3 k3)) ⟨po,4,G⟩ (O a4 l4 k4)) ⟨po,5,G⟩ (Y Z p.b.e)) ⟨po,6,G⟩ (O a5 l5 k5))=VH at*;obtain⟨p0,p1,p2,p3,p4,p5,p6⟩:=bE pJ;obtain⟨i0,hi,cF,cG,cB⟩:=fB Pq;have kg:=V (show VH.ownsRow B 105 7 v k (CS.flatMap jf)from sK.I▸vY.I.2.2);go_wp2_with (at_builtin;refine ko _ rfl _ _ 46 rfl B 105 i0 (aF #[O G 0 0,Y Z 0,O G 0 0,O G 0 0,O G 0 0,Y Z 0,O G 0 0]) 7 136 underlying46 hi cF cG cB rfl eM v k (CS.flatMap jf) rfl (kg.I.alloc _) ⟨VH,0,G⟩ 1 1 [O a1 l1 k1,Y Z p.w.e,O a2 l2 k2,O a3 l3 k3,O a4 l4 k4,Y Z p.b.e,O a5 l5 k5] rfl rfl ?c1 ?c2 ?c3 ?c4 ?c5 ?c6 ?_)
      try(case c1=>exact xy VH #[O a1 l1 k1,Y Z p.w.e,O a2 l2 k2,O a3 l3 k3,O a4 l4 k4,Y Z p.b.e,O a5 l5 k5] _)
      try(case c2=>simp[fV])
      try(case c3=>unfold eS;omega)
      try(case c4=>omega)
      try(case c5=>(try simp only[bF]);omega)
      try(case c6=>omega)
      exact Q0C
   .obtain rfl:k=xl:=U;obtain rfl:(0,acc)=R:=Q3n;obtain⟨va,vc,rfl,LF,iq,-⟩:=HM.I.on iF U (n:=k) sK.I U (ok:=λb=>w.heap.size<=b) (λb hb h=>h) (λb hb h=>U);have lp:=V iq;clear iq;go_wp2_with fail;go_ret2
    exact⟨_,_,_,rfl,lp.I,LF,K2.F.2.step HB.I⟩
 .have hr:(e,[])=R:=by have:=HR.I;rwa[aR he]at this
  subst hr;have e1:(e != 0)=true:=Q3d;go_wp2_with fail;go_ret2
  exact⟨_,_,_,rfl,cH.nil _ _ _ _ _,bu _,K2.F.2⟩
def Dn.wn (q:Dn) (x m:Int) (i:Nat):Int:=x-q.lO m q.h.r 4 i-(if 0<q.h.d then Rd.xe x q.h.d else 0)
def Dn.wl (q:Dn) (z m:ah) (n:Nat):List Int:=dU (λi=>q.wn (z.getD i 0) (m.getD i 0) i) n
theorem acb (q:Dn) (z m:ah) (n:Nat):q.wl z m (n+1)=q.wl z m n++[q.wn (z.getD n 0) (m.getD n 0) n]:=yI _ n
def Dn.big (n:Int):Bool:=decide (127<n)||decide (n< -127)
def Dn.gr (l:ah):Bool:=l.any Dn.big
theorem akw (l:ah) (x:Int):Dn.gr (l++[x])=(Dn.gr l||Dn.big x):=by simp[Dn.gr]
def Dn.fin (g:Bool) (n:Int):Int:=Rd.vB (if g=true then Rd.xe n 1 else n) 8
def Dn.z7 (g:Bool) (l:ah) (n:Nat):List Int:=dU (λi=>Dn.fin g (l.getD i 0)) n
theorem akx (g:Bool) (l:ah) (n:Nat):Dn.z7 g l (n+1)=Dn.z7 g l n++[Dn.fin g (l.getD n 0)]:=yI _ n
def Dn.up (q:Dn) (w:az) (m:ah):Bool:=Dn.gr (q.wl w.z m w.z.length)&&decide (w.e<64)
def Dn.weights (q:Dn) (w:az) (m:ah):az:=⟨w.d,if q.up w m=true then w.e+1 else w.e,Dn.z7 (q.up w m) (q.wl w.z m w.z.length) w.z.length⟩
theorem acd (g:Bool) (n:Int): -127<=Dn.fin g n/\Dn.fin g n<=127:=by
 have:=T.Ko (if g=true then Rd.xe n 1 else n) 8 U U;unfold Dn.fin;omega
theorem ace (q:Dn) (x m:Int) (i:Nat) (h1: -128<=x) (h2:x<=127) (h3: -2147483648<=m) (h4:m<=2147483647): -2147484000<=q.wn x m i/\q.wn x m i<=2147484000:=by
 have hc:=Rd.VM m q.h.r (P.atq q.sd (ZX.stream q.st q.ly 4) i) U U;have hn:=Rd.ac8 x q.h.d U U;unfold Dn.wn Dn.lO;split<;>omega
theorem aky:(aq.info? 2).map (λi=>(i.zero,i.size,i.bytes))=A (A (Y Z 0),1,8):=Q2Q
theorem akz {z:ah} (h:∀x∈z,(cX cr x).wf=true) (i:Nat): -2147483648<=z.getD i 0/\z.getD i 0<=2147483647:=by
 rw[gB];rcases Nat.lt_or_ge i z.length with hi|hi
 .rw[cR hi];exact H5 (h _ (jZ _))
 .rw[List.getElem?_eq_none hi];exact⟨Q3h,Q3h⟩
theorem akA (q:Dn) (b:az) (vb:aj) (ua:aC) (ul uc:Nat) (u:ah) (w:H) (hb:fu aO w vb b) (hm:T.aH b.d b.e b.z) (hu:ai cr w ua ul u) (hl:b.z.length<=ul) (gD:P.Z4 q.sd):
 aA aq 230 #[q.val,vb,O ua ul uc] w (OM aO (q.weights b u) w):=by
 obtain⟨xa,xl,xc,xp,xm,xk,rfl,x0,x1⟩:=hb;have KZ:=V (aE.lj w (pB q.h.b q.h.w q.h.r q.h.m q.h.d q.h.e q.sd q.st q.ly) (bj xa xl xc b.e xp xm xk) (bj G 0 0 0 G 0 0));have KR:=V (x0.bt.and (x1.bt.and hu.bt));obtain⟨yJ,vC,lV,cG⟩:=T.sI hm;have fP:=x0.bA;have jN:=x1.bA;have PG:=V jN;have BM:=hu.eC;have Dc:=hm.2.2.1.1;have vD:=hm.2.2.1.2;have CL:=V (λw h=>Dg xa xl xc b.d w h U U);have OC:=V (λn i w (hi:0<=i/\i<=1000000000)=>ac6 q n q.h.r 4 i w gD hi);have IG:=V x1.wf;have Dx:=V hu.wf;obtain⟨R,hR⟩:=J (q.weights b u);rw[hR];have HR:=V hR;have hmu:xm<=ul:=U;have sC:xm<=8192:=U;have kM:1<=xl:=U;obtain⟨DZ,hDZ⟩:=J (decide (0<q.h.d));have LP:=V hDZ;unfold Dn.val aS;unfold Dn.val at OC;clear hu hR fP jN hl hm;have f0:=bP KZ.F.2.1;obtain⟨B,hB⟩:=J (w.heap.size+1+1+1);have HB:=V hB;clear hB;go_enter func230,ntmps230;go_wp2_with fail;have F5:(li (li (li w (pB q.h.b q.h.w q.h.r q.h.m q.h.d q.h.e q.sd q.st q.ly)) (bj xa xl xc b.e xp xm xk)) (bj G 0 0 0 G 0 0)).heap.size=B:=by simp only[bF];exact HB.I
 have F6:=V F5;clear F5;generalize li (li (li w (pB q.h.b q.h.w q.h.r q.h.m q.h.d q.h.e q.sd q.st q.ly)) (bj xa xl xc b.e xp xm xk)) (bj G 0 0 0 G 0 0)=w3 at*;have K3:=KZ;go_loopw [18,7,8,9,10,11] (λi l g _ _ _ wr=>∃(k:Nat) (vl:aj),k<=xm/\i=Y Z k/\vl=l/\g=aK (Dn.gr (q.wl b.z u k))/\wr.ownsRow B 2 1 vl k ((q.wl b.z u k).map (Y Z))/\ay w3 w3 wr) (λi _ _ _ _ _ _=>xm-(aX i).toNat)
 case atStart=>exact⟨0,_,cK _,rfl,rfl,rfl,gP _ _ _ _,eG _ _⟩
 case round=>
  obtain⟨k,vl,hk,rfl,rfl,rfl,aV,cW⟩:=hrel;have HO:=V aV;have eV:=V cW;clear aV cW;by_cases aT:k<xm
  .have KW:=V (K3.I.step eV.I);have RW:=KR.aQ KW.F.2.2.2;obtain⟨pb,po,rfl,eb⟩:=RW.2.1.cells U;obtain⟨ub,uo,rfl,eu⟩:=RW.2.2.cells U;have cb:=eb k aT;have cu:=eu k U;have hkm:=(show k<u.length by rw[RW.2.2.bA];omega);have hx:=jv IG.I k;have hy:=H5 (Dx.I (u.getD k 0) (by rw[gB,cR hkm];exact jZ _));have HS:=V (acb q b.z u k);have HG:=V (show Dn.gr (q.wl b.z u (k+1))=(Dn.gr (q.wl b.z u k)||Dn.big (q.wn (b.z.getD k 0) (u.getD k 0) k)) by rw[acb,akw]);have iL:=ace q (b.z.getD k 0) (u.getD k 0) k hx.1 hx.2 hy.1 hy.2;have HV:=V (show q.wn (b.z.getD k 0) (u.getD k 0) k=b.z.getD k 0-q.lO (u.getD k 0) q.h.r 4 k-(if 0<q.h.d then Rd.xe (b.z.getD k 0) q.h.d else 0)from rfl);have LM:=Rd.VM (u.getD k 0) q.h.r (P.atq q.sd (ZX.stream q.st q.ly 4) k) U U;have VA:=Rd.ac8 (b.z.getD k 0) q.h.d U U;have NR:=V (Zw (b.z.getD k 0) q.h.d);have VN:=V (λw=>OC.I (u.getD k 0) k w ⟨U,U⟩);have LO:q.lO (u.getD k 0) q.h.r 4 k=Rd.lO (u.getD k 0) q.h.r (P.atq q.sd (ZX.stream q.st q.ly 4) k):=rfl;rw[<-LO]at LM;clear LO eb eu RW hkm;generalize q.wn (b.z.getD k 0) (u.getD k 0) k=v at*;generalize q.lO (u.getD k 0) q.h.r 4 k=cj at*;generalize Rd.xe (b.z.getD k 0) q.h.d=nr at*;generalize b.z.getD k 0=x at*;generalize u.getD k 0=y at*;generalize Dn.gr (q.wl b.z u k)=Z5 at*;obtain⟨x1,x2⟩:=hx;obtain⟨y1,y2⟩:=hy;obtain⟨v1,v2⟩:=iL;have c1: -2147483648<=cj:=U;have c2:cj<=2147483647:=U;have n1: -128<=nr:=U;have n2:nr<=127:=U;clear LM VA;have nQ:Z.wrap (x-cj)=x-cj:=dv _ U;have hku:k<ul:=U;have UZ:Z.wrap x=x:=dv _ U;have F9:Z.wrap y=y:=dv _ U;go_wp2_with fail;have hD:=KW.F.1;refine cS (λw':H=>w'.heap[w.heap.size]? =A (pB q.h.b q.h.w q.h.r q.h.m q.h.d q.h.e q.sd q.st q.ly)/\w' ⟨ub,uo+k,G⟩=A (Y cr y)) (eE (⟨hD,cu⟩) λhS=>bR hS [0,2,3,4,8,11,1,5,9,6,10,7] (λ_ h=>aw (qB h.1) (aw h.1 h.2)) ?_);refine bL 12 λK hK=> ?_;go_simp;refine bY (VN.I _) λw6 hb=> ?_;have cO:ay wr wr w6:=((eG _ wr).bI 1).step hb;refine bB hK (⟨bV hD cO,cO.cell_of cu⟩) ?_;clear hK K;refine bR (⟨bV hD cO,cO.cell_of cu⟩) [13,14] (λ_ h=>aw (qB h.1) (aw h.1 h.2)) (bW ?_);have iT:=V (oh HO.I cO);have eW:=V (eV.I.step cO);have K6:=V (K3.I.step eW.I);clear hS hb hD cb cu HO eV;have f0:=qB K6.F.1;go_upto_if 40 with fail
   go_cut [11] (λa wx=>a=Y Z v/\∃nq,wx=w6.drewN nq)
   case first=>
    cases DZ
    .have hv:x-cj=v:=by rw[HV.I,aI (kH LP.I),Int.sub_zero]
     have Dt:decide (0<q.h.d)=ae:=LP.I;go_wp2_with fail;go_meet
     exact⟨by first|rw[hv]|rfl,0,rfl⟩
    .have hv:x-cj-nr=v:=by rw[HV.I,aR (eZ LP.I)]
     have Dt:decide (0<q.h.d)=true:=LP.I;go_wp2_with (go_at_call 281;refine(NR.I _).mono ?_;rintro e' w' ⟨rfl,nq,rfl⟩)
     go_meet
     exact⟨by first|rfl|rw[hv],nq,rfl⟩
   case rest=>
    obtain⟨rfl,nq,jm⟩:=hcut;have mO:=V (show wc.ownsRow B 2 1 vl k ((q.wl b.z u k).map (Y Z))from jm▸oh iT.I (below_drewN w6 nq));have kP:=V (show ay w3 w3 wc from jm▸eW.I.bI nq);clear jm HV nQ UZ F9;obtain⟨w7,rfl⟩:∃w7:H,w7=wc:=⟨_,rfl⟩;obtain⟨C1,VO⟩:∃C,decide (127<v)=C:=⟨_,rfl⟩;obtain⟨C2,Ga⟩:∃C,decide (v< -127)=C:=⟨_,rfl⟩;have acf:=V (show Dn.big v=(C1||C2) by unfold Dn.big;rw[VO,Ga]);go_upto_region 9 with fail;go_cut [8] (λa wx=>a=aK (Z5||(C1||C2))/\wx=w7)
    case first=>
     cases Z5
     .cases C1
      .exact Q1d
      .exact Q1d
     .exact Q1d
    case rest=>
     obtain⟨rfl,jm⟩:=hcut;rw[jm];clear jm VO Ga;have uE:=V (show Dn.gr (q.wl b.z u (k+1))=(Z5||(C1||C2)) by rw[HG.I,acf.I]);clear HG acf;generalize(Z5||(C1||C2))=G2 at*;obtain⟨i0,hi,cF,cG,cB⟩:=fB aky;have rT:B<=w7:=by have:=kP.I.size;have:=F6.I;omega
     go_upto_region 10 with fail;go_wp2_with (at_builtin;refine ko _ rfl _ _ 362 rfl B 2 i0 (Y Z 0) 1 8 underlying362 hi cF cG cB rfl eM vl k ((q.wl b.z u k).map (Y Z)) rfl (mO.I.alloc _) ⟨w7,0,G⟩ 1 1 [Y Z v] rfl rfl ?c1 ?c2 ?c3 ?c4 ?c5 ?c6 ?_)
     try(case c1=>exact kJ w7 _ _)
     try(case c2=>simp[fV])
     try(case c3=>unfold eS;omega)
     try(case c4=>omega)
     try(case c5=>(try simp only[bF]);omega)
     try(case c6=>omega)
     intro g1 c1 w9 cC bM cN ei fC;have ot:k+1<=xm:=U;have uH:=Below.gh (w0:=w3) kP.I (App.slot (B:=B) rT (λb h=>(mO.I.lt b h).1) bM (λ_=>False)) (λb h=>⟨by have:=F6.I;omega,id⟩);have F7:=V uH;have jP:=V (show w9.ownsRow B 2 1 (O g1 (k+1) c1) (k+1) ((q.wl b.z u (k+1)).map (Y Z))from Q5e);clear cC bM cN ei fC uH;go_wp2_with fail;go_roundw
     case rel=>exact⟨k+1,_,U,Q2T,rfl,by rw[uE.I],jP.I,F7.I⟩
     case measure=>exact Q5q
  .obtain rfl:k=xm:=U;obtain⟨va,vc,rfl,gC⟩:=ai.nJ HO.I (λy hy=>by
    unfold Dn.wl dU at hy;obtain⟨i,_,rfl⟩:=kG.1 hy;have h1:=jv IG.I i;have h2:=akz Dx.I i;have:=ace q (b.z.getD i 0) (u.getD i 0) i h1.1 h1.2 h2.1 h2.2;exact gF U U) U
   have KW:=V (K3.I.step eV.I);have LH:=V gC;have VR:=V (λx (hx:va=A x)=>HO.I.lt x.block Q3b);obtain⟨L,hL⟩:=J (q.wl b.z u k);have HL:=V hL;have uK:L.length=k:=by rw[<-hL];simp[Dn.wl,dU]
   rw[hL]at LH;have hG:Dn.gr (q.wl b.z u k)=Dn.gr L:=by rw[hL]
   rw[hG];obtain⟨Z5,VT⟩:=J (Dn.gr L);rw[VT];have HGG:=V VT;have PE:B<=wr:=by have:=eV.I.size;have:=F6.I;omega
   clear gC hL hG VT uK LP;obtain⟨f0,f1,f2⟩:=bP KW.F.2.1;have R3:=V (KR.aQ KW.F.2.2.2).1;have CW:=V (λwx (b:ay wr wr wx)=>CL.I wx (R3.I.below b));go_upto_region 12 with fail;go_cut [12] (λv wx=>oF 57 b.d xl b.e wr v wx)
   case first=>
    exact Q0A
   case rest=>
    obtain⟨bo,av,cv,rfl,ho,fO,cW,OL,nL⟩:=hcut;obtain⟨w5,rfl⟩:∃w5:H,w5=wc:=⟨_,rfl⟩;have lT:=V ho;have il:=V fO;have K5:=KW.bU cW;have Br:=cW.size;have yF:bo<w5:=bH ho;have arj:w.heap.size+1+1+1<=bo:=E HB.I;have D2:=V (λx (hx:av=A x)=>(show w.heap.size+1+1+1<=x.block/\x.block≠bo from by have:=nL x hx;have:=HB.I;omega));have akB:=V (LH.I.below cW);have wD:=λx (hx:va=A x)=>(VR.I x hx).2;have HVs:=V wD;clear ho fO cW nL LH wD;have g0:=bP K5.F.2.1;obtain⟨ZU,hE⟩:=J (decide (b.e<64));have HE:=V hE;go_upto_region 13 with fail;go_cut [8] (λa wx=>a=aK (Z5&&ZU)/\wx=w5)
    case first=>
     cases Z5
     .exact Q1d
     .go_wp2_with fail;go_meet
      exact⟨by first|rfl|simp[hE],rfl⟩
    case rest=>
     obtain⟨rfl,jm⟩:=hcut;rw[jm];clear jm hE;have HU:=V (show q.up b u=(Z5&&ZU) by unfold Dn.up;rw[PG.I,HL.I,HGG.I,HE.I]);clear HGG HE;generalize(Z5&&ZU)=Z4 at*;obtain⟨e5,he5⟩:=J (if Z4=true then b.e+1 else b.e);have VU:=V he5;have y0:=aY lT.I;go_upto_if 75 with fail
     go_cut [12] (λa wx=>a=aP bo/\wx.heap[bo]? =A (bj av xl cv e5 G 0 0)/\ar w5 (λb=>b=bo) w5 wx)
     case first=>
      cases Z4
      .go_wp2_with fail;go_meet
       exact⟨rfl,by rw[<-VU.I];exact lT.I,ar.cP _ _ _⟩
      .have eI:Z.wrap (b.e+1)=b.e+1:=dv _ U;go_wp2_with fail;go_meet
       exact⟨rfl,by rw[<-VU.I];exact dF lT.I _,(ar.cP w5 (λb=>b=bo) w5).set (aM rfl) _ _⟩
     case rest=>
      obtain⟨rfl,acg,qU⟩:=hcut;obtain⟨w6,rfl⟩:∃w6:H,w6=wc:=⟨_,rfl⟩;have iT:=V acg;have lH:=V qU;have m9:=qU.size;clear acg qU;go_wp2_with fail;obtain⟨C,hC⟩:=J w6.heap.size;have HC:=V hC;clear hC;go_loopw [82,14] (λi _ wr=>∃j:Nat,j<=k/\i=Y Z j/\tB 57 106 aO C bo (O av xl cv) (Y Z e5) j (Dn.z7 Z4 L j) wr/\ar C (λb=>b=bo) w6 wr) (λi _ _=>k-(aX i).toNat)
      case atStart=>exact⟨0,cK _,rfl,⟨_,iT.I,gP _ _ _ _,Q4n⟩,ar.cP _ _ _⟩
      case round=>
       obtain⟨j,hj,rfl,lW,fD⟩:=hrel;have HF:=V lW;have HK:=V fD;clear lW fD;have IJ:bo<C:=E HC.I;by_cases aT:j<k
       .obtain⟨vd,cy,aV,nP⟩:=HF.I;have vK:=V cy;have iR:=V aV;have r1:=HK.I.gH (lH.I.gH akB.I (λx hx h0=>by have:=HVs.I x hx;exact⟨U,U⟩)) (λx hx h0=>by have:=HVs.I x hx;have:=HC.I;exact⟨U,U⟩);obtain⟨pb,po,rfl,eb⟩:=r1.cells U;have cb:=eb j aT;have HS:=V (akx Z4 L j);have iL:=acd Z4 (L.getD j 0);have HV:=V (show Dn.fin Z4 (L.getD j 0)=Rd.vB (if Z4=true then Rd.xe (L.getD j 0) 1 else L.getD j 0) 8 from rfl);have NR:=V (Zw (L.getD j 0) 1);clear eb aV cy;generalize Dn.fin Z4 (L.getD j 0)=v at*;generalize Rd.xe (L.getD j 0) 1=nr at*;generalize L.getD j 0=x at*;obtain⟨v1,v2⟩:=iL;have II:aO.wrap v=v:=Q33;obtain⟨i0,hi,cF,cG,cB⟩:=fB tA;obtain⟨N,hN⟩:=J (if Z4=true then nr else x);rw[hN]at HV;have HN:=V hN;have CP:=V (Sw N 8);rw[<-HV.I]at CP;clear hN;go_upto_if 86 with fail
        go_cut [14] (λa wx=>a=Y Z N/\∃nq,wx=wr.drewN nq)
        case first=>
         cases Z4
         .go_wp2_with fail;go_meet
          exact⟨by rw[<-HN.I];rfl,0,rfl⟩
         .go_wp2_with (go_at_call 281;refine(NR.I _).mono ?_;rintro e' w' ⟨rfl,nq,rfl⟩)
          go_meet
          exact⟨by rw[<-HN.I];rfl,nq,rfl⟩
        case rest=>
         obtain⟨rfl,nq,jm⟩:=hcut;have vM:=V (show wc.heap[bo]? =A (ag #[O av xl cv,Y Z e5,vd] 57 (0,0))from jm▸vK.I);have ach:=V (show wc.ownsRow C 106 1 vd j ((Dn.z7 Z4 L j).map (Y aO))from jm▸oh iR.I (below_drewN wr nq));have rQ:=V (show ar C (λb=>b=bo) w6 wc from jm▸HK.I.bI nq);have hB8:C<=wc:=by rw[jm];exact nP
         obtain⟨w8,rfl⟩:∃w8:H,w8=wc:=⟨_,rfl⟩;clear jm cb HF HK nP HV HN;go_wp2_with fail;obtain⟨_,_,c3,_,_,d2⟩:=aY vM.I;refine Lt.begins (λw':H=>w' ⟨bo,2,G⟩=A vd) (λj=>j==8) kr ?_;have hS:(λw':H=>w' ⟨bo,2,G⟩=A vd) w8.drew:=c3;refine cQ hS [0,2,1] (bL 3 λK hK=> ?_);go_simp;refine cq (CP.I _) ?_;refine bB hK hS ?_;clear hK K;refine cQ hS [4] (bL 5 λK hK=> ?_);go_simp;refine bB hK (fq hS (ag #[Y aO v] 106)) ?_;clear hK K;refine bL 6 λK hK=> ?_;refine step_append_lies _ cJ _ _ _ cJ C 106 i0 _ 1 1 underlying52 hi cF cG cB rfl U vd j ((Dn.z7 Z4 L j).map (Y aO)) cJ (ach.I.drew.alloc _) ⟨w8,0,G⟩ 1 1 [Y aO v] cJ cJ (kJ w8.drew _ _) Q35 U Q2V U Q2R _ rfl ?_;intro g1 fh w7 cC bM cN ei;have dh:=λb (h:vd.ownBlock=A b)=>(ach.I.lt b h).1;have iD:=gI bM (dX (show w8.drew.heap[bo]? =_ from vM.I) _) (λh=>E (dh _ h));have yH:C<=g1:=by
          rcases cN with h|h
          .exact dh _ h
          .have:g1=w8.heap.size+1:=by simpa using h
           omega
         have pG:=V (Ff.step (show w8.drew.heap[bo]? =_ from vM.I) IJ hB8 dh cC bM (rQ.I.bI 1) yH);obtain⟨_,_,Bw,_,_,d3⟩:=aY iD;clear cC bM cN ei dh;refine bB hK Bw ?_;clear hK K;refine cQ Bw [7] (bL 8 λK hK=> ?_);go_simp;refine jg hK ?_;clear hK K;refine bW ?_;clear hS;generalize ss w7 ⟨bo,2,G⟩ (O g1 (j+1) fh)=w9 at*;exact Q0s
       .obtain rfl:j=k:=U;obtain⟨vd,cy,aV,nP⟩:=HF.I;obtain⟨pd,cd,rfl,gC⟩:=ai.nJ aV (λy hy=>by
         unfold Dn.z7 dU at hy;obtain⟨i,_,rfl⟩:=kG.1 hy;have:=acd Z4 (L.getD i 0);exact yw U U) U
        have mN:=V gC;have jJ:=V (λx (hx:pd=A x)=>(aV.lt x.block Q3b).1);have jK:=V (HK.I.bC (E HC.I) U (lH.I.bC U U K5.F.2.2.1));have qM:=V (HK.I.gH (lH.I.gH il.I (λx hx h0=>⟨il.I.bC h0 hx,(D2.I x hx).2⟩)) (λx hx h0=>⟨by have h1:=il.I.bC h0 hx;have h2:=HC.I;omega,(D2.I x hx).2⟩));have jV:=V (Below.gh (Below.gh K5.F.2.2.2 lH.I (λb hb=>⟨U,U⟩)) HK.I (λb hb=>⟨by have:=HC.I;omega,U⟩));have e:R=⟨b.d,e5,Dn.z7 Z4 L j⟩:=by rw[<-HR.I];unfold Dn.weights;rw[HU.I,PG.I,HL.I,VU.I]
        subst e;have y0:=aY cy;have g0:=aY jK.I;have hCC:=HC.I;clear aV cy gC hCC;go_wp2_with fail;refine aZ (v:=aF #[O av xl cv,Y Z e5,O pd j cd]) ?_ rfl ⟨_,rfl,⟨_,_,_,_,_,_,rfl,?_,?_,(λx hx=>E ((D2.I x hx).1)),(λx hx=>by have:=jJ.I x hx;have:=HC.I;omega)⟩,cL jV.I U _ _ _⟩
        .simp[aW,results230,go_sem,cT jK.I]
        .exact qM.I.eJ (λx hx=>E ((D2.I x hx).1))
        .exact mN.I.eJ (λx hx=>by have:=jJ.I x hx;have:=HC.I;omega)
theorem aci (t:az) (v:aj) (w:H) (h:fu aO w v t) (hd:t.d.length<=1000000000) (hz:t.z.length<=1000000000):aA aq 225 #[v] w (OM aO t w):=by
 obtain⟨xa,xl,xc,xp,xm,xk,rfl,x0,x1⟩:=h;have KB:=V (aE.fG w (bj xa xl xc t.e xp xm xk) (bj G 0 0 0 G 0 0));have KR:=V (x0.bt.and x1.bt);have C6:=V (λw h=>(Fc xa xl xc t.d w h (by rw[<-x0.bA];exact hd)).mono λ_ _ g=>g.fresh x0.wf (by rw[x0.bA]at hd;omega));have C8:=V (λw h=>(aaB xp xm xk t.z w h (by rw[<-x1.bA];exact hz)).mono λ_ _ g=>g.fresh x1.wf (by rw[x1.bA]at hz;omega));unfold aS;clear x0 x1 hd hz;go_enter func225,ntmps225;go_wp2_with fail;generalize li (li w (bj xa xl xc t.e xp xm xk)) (bj G 0 0 0 G 0 0)=w1 at*;refine cS (λw':H=>w'.heap[w.heap.size]? =A (bj xa xl xc t.e xp xm xk)) (eE KB.F.1 λhS=>bR hS [0,3,5,1,4,6] (λ_ h=>bP h) ?_);refine bL 2 λK hK=> ?_;go_simp;refine(C6.I _ ((KR.aQ KB.F.2.2).1.below (below_drewN w1 1))).mono ?_;rintro e' w2 ⟨a,c,rfl,hr,hn,hb⟩;have K2:=V ((KB.I.bI 1).step hb);have HA:=V hr.bt;have VX:=V (λx hx=>(show w.heap.size+1<x.block from iP (bH KB.F.2.1) (hn x hx).1));clear hr hn;refine cY hK K2.F.1 7 λK hK=> ?_;go_simp;refine(C8.I _ (KR.aQ K2.F.2.2).2).mono ?_;rintro e' w3 ⟨a8,c8,rfl,yP,Hv,ej⟩;have K3:=K2.bU ej;have xG:=V (HA.I.step ej);have HA8:=V yP;have akE:=V (λx hx=>(show w.heap.size+1<x.block from iP (bH K2.F.2.1) (Hv x hx).1));have r0:=aY K3.F.2.1;refine bB hK K3.F.1 ?_;refine bR K3.F.1 [8] (λ_ h=>bP h) (bL 9 λK hK=> ?_);go_simp;refine bB hK (jQ K3.F.1 U) ?_;refine bW ?_;clear hS;have hh0:=VX.I;have hh8:=akE.I;go_wp2_with fail;refine aZ (v:=aF #[O a xl c,Y Z t.e,O a8 xm c8]) ?_ rfl ⟨_,rfl,⟨_,_,_,_,_,_,rfl,?_,?_,(λx hx=>E (hh0 x hx)),(λx hx=>E (hh8 x hx))⟩,cL K3.F.2.2 U _ _ _⟩
 .simp[aW,results225,go_sem,cT K3.F.2.1]
 .exact xG.I.aN.eJ (λx hx=>E (hh0 x hx))
 .exact HA8.I.eJ (λx hx=>E (hh8 x hx))
structure fQ where
 has:Bool
 w:az
 b:az
def fQ.none:fQ:=⟨ae,az.zero,az.zero⟩
def mS (ok:Nat->Prop) (u:H) (cs:Array aj) (g:fQ):Prop:=∃a1 l1 c1 a2 l2 c2 a4 l4 c4 a5 l5 c5,
 cs=#[aK g.has,O a1 l1 c1,Y Z g.w.e,O a2 l2 c2,O a4 l4 c4,Y Z g.b.e,O a5 l5 c5]/\
 fR ok Z u a1 l1 g.w.d/\fR ok cr u a2 l2 g.w.z/\fR ok Z u a4 l4 g.b.d/\fR ok cr u a5 l5 g.b.z
theorem rX:Carry mS 7 where
 size:=by
  rintro ok w cs x ⟨a1,l1,c1,a2,l2,c2,a4,l4,c4,a5,l5,c5,rfl,_⟩;rfl
 one:=by
  rintro ok w cs x ⟨a1,l1,c1,a2,l2,c2,a4,l4,c4,a5,l5,c5,rfl,_⟩;simp[fV]
 move:=by
  rintro ok fJ w w' cs x B S ⟨a1,l1,c1,a2,l2,c2,a4,l4,c4,a5,l5,c5,rfl,h1,h2,h4,h5⟩ kp hk;exact⟨a1,l1,c1,a2,l2,c2,a4,l4,c4,a5,l5,c5,rfl,h1.move kp hk,h2.move kp hk,h4.move kp hk,h5.move kp hk⟩
namespace ZY
def y7 (p:bD) (g:fQ):Int:=
 if(p.w.ok&&(p.b.ok&&(decide (T.oE g.w.d g.w.e g.w.z)&&(decide (T.oE g.b.d g.b.e g.b.z)&&(decide (p.m.length=p.w.z.length)&& !(p.m.any ZX.ni))))))=true then
  (if decide (g.w.d=p.w.d)=true then(if decide (g.b.d=p.b.d)=true then 0 else 2)else 2)else 1
end ZY
theorem akF (p:bD) (g:fQ) (cs gs:Array aj) (ok:Nat->Prop) (w:H) (hp:jL w cs p) (hg:mS ok w gs g):aA aq 227 #[aF cs,aF gs] w (dZ (Y Z (ZY.y7 p g)) w):=by
 obtain⟨a1,l1,c1,a2,l2,c2,a3,l3,c3,a4,l4,c4,a5,l5,c5,rfl,p1,p2,p3,p4,p5⟩:=hp;obtain⟨e1,m1,d1,e2,m2,d2,e4,m4,d4,e5,m5,d5,rfl,g1,g2,g4,g5⟩:=hg;have KB:=V (aE.fG w (jq a1 l1 c1 p.w.e a2 l2 c2 a3 l3 c3 a4 l4 c4 p.b.e a5 l5 c5) (tZ g.has e1 m1 d1 g.w.e e2 m2 d2 e4 m4 d4 g.b.e e5 m5 d5));have KR:=V ((p1.bt.and (p2.bt.and (p3.bt.and (p4.bt.and p5.bt)))).and (g1.1.bt.and (g2.1.bt.and (g4.1.bt.and g5.1.bt))));have M1:=V (jr a1 l1 c1 p.w.d p.w.e a2 l2 c2 p.w.z);have M2:=V (jr a4 l4 c4 p.b.d p.b.e a5 l5 c5 p.b.z);have M3:=V (Km e1 m1 d1 g.w.d g.w.e e2 m2 d2 g.w.z);have M4:=V (Km e4 m4 d4 g.b.d g.b.e e5 m5 d5 g.b.z);have M5:=V (aiu a3 l3 c3 p.m);have M6:=V (Hg e1 m1 d1 g.w.d a1 l1 c1 p.w.d);have M7:=V (Hg e4 m4 d4 g.b.d a4 l4 c4 p.b.d);obtain⟨R,hR⟩:=J (ZY.y7 p g);rw[hR];unfold ZY.y7 az.ok at hR;rw[p3.bA,p2.bA]at hR;have zN:=p3.eC;have j8:=p2.eC;obtain⟨Z3,hA⟩:=J (decide (T.aH p.w.d p.w.e p.w.z));obtain⟨B,hB⟩:=J (decide (T.aH p.b.d p.b.e p.b.z));obtain⟨C,hC⟩:=J (decide (T.oE g.w.d g.w.e g.w.z));obtain⟨D,hD⟩:=J (decide (T.oE g.b.d g.b.e g.b.z));obtain⟨ZU,hE⟩:=J (decide (l3=l2));obtain⟨Z5,hG⟩:=J (p.m.any ZX.ni);obtain⟨ZW,hH⟩:=J (decide (g.w.d=p.w.d));obtain⟨Z9,hI⟩:=J (decide (g.b.d=p.b.d));rw[hA,hB,hC,hD,hE,hG,hH,hI]at hR;rw[hA]at M1;rw[hB]at M2;rw[hC]at M3;rw[hD]at M4;rw[hG]at M5;rw[hH]at M6;rw[hI]at M7;have he:((l3:Int) != (l2:Int))= !ZU:=by rw[<-hE];by_cases h:l3=l2<;>simp[h];omega
 have HR:=V hR;unfold aS at M1 M2 M3 M4;clear p2 p3 hA hB hC hD hE hG hH hI hR;have f0:=bE KB.F.1;go_enter func227,ntmps227;go_wp2_with fail;refine bY (M1.I _ (KR.aQ KB.F.2.2).1.1 (KR.aQ KB.F.2.2).1.2.1) λw1 hb=> ?_;have K1:=KB.bU hb;clear hb M1;have f0:=bE K1.F.1
 cases Z3
 .obtain rfl:1=R:=HR.I;go_wp2_with fail;go_ret;exact⟨rfl,K1.F.2.2⟩
 go_wp2_with fail;refine bY (M2.I _ (KR.aQ K1.F.2.2).1.2.2.2.1 (KR.aQ K1.F.2.2).1.2.2.2.2) λw2 hb=> ?_;have K2:=K1.bU hb;clear hb M2;have f0:=bE K2.F.1;have g0:=bE K2.F.2.1
 cases B
 .obtain rfl:1=R:=HR.I;go_wp2_with fail;go_ret;exact⟨rfl,K2.F.2.2⟩
 go_wp2_with fail;refine bY (M3.I _ (KR.aQ K2.F.2.2).2.1 (KR.aQ K2.F.2.2).2.2.1) λw3 hb=> ?_;have K3:=K2.bU hb;clear hb M3;have g0:=bE K3.F.2.1
 cases C
 .obtain rfl:1=R:=HR.I;go_wp2_with fail;go_ret;exact⟨rfl,K3.F.2.2⟩
 go_wp2_with fail;refine bY (M4.I _ (KR.aQ K3.F.2.2).2.2.2.1 (KR.aQ K3.F.2.2).2.2.2.2) λw4 hb=> ?_;have K4:=K3.bU hb;clear M4;have f0:=bE K4.F.1;have g0:=bE K4.F.2.1
 cases D
 .obtain rfl:1=R:=HR.I;exact Q20
 cases ZU
 .obtain rfl:1=R:=HR.I;have vD:((l3:Int) != (l2:Int))=true:=he;clear he;exact Q20
 have vD:((l3:Int) != (l2:Int))=ae:=he;clear he;go_wp2_with fail;refine cq (M5.I _ (KR.aQ K4.F.2.2).1.2.2.1) ?_
 cases Z5
 .go_wp2_with fail;refine(M6.I _ (KR.aQ K4.F.2.2).2.1 (KR.aQ K4.F.2.2).1.1).mono ?_;rintro e' w5 ⟨rfl,n5,hq⟩;have K5:=V (show aE w5 _ from hq▸K4.I.bI n5);clear hq K4;have f0:=bE K5.F.1;have g0:=bE K5.F.2.1
  cases ZW
  .obtain rfl:2=R:=HR.I;go_wp2_with fail;go_ret;exact⟨rfl,K5.F.2.2⟩
  go_wp2_with fail;refine(M7.I _ (KR.aQ K5.F.2.2).2.2.2.1 (KR.aQ K5.F.2.2).1.2.2.2.1).mono ?_;rintro e' w6 ⟨rfl,n6,hq⟩;have K6:=V (show aE w6 _ from hq▸K5.I.bI n6);clear hq
  cases Z9
  .obtain rfl:2=R:=HR.I;go_wp2_with fail;go_ret;exact⟨rfl,K6.F.2.2⟩
  .obtain rfl:0=R:=HR.I;go_wp2_with fail;go_ret;exact⟨rfl,K6.F.2.2⟩
 .obtain rfl:1=R:=HR.I;exact Q20
end
end Go.Proofs.YtcpmhoodeieanaaGreatDoor
