/-
  Part 7 of the proof that TopAsk answers true: laws of the functions that it calls, on any memory that holds their arguments.
-/
import Derived.Test.YtcpmhoodeieanaaGreatDoorZE
import Derived.RangeFuncBox
import Derived.RangeFuncLeaves
import Derived.Shelf.Abstract
import Derived.TacticsInMore
import Derived.LoopNIn
import Derived.LoopIn
import Derived.BigRegionIn
import Derived.Lib.AppendZeros
set_option maxRecDepth 100000
set_option maxHeartbeats 20000000
set_option linter.unusedVariables false
set_option linter.unusedSimpArgs false
open Go.Lib renaming hid→V
open Go.IntKind renaming i64→Z,i8→aO
open Go.Value renaming int→Y,slice→O,agg→aF,bool→aK,tuple→aL,pointer→aP
open Option renaming none→G,some→A
open Go renaming World→H,Value→aj,Calls→aA,results→aW,bodyPost_ret→aZ,lt_of_block→bH,heap_alloc_new→bZ,TypeId→dy,maxLen→eS,info_parts→fB,step_append_lies→lM
open Bool renaming false→ae
open Go.Obj renaming cells→ag
open Go.Proofs.Tryz renaming prog→aq
open And renaming intro→aw
open Go.RowKit renaming Below→ay,intOf→aX
open Or renaming inl→aM,inr→bJ
open Nat renaming le_refl→bu,zero_le→cK,le_trans→eH,add_zero→eL,lt_of_lt_of_le→iP,mul_one→lA,zero_add→nF,mul_le_mul_right→nZ
open Go.World renaming size_alloc→bF
open Go.Ending renaming returned→bG
open List renaming getElem?_eq_getElem→cR,getD→dV,getElem?_eq_some_iff→fX,getD_eq_getElem?_getD→gB,length_map→ib,range→iz,mem_cons→jy,getElem_mem→jZ,mem_append→kE,map_append→kF,mem_map→kG,getD_cons_zero→nC,getD_cons_succ→n7,length_cons→n8,take_of_length_le→oQ,drop_eq_nil_iff→sx,drop_eq_getElem_cons→tX
open Go.Lit renaming int→cX
open Go.RowKit.Below renaming refl→eG
open Go.Value renaming oneCell'→fV
open Go.World renaming ownsRow_nil→gP,size_setCell→jR,setCell→ss,alloc→li
open Int renaming toNat_natCast→jx,toNat_of_nonneg→pR,mul_le_mul_of_nonneg_right→vv
open Go.Exit renaming inBlock→j6
open Go.IntKind renaming signed→nD,bits→nG
open Decidable renaming byContradiction→oP
namespace Go.Proofs.YtcpmhoodeieanaaGreatDoor
open Go.RowKit Go.Proofs.Tryz
variable {w w' wx:H} {e v x:Int} {qr:List (List Int)} {b bo c i k:Nat} {f:Nat->Int} {a:aC} {X d l ls:ah} {y:az}
section
attribute [local go_sem ↓] wp_at_zero wp_at_succ
namespace L
def below (n e:Int):Int:=if n=0 then 0 else if 4<=e then 15 else if 0<=e then min 15 (n*2 ^ e.toNat)else min 15 (n/2 ^ (min (-e) 62).toNat)
theorem Hz {n:Int} (h:0<=n):0<=below n e/\below n e<=15:=by
 unfold below;split
 .omega
 split
 .omega
 split
 .have:0<=n*2 ^ e.toNat:=Int.mul_nonneg h (Int.le_of_lt (Int.pow_pos U));omega
 .have:0<=n/2 ^ (min (-e) 62).toNat:=Int.ediv_nonneg h (Int.le_of_lt (Int.pow_pos U));omega
def most (l:ah):Int:=l.foldl max (l.getD 0 0)
def part (l:ah) (e n:Int):Int:=2 ^ (15-below (most l-n) e).toNat
def BZ (e:Int):Int:=max (-64) (min e 64)
def pt (l:ah) (e:Int) (i:Nat):Int:=part l (BZ e) (l.getD i 0)
def rY (f:Nat->Int):Nat->Int
 |0=>0
 |k+1=>rY f k+f k
def sv (l:ah) (e:Int) (i:Nat):Int:=pt l e i*127/rY (pt l e) l.length
def soft (l:ah) (e:Int):List Int:=if l.length<1\/10<l.length then[]else dU (sv l e) l.length
theorem acr (h:∀x∈l,x<=most l) (hi:i<l.length):1<=pt l e i/\pt l e i<=32768:=by
 unfold pt part;have hx:l.getD i 0<=most l:=h _ (by rw[gB,cR hi];exact jZ _);have hb:=Hz (n:=most l-l.getD i 0) (e:=BZ e) U;obtain⟨T,hT⟩:∃T:Nat,15-below (most l-l.getD i 0) (BZ e)=T:=⟨_,(pR U).symm⟩;rw[hT,jx];have acs:T<=15:=U;have h1:=Rd.pow_pos T;have h2:=Rd.Hl acs;rw[show(2:Int) ^ 15=32768 by decide]at h2;omega
theorem V5:∀{n:Nat},(∀i,i<n->1<=f i/\f i<=32768)->(n:Int)<=rY f n/\rY f n<=32768*(n:Int)
 |0,_=>by simp[rY]
 |n+1,h=>by
  have h1:=V5 (n:=n) (λi hi=>h i U);have h2:=h n U;show((n+1:Nat):Int)<=rY f n+f n/\rY f n+f n<=32768*((n+1:Nat):Int)
  omega
theorem V6:∀{n:Nat} {k:Nat},(∀i,i<n->1<=f i)->k<n->f k<=rY f n
 |n+1,k,h,hk=>by
  show f k<=rY f n+f n
  have hn:=h n U;rcases Nat.lt_or_ge k n with aT|lG
  .have:=V6 (n:=n) (k:=k) (λi hi=>h i U) aT;omega
  .obtain rfl:k=n:=U;have:0<=rY f k:=by
    clear hk lG hn;induction k with
    |zero=>simp[rY]
    |succ m ih=>
     have:=h m U;have:=ih (λi hi=>h i U);show 0<=rY f m+f m
     omega
   omega
theorem al7 (g p:Nat->Int) (n:Nat) (h:k<n):(dU g k++(dU p n).drop k).set k (g k)=dU g (k+1)++(dU p n).drop (k+1)/\(dU g k++(dU p n).drop k).getD k 0=p k:=by
 have hl:(dU g k).length=k:=by simp[dU]
 have hd:(dU p n).drop k=p k::(dU p n).drop (k+1):=by
  rw[tX (by simpa[dU]using h)];simp[dU]
 rw[hd,yI];constructor
 .rw[List.set_append_right _ _ U,hl];simp
 .rw[gB,List.getElem?_append_right U,hl];simp
end L
theorem al8 (n e:Int) (w:H) (h0:0<=n) (h1:n<=255) (h2: -64<=e) (h3:e<=64):aA aq 217 #[Y Z n,Y Z e] w λr w'=>r=bG (Y Z (L.below n e))/\w=w':=by
 obtain⟨R,hR⟩:=J (L.below n e);rw[hR];unfold L.below at hR;by_cases c0:n=0
 .rw[aR c0]at hR;subst c0 hR;go_enter func217,ntmps217;exact Q0S
 rw[aI c0]at hR;have b0:(n==0)=ae:=by simpa using c0
 by_cases c1:4<=e
 .rw[aR c1]at hR;subst hR;have d1:decide (4<=e)=true:=Q45;go_enter func217,ntmps217;exact Q0S
 rw[aI c1]at hR;have d1:decide (4<=e)=ae:=Q45;by_cases c2:0<=e
 .rw[aR c2]at hR;have d2:decide (0<=e)=true:=Q44;obtain⟨k,rfl⟩:∃k:Nat,e=k:=⟨e.toNat,U⟩;rw[jx]at hR;have hk:k=0\/k=1\/k=2\/k=3:=U;have HR:=V hR;clear hR c1 c0 c2;rcases hk with rfl|rfl|rfl|rfl
  all_goals
   go_enter func217,ntmps217;go_wp2_with fail;go_ret;exact⟨jS (by rw[<-HR.I];simp),rfl⟩
 .rw[aI c2]at hR;have d2:decide (0<=e)=ae:=Q44;have c3:e<0:=U;have HR:=V hR;clear hR c1 c0 c2;obtain⟨T,hT⟩:∃T:Nat,min (-e) 62=T:=⟨(min (-e) 62).toNat,(pR U).symm⟩;have ars:T<=62:=U;have cU:=V (show min 15 (n/2 ^ T)=R by have:=HR.I;rwa[hT,jx]at this);clear HR;go_enter func217,ntmps217;go_wp2_with fail;go_ret;exact⟨jS cU.I,rfl⟩
theorem al9 (h:(cX aO x).wf=true): -128<=x/\x<=127:=by
 exact Q1s
theorem ala (l:ah) (x s:Int):(l++[x]).foldl max s=max (l.foldl max s) x:=by simp[List.foldl_append]
theorem acu:∀(l:ah) (s:Int),s<=l.foldl max s/\∀x∈l,x<=l.foldl max s
 | [],s=>⟨Int.le_refl _,λx h=>Q4b⟩
 |y::l,s=>by
  have h:=acu l (max s y);refine⟨by show s<=l.foldl max (max s y);omega,λx hx=> ?_⟩;rcases jy.1 hx with rfl|hx
  .show x<=l.foldl max (max s x);omega
  .exact h.2 x hx
theorem acv:∀(l:ah) (s:Int),l.foldl max s=s\/l.foldl max s∈l
 | [],s=>aM rfl
 |y::l,s=>by
  rcases acv l (max s y)with h|h
  .rcases Int.le_total s y with h1|h1
   .right;have:max s y=y:=U;show l.foldl max (max s y)∈_
    rw[h,this];simp
   .left;have:max s y=s:=U;show l.foldl max (max s y)=s
    rw[h,this]
  .right;exact List.mem_cons_of_mem _ h
theorem L.alb (h:0<l.length):L.most l∈l:=by
 unfold L.most;have h0:l.getD 0 0∈l:=by
  rw[gB,cR h];exact jZ _
 rcases acv l (l.getD 0 0)with e|e
 .rw[e];exact h0
 .exact e
theorem L.V7 (h:x∈l):x<=L.most l:=(acu l _).2 x h
theorem acw (a:aC) (l c:Nat) (z:ah) (w:H) (h:ai aO w a l z) (hl:0<l):aA aq 148 #[O a l c] w λe w'=>e=bG (Y aO (L.most z))/\w=w':=by
 have ik:=h.eC;have HL:=V h.bA;obtain⟨b,off,rfl,e0⟩:=h.cells hl;have c0:=e0 0 hl;have H0:=V e0;have kM:((l:Int)<1)=False:=Q2R;obtain⟨R,hR⟩:=J (L.most z);rw[hR];have HR:=V hR;have hx:=jv h.wf 0;obtain⟨X,hX⟩:=J (z.getD 0 0);have HX:=V hX;rw[hX]at c0;simp only[eL]at c0;have hd:decide ((l:Int)<1)=ae:=Q2R;have Kv:decide (l<1)=ae:=Q2R;clear e0 h hR hX kM hx;go_enter func148,ntmps148;go_wp2_with fail;clear c0 hd Kv;go_loop [4,3] (λi m=>∃k:Nat,1<=k/\k<=l/\i=Y Z k/\m=Y aO ((z.take k).foldl max X)) (λi _=>l-(aX i).toNat)
 case atStart=>
  refine⟨1,U,hl,rfl,?_⟩;have:z.take 1=[X]:=by
   have hz:0<z.length:=by rw[HL.I];exact hl
   rw[<-HX.I]
   match z,hz with
   |y::t,_=>simp
  rw[this];show _=Y aO (max X X)
  rw[Int.max_self]
 case round=>
  obtain⟨k,ot,hk,rfl,rfl⟩:=hrel;by_cases aT:k<l
  .have ck:=H0.I k aT;have HS:=V (show(z.take (k+1)).foldl max X=max ((z.take k).foldl max X) (z.getD k 0) by rw[T.yz Q30,ala]);generalize(z.take k).foldl max X=m at*;generalize z.getD k 0=y at*;go_wp2_with fail;go_round
   case rel=>exact⟨k+1,U,U,Q2T,Q55⟩
   case measure=>exact Q5q
  .obtain rfl:k=l:=U;have HZ:=V (show(z.take k).foldl max X=R by rw[oQ Q3k,<-HR.I,<-HX.I];rfl);go_wp2_with fail;go_ret;exact⟨by rw[HZ.I];rfl,rfl⟩
theorem alc (a:aC) (l c:Nat) (z:ah) (e:Int) (w:H) (h:ai aO w a l z):aA aq 188 #[O a l c,Y Z e] w (qL Z 3 (L.soft z e).length (L.soft z e) w):=by
 have ik:=h.eC;have DJ:=h.bA;obtain⟨R,hR⟩:=J (L.soft z e);rw[hR];unfold L.soft at hR;rw[DJ]at hR;by_cases c1:l<1
 .rw[aR (aM c1)]at hR;subst hR;have d1:decide (l<1)=true:=Q45;exact Q1U
 have d1:decide (l<1)=ae:=Q45;by_cases c2:10<l
 .rw[aR (bJ c2)]at hR;subst hR;have d2:decide (10<l)=true:=Q44;exact Q1U
 have d2:decide (10<l)=ae:=Q44;rw[aI U]at hR;have HR:=V hR;have xH:=V DJ;have MX:=V (λw h=>acw a l c z w h U);have KR:=V h.bt;have HW:=V h.wf;have HG:=V (λx hx=>L.V7 (l:=z) (x:=x) hx);have hmi:=L.alb (l:=z) U;have Uc:=al9 (h.wf _ hmi);have BL:=V al8;have HP:=V (λi (hi:i<l)=>L.acr (l:=z) (e:=e) (i:=i) (λx hx=>L.V7 hx) U);have LQ:=V (λi=>show L.pt z e i=2 ^ (15-L.below (L.most z-z.getD i 0) (L.BZ e)).toNat from rfl);have hce: -64<=L.BZ e/\L.BZ e<=64:=by unfold L.BZ;omega
 have hcv:max (-64) (min e 64)=L.BZ e:=rfl;obtain⟨M,hM⟩:=J (L.most z);rw[hM]at MX HG Uc LQ;obtain⟨ZU,hE⟩:=J (L.BZ e);rw[hE]at hce hcv LQ;obtain⟨m1,m2⟩:=Uc;obtain⟨e1,e2⟩:=hce;have kM:1<=l:=U;have art:l<=10:=U;clear h hR DJ hmi hM hE c1 c2;go_enter func188,ntmps188;go_wp2_with fail;refine cq (MX.I _ KR.F) ?_;go_wp2_with fail;clear hcv d1 d2 MX;obtain⟨B,hB⟩:=J w.heap.size;have HB:=V hB;clear hB;go_loopw [28,6,7,9,10] (λi o s _ _ wr=>∃(k:Nat) (v:aj),k<=l/\i=Y Z k/\v=o/\s=Y Z (L.rY (L.pt z e) k)/\wr.ownsRow B 3 1 v k ((dU (L.pt z e) k).map (Y Z))/\ay w w wr) (λi _ _ _ _ _=>l-(aX i).toNat)
 case atStart=>exact⟨0,_,cK _,rfl,rfl,rfl,gP _ _ _ _,eG _ _⟩
 case round=>
  obtain⟨k,v,hk,rfl,rfl,rfl,aV,cW⟩:=hrel;have HO:=V aV;have eV:=V cW;clear aV cW;have sH:=L.V5 (f:=L.pt z e) (n:=k) (λi hi=>HP.I i U);by_cases aT:k<l
  .obtain⟨b,off,rfl,e0⟩:=(KR.aQ eV.I).cells U;have ck:=e0 k aT;have hx:=jv HW.I k;have lG:=HG.I (z.getD k 0) (by rw[gB,cR (show k<z.length by rw[xH.I];exact aT)];exact jZ _);have hp:=HP.I k aT;have y9:=LQ.I k;have HS:=V (yI (L.pt z e) k);have HT:=V (show L.rY (L.pt z e) (k+1)=L.rY (L.pt z e) k+L.pt z e k from rfl);have HPE:=V y9;clear e0 y9;generalize L.pt z e k=p at*;generalize L.rY (L.pt z e) k=s at*;generalize z.getD k 0=x at*;have gN:=L.Hz (n:=M-x) (e:=ZU) U;have BX:=V (λw=>BL.I (M-x) ZU w U U e1 e2);generalize L.below (M-x) ZU=y at*;obtain⟨T,hT⟩:∃T:Nat,15-y=T:=⟨_,(pR U).symm⟩;have ald:=V (show p=2 ^ T by rw[HPE.I,hT,jx]);have acs:T<=15:=U;obtain⟨x1,x2⟩:=hx;obtain⟨p1,p2⟩:=hp;obtain⟨s1,s2⟩:=sH;obtain⟨y1,y2⟩:=gN;have Kw:wrap64 (2 ^ T)=p:=by rw[<-ald.I];unfold wrap64;omega
   have ot:k+1<=l:=U;clear HPE;go_wp2_with fail;refine cq (BX.I _) ?_;go_upto_region 11 with fail;obtain⟨i0,hi,cF,cG,cB⟩:=fB Dp;have PE:B<=wr:=by have:=eV.I.size;have:=HB.I;omega
   go_wp2_with (at_builtin;refine ko _ rfl _ _ 55 rfl B 3 i0 (Y Z 0) 1 8 underlying55 hi cF cG cB rfl eM v k ((dU (L.pt z e) k).map (Y Z)) rfl (HO.I.alloc _) ⟨wr,0,G⟩ 1 1 [Y Z p] rfl rfl ?c1 ?c2 ?c3 ?c4 ?c5 ?c6 ?_)
   try(case c1=>exact kJ wr _ _)
   try(case c2=>simp[fV])
   try(case c3=>unfold eS;omega)
   try(case c4=>omega)
   try(case c5=>(try simp only[bF]);omega)
   try(case c6=>omega)
   intro g1 c1 w9 cC bM cN ei fC;have F7:=V (Below.gh (w0:=w) eV.I (App.slot (B:=B) PE (λb h=>(HO.I.lt b h).1) bM (λ_=>False)) (λb h=>⟨by have:=HB.I;omega,id⟩));have jP:=V (show w9.ownsRow B 3 1 (O g1 (k+1) c1) (k+1) ((dU (L.pt z e) (k+1)).map (Y Z))from Q5e);clear cC bM cN ei fC Kw;go_wp2_with fail;go_roundw
   case rel=>exact⟨k+1,_,U,Q2T,rfl,by rw[HT.I],jP.I,F7.I⟩
   case measure=>exact Q5q
  .obtain rfl:k=l:=U;obtain⟨g,cc,rfl⟩:∃g cc,v=O (A ⟨g,0,G⟩) k cc:=by
    rcases HO.I.2 with⟨_,h0⟩|⟨g,cc,_,h0,_⟩
    .omega
    .exact⟨g,cc,h0⟩
   obtain⟨S,hS⟩:=J (L.rY (L.pt z e) k);rw[hS]at sH;rw[hS];have HSv:=V (λi=>show L.sv z e i=L.pt z e i*127/S by unfold L.sv;rw[xH.I,hS]);have Fy:=V (λi (hi:i<k)=>show L.pt z e i<=S from hS▸L.V6 (λi hi=>(HP.I i hi).1) hi);have HO0:=V (show wr.ownsRow B 3 1 (O g k cc) k ((dU (L.sv z e) 0++(dU (L.pt z e) k).drop 0).map (Y Z))from HO.I);obtain⟨s1,s2⟩:=sH;have zI:=(HO.I.lt g rfl).1;clear hS HO;go_wp2_with fail;obtain⟨wo,V8⟩:=Sd wr;rw[<-V8]at HO0 eV;have HWo:=V V8;clear V8;go_loopw [50,11] (λi _ wr=>∃(j:Nat),j<=k/\i=Y Z j/\wr.ownsRow B 3 1 (O g k cc) k ((dU (L.sv z e) j++(dU (L.pt z e) k).drop j).map (Y Z))/\ay w w wr) (λi _ _=>k-(aX i).toNat)
   case atStart=>exact⟨0,cK _,rfl,HWo.I▸HO0.I,HWo.I▸eV.I⟩
   case round=>
    obtain⟨j,hj,rfl,aV,cW⟩:=hrel;have HO:=V aV;have B8:=V cW;clear aV cW;by_cases aT:j<k
    .have BD:=L.al7 (L.sv z e) (L.pt z e) k aT;have hlen:(dU (L.sv z e) j++(dU (L.pt z e) k).drop j).length=k:=by simp[dU];omega
     have c9:=vI HO.I j aT hlen;have f9:=HO.I.frozenAt j;rw[BD.2]at c9;have IW:=V BD.1;have hp:=HP.I j aT;have lG:=Fy.I j aT;have Ae:=HSv.I j;have HSj:=V Ae;clear BD Ae;generalize L.pt z e j=p at*;generalize L.sv z e j=q at*;obtain⟨p1,p2⟩:=hp;have Pv:0<=p*127:=U;have hq:0<=q/\q<=127:=by
      rw[HSj.I];exact⟨Int.ediv_nonneg Pv U,Int.ediv_le_of_le_mul U (by
       have:=vv lG (show(0:Int)<=127 by omega);rw[Int.mul_comm S 127]at this;exact this)⟩
     have hqe:p*127/S=q:=HSj.I.symm;have fy:(S==0)=ae:=Q2R;have dp:1<=S:=U;obtain⟨q1,q2⟩:=hq;have jP:=V (show(ss wr ⟨g,j,G⟩ (Y Z q)).ownsRow B 3 1 (O g k cc) k ((dU (L.sv z e) (j+1)++(dU (L.pt z e) k).drop (j+1)).map (Y Z))from by
      have h:=zP (q:=j) HO.I q;rw[IW.I]at h;exact h)
     have dA:=V (B8.I.setCell (by have:=HB.I;show w.heap.size<=g;omega) (Y Z q) (p:=⟨g,j,G⟩));clear IW;go_wp2_with fail;go_roundw
     case rel=>exact⟨j+1,U,Q2T,jP.I,dA.I⟩
     case measure=>exact Q5q
    .obtain rfl:j=k:=U;have e1:dU (L.sv z e) j++(dU (L.pt z e) j).drop j=R:=by
      rw[sx.2 (by simp[dU]),List.append_nil,<-HR.I]
     have aV:=HO.I;rw[e1]at aV;have UY:R.length=j:=by rw[<-HR.I];simp[dU,xH.I]
     have mN:=V aV;have Hu:=V UY;clear aV e1 HO UY;go_wp2_with fail;go_ret;refine⟨_,rfl,by rw[Hu.I,HB.I];exact mN.I,B8.I⟩
theorem L.P3 (hx:x∈L.soft l e):0<=x/\x<=127:=by
 unfold L.soft at hx;split at hx
 .simp at hx
 .rename_i h;unfold dU at hx;obtain⟨i,hi,rfl⟩:=kG.1 hx;rw[List.mem_range]at hi;have hp:=λj (hj:j<l.length)=>L.acr (l:=l) (e:=e) (i:=j) (λx hx=>L.V7 hx) hj;have hs:=L.V5 (f:=L.pt l e) (n:=l.length) hp;have hg:=L.V6 (f:=L.pt l e) (n:=l.length) (λj hj=>(hp j hj).1) hi;have h1:=(hp i hi).1;unfold L.sv;refine⟨Int.ediv_nonneg U U,Int.ediv_le_of_le_mul U ?_⟩;have:=vv hg (show(0:Int)<=127 by omega);rw[Int.mul_comm _ 127]at this;rw[Int.mul_comm 127 _]at this;rw[Int.mul_comm 127 _];exact this
theorem L.ale (h1:1<=l.length) (h2:l.length<=10):(L.soft l e).length=l.length:=by
 unfold L.soft;rw[aI U];simp[dU]
end
section
open Go.Shelf
attribute [local go_sem] Oper.semAt_some
def chunk (b off n j:Nat):aj:=O (A ⟨b,off+j*n,G⟩) n n
theorem alf (ZX:Fence) (m:Nat) (h1:ZX.fn 247) (qp:ZX.round=G) (hm:1<=m) (l Bs Bn n₀ b off rows n cap:Nat) (hn:1<=n) (lU:n<=100000) (hl:rows*n<=100000) (ip:rows*n<=cap) (Af:0<=cap) (B9:Bs<n₀) (Ag:Bn<n₀) (ZV Jx:List Nat->H->Prop) (hJA:∀pre (W:H),ZV pre W->ZV pre W.drew)
 (hY:∀pre x W,ZV pre W->pre.length<rows->YieldAt ZX (m-1) aq l #[chunk b off n x] W λe W'=>
  (e=bG (aK true)/\ZV (pre++[x]) W'/\ay n₀ W W')\/(e=bG (aK ae)/\Jx (pre++[x]) W'))
 (W:H) (zg:W Bs=A (O (A ⟨b,off,G⟩) (rows*n) cap)) (Ah:W Bn=A (Y Z n)) (h0:ZV [] W):
 CallsIn ZX m aq 247 #[.func (.yield l) #[] #[],aP Bs,aP Bn] W λe W'=>(∃v,e=bG v)/\
  ((∃ys,ys=iz rows/\ZV ys W')\/(∃pre,(∃k,k<=rows/\pre=iz k)/\Jx pre W')):=by
 refine callsIn_of_wp func247 rfl h1 ?_ qp;simp only[ntmps247,List.size_toArray,n8,List.length_nil,Nat.reduceAdd,Nat.reduceSub,Array.replicate_succ,Array.replicate_zero,List.push_toArray,List.append_toArray,List.nil_append,List.cons_append]
 gi_wp2
 gi_loopw [4,5] (λi _ wr=>∃k:Nat,k<=rows/\i=Y Z ((k*n:Nat):Int)/\ZV (iz k) wr/\ay n₀ W wr) (λi _ _=>rows*n-(aX i).toNat)
 case atStart=>exact⟨0,cK _,by rw[Nat.zero_mul];rfl,h0,eG _ _⟩
 case round=>
  obtain⟨k,hk,rfl,hJs,j7⟩:=hrel;have c1:=(j7.cell (p:=⟨Bs,0,G⟩) B9).trans zg;have c2:=(j7.cell (p:=⟨Bn,0,G⟩) Ag).trans Ah;by_cases aT:k<rows
  .obtain⟨fn,tmps,assign,body,hy,hR⟩:=hY _ k wr.drew (hJA _ _ hJs) (by simpa using aT);have hle:(k+1)*n<=rows*n:=nZ n aT;rw[Nat.succ_mul]at hle;have HM:=V (show((k+1:Nat)*n:Nat)=k*n+n from Nat.succ_mul k n);unfold chunk at hy;generalize k*n=K at*;generalize rows*n=L at*;have hKL:K<L:=U;have arz:min (n:Int) ((L-K:Nat):Int)=n:=U;have hKn:K+n<=cap:=U
   gi_wp2
   gi_region
   all_goals
    gi_wp2
    refine hR.mono ?_;rintro e W3 (⟨rfl,hJ3,IY⟩|⟨rfl,alg⟩)
    .have c3:=((j7.bI 1).trans IY|>.cell (p:=⟨Bn,0,G⟩) Ag).trans Ah
     gi_wp2
     go_roundw
     case rel=>exact⟨k+1,U,by rw[HM.I];push_cast;rfl,by rw[List.range_succ];exact hJ3,(j7.bI 1).trans IY⟩
     case measure=>exact Q5q
    .gi_wp2
     refine aZ (results_none rfl _ _ _) rfl ?_;exact⟨⟨_,rfl⟩,.inr ⟨_,⟨k+1,U,(List.range_succ).symm⟩,alg⟩⟩
  .obtain rfl:k=rows:=U
   gi_wp2
   go_end0
   exact⟨⟨_,rfl⟩,.inl ⟨_,rfl,hJs⟩⟩
theorem alh (ZX:Fence) (m:Nat) (h1:ZX.fn 247) (qp:ZX.round=G) (hm:1<=m) (Bs Bn n₀ b off rows n cap:Nat) (hn:1<=n) (lU:n<=100000) (hl:rows*n<=100000) (ip:rows*n<=cap) (Af:0<=cap) (B9:Bs<n₀) (Ag:Bn<n₀) (w:H) (arA:n₀<=w)
 (zg:w Bs=A (O (A ⟨b,off,G⟩) (rows*n) cap)) (Ah:w Bn=A (Y Z n)):
 SeqStopsK ZX m aq 247 #[aP Bs,aP Bn] (λx:Nat=>#[chunk b off n x]) (ay n₀) (λys=>ys=iz rows) (λpre=>∃k,k<=rows/\pre=iz k) rows w:=λl ZV Jx W hW hJ _ hY h0=>by
 refine(alf ZX m h1 qp hm l Bs Bn n₀ b off rows n cap hn lU hl ip Af B9 Ag ZV Jx (λpre W1 hj=>hJ pre W1 _ G hj (Zb (below_drewN W1 1)) (λr e=>Q4Q)) hY W ((hW.cell (p:=⟨Bs,0,G⟩) (by show Bs<_;omega)).trans zg) ((hW.cell (p:=⟨Bn,0,G⟩) (by show Bn<_;omega)).trans Ah) h0).mono ?_;rintro e W' ⟨he,h⟩;exact⟨he,h⟩
theorem ali:(aq.info? 52).map (λi=>(i.zero,i.size,i.bytes))=A (A (O G 0 0),1,24):=Q2Q
theorem alj (ZX:Fence) (m:Nat) (h2:ZX.fn 246) (h1:ZX.fn 247) (qp:ZX.round=G) (hm:3<=m) (Bs Bn b off rows n cap:Nat) (hn:1<=n) (lU:n<=100000) (hl:rows*n<=100000) (ip:rows*n<=cap) (Af:0<=cap) (w:H) (B9:Bs<w) (Ag:Bn<w)
 (zg:w Bs=A (O (A ⟨b,off,G⟩) (rows*n) cap)) (Ah:w Bn=A (Y Z n)):
 CallsIn ZX m aq 246 #[O G 0 0,.func (.func 247) #[] #[aP Bs,aP Bn]] w λe w'=>∃v,e=bG v/\w'.ownsRow w.heap.size 52 1 v rows ((iz rows).map (chunk b off n))/\ay w w w':=by
 have zE:1<=m:=U;have tF:rows<=100000:=eH (Nat.le_mul_of_pos_right rows hn) hl;refine callsIn_of_wp_marks func246 rfl h2 ?_ qp;simp only[ntmps246,List.size_toArray,n8,List.length_nil,Nat.reduceAdd,Nat.reduceSub,Array.replicate_succ,Array.replicate_zero,List.push_toArray,List.append_toArray,List.nil_append,List.cons_append]
 gi_wp2
 have bS:=Boxed.new w 166 (O G 0 0);have oM:ay w w (li w (ag #[O G 0 0] 166)):=(eG _ w).alloc (bu _) _;refine wpIn_rangeFunc_ownG qp zE (gf:=247) (lb:=#[aP Bs,aP Bn]) rfl h1 (enters_of func247 kr rfl)
  (alh ZX (m-1) h1 qp U Bs Bn w.heap.size b off rows n cap hn lU hl ip Af B9 Ag _ oM.size (oM.cell_of zg) (oM.cell_of Ah)) belowK_t (belowK_b bK) (eG _ _) (λ_=>rfl)
  (λpre W=>(∃v,Boxed W w.heap.size 166 v/\W.ownsRow w.heap.size 52 1 v pre.length (pre.map (chunk b off n))/\True)/\ay w w W)
  (λ_ _ _=>False)
  (OwnFrom.and (Own.from (holdsRow_own w.heap.size w.heap.size 166 52 1 (λpre:List Nat=>pre.length) (λpre=>pre.map (chunk b off n)) (λ_ _=>True)) _) (ownFrom_below (bu _) bK))
  (λ_ _ _ _ _ hs _ _=>hs)
  ⟨⟨_,bS,gP _ _ _ _,trivial⟩,oM⟩
  (λx=>{tmps:=#[O G 0 0,.func (.func 247) #[] #[aP Bs,aP Bn],aP w,undef,O G 0 0,chunk b off n x,.func (.func 247) #[] #[aP Bs,aP Bn],chunk b off n x,undef,undef,undef,undef,undef],defers:=[]}) ?assign ?body ?done ?stop
 case assign=>
  intro l x W K hK
  gi_wp2
  exact hK
 case body=>
  rintro l pre x W ⟨⟨v,hv,dY,_⟩,hB⟩ hlen;have hc:=hv.cell;obtain⟨i0,hi,cF,cG,cB⟩:=fB ali;have alk:=hB.size;have hce:chunk b off n x=O (A ⟨b,off+x*n,G⟩) n n:=rfl;rw[hce];clear hce
  gi_wp2_with (gi_at_builtin;refine wpListIn_append_own _ rfl _ _ 166 rfl w.heap.size 52 i0 (O G 0 0) 1 24 underlying166 hi cF cG cB rfl eM _ _ _ rfl (dY.alloc _) ⟨W,0,G⟩ 1 1 [O (A ⟨b,off+x*n,G⟩) n n] rfl rfl (cell_one_new _ _ _) Q35 Q2V U Q2R ?_;intro v' w1 acx eD _;obtain⟨g',arB,rfl⟩:=ownsRow_succ acx;obtain⟨ph,mT,pD,ig,du⟩:=hv.appended eM dY alk (bu _) acx eD;have iJ:=ph.cell;have hf1:=ph.frozen)
  exact⟨ig.from _,du,⟨⟨_,mT,by rw[List.length_append,kF];exact pD,trivial⟩,hB.trans du⟩⟩
 case done=>
  rintro D ys W hD rfl ⟨⟨v,hv,dY,_⟩,hB⟩ hK;have hc:=hv.cell
  gi_wp2
  refine⟨Q2W,.inl ⟨_,_,rfl,run_takeDeferred hK,?_⟩⟩;exact⟨_,results_tmp rfl _ _ _,v,rfl,by have:=ownsRow_putObj dY (.deferred G) hK rfl;rwa[List.length_range]at this,hB.trans (belowK_b (w:=w) (bu _) W D _ _ (by simp at hD;omega) hK rfl rfl)⟩
 case stop=>
  rintro D c pre W _ _ h _;exact h.elim
theorem alm (ZX:Fence) (m:Nat) (h3:ZX.fn 198) (h2:ZX.fn 246) (h1:ZX.fn 247) (qp:ZX.round=G) (hm:4<=m) (Bs Bn b off rows n cap:Nat) (hn:1<=n) (lU:n<=100000) (hl:rows*n<=100000) (ip:rows*n<=cap) (Af:0<=cap) (w:H) (B9:Bs<w) (Ag:Bn<w)
 (zg:w Bs=A (O (A ⟨b,off,G⟩) (rows*n) cap)) (Ah:w Bn=A (Y Z n)):
 CallsIn ZX m aq 198 #[.func (.func 247) #[] #[aP Bs,aP Bn]] w λe w'=>∃v,e=bG v/\w'.ownsRow w.heap.size 52 1 v rows ((iz rows).map (chunk b off n))/\ay w w w':=by
 have zE:1<=m:=U;refine callsIn_of_wp func198 rfl h3 ?_ qp;simp only[ntmps198,List.size_toArray,n8,List.length_nil,Nat.reduceAdd,Nat.reduceSub,Array.replicate_succ,Array.replicate_zero,List.push_toArray,List.append_toArray,List.nil_append,List.cons_append]
 gi_wp2_with (gi_at_call 246;refine(alj ZX (m-1) h2 h1 qp U Bs Bn b off rows n cap hn lU hl ip Af w B9 Ag zg Ah).mono ?_;rintro e w' ⟨v,rfl,hr,hb⟩)
 go_ret;exact⟨v,rfl,hr,hb⟩
theorem aln (Bs Bn b off rows n cap:Nat) (hn:1<=n) (lU:n<=100000) (hl:rows*n<=100000) (ip:rows*n<=cap) (Af:0<=cap) (w:H) (B9:Bs<w) (Ag:Bn<w)
 (zg:w Bs=A (O (A ⟨b,off,G⟩) (rows*n) cap)) (Ah:w Bn=A (Y Z n)):
 aA aq 198 #[.func (.func 247) #[] #[aP Bs,aP Bn]] w λe w'=>∃v,e=bG v/\w'.ownsRow w.heap.size 52 1 v rows ((iz rows).map (chunk b off n))/\ay w w w':=
 (callsIn_wide (n:=4)).1 (alm Fence.wide 4 trivial trivial trivial rfl U Bs Bn b off rows n cap hn lU hl ip Af w B9 Ag zg Ah)
end
section
attribute [local go_sem ↓] wp_at_zero wp_at_succ
def V9 (ok:Nat->Prop) (u:H) (cs:Array aj) (x:ah):Prop:=∃a l c,cs=#[O a l c]/\fR ok aO u a l x
theorem LX:Carry V9 1 where
 size:=by
  rintro ok w cs x ⟨a,l,c,rfl,_⟩;rfl
 one:=by
  rintro ok w cs x ⟨a,l,c,rfl,_⟩;simp[fV]
 move:=by
  rintro ok fJ w w' cs x B S ⟨a,l,c,rfl,h⟩ kp hk;exact⟨a,l,c,rfl,h.move kp hk⟩
namespace L
def cut (z:ah) (n j:Nat):List Int:=(z.drop (j*n)).take n
def Ai (z:ah) (r n:Nat):List (List Int):=(iz r).map (cut z n)
def rows (y:az):Int×List (List Int):=
 if ¬T.aH y.d y.e y.z then(1,[])else if y.d.length≠2\/y.d.getD 1 0<2\/10<y.d.getD 1 0 then(2,[])else(0,Ai y.z (y.d.getD 0 0).toNat (y.d.getD 1 0).toNat)
def off (n:Int) (x:Int):Bool:=decide (x<0)||decide (n<=x)
def labelled (y:az) (ls:ah):Int×List (List Int):=
 if(rows y).1 ≠0 then((rows y).1,[])else if(rows y).2.length≠ls.length then(2,[])else if ls.any (off (y.d.getD 1 0))=true then(1,[])else(0,(rows y).2)
end L
def P4 (v:aj) (t:az):Prop:=t.d.length=2->∀a l c b m k,v=aS a l c t.e b m k->m<=k/\0<=k
def acy (r:Int×List (List Int)) (w:H) (e:Ending) (w':H):Prop:=∃a n c,e=bG (aL #[O a n c,Y Z r.1])/\cH V9 1 (λb=>b<w'.heap.size) w' a n r.2 /\ay w w w'
theorem alo (a:aC) (l c:Nat) (n:Nat) (w:H) (hn:1<=n) (lU:n<=100000):aA aq 199 #[O a l c,Y Z (n:Int)] w λe w'=>
 e=bG (.func (.func 247) #[] #[aP w,aP (w+1:Nat)])/\w'=li (li w (ag #[O a l c] 52)) (ag #[Y Z (n:Int)] 3):=by
 have c1:=bh (aE.fG w (ag #[O a l c] 52) (ag #[Y Z (n:Int)] 3)).aN.2.1 0 (v:=Y Z (n:Int)) rfl;have hd:decide ((n:Int)<1)=ae:=Q2R;have Kv:decide (n<1)=ae:=Q2R;go_enter func199,ntmps199;go_wp2_with fail;go_ret;exact⟨rfl,rfl⟩
theorem alp (y:az) (vy:aj) (w:H) (h:fu aO w vy y) (ip:P4 vy y):aA aq 146 #[vy] w (acy (L.rows y) w):=by
 obtain⟨xa,xl,xc,xp,xm,xk,rfl,x0,x1⟩:=h;have alq:=V (λh=>ip h _ _ _ _ _ _ rfl);have KB:=V (aE.fg w (bj xa xl xc y.e xp xm xk));have KR:=V (x0.bt.and x1.bt);have M:=V (jr xa xl xc y.d y.e xp xm xk y.z);have fP:=x0.bA;have oO:=V fP;have arD:=x0.eC;obtain⟨R,hR⟩:=J (L.rows y);rw[hR];unfold L.rows at hR;have HR:=V hR;obtain⟨Z3,hA⟩:=J (decide (T.aH y.d y.e y.z));rw[hA]at M;have HA:=V hA;unfold aS;unfold aS at M;clear x0 x1 hA hR fP ip;have f0:=bP KB.F.1;go_enter func146,ntmps146;go_wp2_with fail;refine bY (M.I _ (KR.aQ KB.F.2).1 (KR.aQ KB.F.2).2) λw2 hb=> ?_;have K2:=KB.bU hb;clear KB M hb f0;obtain⟨f0,f1,f2⟩:=bP K2.F.1
 cases Z3
 .obtain rfl:(1,[])=R:=by rw[<-HR.I,aR (kH HA.I)]
  exact Q0u
 have hm:=eZ HA.I;have zV:=V (show(if y.d.length≠2\/y.d.getD 1 0<2\/10<y.d.getD 1 0 then(2,[])else _)=R from by have:=HR.I;rw[aI (λh=>h hm)]at this;exact this);by_cases h2:xl=2
 .subst h2;obtain⟨ot,ig⟩:=alq.I oO.I;obtain⟨r,n,ed,gZ,ku,pD,lU,tF,arE,_⟩:=D.two hm (by rw[oO.I];rfl);have RW:=KR.aQ K2.F.2;have DJ:=RW.2.bA;obtain⟨xb,xo,rfl,gY⟩:=RW.1.cells U;have gM:=gY 1 U;rw[ed]at gM;simp only[nC,n7]at gM;have D8:=V (show(if(n:Int)<2\/10<(n:Int)then(2,[])else(0,L.Ai y.z r n))=R from by
   have:=zV.I;rw[ed]at this;simpa using this)
  clear HR zV gY ed hm;by_cases c1:n<2
  .obtain rfl:(2,[])=R:=by rw[<-D8.I,aR U]
   have d1:decide ((n:Int)<2)=true:=Q2R;clear c1;exact Q0u
  by_cases c2:10<n
  .obtain rfl:(2,[])=R:=by rw[<-D8.I,aR U]
   have d1:decide ((n:Int)<2)=ae:=Q2R;have d2:decide (10<(n:Int))=true:=Q2R;clear c1 c2;exact Q0u
  have d1:decide ((n:Int)<2)=ae:=Q2R;have d2:decide (10<(n:Int))=ae:=Q2R;obtain rfl:(0,L.Ai y.z r n)=R:=by rw[<-D8.I,aI U]
  obtain⟨pb,po,rfl,_⟩:=RW.2.cells (by have:1<=r*n:=Nat.mul_pos gZ ku;omega);have CK:=V (λw=>alo (A ⟨pb,po,G⟩) xm xk n w ku U);have SL:r*n=xm:=U;clear RW D8;go_wp2_with fail;clear d1 d2;refine cS (λw':H=>w' w=A (O (A ⟨xb,xo,G⟩) 2 xc)/\w' ⟨w,2,G⟩=A (O (A ⟨pb,po,G⟩) xm xk)/\w' ⟨xb,xo+1,G⟩=A (Y Z n)) (eE (⟨f0,f2,gM⟩) λhS=>bR hS [0,2,1,3,4,5] (λ_ h=>aw h.1 (aw h.2.1 h.2.2)) ?_);refine bL 6 λK hK=> ?_;go_simp;refine(CK.I _).mono ?_;rintro e' w3 ⟨rfl,fZ⟩;have eg:ay w2 w2 w3:=((eG _ w2).bI 1).step (by rw[fZ];exact(aE.fG _ _ _).aN.2.2);have IQ:w3.heap[w2.heap.size]? =A (ag #[O (A ⟨pb,po,G⟩) xm xk] 52 (0,0)):=by rw[fZ];exact(aE.fG w2.drew _ _).aN.1
  have IZ:w3.heap[w2.heap.size+1]? =A (ag #[Y Z (n:Int)] 3 (0,0)):=by rw[fZ];exact(aE.fG w2.drew _ _).aN.2.1
  have nK:=bH IZ;have CC:=V (aln w2.heap.size (w2.heap.size+1) pb po r n xk ku U U U ig w3 U nK (by rw[SL];exact bh IQ 0 rfl) (bh IZ 0 rfl));have K3:=K2.bU eg;clear fZ;refine cY hK (⟨eg.cell_of f0,eg.cell_of f2,eg.cell_of gM⟩) 7 λK hK=> ?_;go_simp;refine CC.I.mono ?_;rintro e' w4 ⟨v,rfl,hr,oH⟩;have jO:=V hr;have K4:=K3.bU oH;have I0:=eg.step oH;clear hr;refine bB hK (⟨I0.cell_of f0,I0.cell_of f2,I0.cell_of gM⟩) ?_;refine bR (⟨I0.cell_of f0,I0.cell_of f2,I0.cell_of gM⟩) [8,9] (λ_ h=>aw h.1 (aw h.2.1 h.2.2)) (bW ?_);clear hS;obtain⟨g,cc,rfl,hg⟩:∃g cc,v=O (A ⟨g,0,G⟩) r cc/\g<w4.heap.size:=by
   rcases jO.I.2 with⟨_,h0⟩|⟨g,cc,cur,h0,_⟩
   .omega
   .exact⟨g,cc,h0,(jO.I.lt g (by rw[h0];rfl)).2⟩
  go_wp2_with fail;go_ret2
  refine⟨_,_,_,rfl,⟨by simp[L.Ai],U,bJ ⟨g,0,rfl,hg,λi x hx=> ?_⟩⟩,K4.F.2⟩;have hi:i<r:=by have:=(fX.1 hx).1;simpa[L.Ai]using this
  obtain rfl:L.cut y.z n i=x:=by simpa[L.Ai,hi]using hx
  have hle:(i+1)*n<=r*n:=nZ n hi;rw[Nat.succ_mul]at hle;have dY:=(KR.aQ K4.F.2).2;have alr:=dY.sub (i*n) n U;refine⟨#[O (A ⟨pb,po+i*n,G⟩) n n],⟨_,_,n,rfl,alr,λx hx _=>by cases hx;show pb<_;exact dY.bC (x:=⟨pb,po,G⟩) U rfl⟩,λj v hv=> ?_⟩;have hj:j=0:=by
   have:=(Array.getElem?_eq_some_iff.1 hv).1;simpa using this
  subst hj;obtain rfl:chunk pb po n i=v:=by simpa[chunk]using hv
  have:=jO.I.cellAt i U;simp only[nF,lA,eL];rw[this];simp[hi]
 .obtain rfl:(2,[])=R:=by rw[<-zV.I,aR (aM (by rw[oO.I];exact h2))]
  have z1:((xl:Int) != 2)=true:=Q2R;clear h2;exact Q0u
theorem acz (y:az) (vy:aj) (la:aC) (ll lc:Nat) (ls:ah) (w:H) (h:fu aO w vy y) (ip:P4 vy y) (qY:ai Z w la ll ls):aA aq 79 #[vy,O la ll lc] w (acy (L.labelled y ls) w):=by
 have RA:=V (λw h=>alp y vy w h ip);have HT:=V (λw' (b:ay w w w')=>h.below b);obtain⟨xa,xl,xc,xp,xm,xk,rfl,x0,x1⟩:=h;have KB:=V (aE.fg w (bj xa xl xc y.e xp xm xk));have KR:=V (x0.bt.and qY.bt);have ik:=qY.eC;have pM:=V qY.bA;have oO:=V x0.bA;obtain⟨R,hR⟩:=J (L.labelled y ls);rw[hR];unfold L.labelled at hR;obtain⟨Q,hQ⟩:=J (L.rows y);rw[hQ]at hR RA;rw[qY.bA]at hR;have HR:=V hR;have HQ:=V hQ;obtain⟨qe,qr⟩:=Q;unfold aS;unfold aS at RA HT;clear x0 x1 qY hR hQ ip;have f0:=bP KB.F.1;go_enter func79,ntmps79;go_wp2_with fail;refine(RA.I _ (HT.I _ KB.F.2)).mono ?_;rintro e' w2 ⟨ra,rn,rc,rfl,hm,hb⟩;have K2:=KB.bU hb;have HM:=V (hm.bt LX U);have tF:qr.length=rn:=hm.1;have tu:=hm.2.1;clear KB RA HT hb hm f0;by_cases he:qe=0
 .subst he;have zV:=V (show(if qr.length≠ll then(2,[])else if ls.any (L.off (y.d.getD 1 0))=true then(1,[])else((0:Int),qr))=R from by have:=HR.I;rwa[aI bK]at this);by_cases hl:rn=ll
  .have z1:((rn:Int) != (ll:Int))=ae:=by simp;omega
   have D8:=V (show(if ls.any (L.off (y.d.getD 1 0))=true then(1,[])else((0:Int),qr))=R from by have:=zV.I;rwa[aI U]at this);have jU:y.d.length=2:=by
    have:=HQ.I;unfold L.rows at this;by_cases h1:T.aH y.d y.e y.z
    .rw[aI (λh=>h h1)]at this;by_cases h2:y.d.length≠2\/y.d.getD 1 0<2\/10<y.d.getD 1 0
     .rw[aR h2]at this;cases this
     .exact oP λh=>h2 (aM h)
    .rw[aR h1]at this;cases this
   obtain rfl:xl=2:=by rw[<-oO.I];exact jU
   obtain⟨xb,xo,rfl,gY⟩:=(KR.aQ K2.F.2).1.cells U;have gM:=gY 1 U;have f0:=bP K2.F.1;clear HR zV gY hl jU;generalize y.d.getD 1 0=n at*;have KL:=V (KR.aQ K2.F.2).2;go_wp2_with fail;go_loop [25,9] (λi _=>∃k:Nat,k<=ll/\i=Y Z k/\(ls.take k).any (L.off n)=ae) (λi _=>ll-(aX i).toNat)
   case atStart=>exact⟨0,cK _,rfl,Q2W⟩
   case round=>
    obtain⟨k,hk,rfl,vO⟩:=hrel;have HA:=V vO;clear vO;by_cases aT:k<ll
    .obtain⟨lb,lo,rfl,el⟩:=KL.I.cells U;have ck:=el k aT;have o8:k<ls.length:=by rw[pM.I];exact aT
     have HT:=V (T.yz (z:=ls) (k:=k) o8);have mZ:=V (show ls.getD k 0∈ls by rw[gB,cR o8];exact jZ _);clear el o8;generalize ls.getD k 0=x at*;by_cases c1:x<0
     .have d1:decide (x<0)=true:=by simpa using c1
      obtain rfl:(1,[])=R:=by rw[<-D8.I,aR (List.any_eq_true.2 ⟨x,mZ.I,by unfold L.off;simp[c1]⟩)]
      clear c1;exact Q0u
     have d1:decide (x<0)=ae:=Q45;by_cases c2:n<=x
     .have d2:decide (n<=x)=true:=by simpa using c2
      obtain rfl:(1,[])=R:=by rw[<-D8.I,aR (List.any_eq_true.2 ⟨x,mZ.I,by unfold L.off;simp[c2]⟩)]
      clear c1 c2;exact Q0u
     have d2:decide (n<=x)=ae:=Q44;have HO:=V (show L.off n x=ae by unfold L.off;rw[d1,d2];rfl);clear c1 c2;go_wp2_with fail;go_round
     case rel=>exact⟨k+1,U,Q2T,by rw[HT.I,List.any_append,HA.I];simp[HO.I]⟩
     case measure=>exact Q5q
    .obtain rfl:k=ll:=U;obtain rfl:((0:Int),qr)=R:=by
      have h:=HA.I;rw[oQ (by rw[pM.I];exact bu _)]at h;rw[<-D8.I,aI (by rw[h];simp)]
     go_wp2_with fail;go_ret2
     exact⟨_,_,_,rfl,HM.I.aN,K2.F.2⟩
  .have z1:((rn:Int) != (ll:Int))=true:=by simp;omega
   obtain rfl:(2,[])=R:=by rw[<-zV.I,aR U]
   clear hl;exact Q0u
 .obtain rfl:(qe,[])=R:=by rw[<-HR.I,aR he]
  have z1:(qe != 0)=true:=Q3d;clear he;exact Q0u
def L.idx (v:Int):Nat->List Int->Int
 |_,[]=> -1
 |i,x::l=>if v=x then(i:Int)else L.idx v (i+1) l
theorem L.als (v:Int) (z:ah) (k:Nat) (hk:k<z.length):L.idx v k (z.drop k)=if v=z.getD k 0 then(k:Int)else L.idx v (k+1) (z.drop (k+1)):=by
 rw[tX hk];show(if v=z[k]then _ else _)=_
 simp[dV,hk]
theorem alu (a:aC) (l c:Nat) (z:ah) (v:Int) (w:H) (h:ai aO w a l z):aA aq 147 #[O a l c,Y aO v] w λe w'=>e=bG (Y Z (L.idx v 0 z))/\w=w':=by
 have hl:=h.eC;have H0:=V h;have HL:=V h.bA;obtain⟨R,hR⟩:=J (L.idx v 0 z);rw[hR];have HR:=V hR;clear h hR;go_enter func147,ntmps147;go_wp2_with fail;go_loop [8,5] (λi _=>∃k:Nat,k<=l/\i=Y Z k/\L.idx v k (z.drop k)=R) (λi _=>l-(aX i).toNat)
 case atStart=>exact⟨0,cK _,rfl,HR.I⟩
 case round=>
  obtain⟨k,hk,rfl,hs⟩:=hrel;have HS:=V hs;clear hs;by_cases aT:k<l
  .obtain⟨b0,o0,rfl,e0⟩:=H0.I.cells U;have f0:=e0 k aT;have HD:=V (L.als v z k Q30);clear e0;generalize z.getD k 0=x at*;by_cases c:v=x
   .subst c;obtain rfl:(k:Int)=R:=by rw[<-HS.I,HD.I,aR rfl]
    have c2:(v==v)=true:=Q2W;exact Q0S
   .have c2:(v==x)=ae:=by simpa using c
    have HN:=V (show L.idx v (k+1) (z.drop (k+1))=R by rw[<-HS.I,HD.I,aI c]);clear c;go_wp2_with fail;go_round
    case rel=>exact⟨k+1,U,Q2T,HN.I⟩
    case measure=>exact Q5q
  .obtain rfl:k=l:=U;obtain rfl: -1=R:=by rw[<-HS.I,sx.2 Q3k];rfl
   exact Q0S
def L.top (z:ah):Int:=L.idx (L.most z) 0 z
theorem alv (a:aC) (l c:Nat) (z:ah) (w:H) (h:ai aO w a l z) (hl:0<l):aA aq 80 #[O a l c] w λe w'=>e=bG (Y Z (L.top z))/\w'=w:=by
 have MX:=V (acw a l c z w h hl);have IX:=V (alu a l c z (L.most z) w h);unfold L.top;generalize L.most z=m at*;generalize L.idx m 0 z=i at*;clear h;go_enter func80,ntmps80;go_wp2_with fail;refine cq MX.I ?_;go_wp2_with fail;refine cq IX.I ?_;exact Q0S
namespace L
structure Fit (y:az) (ls:ah) (r n:Nat) (qr:List (List Int)):Prop where
 aH:T.aH y.d y.e y.z
 d:y.d=[(r:Int),(n:Int)]
 r1:1<=r
 n2:2<=n
 n10:n<=10
 z:r*n=y.z.length
 q:qr=Ai y.z r n
 l:qr.length=ls.length
 iH:∀x∈ls,0<=x/\x<(n:Int)
theorem fit (h:labelled y ls=(0,qr)):∃r n,Fit y ls r n qr:=by
 unfold labelled at h;by_cases h1:(rows y).1 =0
 .rw[aI (λc=>c h1)]at h;by_cases h2:(rows y).2.length=ls.length
  .rw[aI (λc=>c h2)]at h;by_cases h3:ls.any (off (y.d.getD 1 0))=true
   .rw[aR h3]at h;cases h
   .rw[aI h3]at h;obtain⟨-,rfl⟩:=Prod.mk.inj h;unfold rows at h1 h2⊢;by_cases hm:T.aH y.d y.e y.z
    .rw[aI (λc=>c hm)]at h1 h2⊢;by_cases hd:y.d.length≠2\/y.d.getD 1 0<2\/10<y.d.getD 1 0
     .rw[aR hd]at h1;cases h1
     .rw[aI hd]at h2⊢;obtain⟨r,n,ed,r1,n1,r2,n2,tF,_,_⟩:=D.two hm (by have:=oP (λc=>hd (aM c));rw[this];rfl);rw[ed]at hd h2 h3⊢;simp only[nC,n7,jx,n8,List.length_nil]at hd h2 h3⊢;refine⟨r,n,hm,ed,r1,U,U,tF,rfl,h2,λx hx=> ?_⟩;have:¬off (n:Int) x=true:=λc=>h3 (List.any_eq_true.2 ⟨x,hx,c⟩);unfold off at this;simp at this;omega
    .rw[aR hm]at h1;cases h1
  .rw[aR h2]at h;cases h
 .rw[aR h1]at h;exact absurd (congrArg (λp=>p.1) h) h1
theorem Fit.row {r n:Nat} (f:Fit y ls r n qr) {x:ah} (hx:qr[i]? =A x):x.length=n/\∀v∈x,v∈y.z:=by
 rw[f.q]at hx;have hi:i<r:=by have:=(fX.1 hx).1;simpa[Ai]using this
 obtain rfl:cut y.z n i=x:=by simpa[Ai,hi]using hx
 have hle:(i+1)*n<=r*n:=nZ n hi;rw[Nat.succ_mul]at hle;have hz:=f.z;constructor
 .unfold cut;rw[List.length_take,List.length_drop];omega
 .intro v hv;exact List.mem_of_mem_drop (List.mem_of_mem_take hv)
def uM (qr:List (List Int)) (ls:ah):Nat->Int
 |0=>0
 |k+1=>uM qr ls k+if top (qr.getD k [])=ls.getD k 0 then 1 else 0
def right (y:az) (ls:ah):Int×Int:=(uM (labelled y ls).2 ls (labelled y ls).2.length,(labelled y ls).1)
theorem acA (qr:List (List Int)) (ls:ah):∀k:Nat,0<=uM qr ls k/\uM qr ls k<=k
 |0=>by simp[uM]
 |k+1=>by
  have:=acA qr ls k;show 0<=uM qr ls k+(if _ then 1 else 0)/\uM qr ls k+(if _ then 1 else 0)<=((k+1:Nat):Int)
  split<;>omega
end L
theorem alw (y:az) (vy:aj) (la:aC) (ll lc:Nat) (ls:ah) (w:H) (h:fu aO w vy y) (ip:P4 vy y) (qY:ai Z w la ll ls):aA aq 31 #[vy,O la ll lc] w λe w'=>e=bG (aL #[Y Z (L.right y ls).1,Y Z (L.right y ls).2])/\ay w w w':=by
 have LA:=V (λw h hl=>acz y vy la ll lc ls w h ip hl);have HT:=V (λw' (b:ay w w w')=>h.below b);obtain⟨xa,xl,xc,xp,xm,xk,rfl,x0,x1⟩:=h;have KB:=V (aE.fg w (bj xa xl xc y.e xp xm xk));have KL:=V qY.bt;have ik:=qY.eC;have pM:=V qY.bA;unfold L.right;obtain⟨Q,hQ⟩:=J (L.labelled y ls);rw[hQ]at LA⊢;have HQ:=V hQ;obtain⟨qe,qr⟩:=Q;unfold aS;unfold aS at LA HT;clear qY hQ ip;dsimp only
 have f0:=bP KB.F.1;go_enter func31,ntmps31;go_wp2_with fail;refine(LA.I _ (HT.I _ KB.F.2) (KL.aQ KB.F.2)).mono ?_;rintro e' w2 ⟨ra,rn,rc,rfl,hm,hb⟩;have K2:=KB.bU hb;have HM:=V (hm.bt LX U);have tF:qr.length=rn:=hm.1;have tu:=hm.2.1;have uN:=V tF;have oZ:=V (show ∀(i:Nat) (x:ah),qr[i]? =A x->0<x.length from λi x hx=>by
  by_cases he:qe=0
  .obtain⟨r,n,f⟩:=L.fit (by rw[HQ.I,he]);have:=(f.row hx).1;have:=f.n2;omega
  .have h0:qr=[]:=by
    exact Q0B
   rw[h0]at hx;simp at hx)
 have BQ:=V (show ∀(i:Nat) (x:ah),qr[i]? =A x->i<ls.length from λi x hx=>by
  have hi:=(fX.1 hx).1;by_cases he:qe=0
  .obtain⟨r,n,f⟩:=L.fit (by rw[HQ.I,he]);have:=f.l;omega
  .have:=oZ.I i x hx;have h0:qr=[]:=by
    exact Q0B
   rw[h0]at hx;simp at hx)
 clear LA hm tF;go_wp2_with fail;go_loopw [19,8,9,10] (λi n _ _ wr=>∃k:Nat,k<=rn/\i=Y Z k/\n=Y Z (L.uM qr ls k)/\ay w2 w2 wr) (λi _ _ _ _=>rn-(aX i).toNat)
 case atStart=>exact⟨0,cK _,rfl,rfl,eG _ _⟩
 case round=>
  obtain⟨k,hk,rfl,rfl,cW⟩:=hrel;have HB:=V cW;clear cW;by_cases aT:k<rn
  .obtain⟨x,hx⟩:∃x,qr[k]? =A x:=⟨qr[k]'(by rw[uN.I];exact aT),Q2W⟩;obtain⟨qb,qo,cs,rfl,_,he,hcs⟩:=(HM.I.jD HB.I).get hx;obtain⟨ea,el,ec,rfl,dY⟩:=he;have c0:=hcs 0 _ rfl;simp only[lA,eL]at c0;have zh:0<el:=by rw[<-dY.1.bA];exact oZ.I k x hx
   have o8:k<ll:=by rw[<-pM.I];exact BQ.I k x hx
   obtain⟨lb,lo,rfl,Wa⟩:=(KL.aQ (K2.F.2.step HB.I)).cells U;have ck:=Wa k o8;have TP:=V (alv ea el ec x wr.drew (dY.1.below (below_drewN wr 1)) zh);have HS:=V (show L.uM qr ls (k+1)=L.uM qr ls k+if L.top x=ls.getD k 0 then 1 else 0 by
    show L.uM qr ls k+(if L.top (qr.getD k [])=ls.getD k 0 then 1 else 0)=_
    rw[show qr.getD k []=x by simp[dV,hx]])
   have iL:=L.acA qr ls k;clear hx hcs dY;generalize ls.getD k 0=y at*;generalize L.top x=t at*;generalize L.uM qr ls k=n at*;obtain⟨n1,n2⟩:=iL;go_wp2_with fail;refine cS (λw':H=>w' ⟨lb,lo+k,G⟩=A (Y Z y)) (eE ck λhS=>cQ hS [0,2,3,4,5] ?_);refine bL 1 λK hK=> ?_;go_simp;refine TP.I.mono ?_;rintro e' w' ⟨rfl,hw'⟩;rw[hw'];clear hw';refine bB hK hS ?_;refine cQ hS [6] (bW ?_);have dA:=V (show ay w2 w2 wr.drew from HB.I.bI 1);clear hS ck c0 HB;generalize wr.drew=wd at*;by_cases c:t=y
   .have z1:(t==y)=true:=by simpa using c
    have jI:=V (show L.uM qr ls (k+1)=n+1 by rw[HS.I,aR c]);exact Q1I
   .have z1:(t==y)=ae:=by simpa using c
    have jI:=V (show L.uM qr ls (k+1)=n by rw[HS.I,aI c,Int.add_zero]);exact Q1I
  .obtain rfl:k=rn:=U;go_wp2_with fail;go_ret2
   exact⟨by rw[uN.I];rfl,K2.F.2.step HB.I⟩
namespace L
def Not (P:Prop):Prop:=P->False
def Gg (e:Int) (x:ah) (iH:Int):List Int:=(soft x e).set iH.toNat ((soft x e).getD iH.toNat 0-127)
def wI (e:Int) (qr:List (List Int)) (ls:ah):Nat->List Int
 |0=>[]
 |k+1=>wI e qr ls k++Gg e (qr.getD k []) (ls.getD k 0)
def xI (y:az) (ls:ah):Int×az:=
 if(labelled y ls).1 ≠0 then((labelled y ls).1,az.zero)else(0,⟨y.d,-7,wI y.e (labelled y ls).2 ls (labelled y ls).2.length⟩)
theorem alx {x:ah} {iH:Int} (h:v∈Gg e x iH): -127<=v/\v<=127:=by
 unfold Gg at h;rcases List.mem_or_eq_of_mem_set h with h|rfl
 .have:=P3 h;omega
 .rw[gB];rcases Nat.lt_or_ge iH.toNat (soft x e).length with hi|hi
  .rw[cR hi];have:=P3 (jZ hi);simp only[Option.getD_some];omega
  .rw[List.getElem?_eq_none hi];decide
theorem acB:∀{k:Nat},v∈wI e qr ls k-> -127<=v/\v<=127
 |0,h=>by simp[wI]at h
 |k+1,h=>by
  rcases kE.1 h with h|h
  .exact acB h
  .exact alx h
end L
theorem App.all {w1:H} {o:Obj} {vd v:aj} {f:Nat} (eD:(li w o).grownBy w1 vd.ownBlock):ar w (λb=>vd.ownBlock=A b\/b=bo) w (ss w1 ⟨bo,f,G⟩ v):=by
 have hk:ar w (λb=>vd.ownBlock=A b\/b=bo) w w1:=⟨eD.os.trans (aD w o).os,eD.tape.trans (aD w o).tape,eD.output.trans (aD w o).output,eH (aD w o).size eD.size,λb hb hn=>(eD.block b (iP hb (aD w o).size) (λe=>hn (aM e.symm))).trans ((aD w o).block b hb)⟩;exact hk.set (aM (bJ rfl)) _ _
theorem aly (y:az) (vy:aj) (la:aC) (ll lc:Nat) (ls:ah) (w:H) (h:fu aO w vy y) (ip:P4 vy y) (qY:ai Z w la ll ls):aA aq 133 #[vy,O la ll lc] w (oY aO (L.xI y ls) w):=by
 have LA:=V (λw h hl=>acz y vy la ll lc ls w h ip hl);have HT:=V (λw' (b:ay w w w')=>h.below b);obtain⟨xa,xl,xc,xp,xm,xk,rfl,x0,x1⟩:=h;have KB:=V (aE.fG w (bj xa xl xc y.e xp xm xk) (bj G 0 0 0 G 0 0));have KR:=V (x0.bt.and qY.bt);have ik:=qY.eC;have pM:=V qY.bA;have oO:=V x0.bA;have HXw:=V x0.wf;obtain⟨R,hR⟩:=J (L.xI y ls);rw[hR];unfold L.xI at hR;obtain⟨Q,hQ⟩:=J (L.labelled y ls);rw[hQ]at LA hR;have HQ:=V hQ;have HR:=V hR;obtain⟨qe,qr⟩:=Q;unfold aS;unfold aS at LA HT;clear qY hQ hR ip;have f0:=bP KB.F.1;go_enter func133,ntmps133;go_wp2_with fail;refine(LA.I _ (HT.I _ KB.F.2.2) (KR.aQ KB.F.2.2).2).mono ?_;rintro e' w2 ⟨ra,rn,rc,rfl,hm,hb⟩;have K2:=KB.bU hb;have HM:=V (show cH V9 1 (λb=>b<w2.heap.size) w2 ra rn qr from hm);have tF:qr.length=rn:=hm.1;have tu:=hm.2.1;have uN:=V tF;clear LA HT hm;by_cases he:qe=0
 .subst he;obtain⟨r,n,fit⟩:=L.fit HQ.I;have Wb:=V fit;have rH:(0,(⟨y.d,-7,L.wI y.e qr ls rn⟩:az))=R:=by have:=HR.I;rw[aI bK]at this;rw[<-tF];exact this
  have cU:=V rH;have Ca:rn=r:=by rw[<-tF,fit.q];simp[L.Ai]
  subst Ca;have fP:xl=2:=by rw[<-oO.I,fit.d];rfl
  subst fP;have lU:=fit.n2;have arH:=fit.n10;have lV:=(T.sI fit.aH).2.2.1;have gC:rn*n<=8192:=by rw[fit.z];exact lV
  have C6:=V (λw h=>(Fc xa 2 xc y.d w h U).mono λ_ _ g=>g.fresh HXw.I U);have f0:=bP K2.F.1;clear fit HR tF;go_wp2_with fail;refine(C6.I _ (KR.aQ K2.F.2.2).1).mono ?_;rintro e' w3 ⟨da,dc,rfl,hd,hdn,hb⟩;have K3:=K2.bU hb;have HD:=V hd.bt;have eI:w.heap.size+1<w2.heap.size:=bH K2.F.2.1;have P6:=V (λ(x:Addr) (hx:da=A x)=>(show w.heap.size+1<x.block/\x.block<w3 from by have:=hdn x hx;omega));have LZ:=V (HM.I.move LX U (fJ:=λb=>b<w3.heap.size) (ar.cZ (S:=λ_=>False) hb) (λb sG _=>⟨sG,id,iP sG hb.size⟩));clear K2 hd hdn;go_upto_region 5 with fail;have K4:=V ((aE.new w3 (bj da 2 dc (-7) G 0 0)).and (K3.I.alloc (bj da 2 dc (-7) G 0 0)));have I3:=V (HD.I.alloc (bj da 2 dc (-7) G 0 0));have BA:=V (LZ.I.move LX U (fJ:=λb=>b<w3.heap.size) (ar.cZ (S:=λ_=>False) (aD w3 (bj da 2 dc (-7) G 0 0))) (λb sG h=>⟨sG,id,h⟩));obtain⟨bo,cy⟩:=J w3.heap.size;have Bj:w.heap.size+1<bo:=E (bH K3.F.2.1);have D7:(li w3 (bj da 2 dc (-7) G 0 0)).heap.size=bo+1:=by rw[bF,cy]
  have F3:=V D7;rw[cy]at K4 BA P6⊢;clear cy D7;generalize li w3 (bj da 2 dc (-7) G 0 0)=w4 at*;have lJ:=V K4.F.1;go_wp2_with fail;go_loopw [30,9,10,11,13] (λi _ _ _ _ wr=>∃k:Nat,k<=rn/\i=Y Z k/\tB 57 106 aO (bo+1) bo (O da 2 dc) (Y Z (-7)) (k*n) (L.wI y.e qr ls k) wr/\ar (bo+1) (λb=>b=bo) w4 wr) (λi _ _ _ _ _=>rn-(aX i).toNat)
  case atStart=>exact⟨0,cK _,rfl,⟨_,lJ.I,by rw[Nat.zero_mul];exact gP _ _ _ _,by rw[F3.I];exact bu _⟩,ar.cP _ _ _⟩
  case round=>
   obtain⟨k,hk,rfl,lW,fD⟩:=hrel;have HF:=V lW;have HK:=V fD;clear lW fD;by_cases aT:k<rn
   .obtain⟨x,hx⟩:∃x,qr[k]? =A x:=⟨qr[k]'(by rw[uN.I];exact aT),Q2W⟩;have Vr:=V (BA.I.move LX U (fJ:=λb=>b<bo) HK.I (λb sG h=>⟨U,U,h⟩));obtain⟨qb,qo,cs,rfl,_,he,hcs⟩:=Vr.I.get hx;obtain⟨ea,el,ec,rfl,dY⟩:=he;have c0:=hcs 0 _ rfl;simp only[lA,eL]at c0;have Wc:=(Wb.I.row hx).1;have zh:el=n:=by rw[<-dY.1.bA];exact Wc
    subst zh;have o8:k<ll:=by rw[<-pM.I,<-Wb.I.l,uN.I];exact aT
    have Wd:=Wb.I.iH (ls.getD k 0) (by rw[gB,cR (show k<ls.length by rw[pM.I];exact o8)];exact jZ _);have hX4:=HK.I.bC (g:=w) U U K4.F.2.1;have acC:=HK.I.gH (KR.aQ K4.F.2.2.2).2 (λx hx h0=>by have:=KR.F.2.bC h0 hx;exact⟨U,U⟩);obtain⟨lb,lo,rfl,Wa⟩:=acC.cells U;have ck:=Wa k o8;have HS:=V (show L.wI y.e qr ls (k+1)=L.wI y.e qr ls k++L.Gg y.e x (ls.getD k 0) by
     show L.wI y.e qr ls k++L.Gg y.e (qr.getD k []) (ls.getD k 0)=_
     rw[show qr.getD k []=x by simp[dV,hx]])
    have SF:=V (alc ea el ec x y.e wr dY.1);have hsl:=L.ale (l:=x) (e:=y.e) U U;rw[Wc]at hsl;obtain⟨iH,Gh⟩:∃iH:Nat,ls.getD k 0=(iH:Int):=⟨(ls.getD k 0).toNat,(pR Wd.1).symm⟩;rw[Gh]at Wd ck HS;have alz:iH<el:=U;have hle:(k+1)*el<=rn*el:=nZ el aT;rw[Nat.succ_mul]at hle;have sH:=L.P3 (l:=x) (e:=y.e) (x:=(L.soft x y.e).getD iH 0) (by rw[gB,cR (show iH<(L.soft x y.e).length by omega)];exact jZ _);have Gi:=V (show L.Gg y.e x (iH:Int)=(L.soft x y.e).set iH ((L.soft x y.e).getD iH 0-127) by unfold L.Gg;rw[jx]);have f0:=bP hX4;clear hx hcs dY Gh Wd acC;go_wp2_with fail;refine SF.I.mono ?_;rintro e' w5 ⟨v,rfl,aV,gi⟩;obtain⟨g,cc,rfl⟩:∃g cc,v=O (A ⟨g,0,G⟩) el cc:=by
     rw[hsl]at aV;rcases aV.2 with⟨_,h0⟩|⟨g,cc,_,h0,_⟩
     .omega
     .exact⟨g,cc,h0⟩
    rw[hsl]at aV;have jO:=V aV;have hg:=aV.lt g rfl;have c9:=vI aV iH alz hsl;have f9:=aV.frozenAt iH;have ck5:=gi.cell_of ck;generalize(L.soft x y.e).getD iH 0=s at*;obtain⟨s1,s2⟩:=sH;obtain⟨vd,I4,Gj,wD⟩:=HF.I;obtain⟨p,hp⟩:=J ((L.soft x y.e).set iH (s-127));have kN:p.length=el:=by rw[<-hp,List.length_set];exact hsl
    have qP:∀v∈p,-127<=v/\v<=127:=λv hv=>by
     rw[<-hp]at hv;rcases List.mem_or_eq_of_mem_set hv with h|rfl
     .have:=L.P3 h;omega
     .omega
    have wF:Z.wrap (s-127)=s-127:=IntWalk.i64_in _ U;have alA:g≠bo:=U;have yV:ar wr (λ_=>False) wr w5:=ar.cZ gi;have qU:ar wr (λ_=>False) wr (ss w5 ⟨g,iH,G⟩ (Y Z (s-127))):=yV.set (bJ hg.1) _ _;have iT:=V (qU.bC (bH I4) id I4);have Wf:=V (Own.kept Gj qU (λb e=>⟨(Gj.lt b e).2,id⟩));have Aj:=V (show vd.ownBlock≠A g from λe=>E ((Gj.lt g e).2));have fE:=zP (q:=iH) jO.I (s-127);rw[hp]at fE;have oD:=V (ai.owned fE (λv hv=>by have:=qP v hv;exact gF U U) U);have lH:=V (HK.I.trans' (qU.mono (C:=wr) (bu _) (λ_ _ h=>h.elim)) U);have m9:bo+1<=(ss w5 ⟨g,iH,G⟩ (Y Z (s-127))).heap.size:=by rw[jR];have:=gi.size;omega
    have hg6:g<(ss w5 ⟨g,iH,G⟩ (Y Z (s-127))).heap.size:=by rw[jR];exact hg.2
    have uE:=V (show L.wI y.e qr ls (k+1)=L.wI y.e qr ls k++p by rw[HS.I,Gi.I,hp]);have Hv:k*el+el<=8192:=U;clear fE yV qU aV HF HK I4 Gj wD HS Gi hp;generalize L.wI y.e qr ls k=Z5 at*;obtain⟨N0,rG⟩:=J (k*el);have xJ:=V rG;rw[rG]at Wf Hv;have qy:=V kN;have F4:=V qP;clear rG kN qP hg hle;go_wp2_with fail;clear ck c0 wF;generalize ss w5 ⟨g,iH,G⟩ (Y Z (s-127))=w6 at*;go_loopw [50,13] (λi _ wr=>∃(j:Nat) (vd:aj),j<=el/\i=Y Z j/\wr.heap[bo]? =A (ag #[O da 2 dc,Y Z (-7),vd] 57 (0,0))/\wr.ownsRow (bo+1) 106 1 vd (N0+j) ((Z5++p.take j).map (Y aO))/\bo+1<=wr.heap.size/\L.Not (vd.ownBlock=A g)/\ai Z wr g el p/\g<wr/\ar (bo+1) (λb=>b=bo) w4 wr) (λi _ _=>el-(aX i).toNat)
    case atStart=>exact⟨0,vd,cK _,rfl,iT.I,by simpa using Wf.I,m9,Aj.I,oD.I,hg6,lH.I⟩
    case round=>
     clear Wf;obtain⟨j,vd,hj,rfl,I4,Gj,wD,hvg,dY,Ak,cA⟩:=hrel;have P7:=V I4;have Wg:=V Gj;have Aj:=V hvg;have mU:=V dY;have vH:=V cA;clear I4 Gj hvg dY cA;by_cases gS:j<el
     .have e0:=mU.I.cells U;obtain⟨_,_,e1,e0⟩:=e0
      cases e1;have cj:=e0 j gS;simp only[nF]at cj;have hb:=F4.I (p.getD j 0) (by rw[gB,cR (show j<p.length by rw[qy.I];exact gS)];exact jZ _);have HT:=V (T.yz (z:=p) (k:=j) (by rw[qy.I];exact gS));generalize p.getD j 0=u at*;obtain⟨u1,u2⟩:=hb;have hu8:aO.wrap u=u:=Q33;obtain⟨i0,hi,cF,cG,cB⟩:=fB tA;have y0:=aY P7.I;go_upto_region 13 with fail;go_wp2_with (at_builtin;refine ko _ rfl _ _ 52 rfl (bo+1) 106 i0 (Y aO 0) 1 1 underlying52 hi cF cG cB rfl eM vd (N0+j) ((Z5++p.take j).map (Y aO)) rfl (Wg.I.alloc _) ⟨wr,0,G⟩ 1 1 [Y aO u] rfl rfl ?c1 ?c2 ?c3 ?c4 ?c5 ?c6 ?_)
      try(case c1=>exact kJ wr _ _)
      try(case c2=>simp[fV])
      try(case c3=>unfold eS;omega)
      try(case c4=>omega)
      try(case c5=>(try simp only[bF]);omega)
      try(case c6=>omega)
      intro g1 c1 w9 cC bM cN ei fC;have dh:=λb (e:vd.ownBlock=A b)=>(Wg.I.lt b e).1;have hO9:=gI bM (dX P7.I _) (λe=>E (dh _ e));have pX:bo+1<=g1:=ei;obtain⟨q1,q2,q3,q4⟩:=App.field 2 (B:=bo+1) P7.I U wD dh cC bM pX;have xj:=App.all (bo:=bo) (f:=2) (v:=O g1 (N0+j+1) c1) bM;have alB:=V (xj.gH mU.I (λx hx h0=>by cases hx;exact⟨Ak,λh=>h.elim Aj.I (λh=>alA h)⟩));have alC:=iP Ak xj.size;have alD:=V (show L.Not ((O g1 (N0+j+1) c1).ownBlock=A g)from λe=>by
       have e:A g1=A g:=e;injection e with e;rcases cN with h|h
       .exact Aj.I (by rw[h,e])
       .omega)
      have HQ1:=V q1;have I5:=V q2;have HQ3:=V (vH.I.trans' q3 (bu _));have z0:=aY hO9;clear cC bM cN fC xj dh;go_wp2_with fail;go_roundw
      case rel=>exact⟨j+1,_,U,Q2T,HQ1.I,by rw[HT.I,kF,kF,List.map_take];exact I5.I,q4,alD.I,alB.I,alC,HQ3.I⟩
      case measure=>exact Q5q
     .obtain rfl:j=el:=U;have vN:=V (show tB 57 106 aO (bo+1) bo (O da 2 dc) (Y Z (-7)) ((k+1)*j) (L.wI y.e qr ls (k+1)) wr from⟨vd,P7.I,by
       have h:=Wg.I;rw[oQ Q5k]at h;rw[uE.I,Nat.succ_mul,xJ.I];exact h,wD⟩)
      go_wp2_with fail;go_roundw
      case rel=>exact⟨k+1,U,Q2T,vN.I,vH.I⟩
      case measure=>exact Q5q
   .obtain rfl:k=rn:=U;obtain⟨vd,cy,aV,nP⟩:=HF.I;obtain⟨pd,cd,rfl,gC⟩:=ai.nJ aV (λy hy=>by
     have:=L.acB hy;exact yw U U) U
    have mN:=V gC;have jJ:=V (λx (hx:pd=A x)=>(aV.lt x.block Q3b).1);have jK:=V (HK.I.bC U U K4.F.2.2.1);have qM:=V (HK.I.gH I3.I.aN (λx hx h0=>by have:=P6.I x hx;exact⟨U,U⟩));have jV:=V (Below.gh K4.F.2.2.2 HK.I (λb hb=>⟨U,U⟩));obtain rfl:=cU.I;have y0:=aY cy;have g0:=aY jK.I;clear aV cy gC;go_wp2_with fail;refine aZ (v:=aL #[aF #[O da 2 dc,Y Z (-7),O pd (k*n) cd],Y Z 0]) ?_ rfl ⟨_,rfl,⟨_,_,_,_,_,_,rfl,?_,?_,(λx hx=>E (P6.I x hx)),(λx hx=>E (jJ.I x hx))⟩,cL jV.I U _ _ _⟩
    .simp[aW,results133,go_sem,cT jK.I]
    .exact qM.I.eJ (λx hx=>E (P6.I x hx))
    .exact Q1D
 .obtain rfl:(qe,az.zero)=R:=by rw[<-HR.I,aR he]
  have z1:(qe != 0)=true:=Q3d;have r0:=aY K2.F.2.1;clear he;go_wp2_with fail;refine aZ (v:=aL #[aF #[O G 0 0,Y Z 0,O G 0 0],Y Z qe]) ?_ rfl ⟨_,rfl,dM.zero _ _ _,cL K2.F.2.2 U _ _ _⟩;simp[aW,results133,go_sem,cT K2.F.2.1]
theorem alF (n:Nat) (hn:1<=n) (lU:n<=1000000) (w:H):aA aq 140 #[O G 0 0,Y Z (n:Int)] w λe w'=>∃g c,e=bG (O (A ⟨g,0,G⟩) 0 c)/\w'.ownsRow w.heap.size 3 1 (O (A ⟨g,0,G⟩) 0 c) 0 []/\ay w w w':=by
 obtain⟨i0,hi,cF,cG,cB⟩:=fB Dp;have zi:=V (Lib.run_append_nil_zeros (P:=aq) w 55 3 55 3 i0 (Y Z 0) Z Z underlying55 (show aq.underlying 3=A (.int Z) by kernel_rfl) hi cF n U U U (by rw[cB];omega));have qh:decide ((n:Int)<0)=ae:=Q2W;have ku:decide (0<(n:Int))=true:=Q2R;go_enter func140,ntmps140;go_wp2_with (at_builtin;refine Lib.wpList_append_run _ rfl _ _ _ _ rfl _ _ rfl rfl _ _ zi.I ?_)
 go_ret;have hm:n<=eS:=Q2V;exact⟨_,_,rfl,⟨Q2W,bJ ⟨w.heap.size,_,_,rfl,bu _,bZ w _,cK _,grownCap_le_maxLen w n 0 _ hm,by have:=grownCap_ge w n 0 3;rw[Array.size_append,size_zeroCells,size_zeroCells];simp;omega,Q2W⟩⟩,(aD w _).bI 1⟩
theorem acD {k:IntKind} {off l:Nat} {zs:ah} (h:ai k w (A ⟨b,off,G⟩) l zs):∀j u,(zs.map (Y k))[j]? =A u->w.cell? ((⟨b,off,G⟩:Addr).add j)=A u:=by
 intro j u hj;have hlen:j<zs.length:=by
  exact Q16
 have hl:=h.bA;obtain⟨_,_,e,e0⟩:=h.cells U
 cases e;rw[List.getElem?_map,cR hlen,Option.map_some]at hj;have e:(⟨b,off,G⟩:Addr).add j=⟨b,off+j,G⟩:=by
  exact Q1M
 rw[e,e0 j U,<-hj];simp[dV,hlen]
def two (l1 l2:Nat):Nat->Nat
 |0=>0
 |1=>l1
 |_=>l1+l2
def P8 (z1 z2:ah):Nat->List Int
 |0=>[]
 |1=>z1
 |_=>z1++z2
theorem acE (g:Nat) (a1:aC) (l1 c1:Nat) (z1:ah) (a2:aC) (l2 c2:Nat) (z2:ah) (w:H) (h1:w g=A (O a1 l1 c1)) (h2:w ⟨g,1,G⟩=A (O a2 l2 c2)) (r1:ai Z w a1 l1 z1) (r2:ai Z w a2 l2 z2) (p1:1<=l1) (p2:1<=l2) (q1:l1<=1000) (q2:l2<=1000):
 aA aq 77 #[O g 2 2] w (qL Z 3 (l1+l2) (z1++z2) w):=by
 have KR:=V ((r1.bt.and r2.bt).and ((aE.cell h1).and (aE.cell h2)));have GR:=V (alF (l1+l2) U U);obtain⟨b1,o1,rfl,_⟩:=r1.cells U;obtain⟨b2,o2,rfl,_⟩:=r2.cells U;have Fx:=V r1.bA;have Fj:=V r2.bA;go_enter func77,ntmps77;go_wp2_with fail;go_loop [11,3,5] (λi s _=>∃k:Nat,k<=2/\i=Y Z k/\s=Y Z (two l1 l2 k:Nat)) (λi _ _=>2-(aX i).toNat)
 case atStart=>exact⟨0,U,rfl,rfl⟩
 case round=>
  obtain⟨k,hk,rfl,rfl⟩:=hrel;have cs:k=0\/k=1\/k=2:=U;rcases cs with rfl|rfl|rfl
  .have hs:((two l1 l2 0:Nat):Int)=0:=rfl;go_wp2_with fail;go_round
   case rel=>exact⟨1,U,rfl,rfl⟩
   case measure=>simp[aX]
  .have hs:((two l1 l2 1:Nat):Int)=(l1:Int):=rfl;go_wp2_with fail;go_round
   case rel=>exact⟨2,U,rfl,by show _=Y Z ((l1+l2:Nat):Int);go_num⟩
   case measure=>simp[aX]
  .have hs:((two l1 l2 2:Nat):Int)=((l1+l2:Nat):Int):=rfl;go_wp2_with fail;clear hs;refine(GR.I _).mono ?_;rintro e' w2 ⟨gg,gc,rfl,aV,hb⟩;have HO:=V aV;have HB:=V hb;clear aV;go_wp2_with fail;go_loopw [27,6,8] (λi o _ wr=>∃(k:Nat) (v:aj),k<=2/\i=Y Z k/\v=o/\wr.ownsRow w.heap.size 3 1 v (two l1 l2 k) ((P8 z1 z2 k).map (Y Z))/\ay w w wr) (λi _ _ _=>2-(aX i).toNat)
   case atStart=>exact⟨0,_,U,rfl,rfl,HO.I,HB.I⟩
   case round=>
    obtain⟨k,v,hk,rfl,rfl,aV,cW⟩:=hrel;have jO:=V aV;have eV:=V cW;clear aV cW;obtain⟨i0,hi,cF,cG,cB⟩:=fB Dp;have dQ:=eV.I.size;obtain⟨h1,h2⟩:=(KR.aQ eV.I).2;have dh:=λb (e:v.ownBlock=A b)=>(jO.I.lt b e).1;have cs:k=0\/k=1\/k=2:=U;rcases cs with rfl|rfl|rfl
    .have HN:=V (acD (KR.aQ eV.I).1.1);have pW:(z1.map (Y Z)).length=l1:=by rw[ib];exact Fx.I
     have Wh:=V pW;clear pW;go_upto_region 13 with fail;go_wp2_with (at_builtin;refine ko _ rfl _ _ 55 rfl w.heap.size 3 i0 (Y Z 0) 1 8 underlying55 hi cF cG cB rfl eM v 0 [] rfl jO.I ⟨b1,o1,G⟩ l1 c1 (z1.map (Y Z)) rfl (by rw[Wh.I,lA]) ?c1 ?c2 ?c3 ?c4 ?c5 ?c6 ?_)
     try(case c1=>exact HN.I)
     try(case c2=>intro u hu;obtain⟨y,_,rfl⟩:=kG.1 hu;rfl)
     try(case c3=>unfold eS;omega)
     try(case c4=>omega)
     try(case c5=>exact dQ)
     try(case c6=>omega)
     intro g1 Oa w9 cC bM cN ei fC;have rS:=V (eV.I.grown bM dQ dh);have Bu:=V (show w9.ownsRow w.heap.size 3 1 (O g1 l1 Oa) (two l1 l2 1) ((P8 z1 z2 1).map (Y Z))from by exact cC);clear cC bM cN dh;go_wp2_with fail;go_roundw
     case rel=>exact⟨1,_,U,rfl,rfl,Bu.I,rS.I⟩
     case measure=>simp[aX]
    .have HN:=V (acD (KR.aQ eV.I).1.2);have Wh:=V (show(z2.map (Y Z)).length=l2 by rw[ib];exact Fj.I);go_upto_region 13 with fail;go_wp2_with (at_builtin;refine ko _ rfl _ _ 55 rfl w.heap.size 3 i0 (Y Z 0) 1 8 underlying55 hi cF cG cB rfl eM v l1 (z1.map (Y Z)) rfl jO.I ⟨b2,o2,G⟩ l2 c2 (z2.map (Y Z)) rfl (by rw[Wh.I,lA]) ?c1 ?c2 ?c3 ?c4 ?c5 ?c6 ?_)
     try(case c1=>exact HN.I)
     try(case c2=>intro u hu;obtain⟨y,_,rfl⟩:=kG.1 hu;rfl)
     try(case c3=>unfold eS;omega)
     try(case c4=>omega)
     try(case c5=>exact dQ)
     try(case c6=>omega)
     intro g1 Oa w9 cC bM cN ei fC;have rS:=V (eV.I.grown bM dQ dh);have Bu:=V (show w9.ownsRow w.heap.size 3 1 (O g1 (l1+l2) Oa) (two l1 l2 2) ((P8 z1 z2 2).map (Y Z))from by rw[show P8 z1 z2 2=z1++z2 from rfl,kF];exact cC);clear cC bM cN dh;go_wp2_with fail;go_roundw
     case rel=>exact⟨2,_,U,rfl,rfl,Bu.I,rS.I⟩
     case measure=>simp[aX]
    .go_wp2_with fail;go_ret;exact⟨_,rfl,jO.I,eV.I⟩
def Cb (T:dy) (d:ah) (l:Nat) (e:Int) (w:H) (v:aj) (wx:H):Prop:=∃bo a c,v=aP (A ⟨bo,0,G⟩)/\wx.heap[bo]? =A (ag #[O a l c,Y Z e,O G 0 0] T (0,0))/\ai Z wx a l d/\ay w w wx/\w.heap.size<=bo/\(∀x,a=A x->w.heap.size<=x.block/\x.block≠bo)/\l<=c
def Al (v:aj):Prop:=∀a l c e b m k,v=aS a l c e b m k->l<=c
theorem Al.mk {l:Nat} {b:aC} {m:Nat} (h:l<=c):Al (aS a l c e b m k):=by
 intro a' l' c' e' b' m' k' he;unfold aS at he;simp only[Value.agg.injEq,Array.mk.injEq,List.cons.injEq,Value.slice.injEq]at he;obtain⟨⟨_,rfl,rfl⟩,_⟩:=he;exact h
theorem Cb.Wi {T:dy} {l:Nat} {x y z:aj} (hz:wx.heap[bo]? =A (ag #[x,y,z] T (0,0))) (hr:ai Z wx a l d) (hb:ay w w wx) (lG:w.heap.size<=bo) (cI:∀x,a=A x->bo<x.block) (hc:l<=c):
 Cb T d l e w (aP bo) (ss (ss (ss wx bo (O a l c)) ⟨bo,1,G⟩ (Y Z e)) ⟨bo,2,G⟩ (O G 0 0)):=
 ⟨bo,a,c,rfl,oV hz,hr.eJ (λx hx=>E (cI x hx)),cL hb lG _ _ _,lG,(λx hx=>E (cI x hx)),hc⟩
theorem Cb.alG {T:dy} {l:Nat} (hr:ai Z wx a l d) (hl:0<l) (hb:ay w w wx) (cI:∀x,a=A x->w.heap.size<=x.block) (hc:l<=c):
 Cb T d l e w (aP wx) (li wx (ag #[O a l c,Y Z e,O G 0 0] T)):=
 ⟨_,a,c,rfl,bZ wx _,hr.below (aD wx _),hb.step (aD wx _),hb.size,(λx hx=>⟨cI x hx,by have:=hr.bC hl hx;omega⟩),hc⟩
theorem alH (n bx g b1:Nat) (d:dL) (xa:aC) (xl xm:Nat) (w:H) (hn:n<=64) (hd:(cX Z d.a).wf=true/\(cX Z d.b).wf=true/\(cX Z d.c).wf=true) (h1:w.heap[g]? =A (ag #[O b1 1 1,O bx 3 3] 55 (0,0))) (h2:w.heap[b1]? =A (ag #[Y Z (n:Int)] 3 (0,0))) (h3:w.heap[bx]? =A (ag (d.cells xa xl xm) 28 (0,0))):
 aA aq 77 #[O g 2 2] w λe w'=>∃a c,e=bG (O a 4 c)/\ai Z w' a 4 [(n:Int),d.a,d.b,d.c]/\(∀x,a=A x->w.heap.size<=x.block)/\4<=c/\ay w w w':=by
 have hw:∀z∈[(n:Int),d.a,d.b,d.c],(cX Z z).wf=true:=λz hz=>by
  simp only[jy,List.not_mem_nil,or_false]at hz;rcases hz with rfl|rfl|rfl|rfl
  .exact gF U U
  .exact hd.1
  .exact hd.2.1
  .exact hd.2.2
 have r1:ai Z w b1 1 [(n:Int)]:=⟨rfl,U,λz hz=>hw z (by simp at hz;simp[hz]),bJ ⟨b1,0,rfl,λj hj=>by
  obtain rfl:j=0:=U;exact bh h2 0 rfl⟩⟩
 have r2:ai Z w bx 3 [d.a,d.b,d.c]:=⟨rfl,U,λz hz=>hw z (List.mem_cons_of_mem _ hz),bJ ⟨bx,0,rfl,λj hj=>by
  have cs:j=0\/j=1\/j=2:=U;rcases cs with rfl|rfl|rfl
  .exact bh h3 0 rfl
  .exact bh h3 1 rfl
  .exact bh h3 2 rfl⟩⟩
 refine(acE g _ 1 1 _ _ 3 3 _ w (bh h1 0 rfl) (bh h1 1 rfl) r1 r2 U U U U).mono λe w' gv=> ?_;have hc:∀a n c,e=bG (O a n c)->4<=c:=λa n c h=>by
  obtain⟨v,rfl,ho,_⟩:=gv;injection h with h;subst h;have:=ho.1;rcases ho.2 with⟨h1,h2⟩|⟨g,c',cur,h1,_,_,h2,_⟩
  .simp at h2
  .cases h1;exact h2
 obtain⟨a,c,he,hr,hn,hb⟩:=gv.fresh (λz hz=>hw z Q37) U;exact⟨a,c,he,hr,(λx hx=>(hn x hx).1),hc _ _ _ he,hb⟩
def ky.none:ky:=⟨[],0⟩
namespace Bt
def tK (d:dL) (ids:ah):Nat->List Int
 |0=>[]
 |k+1=>tK d ids k++(d.xs.getD (ids.getD k 0).toNat ky.none).z
def iH (d:dL) (ids:ah) (k:Nat):List Int:=dU (λi=>(d.xs.getD (ids.getD i 0).toNat ky.none).y) k
def ten (d:dL) (ids:ah):az:=⟨[(ids.length:Int),d.a,d.b,d.c],d.e,tK d ids ids.length⟩
def of (d:dL) (ids:ah):Int×az×List Int:=
 if ¬d.aH=true\/ids.length<1\/64<ids.length then(1,az.zero,[])else if ids.any (L.off (d.xs.length:Int))=true then(1,az.zero,[])
 else if T.aH (ten d ids).d (ten d ids).e (ten d ids).z then(0,ten d ids,iH d ids ids.length)else(1,az.zero,[])
theorem alI (d:dL) (ids:ah) (k:Nat):iH d ids (k+1)=iH d ids k++[(d.xs.getD (ids.getD k 0).toNat ky.none).y]:=yI _ k
end Bt
def alJ (r:Int×az×List Int) (w:H) (e:Ending) (w':H):Prop:=∃v a n c,e=bG (aL #[v,O a n c,Y Z r.1])/\dM aO w.heap.size w' v r.2.1 /\Al v/\ai Z w' a n r.2.2 /\(∀x,a=A x->w.heap.size<=x.block)/\ay w w w'
theorem Wj {w:H} {B1 B2 E1 E2 s1 s2 n1 n2:Nat} {v1 v2:aj} {x1 x2:List aj} (h1:w.ownsRow B1 E1 s1 v1 n1 x1) (h2:w.ownsRow B2 E2 s2 v2 n2 x2) (hE:E1≠E2) (hb:v1.ownBlock=A b):v2.ownBlock≠A b:=by
 intro du;rcases h1.2 with⟨rfl,_⟩|⟨g,c,cur,rfl,_,hg,_⟩
 .cases hb
 rcases h2.2 with⟨rfl,_⟩|⟨g2,c2,arK,rfl,_,qI,_⟩
 .cases du
 have e1:A g=A b:=hb;have e2:A g2=A b:=du;injection e1 with e1;injection e2 with e2;subst e1;subst e2;rw[hg]at qI;injection qI with qI;injection qI with _ qI;exact hE qI
structure sL (B bo:Nat) (od oe vo:aj) (wq:H) (vd:aj) (nd:Nat) (D:ah) (vl:aj) (nl:Nat) (L:ah) (w:H):Prop where
 bC:w.heap[bo]? =A (ag #[od,oe,vo] 57 (0,0))
 d:w.ownsRow B 106 1 vd nd (D.map (Y aO))
 l:w.ownsRow B 3 1 vl nl (L.map (Y Z))
 b:B<=w
 k:ar B (λb=>b=bo) wq w
section
variable {B bo:Nat} {od oe vo:aj} {wq:H} {vd:aj} {nd:Nat} {D:List Int} {vl:aj} {nl:Nat} {L:List Int} {w:H}
theorem sL.alloc (h:sL B bo od oe vo wq vd nd D vl nl L w) (o:Obj):sL B bo od oe vo wq vd nd D vl nl L (li w o):=
 ⟨dX h.bC o,h.d.alloc o,h.l.alloc o,eH h.b Q2Y,h.k.trans' ((ar.cZ (S:=λb=>b=bo) (aD w o)).mono (C:=w) (bu _) (λ_ _ h=>h)) h.b⟩
theorem sL.drew (h:sL B bo od oe vo wq vd nd D vl nl L w):sL B bo od oe vo wq vd nd D vl nl L w.drew:=⟨h.bC,oh h.d (below_drewN w 1),oh h.l (below_drewN w 1),h.b,h.k.bI 1⟩
theorem sL.data (h:sL B bo od oe vo wq vd nd D vl nl L w) (cy:bo<B) {g n':Nat} (aV:w'.ownsRow B 106 1 (O g n' c) n' (X.map (Y aO))) (hg:w.grownBy w' vd.ownBlock):
 sL B bo od oe vo wq (O g n' c) n' X vl nl L w':=
 ⟨gI hg h.bC (λe=>E ((h.d.lt bo e).1)),aV,h.l.kept hg (by
  cases e:vl.ownBlock with
  |none=>exact aM rfl
  |some b=>exact bJ (λe2=>Wj h.l h.d eM e (e2▸rfl))),eH h.b hg.size,h.k.grown hg h.b (λk e=>(h.d.lt k e).1)⟩
theorem sL.iH (h:sL B bo od oe vo wq vd nd D vl nl L w) (cy:bo<B) {g n':Nat} (aV:w'.ownsRow B 3 1 (O g n' c) n' (X.map (Y Z))) (hg:w.grownBy w' vl.ownBlock):
 sL B bo od oe vo wq vd nd D (O g n' c) n' X w':=
 ⟨gI hg h.bC (λe=>E ((h.l.lt bo e).1)),h.d.kept hg (by
  cases e:vd.ownBlock with
  |none=>exact aM rfl
  |some b=>exact bJ (λe2=>Wj h.d h.l eM e (e2▸rfl))),aV,eH h.b hg.size,h.k.grown hg h.b (λk e=>(h.l.lt k e).1)⟩
theorem sL.store (h:sL B bo od oe vo wq vd nd D vl nl L w) (cy:bo<B):sL B bo od oe vd wq vd nd D vl nl L (ss w ⟨bo,2,G⟩ vd):=
 ⟨dF h.bC _,Own.kept h.d ((ar.cP w (λb=>b=bo) w).set (aM rfl) 2 vd) (λb e=>by have:=h.d.lt b e;exact⟨this.2,U⟩),Own.kept h.l ((ar.cP w (λb=>b=bo) w).set (aM rfl) 2 vd) (λb e=>by have:=h.l.lt b e;exact⟨this.2,U⟩),by rw[jR];exact h.b,h.k.set (aM rfl) _ _⟩
end
theorem acF {z:ah}:∀u∈z.map (Y aO),u.oneCell'=true:=by
 intro u hu;obtain⟨v,-,rfl⟩:=kG.1 hu;rfl
theorem Wk {w:H} {g T:Nat} {x:aj} (h:w.heap[g]? =A (ag #[x] T (0,0))):∀j u,[x][j]? =A u->w.cell? ((⟨g,0,G⟩:Addr).add j)=A u:=by
 intro j u hu
 cases j with
 |zero=>injection hu with hu;subst hu;exact bh h 0 rfl
 |succ j=>simp at hu
theorem acG (d:dL) (ok:Nat->Prop) (xa:aC) (xl xm:Nat) (ia:aC) (n ic:Nat) (ids:ah) (w:H) (h:cH kz 2 ok w xa xl d.xs) (hi:ai Z w ia n ids):
 aA aq 29 #[aF (d.cells xa xl xm),O ia n ic] w (alJ (Bt.of d ids) w):=by
 have KB:=V (aE.fG w (ag (d.cells xa xl xm) 28) (bj G 0 0 0 G 0 0));have KR:=V ((h.bt iG U).and hi.bt);have DM:=V (Lm d ok xa xl xm);have A5:=hi.eC;have L6:=V hi.bA;have oO:=V h.1;have fP:=h.2.1;obtain⟨R,hR⟩:=J (Bt.of d ids);rw[hR];unfold Bt.of at hR;rw[hi.bA]at hR;obtain⟨Z3,hA⟩:=J d.aH;rw[hA]at hR DM;have HR:=V hR;have HA:=V hA;clear h hi hR hA;obtain⟨f0,f1,f2,f3,f4,f5⟩:=df KB.F.1;go_enter func29,ntmps29;go_wp2_with fail;refine bY (DM.I _ (KR.aQ KB.F.2.2).1) λw2 hb=> ?_;have K2:=KB.bU hb;clear KB DM hb f0 f1 f2 f3 f4 f5;obtain⟨r0,r1,r2,r3,r4,r5⟩:=aY K2.F.2.1
 cases Z3
 .obtain rfl:(1,az.zero,[])=R:=by rw[<-HR.I,aR (aM bK)]
  exact Q0v
 by_cases c1:n<1
 .obtain rfl:(1,az.zero,[])=R:=by rw[<-HR.I,aR (bJ (aM c1))]
  have d1:decide ((n:Int)<1)=true:=Q2R;have d1':decide (n<1)=true:=Q2R;clear c1;exact Q0v
 have d1:decide ((n:Int)<1)=ae:=Q2R;have d1':decide (n<1)=ae:=Q2R;by_cases c2:64<n
 .obtain rfl:(1,az.zero,[])=R:=by rw[<-HR.I,aR (bJ (bJ c2))]
  have d2:decide (64<(n:Int))=true:=Q2R;have d2':decide (64<n)=true:=Q2R;clear c2;exact Q0v
 have d2:decide (64<(n:Int))=ae:=Q2R;have d2':decide (64<n)=ae:=Q2R;have cU:=V (show(if ids.any (L.off (d.xs.length:Int))=true then(1,az.zero,[])else if T.aH (Bt.ten d ids).d (Bt.ten d ids).e (Bt.ten d ids).z then(0,Bt.ten d ids,Bt.iH d ids n)else(1,az.zero,[]))=R from by
  have:=HR.I;rw[aI (by rintro(h|h|h);exact h rfl;omega;omega)]at this;exact this)
 have gJ:=HA.I;unfold dL.aH at gJ;simp only[Bool.and_eq_true]at gJ;obtain⟨iL,iQ,arL⟩:=dL.bd gJ.1;have Iw:=V gJ.2;have ju:=V iL;have ku:1<=n:=U;have UV:n<=64:=U;clear HR gJ c1 c2 iL;have CC:=V (λg b1 w' h1 h2 h3=>alH n w.heap.size g b1 d xa xl xm w' UV ⟨gF (E ju.I.a1) (E ju.I.a2),gF (E ju.I.b1) (E ju.I.b2),gF (E ju.I.c1) (E ju.I.c2)⟩ h1 h2 h3);go_wp2_with fail;clear d1 d1' d2 d2' r0 r1 r2 r3 r4 r5;go_upto_region 3 with fail;go_cut [7] (λv wx=>Cb 57 [(n:Int),d.a,d.b,d.c] 4 d.e w2 v wx)
 case first=>
  have hD:=K2.F.1;have KD:=V (aE.block hD);refine cS (λw':H=>w'.heap[w.heap.size]? =A (ag (d.cells xa xl xm) 28 (0,0))) (eE hD λhS=>bR hS [0,3,7,1,4,8] (λ_ h=>df h) ?_);refine lI 2 10 (λK hK=> ?_) (λK hK=> ?_)
  .go_simp;refine bB hK (KD.I.BS _) ?_;refine lI 5 10 (λK hK=> ?_) (λK hK=> ?_)
   .go_simp;refine bB hK (KD.I.nw _ _) ?_;refine lI 6 10 (λK hK=> ?_) (λK hK=> ?_)
    .go_simp;refine(CC.I _ _ _ (LV _ _ _) (LU _ _ _) (KD.I.nw _ _)).mono ?_;rintro e' w3 ⟨a,c,rfl,hr,xK,kf,hb⟩;have eg:=(LW w2 _ _).step hb;have P9:=KD.bU eg;refine bB hK P9.F ?_;refine cQ P9.F [9] (bL 10 λK hK=> ?_);go_simp;refine cY hK ((P9.I.alloc _).aN) 11 λK hK=> ?_;go_simp;refine bB hK ((P9.I.alloc _).aN) ?_;refine bW ?_;go_wp2_with fail;go_meet
     exact Cb.alG hr U eg (λx hx=>by have h3:_<=x.block:=xK x hx;simp only[bF,World.size_drew]at h3;omega) kf
    .go_simp;refine cY hK (KD.I.kB _ _ _) 6 λK hK=> ?_;go_simp;refine(CC.I _ _ _ (Ab _ _ _ _) (Aa _ _ _ _) (KD.I.kB _ _ _)).mono ?_;rintro e' w3 ⟨a,c,rfl,hr,xK,kf,hb⟩;have eg:=(BU w2 _ _ _).step hb;have hz:=bV (Ac w2 _ _ _) hb;refine bB hK (bV hD eg) ?_;refine cQ (bV hD eg) [9] ?_;obtain⟨z0,z1,z2,z3,z4,z5⟩:=aY hz;refine bL 11 λK hK=> ?_;go_simp;refine bB hK (jQ (bV hD eg) (E (bH hD))) ?_;refine bW ?_;clear z0 z1 z2 z3 z4 z5;go_wp2_with fail;go_meet
     exact Cb.Wi hz hr eg U (λx hx=>by have h:=xK x hx;have h2:=bH (Ac w2 (bj G 0 0 0 G 0 0) (bj G 0 0 0 G 0 0) (bj G 0 0 0 G 0 0));have h3:_<=x.block:=h;simp only[bF,World.size_drew]at h3;omega) kf
   .go_simp;refine cY hK (KD.I.nw _ _) 5 λK hK=> ?_;go_simp;refine cY hK (KD.I.kB _ _ _) 6 λK hK=> ?_;go_simp;refine(CC.I _ _ _ (Ac _ _ _ _) (Aa _ _ _ _) (KD.I.kB _ _ _)).mono ?_;rintro e' w3 ⟨a,c,rfl,hr,xK,kf,hb⟩;have eg:=(BU w2 _ _ _).step hb;have hz:=bV (Ab w2 _ _ _) hb;refine bB hK (bV hD eg) ?_;refine cQ (bV hD eg) [9] ?_;obtain⟨z0,z1,z2,z3,z4,z5⟩:=aY hz;refine bL 11 λK hK=> ?_;go_simp;refine bB hK (jQ (bV hD eg) (E (bH hD))) ?_;refine bW ?_;clear z0 z1 z2 z3 z4 z5;go_wp2_with fail;go_meet
    exact Cb.Wi hz hr eg U (λx hx=>by have h:=xK x hx;have h2:=bH (Ab w2 (bj G 0 0 0 G 0 0) (bj G 0 0 0 G 0 0) (bj G 0 0 0 G 0 0));have h3:_<=x.block:=h;simp only[bF,World.size_drew]at h3;omega) kf
  .go_simp;refine cY hK (KD.I.BS _) 2 λK hK=> ?_;go_simp;refine cY hK (KD.I.nw _ _) 5 λK hK=> ?_;go_simp;refine cY hK (KD.I.kB _ _ _) 6 λK hK=> ?_;go_simp;refine(CC.I _ _ _ (Ac _ _ _ _) (Ab _ _ _ _) (KD.I.kB _ _ _)).mono ?_;rintro e' w3 ⟨a,c,rfl,hr,xK,kf,hb⟩;have eg:=(BU w2 _ _ _).step hb;have hz:=bV (Aa w2 _ _ _) hb;refine bB hK (bV hD eg) ?_;refine cQ (bV hD eg) [9] ?_;obtain⟨z0,z1,z2,z3,z4,z5⟩:=aY hz;refine bL 11 λK hK=> ?_;go_simp;refine bB hK (jQ (bV hD eg) (E (bH hD))) ?_;refine bW ?_;clear z0 z1 z2 z3 z4 z5;go_wp2_with fail;go_meet
   exact Cb.Wi hz hr eg U (λx hx=>by have h:=xK x hx;have h2:=bH (Aa w2 (bj G 0 0 0 G 0 0) (bj G 0 0 0 G 0 0) (bj G 0 0 0 G 0 0));have h3:_<=x.block:=h;simp only[bF,World.size_drew]at h3;omega) kf
 case rest=>
  obtain⟨bo,av,cv,rfl,hz,hr,eg,lG,cI,uO⟩:=hcut;have HCd:=V uO;clear uO;have K3:=K2.bU eg;have fL:=V hr;have Bj:w.heap.size+1<bo:=E (bH K2.F.2.1);have uP:=V (λ(x:Addr) (hx:av=A x)=>(show w.heap.size+1<x.block/\x.block≠bo from⟨by have:=(cI x hx).1;have:=bH K2.F.2.1;omega,(cI x hx).2⟩));have HZ:=V hz;have o9:bo<wc:=bH hz;obtain⟨B,hB⟩:=J wc.heap.size;have HB:=V hB;rw[hB]at o9;clear K2 CC hz hr eg cI lG hB;go_wp2_with fail;go_loopw [38,8,10,11] (λi vl _ _ wr=>∃(k:Nat) (vd:aj) (nd:Nat),k<=n/\i=Y Z (k:Int)/\(ids.take k).any (L.off (d.xs.length:Int))=ae/\nd<=k*2048/\(∀v∈Bt.tK d ids k,(cX aO v).wf=true)/\(∀v∈Bt.iH d ids k,(cX Z v).wf=true)/\sL B bo (O av 4 cv) (Y Z d.e) vd wc vd nd (Bt.tK d ids k) vl k (Bt.iH d ids k) wr) (λi _ _ _ _=>n-(aX i).toNat)
  case atStart=>exact⟨0,O G 0 0,0,cK _,rfl,rfl,cK _,(by intro v hv;cases hv),(by intro v hv;cases hv),HZ.I,gP _ _ _ _,gP _ _ _ _,Q5n,ar.cP _ _ _⟩
  case round=>
   obtain⟨k,vd,nd,hk,rfl,lK,hnd,yL,Kw,fE⟩:=hrel;have HS:=V fE;have acH:=V lK;have H8:=V yL;have H64:=V Kw;have cW:ay w w wr:=Below.gh K3.F.2.2 fE.k (λb hb=>⟨U,U⟩);have eV:=V cW;have HX:=V (fE.k.bC (g:=w) U U K3.F.1);have I6:=V (fE.k.bC (g:=w+1) U U K3.F.2.1);clear fE lK yL Kw;obtain⟨f0,f1,f2,f3,f4,f5⟩:=df HX.I;by_cases aT:k<n
   .obtain⟨b0,o0,rfl,e0⟩:=(KR.aQ cW).2.cells U;have ck:=e0 k aT;have o8:k<ids.length:=by rw[L6.I];exact aT
    have Bf:=V (T.yz (z:=ids) (k:=k) o8);have mZ:=V (show ids.getD k 0∈ids by rw[gB,cR o8];exact jZ _);have D9:=V (show Bt.tK d ids (k+1)=Bt.tK d ids k++(d.xs.getD (ids.getD k 0).toNat ky.none).z from rfl);have I7:=V (Bt.alI d ids k);clear e0 o8 cW;generalize ids.getD k 0=x at*;by_cases c1:x<0
    .have d1:decide (x<0)=true:=by simpa using c1
     obtain rfl:(1,az.zero,[])=R:=by rw[<-cU.I,aR (List.any_eq_true.2 ⟨x,mZ.I,by unfold L.off;simp[c1]⟩)]
     clear c1;exact Q0G
    have d1:decide (x<0)=ae:=Q45;by_cases c2:(xl:Int)<=x
    .have d2:decide ((xl:Int)<=x)=true:=by simpa using c2
     obtain rfl:(1,az.zero,[])=R:=by rw[<-cU.I,aR (List.any_eq_true.2 ⟨x,mZ.I,by unfold L.off;rw[oO.I];simp[c2]⟩)]
     clear c1 c2;exact Q0G
    have d2:decide ((xl:Int)<=x)=ae:=Q44;have HO:=V (show L.off (d.xs.length:Int) x=ae by unfold L.off;rw[oO.I,d1,d2];rfl);obtain⟨q,rfl⟩:∃q:Nat,x=(q:Int):=⟨x.toNat,(pR U).symm⟩;have hq:q<xl:=U;rw[jx]at D9 I7;obtain⟨xx,hx⟩:∃xx,d.xs[q]? =A xx:=⟨d.xs[q]'(by rw[oO.I];exact hq),Q2W⟩;have Cc:d.xs.getD q ky.none=xx:=by simp[dV,hx]
    rw[Cc]at D9 I7;obtain⟨qb,qo,cs,rfl,_,⟨ea,el,ec,rfl,dY⟩,hcs⟩:=(KR.aQ eV.I).1.get hx;have c0:=hcs 0 _ rfl;have c1':=hcs 1 _ rfl;simp only[eL]at c0;have Iq:d.one xx=true:=by
     have h:=Iw.I;simp only[Bool.not_eq_true',List.any_eq_false]at h;simpa using h xx (List.mem_of_getElem? hx)
    obtain⟨-,o2,o3,o4,o5,-⟩:=dL.Lp ju.I Iq;rw[dY.1.bA]at o2 o3;have Kd:=V dY.1.wf;have zj:=V dY.1.bA;obtain⟨eb,eo,rfl,Wl⟩:=dY.1.cells U;have heb:eb<wr:=World.block_lt_of_cell? _ _ (Wl 0 U);have sX:=V (λ(u:H) (hu:ay wr wr u) (j:Nat) (v:aj) (h:(xx.z.map (Y aO))[j]? =A v)=>(show u.cell? ((⟨eb,eo,G⟩:Addr).add j)=A v from by
     have hj:j<el:=by rw[<-zj.I];simpa using(fX.1 h).1
     rw[List.getElem?_map,cR (show j<xx.z.length by rw[zj.I];exact hj)]at h;injection h with h;rw[<-h];have:=hu.cell_of (Wl j hj);rw[gB,cR (show j<xx.z.length by rw[zj.I];exact hj)]at this;have ha:((⟨eb,eo,G⟩:Addr).add j)=⟨eb,eo+j,G⟩:=by simp[Addr.add]
     rw[ha];simpa using this))
    have iW:=V (show nd+el<=(k+1)*2048 by omega);have arM:nd+el<=140000:=U;obtain⟨EX,hEX⟩:∃EX:Obj,EX=ag #[O (A ⟨eb,eo,G⟩) el ec,Y Z xx.y] 54:=⟨_,rfl⟩;have Wm:=V (HS.I.alloc EX);have FP:=V (hEX▸bZ wr (lB (A ⟨eb,eo,G⟩) el ec xx.y):(li wr EX).heap[wr.heap.size]? =A (lB (A ⟨eb,eo,G⟩) el ec xx.y));have PE:=HS.I.b;have L8:=V HS.I;subst hEX;clear c1 c2 hx Cc hcs dY Iq Wl mZ HX I6 HS;go_upto_region 11 with fail;clear f0 f1 f2 f3 f4 f5 ck c0 c1' d1 d2;have Wo:=V (λb (e:vd.ownBlock=A b)=>(L8.I.d.lt b e));have PN:=V (λb (e:u8.ownBlock=A b)=>(L8.I.l.lt b e));obtain⟨W,hW⟩:=J (li wr (lB (A ⟨eb,eo,G⟩) el ec xx.y));rw[hW]at Wm FP;have UG:W.heap.size=wr.heap.size+1:=by rw[<-hW,bF]
    have hWb:ay wr wr W:=hW▸aD wr _;have I8:=V (λ(u:H) (hu:ay W W u)=>sX.I u (hWb.step hu));have Ea:=V (show ∀v∈Bt.tK d ids k++xx.z,(cX aO v).wf=true from λv hv=>(kE.1 hv).elim (H8.I v) (Kd.I v));have acI:=V (show ∀v∈Bt.iH d ids k++[xx.y],(cX Z v).wf=true from λv hv=>(kE.1 hv).elim (H64.I v) (λh=>by rw[List.mem_singleton.1 h];exact gF U U));have HNk:=V (show(ids.take (k+1)).any (L.off (d.xs.length:Int))=ae by rw[Bf.I,List.any_append,acH.I];simp[HO.I]);obtain⟨i0,hi,cF,cG,cB⟩:=fB tA;rw[hW];clear hW sX hWb L8;have iw:=V Wm.I.drew;refine Lt.begins (λw':H=>w'.heap[bo]? =A (ag #[O av 4 cv,Y Z d.e,vd] 57 (0,0))/\w'.heap[wr.heap.size]? =A (lB (A ⟨eb,eo,G⟩) el ec xx.y)) (λj=>j==11||j==12) kr ?_;have hS:(λw':H=>w'.heap[bo]? =A (ag #[O av 4 cv,Y Z d.e,vd] 57 (0,0))/\w'.heap[wr.heap.size]? =A (lB (A ⟨eb,eo,G⟩) el ec xx.y)) W.drew:=⟨iw.I.bC,FP.I⟩;refine bR hS [0,2,5,6,1,3,7] (λ_ h=>aw (bP h.1) (nj h.2)) ?_;refine lI 4 8 (λK hK=> ?_) (λK hK=> ?_)
    .refine lM _ cJ _ _ _ cJ B 106 i0 _ 1 1 underlying52 hi cF cG cB rfl U vd nd ((Bt.tK d ids k).map (Y aO)) cJ iw.I.d ⟨eb,eo,G⟩ el ec (xx.z.map (Y aO)) cJ (by rw[ib,zj.I];omega) (I8.I _ (below_drewN W 1)) acF U Q2V U iw.I.b _ rfl ?_;intro g1 c1 W1 cC bM cN ei;have jT:=V (iw.I.data o9 (X:=Bt.tK d ids k++xx.z) (by rw[kF];exact cC) bM);have dp:(λw':H=>w'.heap[bo]? =A (ag #[O av 4 cv,Y Z d.e,vd] 57 (0,0))/\w'.heap[wr.heap.size]? =A (lB (A ⟨eb,eo,G⟩) el ec xx.y)) W1:=⟨jT.I.bC,gI bM FP.I (λe=>E ((Wo.I _ e).2))⟩;refine bB hK dp ?_;refine cQ dp [10] (bL 8 λK hK=> ?_);go_simp;refine bB hK (⟨dX dp.1 _,dX dp.2 _⟩) ?_;have Gk:=V (jT.I.alloc (ag #[Y Z xx.y] 3));have gR:=jT.I.b;obtain⟨i0,hi,cF,cG,cB⟩:=fB Dp;refine bL 9 λK hK=> ?_;refine lM _ cJ _ _ _ cJ B 3 i0 _ 1 8 underlying55 hi cF cG cB rfl U u8 k ((Bt.iH d ids k).map (Y Z)) cJ Gk.I.l ⟨W1,0,G⟩ 1 1 [Y Z xx.y] cJ cJ (kJ W1 _ _) Q35 U Q2V U Q2R _ rfl ?_;intro g2 c2 W2 fT lh oU fC;have jI:=V (Gk.I.iH o9 (X:=Bt.iH d ids k++[xx.y]) (by rw[kF];exact fT) lh);have bX:(λw':H=>w'.heap[bo]? =A (ag #[O av 4 cv,Y Z d.e,vd] 57 (0,0))/\w'.heap[wr.heap.size]? =A (lB (A ⟨eb,eo,G⟩) el ec xx.y)) W2:=⟨jI.I.bC,gI lh (dX dp.2 _) (λe=>E ((PN.I _ e).2))⟩;refine bB hK bX ?_;obtain⟨z0,z1,z2,z3,z4,z5⟩:=aY jI.I.bC;refine bL 11 λK hK=> ?_;go_simp;refine jg hK ?_;refine bL 12 λK hK=> ?_;go_simp;refine jg hK ?_;refine bW ?_;have tL:=V (jI.I.store o9);clear z0 z1 z2 z3 z4 z5 cC fT bM lh cN oU hS dp bX;exact Q0V
    .go_simp;have pj:=V ((Wm.I.alloc (ag #[Y Z xx.y] 3)).drew);have Wp:(λw':H=>w'.heap[bo]? =A (ag #[O av 4 cv,Y Z d.e,vd] 57 (0,0))/\w'.heap[wr.heap.size]? =A (lB (A ⟨eb,eo,G⟩) el ec xx.y)) (li W (ag #[Y Z xx.y] 3)).drew:=⟨pj.I.bC,dX hS.2 _⟩;refine cY hK Wp 4 λK hK=> ?_;refine lM _ cJ _ _ _ cJ B 106 i0 _ 1 1 underlying52 hi cF cG cB rfl U vd nd ((Bt.tK d ids k).map (Y aO)) cJ pj.I.d ⟨eb,eo,G⟩ el ec (xx.z.map (Y aO)) cJ (by rw[ib,zj.I];omega) (I8.I _ ((aD W _).step (below_drewN _ 1))) acF U Q2V U pj.I.b _ rfl ?_;intro g1 c1 W1 cC bM cN ei;have jT:=V (pj.I.data o9 (X:=Bt.tK d ids k++xx.z) (by rw[kF];exact cC) bM);have dp:(λw':H=>w'.heap[bo]? =A (ag #[O av 4 cv,Y Z d.e,vd] 57 (0,0))/\w'.heap[wr.heap.size]? =A (lB (A ⟨eb,eo,G⟩) el ec xx.y)) W1:=⟨jT.I.bC,gI bM Wp.2 (λe=>E ((Wo.I _ e).2))⟩;have gR:=jT.I.b;have alK:W.heap.size<W1:=by have:=bM.size;simp only[World.size_drew,bF]at this;omega
     have uB:W1.heap[W.heap.size]? =A (ag #[Y Z xx.y] 3 (0,0)):=gI bM (bZ W (ag #[Y Z xx.y] 3)) (λe=>E ((Wo.I _ e).2));have acJ:=Wk (UG▸uB);refine bB hK dp ?_;refine cQ dp [10] ?_;obtain⟨i0,hi,cF,cG,cB⟩:=fB Dp;refine bL 9 λK hK=> ?_;refine lM _ cJ _ _ _ cJ B 3 i0 _ 1 8 underlying55 hi cF cG cB rfl U u8 k ((Bt.iH d ids k).map (Y Z)) cJ jT.I.l ⟨wr+1,0,G⟩ 1 1 [Y Z xx.y] cJ cJ acJ Q35 U Q2V U gR _ rfl ?_;intro g2 c2 W2 fT lh oU fC;have jI:=V (jT.I.iH o9 (X:=Bt.iH d ids k++[xx.y]) (by rw[kF];exact fT) lh);have bX:(λw':H=>w'.heap[bo]? =A (ag #[O av 4 cv,Y Z d.e,vd] 57 (0,0))/\w'.heap[wr.heap.size]? =A (lB (A ⟨eb,eo,G⟩) el ec xx.y)) W2:=⟨jI.I.bC,gI lh dp.2 (λe=>E ((PN.I _ e).2))⟩;refine bB hK bX ?_;obtain⟨z0,z1,z2,z3,z4,z5⟩:=aY jI.I.bC;refine bL 11 λK hK=> ?_;go_simp;refine jg hK ?_;refine bL 12 λK hK=> ?_;go_simp;refine jg hK ?_;refine bW ?_;have tL:=V (jI.I.store o9);clear z0 z1 z2 z3 z4 z5 cC fT bM lh cN oU hS Wp dp bX uB acJ alK;exact Q0V
   .obtain rfl:k=n:=U;obtain⟨pb,pc,rfl,gC⟩:=ai.nJ HS.I.d H8.I U;obtain⟨la,lc,rfl,tu⟩:=ai.nJ HS.I.l H64.I U;have F4:=V (λ(x:Addr) (hx:pb=A x)=>(HS.I.d.lt x.block Q3b).1);have I9:=V (λ(x:Addr) (hx:la=A x)=>(HS.I.l.lt x.block Q3b).1);have fO:ai Z wr av 4 [(k:Int),d.a,d.b,d.c]:=HS.I.k.gH fL.I (λx hx h0=>⟨by have:=fL.I.bC h0 hx;rw[HB.I]at this;exact this,(uP.I x hx).2⟩);have acK:=V (show(if T.aH [(k:Int),d.a,d.b,d.c] d.e (Bt.tK d ids k)then((0:Int),(⟨[(k:Int),d.a,d.b,d.c],d.e,Bt.tK d ids k⟩:az),Bt.iH d ids k)else(1,az.zero,[]))=R from by
     have h:=cU.I;have ho:=acH.I;rw[oQ (by rw[L6.I];exact bu _)]at ho;rw[aI (by rw[ho];simp)]at h;unfold Bt.ten at h;rw[L6.I]at h;exact h)
    have MY:=V (jr av 4 cv [(k:Int),d.a,d.b,d.c] d.e pb nd pc (Bt.tK d ids k) wr fO gC);unfold aS at MY;have il:=V fO;have mN:=V gC;have Hu:=V tu;obtain⟨M,hM⟩:∃M:Bool,decide (T.aH [(k:Int),d.a,d.b,d.c] d.e (Bt.tK d ids k))=M:=⟨_,rfl⟩;rw[hM]at MY;have Kg:=V hM;obtain⟨y0,y1,y2,y3,y4,y5⟩:=aY HS.I.bC;clear hM fO gC tu f0 f1 f2 f3 f4 f5;go_wp2_with fail;refine bY MY.I λw5 gi=> ?_;have Cd:=V (bV I6.I gi);have lT:=V (bV HS.I.bC gi);have dO:=V (eV.I.step gi);have alL:=V (il.I.below gi);have UI:=V (mN.I.below gi);have alM:=V (Hu.I.below gi);clear gi y0 y1 y2 y3 y4 y5;obtain⟨t0,t1,t2,t3,t4,t5⟩:=aY Cd.I
    cases M
    .obtain rfl:(1,az.zero,[])=R:=by rw[<-acK.I,aI (kH Kg.I)]
     go_wp2_with fail;clear t0 t1 t2 t3 t4 t5;try simp only[j6,Exit.then]
     refine aZ (v:=aL #[aF #[O G 0 0,Y Z 0,O G 0 0],O G 0 0,Y Z 1]) ?_ rfl ⟨_,_,_,_,rfl,dM.zero _ _ _,Al.mk (bu 0),ai.zero _ _ _,(λx hx=>Q3t),cL dO.I U _ _ _⟩;simp[aW,results29,go_sem,cT Cd.I]
    .obtain rfl:=acK.I.symm.trans (aR (eZ Kg.I));obtain⟨y0,y1,y2,y3,y4,y5⟩:=aY lT.I;go_wp2_with fail;clear t0 t1 t2 t3 t4 t5 y0 y1 y2 y3 y4 y5;try simp only[j6,Exit.then]
     refine aZ (v:=aL #[aF #[O av 4 cv,Y Z d.e,O pb nd pc],O la k lc,Y Z 0]) ?_ rfl ⟨_,_,_,_,rfl,⟨_,_,_,_,_,_,rfl,alL.I.eJ (λx hx=>E (uP.I x hx)),UI.I.eJ (λx hx=>E (F4.I x hx)),(λx hx=>E (uP.I x hx)),(λx hx=>E (F4.I x hx))⟩,Al.mk HCd.I,alM.I.eJ (λx hx=>E (I9.I x hx)),(λx hx=>E (I9.I x hx)),cL dO.I U _ _ _⟩;simp[aW,results29,go_sem,cT Cd.I]
end
end Go.Proofs.YtcpmhoodeieanaaGreatDoor
