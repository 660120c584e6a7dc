/-
  Part 16 of the proof that TopAsk answers true: laws of the functions that it calls, on any memory that holds their arguments.
-/
import Derived.Test.YtcpmhoodeieanaaGreatDoorZO
import Derived.Lib.SmallJoins
import Derived.HandedShaped
import Derived.Handed
import Derived.Shelf.Vars
import Derived.Test.YtcpmhoodeieanaaGreatDoorRows
import Derived.ShutString
import Derived.ChangeOld
import Derived.LaidLaws
import Derived.Lay
import Derived.MakeChecks
set_option maxRecDepth 100000
set_option maxHeartbeats 20000000
set_option linter.unusedVariables false
set_option linter.unusedSimpArgs false
open Go.IntKind renaming i64→Z,u64→cD
open Go.Value renaming int→Y,slice→O,agg→aF,bool→aK
open Option renaming none→G,some→A
open Go renaming World→H,Value→aj,TypeId→dy
open Go.Proofs.Tryz renaming prog→aq
open Go.Ending renaming returned→bG
open List renaming getElem?_eq_getElem→cR,getElem?_eq_some_iff→fX,mem_append→kE
open Go.DataW renaming trod→lN
namespace Go.Proofs.YtcpmhoodeieanaaGreatDoor
open Go.RowKit Go.Proofs.Tryz
variable {fs:Array Field} {a:Assume} {s:ChangeSpec} {fn:Func} {f:FuncId} {X:H->Prop} {p:List MemPlace} {conds:List PathCond} {cs:List aj} {fuel n o:Nat} {r:Reach} {ZW α:Type} {c:aj} {e t:dy} {k:IntKind}
section
open Go.WideShapes Go.ChangeShapes Go.Joins
section
variable {ZW:Type} {enc:dy×aj->ZW} {P:Program} {W:H}
theorem aeP {d:DataW ZW} {v:Nat}:∀{ds:List (DataW ZW)} {i:Nat},ds[i]? =A d->v∈d.weights P e->v∈DataW.weightsAll P e ds
 | [],i,h,_=>Q4b
 |x::ds,0,h,hv=>by
  obtain rfl:x=d:=Q32;simp only[DataW.weightsAll,kE];exact Or.inl hv
 |x::ds,i+1,h,hv=>by
  simp only[DataW.weightsAll,kE];exact Or.inr (aeP (i:=i) Q32 hv)
theorem apK {td te:dy} {B:Nat} {y:DataW ZW×List MemPlace} (hu:P.underlying td=A (.slice te)) (he:P.underlying te=A (.int k)) (hc:P.cellsOf te=1) (hb:P.bytesOf te=B)
 (g:lN enc P W 0 (λ_=>true) true n td [c]=A y) (hs:∀x∈y.1.weights P td,x<=140737488351232):∃a len cap zs,c=O a len cap/\JO k B W a len cap zs:=by
 rcases open_ints hu he hc g with⟨hcs,_⟩|⟨x,l,cp,zs,hcs,_,hl,hm,hz,hx,hcell,F5⟩
 .simp at hcs;exact⟨G,0,0,[],hcs,.inl ⟨rfl,rfl,rfl,rfl⟩⟩
 .simp at hcs;have hd:y.1 = .slice (lits k (zs.take l)) (lits k (zs.drop l)):=congrArg Prod.fst hx;have EG:zs.length=cp:=Q37;have h2:=hs ((lits k (zs.take l):List (DataW ZW)).length*B+(lits k (zs.drop l):List (DataW ZW)).length*B) (by rw[hd,<-Nat.add_mul];simp[DataW.weights,hu,hb]);simp only[lits,List.length_map,List.length_take,List.length_drop]at h2;refine⟨_,_,_,zs,hcs,.inr ⟨_,rfl,hl,?_,EG,hcell,F5⟩⟩;have e1:min l zs.length+(zs.length-l)=cp:=U;rw[<-Nat.add_mul,e1]at h2;exact h2
theorem mh {x:DataW ZW×List MemPlace} (ht:P.underlying t=A (.struct fs)) (h:lN enc P W 0 (λ_=>true) true fuel t cs=A x) (i:Nat) (f:Field) (hf:fs[i]? =A f):
 ∃m y,lN enc P W 0 (λ_=>true) true m f.type ((cs.drop f.offset).take (P.cellsOf f.type))=A y/\∀v∈y.1.weights P f.type,v∈x.1.weights P t:=by
 obtain⟨xs,n,rfl,rfl,hl,hn,hx⟩:=DataW.trod_struct ht h;have hi:i<xs.length:=by rw[hn];exact(Array.getElem?_eq_some_iff.1 hf).1
 refine⟨n,xs[i],by rw[hx i f hf,cR hi],λv hv=> ?_⟩;simp only[DataW.weights,ht];exact DataW.weights_mem_each (j:=i) (t:=f.type) (by rw[List.getElem?_map,Array.getElem?_toList,hf];rfl) (by rw[List.getElem?_map,cR hi];rfl) v hv
theorem aeQ {x:DataW ZW×List MemPlace} (ht:P.underlying t=A (.slice e)) (h:lN enc P W 0 (λ_=>true) true fuel t cs=A x):
 cs=[O G 0 0]\/∃a len cap,cs=[O (A a) len cap]/\len<=cap/\∀i,i<len->∃m cells y,W.cells? 0 (a.add (i*P.cellsOf e)) (P.cellsOf e)=A cells/\lN enc P W 0 (λ_=>true) true m e cells=A y/\∀v∈y.1.weights P e,v∈x.1.weights P t:=by
 rcases DataW.trod_slice ht h with⟨h,_⟩|⟨a,len,cap,elems,rest,n,rfl,rfl,rfl,hb,hl,hm,hlen,zh,-⟩
 .exact Or.inl h
 refine Or.inr ⟨a,len,cap,rfl,hl,λi hi=> ?_⟩;have he:=zh i hi;rw[cR (by omega:i<elems.length)]at he;obtain⟨cells,h1,h2⟩:=Option.bind_eq_some_iff.1 he;refine⟨n,cells,elems[i],h1,h2,λv hv=> ?_⟩;simp only[DataW.weights,ht,List.mem_cons,kE];exact Or.inr (Or.inl (aeP (i:=i) (by rw[List.getElem?_map,cR (by omega:i<elems.length)];rfl) hv))
theorem Sb {x:DataW ZW×List MemPlace} (ht:P.underlying t=A (.int k)) (h:lN enc P W 0 (λ_=>true) true fuel t [c]=A x):∃n,c=Y k n/\(Lit.int k n).wf=true:=by
 obtain⟨n,he,-,hw⟩:=DataW.trod_int ht h;exact⟨n,Q3d,hw⟩
theorem take_one (h:cs[o]? =A c):(cs.drop o).take 1=[c]:=by
 have hl:=(fX.1 h).1;have e:cs[o]=c:=by rw[cR hl]at h;injection h
 rw[List.drop_eq_getElem_cons hl,e];rfl
theorem su {x:DataW ZW×List MemPlace} (ht:P.underlying t=A (.int k)) (hc:P.cellsOf t=1) (h:lN enc P W 0 (λ_=>true) true fuel t ((cs.drop o).take (P.cellsOf t))=A x) (ho:cs[o]? =A c):∃n,c=Y k n/\(Lit.int k n).wf=true:=by
 rw[hc,take_one ho]at h;exact Sb ht h
theorem apL {x:DataW ZW×List MemPlace} (ht:P.underlying t=A .bool) (h:lN enc P W 0 (λ_=>true) true fuel t [c]=A x):∃b,c=aK b:=by
 cases fuel with
 |zero=>simp[lN]at h
 |succ n=>
  unfold lN at h;rw[ht]at h;split at h<;>simp_all
theorem apM {x:DataW ZW×List MemPlace} (ht:P.underlying t=A .bool) (hc:P.cellsOf t=1) (h:lN enc P W 0 (λ_=>true) true fuel t ((cs.drop o).take (P.cellsOf t))=A x) (ho:cs[o]? =A c):∃b,c=aK b:=by
 rw[hc,take_one ho]at h;exact apL ht h
end
section
variable {ZW:Type} {enc:dy×aj->ZW} {W:H}
theorem apN {y:DataW ZW×List MemPlace} (h:lN enc aq W 0 (λ_=>true) true fuel 102 cs=A y):∃x:Lay,cs=x.cells.toList:=by
 have hl:cs.length=7:=by
  obtain⟨xs,n,-,-,hl,-⟩:=DataW.trod_struct underlying102 h;rw[hl]
  kernel_rfl
 match cs,hl with
 | [c0,c1,c2,c3,c4,c5,c6],_=>
   obtain⟨_,y0,h0,-⟩:=mh underlying102 h 0 _ rfl;obtain⟨_,y1,h1,-⟩:=mh underlying102 h 1 _ rfl;obtain⟨_,y2,h2,-⟩:=mh underlying102 h 2 _ rfl;obtain⟨_,y3,h3,-⟩:=mh underlying102 h 3 _ rfl;obtain⟨_,y4,h4,-⟩:=mh underlying102 h 4 _ rfl;obtain⟨_,y5,h5,-⟩:=mh underlying102 h 5 _ rfl;obtain⟨_,y6,h6,-⟩:=mh underlying102 h 6 _ rfl;have ci:aq.cellsOf 3=1:=Q2Q;have cb:aq.cellsOf 4=1:=Q2Q;obtain⟨n0,rfl,-⟩:=su (k:=Z) (t:=3) (o:=0) underlying3 ci h0 rfl;obtain⟨n1,rfl,-⟩:=su (k:=Z) (t:=3) (o:=1) underlying3 ci h1 rfl;obtain⟨n2,rfl,-⟩:=su (k:=Z) (t:=3) (o:=2) underlying3 ci h2 rfl;obtain⟨n3,rfl,-⟩:=su (k:=Z) (t:=3) (o:=3) underlying3 ci h3 rfl;obtain⟨n4,rfl,-⟩:=su (k:=Z) (t:=3) (o:=4) underlying3 ci h4 rfl;obtain⟨n5,rfl,-⟩:=su (k:=Z) (t:=3) (o:=5) underlying3 ci h5 rfl;obtain⟨b6,rfl⟩:=apM (t:=4) (o:=6) underlying4 cb h6 rfl;exact⟨⟨n0,n1,n2,n3,n4,n5,b6⟩,rfl⟩
theorem aeR {base:Nat} {a:Addr} (h:W.cells? base a n=A cs) (j:Nat) (v:aj) (hv:cs[j]? =A v):W.cell? (a.add j)=A v:=by
 unfold World.cells? at h;split at h
 .have hl:=mapM_some_length h;have hj:=(fX.1 hv).1;have:=mapM_some_get h j j (by rw[List.getElem?_range (by rw[hl,List.length_range]at hj;exact hj)]);rw[this,hv]
 .cases h
theorem aeS {ZU:(Nat->Prop)->H->Array aj->α->Prop} {sz:Nat} (C:Carry ZU sz) (h0:0<sz) (a:Addr) (len:Nat) (hn:len<=1000000000)
 (h:∀i,i<len->∃cells x,W.cells? 0 (a.add (i*sz)) sz=A cells/\ZU (λ_=>True) W cells.toArray x):∃L,cH ZU sz (λ_=>True) W (A a) len L:=by
 classical
 have hf:∀i:Fin len,∃x cells,W.cells? 0 (a.add (i.1 *sz)) sz=A cells/\ZU (λ_=>True) W cells.toArray x:=λi=>by
  obtain⟨c,x,h1,h2⟩:=h i.1 i.2;exact⟨x,c,h1,h2⟩
 let f:=λi=>Classical.choose (hf i)
 have hg:∀i:Fin len,∃cells,W.cells? 0 (a.add (i.1 *sz)) sz=A cells/\ZU (λ_=>True) W cells.toArray (f i):=λi=>Classical.choose_spec (hf i);refine⟨List.ofFn f,Q2W,hn,?_⟩;by_cases hz:len=0
 .exact Or.inl hz
 have NH:a=⟨a.block,a.off,G⟩:=by
  obtain⟨cells,h1,h2⟩:=hg ⟨0,U⟩;have hs:=C.size h2;have hc:=aeR h1 0 (cells[0]'(by simp at hs;omega)) (cR _);obtain⟨b,o,sp⟩:=a;have:sp=G:=by simpa[Addr.add]using World.cell?_spot hc
  rw[this]
 refine Or.inr ⟨a.block,a.off,by rw[<-NH],trivial,λi x hx=> ?_⟩;have hi:i<len:=by simpa using(fX.1 hx).1
 obtain⟨cells,h1,h2⟩:=hg ⟨i,hi⟩;have xF:f ⟨i,hi⟩=x:=by simpa[List.getElem?_ofFn,hi]using hx
 refine⟨cells.toArray,xF▸h2,λj v hv=> ?_⟩;have hc:=aeR h1 j v (by simpa using hv);rw[NH]at hc;have e:((⟨a.block,a.off,G⟩:Addr).add (i*sz)).add j=⟨a.block,a.off+i*sz+j,G⟩:=by
  unfold Addr.add;by_cases hA:i*sz=0<;>by_cases hB:j=0<;>simp[hA,hB]
 rw[e]at hc;exact hc
theorem apO {y:DataW ZW×List MemPlace} (h:lN enc aq W 0 (λ_=>true) true fuel 54 cs=A y) (hw:∀v∈y.1.weights aq 54,v<=reachBytes):∃x:ky,kz (λ_=>True) W cs.toArray x:=by
 have hl:cs.length=2:=by
  obtain⟨xs,n,-,-,hl,-⟩:=DataW.trod_struct underlying54 h;rw[hl]
  kernel_rfl
 match cs,hl with
 | [c0,c1],_=>
   obtain⟨m0,y0,h0,g0⟩:=mh underlying54 h 0 _ rfl;obtain⟨_,y1,h1,-⟩:=mh underlying54 h 1 _ rfl;have ci:aq.cellsOf 3=1:=Q2Q;have cs:aq.cellsOf 52=1:=Q2Q;have c8:aq.cellsOf 106=1:=Q2Q;have b8:aq.bytesOf 106=1:=Q2Q;obtain⟨n1,rfl,-⟩:=su (k:=Z) (t:=3) (o:=1) underlying3 ci h1 rfl;have NB:lN enc aq W 0 (λ_=>true) true m0 52 (([c0,Y Z n1].drop 0).take (aq.cellsOf 52))=A y0:=h0;rw[cs,take_one (c:=c0) rfl]at NB;obtain⟨a,l,c,zs,rfl,hr⟩:=apK underlying52 underlying106 c8 b8 NB (λx hx=>hw x (g0 x hx));exact⟨⟨zs.take l,n1⟩,a,l,c,rfl,hr.at (Nat.le_refl _),λ_ _ _=>trivial⟩
theorem apP {y:DataW ZW×List MemPlace} (h:lN enc aq W 0 (λ_=>true) true fuel 23 [c]=A y):∃xa xl xm,c=O xa xl xm/\(xl<=1000000000->∃L,cH iM 7 (λ_=>True) W xa xl L):=by
 have cl:aq.cellsOf 102=7:=Q2Q;rcases aeQ underlying23 h with h|⟨a,len,cap,he,_,zh⟩
 .exact⟨G,0,0,Q32,λ_=>⟨[],cH.nil _ _ _ _ _⟩⟩
 .refine⟨A a,len,cap,Q3d,λhn=>aeS gL U a len hn λi hi=> ?_⟩;obtain⟨m,cells,y,h1,h2,-⟩:=zh i hi;obtain⟨x,rfl⟩:=apN h2;rw[cl]at h1;exact⟨_,x,h1,by simp[iM]⟩
theorem apQ {y:DataW ZW×List MemPlace} (h:lN enc aq W 0 (λ_=>true) true fuel 26 [c]=A y) (hw:∀v∈y.1.weights aq 26,v<=reachBytes):∃xa xl xm,c=O xa xl xm/\(xl<=1000000000->∃L,cH kz 2 (λ_=>True) W xa xl L):=by
 have cl:aq.cellsOf 54=2:=Q2Q;rcases aeQ underlying26 h with h|⟨a,len,cap,he,_,zh⟩
 .exact⟨G,0,0,Q32,λ_=>⟨[],cH.nil _ _ _ _ _⟩⟩
 .refine⟨A a,len,cap,Q3d,λhn=>aeS iG U a len hn λi hi=> ?_⟩;obtain⟨m,cells,y,h1,h2,h3⟩:=zh i hi;obtain⟨x,hx⟩:=apO h2 (λv hv=>hw v (h3 v hv));rw[cl]at h1;exact⟨_,x,h1,hx⟩
theorem aeT {c0 c1 c2:aj} {y:DataW ZW×List MemPlace} (h:lN enc aq W 0 (λ_=>true) true fuel 22 [c0,c1,c2]=A y):∃a b c,c0=Y Z a/\c1=Y Z b/\c2=Y Z c:=by
 have ci:aq.cellsOf 3=1:=Q2Q;obtain⟨xs,m,rfl,-,-,hl,hx⟩:=DataW.trod_array underlying22 h
 match xs,hl with
 | [x0,x1,x2],_=>
   have h0:=hx 0 U;have h1:=hx 1 U;have h2:=hx 2 U;rw[ci]at h0 h1 h2;rw[take_one (c:=c0) rfl]at h0;rw[take_one (c:=c1) rfl]at h1;rw[take_one (c:=c2) rfl]at h2;obtain⟨a,rfl,-⟩:=Sb (k:=Z) underlying3 h0;obtain⟨b,rfl,-⟩:=Sb (k:=Z) underlying3 h1;obtain⟨c,rfl,-⟩:=Sb (k:=Z) underlying3 h2;exact⟨a,b,c,rfl,rfl,rfl⟩
theorem apR {b0:Nat} {v:aj} {d:DataW ZW} (hv:Value.okWide aq W r b0 33 v) (h:DataW.Trod enc aq W 0 (λ_=>true) true 33 v d p) (hs:∀x∈d.weights aq 33,x<=reachBytes):
 ∃(a b c:Int) (xa:aC) (xl xm:Nat) (da db dc de dk:Int) (ea:aC) (el em:Nat) (hy:iV) (au n:Int),v=aF (nY ⟨a,b,c,[]⟩ ⟨da,db,dc,de,dk,[]⟩ hy au n xa xl xm ea el em)/\P.Z4 au/\(xl<=1000000000->∃L,cH iM 7 (λ_=>True) W xa xl L)/\(el<=1000000000->∃L,cH kz 2 (λ_=>True) W ea el L):=by
 have ct:aq.cellsOf 33=18:=Q2Q;have cm:aq.cellsOf 25=4:=Q2Q;have cd:aq.cellsOf 28=6:=Q2Q;have ch:aq.cellsOf 30=6:=Q2Q;have ci:aq.cellsOf 3=1:=Q2Q;have cu:aq.cellsOf 31=1:=Q2Q;have Bw:aq.cellsOf 22=3:=Q2Q;have cl:aq.cellsOf 23=1:=Q2Q;have ce:aq.cellsOf 26=1:=Q2Q;obtain⟨cs,rfl,dQ⟩:=okWide_struct underlying33 hv;obtain⟨fuel,hf⟩:=h;obtain⟨l⟩:=cs;have hl:l.length=18:=by
  have h2:l.length=aq.cellsOf 33:=dQ;rw[ct]at h2;exact h2
 clear dQ hv
 match l,hl with
 | [c0,c1,c2,c3,c4,c5,c6,c7,c8,c9,NC,ND,c12,NE,NF,NG,Np,GX],_=>
   obtain⟨mA,yA,hA,-⟩:=mh underlying33 hf 0 _ rfl;obtain⟨mB,yB,hB,wB⟩:=mh underlying33 hf 1 _ rfl;obtain⟨mC,yC,hC,-⟩:=mh underlying33 hf 2 _ rfl;obtain⟨mD,yD,hD,-⟩:=mh underlying33 hf 3 _ rfl;obtain⟨mE,yE,hE,-⟩:=mh underlying33 hf 4 _ rfl;have hA:lN enc aq W 0 (λ_=>true) true mA 25 (([c0,c1,c2,c3,c4,c5,c6,c7,c8,c9,NC,ND,c12,NE,NF,NG,Np,GX].drop 0).take (aq.cellsOf 25))=A yA:=hA;have hB:lN enc aq W 0 (λ_=>true) true mB 28 (([c0,c1,c2,c3,c4,c5,c6,c7,c8,c9,NC,ND,c12,NE,NF,NG,Np,GX].drop 4).take (aq.cellsOf 28))=A yB:=hB;have hC:lN enc aq W 0 (λ_=>true) true mC 30 (([c0,c1,c2,c3,c4,c5,c6,c7,c8,c9,NC,ND,c12,NE,NF,NG,Np,GX].drop 10).take (aq.cellsOf 30))=A yC:=hC;rw[cm]at hA;rw[cd]at hB;rw[ch]at hC;have hA:lN enc aq W 0 (λ_=>true) true mA 25 [c0,c1,c2,c3]=A yA:=hA;have hB:lN enc aq W 0 (λ_=>true) true mB 28 [c4,c5,c6,c7,c8,c9]=A yB:=hB;have hC:lN enc aq W 0 (λ_=>true) true mC 30 [NC,ND,c12,NE,NF,NG]=A yC:=hC;obtain⟨m0,y0,h0,-⟩:=mh underlying25 hA 0 _ rfl;obtain⟨m1,y1,h1,-⟩:=mh underlying25 hA 1 _ rfl;have h0:lN enc aq W 0 (λ_=>true) true m0 22 (([c0,c1,c2,c3].drop 0).take (aq.cellsOf 22))=A y0:=h0;have h1:lN enc aq W 0 (λ_=>true) true m1 23 (([c0,c1,c2,c3].drop 3).take (aq.cellsOf 23))=A y1:=h1;rw[Bw]at h0;rw[cl]at h1;obtain⟨a,b,c,rfl,rfl,rfl⟩:=aeT (c0:=c0) (c1:=c1) (c2:=c2) h0;obtain⟨xa,xl,xm,rfl,pW⟩:=apP (c:=c3) h1;obtain⟨m2,y2,h2,-⟩:=mh underlying28 hB 0 _ rfl;obtain⟨_,y3,h3,-⟩:=mh underlying28 hB 1 _ rfl;obtain⟨_,y4,h4,-⟩:=mh underlying28 hB 2 _ rfl;obtain⟨m5,y5,h5,w5⟩:=mh underlying28 hB 3 _ rfl;have h2:lN enc aq W 0 (λ_=>true) true m2 22 (([c4,c5,c6,c7,c8,c9].drop 0).take (aq.cellsOf 22))=A y2:=h2;have h5:lN enc aq W 0 (λ_=>true) true m5 26 (([c4,c5,c6,c7,c8,c9].drop 5).take (aq.cellsOf 26))=A y5:=h5;rw[Bw]at h2;rw[ce]at h5;obtain⟨da,db,dc,rfl,rfl,rfl⟩:=aeT (c0:=c4) (c1:=c5) (c2:=c6) h2;obtain⟨de,rfl,-⟩:=su (k:=Z) (t:=3) (o:=3) (c:=c7) underlying3 ci h3 rfl;obtain⟨dk,rfl,-⟩:=su (k:=Z) (t:=3) (o:=4) (c:=c8) underlying3 ci h4 rfl;obtain⟨ea,el,em,rfl,zh⟩:=apQ (c:=c9) h5 (λv hv=>hs v (wB v (w5 v hv)));obtain⟨_,z0,k0,-⟩:=mh underlying30 hC 0 _ rfl;obtain⟨v0,rfl,-⟩:=su (k:=Z) (t:=3) (o:=0) (c:=NC) underlying3 ci k0 rfl;obtain⟨_,z1,k1,-⟩:=mh underlying30 hC 1 _ rfl;obtain⟨v1,rfl,-⟩:=su (k:=Z) (t:=3) (o:=1) (c:=ND) underlying3 ci k1 rfl;obtain⟨_,z2,k2,-⟩:=mh underlying30 hC 2 _ rfl;obtain⟨v2,rfl,-⟩:=su (k:=Z) (t:=3) (o:=2) (c:=c12) underlying3 ci k2 rfl;obtain⟨_,z3,k3,-⟩:=mh underlying30 hC 3 _ rfl;obtain⟨v3,rfl,-⟩:=su (k:=Z) (t:=3) (o:=3) (c:=NE) underlying3 ci k3 rfl;obtain⟨_,z4,k4,-⟩:=mh underlying30 hC 4 _ rfl;obtain⟨v4,rfl,-⟩:=su (k:=Z) (t:=3) (o:=4) (c:=NF) underlying3 ci k4 rfl;obtain⟨_,z5,k5,-⟩:=mh underlying30 hC 5 _ rfl;obtain⟨v5,rfl,-⟩:=su (k:=Z) (t:=3) (o:=5) (c:=NG) underlying3 ci k5 rfl;obtain⟨au,rfl,gD⟩:=su (k:=cD) (t:=31) (o:=16) (c:=Np) underlying31 cu hD rfl;obtain⟨n,rfl,-⟩:=su (k:=Z) (t:=3) (o:=17) (c:=GX) underlying3 ci hE rfl;refine⟨a,b,c,xa,xl,xm,da,db,dc,de,dk,ea,el,em,⟨v0,v1,v2,v3,v4,v5⟩,au,n,rfl,?_,pW,zh⟩;simp[Lit.wf,IntKind.min,IntKind.max,IntKind.signed,IntKind.bits]at gD;exact⟨U,U⟩
end
end
theorem apS {enc:dy×aj->ZW} {C:Checked} {os:Os} {apart fresh handsOn again:Bool}
 (hX:∀(w w':H),w.heap=w'.heap->X w->X w')
 (own:ownKnob C.prog.godebug=G) (started:os.Started) (apT:C.prog.inits.idxOf? f=G) (Ls:C.prog.funcs[f]? =A fn)
 (witness:∃(w:H) (tape:Tape) (i:Input),w.os=os/\(w.forCall tape i).Shaped C.prog/\i.vars=[]/\Input.okWide C.prog (w.forCall tape i) .any w.heap.size f i/\
  ((s.pre enc C.prog fn conds apart (w.forCall tape i).memory i.args/\X (w.forCall tape i).memory)/\sizedMet enc C.prog fn (OpenSpec.ofChange s) apart (w.forCall tape i).memory i.args)/\a.holds C.prog (lone (Frame.enter C.prog f i.args .normal) [] (w.forCall tape i)))
 (contract:∀(W:H) (base:Nat) (args:Array aj) (ds gs:List (DataW ZW)) (before:List MemPlace),
  (∀(j:Nat) t v,fn.params[j]? =A t->args[j]? =A v->Value.okWide C.prog W .any base t v)->
  DataW.Whole enc C.prog fn.params.toList s.vars apart W args.toList ds gs before->
  (DataW.weightsEach C.prog (fn.params.toList++s.plain.varTypes C.prog) (ds++gs)).all (· <=reachBytes)=true->W.ShapedOpen C.prog->
  Calls C.prog f args W λe W'=>∃v,e=bG v/\s.post enc C.prog fn apart fresh handsOn again W args v W'):
 ReturnsInHanded a C os f .any (λw args=>(s.pre enc C.prog fn conds apart w args/\X w)/\sizedMet enc C.prog fn (OpenSpec.ofChange s) apart w args) (s.post enc C.prog fn apart fresh handsOn again):=by
 refine returnsInHanded_of_calls own started apT witness ?_;intro w tape i _ mM _ fY yO _;obtain⟨_,_,_,fn',apU,_,_,_,_,hval⟩:=fY;obtain rfl:fn'=fn:=Option.some.inj (apU.symm.trans Ls);obtain⟨⟨⟨ds,gs,before,hw,-⟩,-⟩,hz⟩:=yO;refine(contract (w.forCall tape i) w.heap.size i.args ds gs before hval (DataW.Whole.of_heap (w':=w.forCall tape i) cJ hw) (hz.weights hw) mM).mono λe W' ⟨v,he,hp⟩=> ?_;subst he;exact ChangeSpec.post_blind hp
theorem apV {w:H} (h:w.ShapedOpen aq):wW w:=
 cell_of_shapedOpen_int (g:=0) (t:=3) (zero:=#[Y Z 0]) h (eZ kr) kr rfl kr kr underlying3
section
open Go.ChangeShapes Go.WideShapes Go.ChangeAt
namespace topAsk
theorem own:ownKnob aq.godebug=G:=Q2Q
theorem laidOut:laidOutB aq=true:=Q2Q
theorem apW (a b c:Int) (L:List Lay) (da db dc de dk:Int) (xs:List ky) (h:iV) (au n:Int) (xa:aC) (xl xm:Nat) (ea:aC) (el em:Nat):nY ⟨a,b,c,L⟩ ⟨da,db,dc,de,dk,xs⟩ h au n xa xl xm ea el em=nY ⟨a,b,c,[]⟩ ⟨da,db,dc,de,dk,[]⟩ h au n xa xl xm ea el em:=rfl
theorem asked (a b c:Int) (da db dc de dk:Int) (hy:iV) (au n:Int) (a1:Int) (xa:aC) (xl xm:Nat) (ea:aC) (el em:Nat) (W:H) (h0:wW W) (gD:P.Z4 au)
 (hL:xl<=1000000000->∃L,cH iM 7 (λ_=>True) W xa xl L) (hE:el<=1000000000->∃xs,cH kz 2 (λ_=>True) W ea el xs):
 Calls aq 3 #[aF (nY ⟨a,b,c,[]⟩ ⟨da,db,dc,de,dk,[]⟩ hy au n xa xl xm ea el em),Y Z a1] W (YI W):=by
 by_cases hb:12<xl\/64<el
 .exact apH _ _ hy au n a1 xa xl xm ea el em W h0 hb
 .have h12:xl<=12:=by clear hL hE;omega
  have Ny:el<=64:=by clear hL hE;omega
  obtain⟨L,hL⟩:=hL (Nat.le_trans h12 (Nat.le_of_ble_eq_true rfl));obtain⟨xs,hE⟩:=hE (Nat.le_trans Ny (Nat.le_of_ble_eq_true rfl));rw[<-apW a b c L da db dc de dk xs hy au n xa xl xm ea el em];exact apI ⟨a,b,c,L⟩ ⟨da,db,dc,de,dk,xs⟩ hy au n a1 _ _ xa xl xm ea el em W hL hE h12 Ny gD h0
theorem lifted (os:Os) (started:os.Started) (ZW:Type) (enc:dy×aj->ZW):
 ReturnsInHanded {} Tryz.checked os 3 .any (λw args=>(Rows.topAskSpec.pre enc aq Tryz.f3 [] false w args/\laidMetH aq Rows.topAskRow.laid w)/\sizedMet enc aq Tryz.f3 (OpenSpec.ofChange Rows.topAskSpec) false w args)
  (Rows.topAskSpec.post enc aq Tryz.f3 false true false false):=by
 refine apS (C:=Tryz.checked) (X:=λw=>laidMetH aq Rows.topAskRow.laid w) (λ_ _ hh h=>h.of_heap hh) own started kr func3 ?wit ?_
 case wit=>
  exact ChangeSpec.witness_shaped (enc:=enc) (C:=Tryz.checked) (os:=os) (X:=λw _=>laidMetH aq Rows.topAskRow.laid w) false (World.laidAll aq os Rows.topAskRow.laid) #[aF #[Y Z 0,Y Z 0,Y Z 0,O G 0 0,Y Z 0,Y Z 0,Y Z 0,Y Z 0,Y Z 0,O G 0 0,Y Z 0,Y Z 0,Y Z 0,Y Z 0,Y Z 0,Y Z 0,Y cD 0,Y Z 0],Y Z 0] 8 (World.laidAll_os _ _ _)
   (World.shaped_of_ZipB kr kr) kr kr kr
   (by rw[MakeChecks.laidMetH_plain _ _ _ kr];exact laidMet_laidAll _ kr kr)
 intro W base args ds gs before aeU hW aeV mM;have h0:wW W:=apV mM;have dQ:(DataW.weightsEach aq (Tryz.f3.params.toList++Rows.topAskSpec.plain.varTypes aq) (ds++gs)).all (· <=reachBytes)=true:=aeV;clear aeV mM;have hval:∀(j:Nat) t v,Tryz.f3.params[j]? =A t->args[j]? =A v->Value.okWide aq W .any base t v:=aeU;have hW':=hW;obtain⟨p,q,Ad,hV,rfl,hfz,hnd⟩:=hW;have hA:DataW.TrodAll enc aq W 0 (λ_=>true) true Tryz.f3.params.toList args.toList ds p:=Ad;rw[params3]at hA hval dQ;obtain⟨v0,vs0,d0,ds0,p0,q0,atA,rfl,rfl,NB,r0⟩:=trodAll_cons hA;obtain⟨v1,vs1,d1,ds1,p1,q1,rfl,rfl,rfl,h1,r1⟩:=trodAll_cons r0;obtain⟨rfl,rfl,rfl⟩:=trodAll_nil r1;obtain rfl:args=#[v0,v1]:=by cases args;simp_all
 obtain⟨rfl,rfl⟩:=trodVars_none hV;have k0:=NB;have lt0:∀x∈p0,x.block<W.heap.size:=by obtain⟨m,hm⟩:=k0;exact DataW.trod_lt m _ _ _ hm
 obtain⟨a,b,c,xa,xl,xm,da,db,dc,de,dk,ea,el,em,hy,au,n,rfl,gD,hL,hE⟩:=apR (hval 0 33 v0 rfl rfl) NB (λx hx=>by simpa using List.all_eq_true.1 dQ x (DataW.weights_mem_each (j:=0) (t:=33) rfl rfl x hx));obtain⟨a1,rfl,rfl,rfl,w1⟩:=open_int underlying3 (hval 1 3 v1 rfl rfl) h1;clear aeU;have HC:=asked a b c da db dc de dk hy au n a1 xa xl xm ea el em W h0 gD hL hE;refine HC.mono λe W' ⟨he,kO⟩=> ?_;subst he;exact⟨_,rfl,_,_,_,[],_,[],hW',trodAll_mk1 (shut_bool underlying4 _),(trodAll_cons_mk (Below.trod laidOut kr (eZ kr) k0 kO lt0) (trodAll_cons_mk (shut_int underlying3 w1) trodAll_mk0)),rfl,kO.frame _,λh=>Q38⟩
theorem kh {a b:Bool} (h:a=true) (k:b=true):(a&&b)=true:=by rw[h,k];rfl
theorem jn0:(Rows.topAskRow.wf (OpenSpec.ofChange Rows.topAskSpec))=true:=Q2Q
theorem jn1:(laidOutB Tryz.pinned.checked.prog)=true:=Q2Q
theorem jn2:(mapsRowed Tryz.pinned.checked.prog)=true:=Q2Q
theorem jn3:(Tryz.f3.params.all (Tryz.pinned.checked.prog.readableRec ·))=true:=Q2Q
theorem jn4:(namedTie Tryz.pinned.checked.prog Rows.topAskRow.named Rows.topAskSpec.vars)=true:=Q2Q
theorem jn5:((Rows.topAskRow.stops==[]))=true:=Q2Q
theorem jn6:((Tryz.pinned.checked.prog.stops==[]))=true:=Q2Q
theorem jn7:((Rows.topAskRow.knobs==[]))=true:=Q2Q
theorem jn8:((Tryz.pinned.checked.prog.stopKnobs==[]))=true:=Q2Q
theorem jn9:((Rows.topAskRow.inPlace==Tryz.pinned.checked.prog.inPlace 3))=true:=Q2Q
theorem apX:((Rows.topAskRow.unfollowed==Tryz.pinned.checked.prog.unfollowed 3))=true:=Q2Q
theorem apY:((Rows.topAskRow.recurses==Tryz.pinned.checked.prog.recurses 3))=true:=Q2Q
theorem apZ:((Rows.topAskRow.named==Tryz.pinned.checked.prog.varsNamed 3))=true:=Q2Q
theorem aq0:((Rows.topAskRow.maps==(Tryz.f3.params.toList++Rows.topAskSpec.plain.varTypes Tryz.pinned.checked.prog).any (Tryz.pinned.checked.prog.mapsRec ·)))=true:=Q2Q
theorem aq1:((Rows.topAskRow.ifaces==(Tryz.f3.params.toList++Rows.topAskSpec.plain.varTypes Tryz.pinned.checked.prog).any (Tryz.pinned.checked.prog.ifacesRec ·)))=true:=Q2Q
theorem aq2:((Rows.topAskRow.mapsOut==Tryz.pinned.checked.prog.mapsAmong Tryz.f3.resultTypes.toList))=true:=Q2Q
theorem aq3:((Rows.topAskRow.loops==(Tryz.f3.params.toList++Rows.topAskSpec.plain.varTypes Tryz.pinned.checked.prog).any (Tryz.pinned.checked.prog.loopsFrom ·)))=true:=Q2Q
theorem aq4:((Rows.topAskRow.wideKeys==(Tryz.f3.params.toList++Rows.topAskSpec.plain.varTypes Tryz.pinned.checked.prog++Tryz.f3.resultTypes.toList).any (Tryz.pinned.checked.prog.wideKeysFrom ·)))=true:=Q2Q
theorem aq5:(Rows.topAskSpec.vars.all (Tryz.pinned.checked.prog.varReadable ·))=true:=Q2Q
theorem aq6:(Tryz.f3.resultTypes.all (λt=>Tryz.pinned.checked.prog.readableRec t&&decide (t<Tryz.pinned.checked.prog.types.size)))=true:=Q2Q
theorem aq7:((Rows.topAskRow.ifacesOut==Tryz.f3.resultTypes.toList.any (Tryz.pinned.checked.prog.ifacesRec ·)))=true:=Q2Q
theorem aq8:((Rows.topAskRow.loopsOut==Tryz.f3.resultTypes.toList.any (Tryz.pinned.checked.prog.loopsFrom ·)))=true:=Q2Q
theorem aq9:((Rows.topAskRow.plainKeys==Tryz.pinned.checked.prog.plainKeys))=true:=Q2Q
theorem aqa:(Rows.topAskRow.shortTexts.isNone)=true:=Q2Q
theorem aqb:(Tryz.pinned.checked.prog.stopsHeard)=true:=Q2Q
theorem aqc:(Tryz.pinned.checked.prog.mayEnter)=true:=Q2Q
theorem aqd:((Rows.topAskRow.lifted==Tryz.pinned.checked.prog.liftsFinal))=true:=Q2Q
theorem aqe:((Tryz.pinned.checked.prog.make==A Rows.topAskRow.make))=true:=Q2Q
theorem aqf:((Rows.topAskRow.kinds==(if Rows.topAskRow.domain.isEmpty then[]else Tryz.f3.params.toList.map λt=>match Tryz.pinned.checked.prog.underlying t with|some (.int k)=>A k|_=>G)))=true:=Q2Q
theorem aqg:((Rows.topAskRow.pinned==Rows.topAskRow.pinnedBy))=true:=Q2Q
theorem aqh:((Rows.topAskRow.veiled==(Tryz.f3.params.toList++Rows.topAskSpec.plain.varTypes Tryz.pinned.checked.prog++Tryz.f3.resultTypes.toList).any (Tryz.pinned.checked.prog.veiledRec ·)))=true:=Q2Q
theorem aqi:(Rows.topAskRow.veiledFits Tryz.pinned.checked.prog Tryz.f3.params.toList (Tryz.f3.params.toList++Rows.topAskSpec.plain.varTypes Tryz.pinned.checked.prog++Tryz.f3.resultTypes.toList))=true:=Q2Q
theorem joined:joinedFacts Tryz.pinned.checked.prog 3 Tryz.f3 Rows.topAskSpec Rows.topAskRow=true:=kh (kh (kh (kh (kh (kh (kh (kh (kh (kh (kh (kh (kh (kh (kh (kh (kh (kh (kh (kh (kh (kh (kh (kh (kh (kh (kh (kh (kh (kh (kh jn0 jn1) jn2) jn3) jn4) jn5) jn6) jn7) jn8) jn9) apX) apY) apZ) aq0) aq1) aq2) aq3) aq4) aq5) aq6) aq7) aq8) aq9) aqa) aqb) aqc) aqd) aqe) aqf) aqg) aqh) aqi
theorem inst:Tryz.f3.isInstance Tryz.pinned.checked.prog Rows.topAskRow.origin Rows.topAskRow.targs:=eZ kr
theorem wrapper:Tryz.f3.isWrapper Tryz.pinned.checked.prog Rows.topAskRow.wrapper Rows.topAskRow.mainSum:=by unfold Func.isWrapper;first|(rw[aR (by decide+kernel)];kernel_rfl)|(rw[aI (by decide+kernel)];exact⟨rfl,rfl⟩)
theorem named:Tryz.pinned.checked.prog.funcNamed Rows.topAskRow.func=A 3:=Q2Q
theorem lift (os:Os) (started:os.Started) (ZW:Type) (enc:dy×aj->ZW):ReturnsInHanded Rows.topAskRow.assume Tryz.pinned.checked os 3 .any (Rows.topAskRow.pre enc Tryz.pinned.checked.prog Tryz.f3 (OpenSpec.ofChange Rows.topAskSpec)) (Rows.topAskSpec.post enc Tryz.pinned.checked.prog Tryz.f3 Rows.topAskRow.apart Rows.topAskRow.fresh Rows.topAskRow.handsOn Rows.topAskRow.again):=lifted os started ZW enc
theorem over:Rows.topAskRow.holds Tryz.pinned (OpenSpec.ofChange Rows.topAskSpec):=
 OpenClaim.holds_of_wide 3 Tryz.f3 rfl rfl rfl rfl rfl rfl rfl ⟨rfl,rfl,rfl,rfl,rfl⟩ rfl rfl rfl rfl rfl named func3 joined inst wrapper (λos started ZW enc _=>lift os started ZW enc)
end topAsk
end
end Go.Proofs.YtcpmhoodeieanaaGreatDoor
