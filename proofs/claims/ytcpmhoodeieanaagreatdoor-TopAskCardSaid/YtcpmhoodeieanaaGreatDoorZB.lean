/-
  Part 2 of the proof that TopAsk answers true: laws of the functions that it calls, on any memory that holds their arguments.
-/
import Derived.Test.YtcpmhoodeieanaaGreatDoorZA
import Derived.Deep.OwnRows
import Derived.ScopeJumps
import Derived.Maps.OwnSet
import Derived.DeepKeys5
import Derived.WideKeyEntry
set_option maxRecDepth 100000
set_option maxHeartbeats 20000000
set_option linter.unusedVariables false
set_option linter.unusedSimpArgs false
open Go.Lib renaming hid→V
open Go.IntKind renaming i64→Z,i8→aO,i32→cr,u64→cD
open Go.Value renaming int→Y,slice→O,agg→aF,bool→aK,tuple→aL,pointer→aP
open Option renaming none→G,some→A
open Go renaming World→H,Value→aj,Calls→aA,results→aW,lt_of_block→bH,heap_alloc_new→bZ,TypeId→dy,Ending→dN,IntKind→ey,maxLen→eS,info_parts→fB,madeCells→jz
open Bool renaming false→ae,and_eq_true→fS
open Go.Obj renaming cells→ag
open Go.Proofs.Tryz renaming prog→aq
open Go.RowKit renaming Below→ay,intOf→aX,wrap64→cM
open Or renaming inl→aM,inr→bJ
open Nat renaming le_refl→bu,zero_le→cK,le_trans→eH,lt_of_lt_of_le→iP,mul_one→lA,mul_le_mul→mq
open Go.World renaming size_alloc→bF
open Go.Ending renaming returned→bG
open List renaming getElem?_eq_getElem→cR,replicate→dz,setIfInBounds_toArray→dC,set_cons_zero→dD,set_cons_succ→dE,length_append→dG,getD→dV,getElem?_eq_some_iff→fX,length_map→ib,range→iz,getElem_mem→jZ,mem_map→kG,append_assoc→lL,take_of_length_le→oQ,take_succ_eq_append_getElem→sV
open Go.Lit renaming int→cX
open Go.IntWalk renaming i64_in→dv,wrap64_in→iZ
open Go.RowKit.Below renaming refl→eG
open Go.Act renaming put→eR
open Go.Value renaming oneCell'→fV
open Go.World renaming ownsRow_nil→gP,size_setCell→jR,cell?→kY,setCell→ss,alloc→li
open Int renaming toNat_natCast→jx,mul_le_mul→pA,mul_nonneg→qG
open Go.IntKind renaming signed→nD,bits→nG,wrap_u64→pT
open Go.Region renaming wanted→n9
namespace Go.Proofs.YtcpmhoodeieanaaGreatDoor
open Go.RowKit Go.Proofs.Tryz
variable {a:Act} {K:Act->Prop} {listed:Array Bool} {cs:Array aj} {ZV:Bool->Bool->Bool->Bool->Bool->Bool->Bool->Bool->Act->H->Prop} {w w':H} {aU s tgt x z:Int} {f:Int->Int->List (Int×Int×Int)} {t:Int×Int×Int} {rest:List Oper} {b c fuel i j len n p q:Nat} {o:Obj} {l xs ys zs:ah} {v v1 v2 vd:aj} {e:dN} {ZU:dy} {k:ey}
def aE (w:H) (ZX:H->Prop):Prop:=∀w',ay w w w'->ZX w'
theorem aE.aN {ZX:H->Prop} (h:aE w ZX):ZX w:=h w (eG _ _)
theorem aE.step {ZX:H->Prop} (h:aE w ZX) (b:ay w w w'):aE w' ZX:=λw2 b2=>h w2 (b.step b2)
theorem aE.bI {ZX:H->Prop} (h:aE w ZX) (n:Nat):aE (w.drewN n) ZX:=h.step (below_drewN w n)
theorem _root_.Go.RowKit.Hid.F {ZX:H->Prop} (h:Go.RowKit.Hid (aE w ZX)):ZX w:=h.I.aN
theorem _root_.Go.RowKit.Hid.aQ {ZX:H->Prop} (h:Go.RowKit.Hid (aE w ZX)) (b:ay w w w'):ZX w':=h.I w' b
theorem _root_.Go.RowKit.Hid.bU {ZX:H->Prop} (h:Go.RowKit.Hid (aE w ZX)) (b:ay w w w'):Go.RowKit.Hid (aE w' ZX):=V (h.I.step b)
theorem aE.alloc {ZX:H->Prop} (h:aE w ZX) (o:Obj):aE (li w o) ZX:=h.step (aD w o)
theorem aE.and {ZX Z5:H->Prop} (h:aE w ZX) (g:aE w Z5):aE w λw=>ZX w/\Z5 w:=λw' b=>⟨h w' b,g w' b⟩
theorem aE.mono {ZX Z5:H->Prop} (h:aE w ZX) (g:∀w,ZX w->Z5 w):aE w Z5:=λw' b=>g _ (h w' b)
theorem aE.base (w:H):aE w λw'=>ay w w w':=λ_ b=>b
theorem ai.bt {a:aC} (h:ai k w a len zs):aE w λw=>ai k w a len zs:=λ_ b=>h.below b
theorem bV {g:Nat} (h:w.heap[g]? =A o) (hb:ay w w w'):w'.heap[g]? =A o:=
 (hb.block g (by by_cases c:g<w;exact c;rw[Array.getElem?_eq_none U]at h;cases h)).trans h
theorem aE.block {g:Nat} (h:w.heap[g]? =A o):aE w λw=>w.heap[g]? =A o:=λ_ b=>bV h b
theorem aE.new (w:H) (o:Obj):aE (li w o) λw'=>w'.heap[w.heap.size]? =A o:=aE.block (bZ w o)
theorem aE.cell {p:Addr} (h:w.cell? p=A v):aE w λw=>w.cell? p=A v:=λ_ b=>b.cell_of h
theorem aE.fg (w:H) (o:Obj):aE (li w o) λw'=>w'.heap[w.heap.size]? =A o/\ay w w w':=(aE.new w o).and ((aE.base w).alloc o)
theorem aE.fG (w:H) (o p:Obj):aE (li (li w o) p) λw'=>w'.heap[w.heap.size]? =A o/\w'.heap[w.heap.size+1]? =A p/\ay w w w':=by
 have h:=((aE.new w o).alloc p).and ((aE.new (li w o) p).and (((aE.base w).alloc o).alloc p));rw[bF]at h;exact h
theorem aE.lj (w:H) (o p q:Obj):aE (li (li (li w o) p) q) λw'=>w'.heap[w.heap.size]? =A o/\w'.heap[w.heap.size+1]? =A p/\w'.heap[w.heap.size+1+1]? =A q/\ay w w w':=by
 have h:=(((aE.new w o).alloc p).alloc q).and (((aE.new (li w o) p).alloc q).and ((aE.new (li (li w o) p) q).and ((((aE.base w).alloc o).alloc p).alloc q)));rw[bF,bF,bF]at h;exact h
theorem aE.jD {ZX:H->Prop} (h:aE w ZX) (b:ay w w w'):ZX w':=h w' b
theorem gF (h1: -9223372036854775808<=z) (h2:z<=9223372036854775807):(cX Z z).wf=true:=Q3f
theorem Fa (h1: -2147483648<=z) (h2:z<=2147483647):(cX cr z).wf=true:=Q3f
theorem yw (h1: -128<=z) (h2:z<=127):(cX aO z).wf=true:=Q3f
theorem ahm (k:ey) (n:Nat):(jz #[Y k 0] n).toList=(dz n (0:Int)).map (Y k):=by
 rw[toList_madeCells_one];apply List.ext_getElem
 .simp
 .intro i h1 h2;simp
theorem Kl (w:H) (k:ey) (e B n:Nat) (hB:B<=w) (hn:n<=140737488351232):(li w (ag (jz #[Y k 0] n) e)).ownsRow B e 1 (O w n n) n ((dz n (0:Int)).map (Y k)):=by
 refine⟨Q2W,bJ ⟨w.heap.size,n,_,rfl,hB,bZ w _,bu _,Q2V,Q4N,?_⟩⟩;rw[ahm,oQ bK]
theorem vI {base e:Nat} {g:Nat} (h:w.ownsRow base e 1 (O g n c) n (l.map (Y k))) (i:Nat) (hi:i<n) (hl:l.length=n):w ⟨g,i,G⟩=A (Y k (l.getD i 0)):=by
 rw[h.cellAt i U,List.getElem?_map,cR U];simp[dV,cR (show i<l.length by omega)]
theorem bh {g:Nat} {t:dy} {fr:Nat×Nat} (h:w.heap[g]? =A (ag cs t fr)) (j:Nat) (hv:cs[j]? =A v):w ⟨g,j,G⟩=A v:=by
 unfold kY;simp only[h];exact hv
theorem zP {base e g:Nat} (h:w.ownsRow base e 1 (O g n c) n (l.map (Y k))) (u:Int):(ss w ⟨g,q,G⟩ (Y k u)).ownsRow base e 1 (O g n c) n ((l.set q u).map (Y k)):=by
 have:=(h.stored q (Y k u)).1;rwa[<-List.map_set]at this
def qL (k:ey) (ZU:dy) (n:Nat) (zs:ah) (w:H) (e:dN) (w':H):Prop:=∃v,e=bG v/\w'.ownsRow w.heap.size ZU 1 v n (zs.map (Y k))/\ay w w w'
theorem qL.row (h:qL k ZU n zs w e w') (hw:∀z∈zs,(cX k z).wf=true) (hl:n<=140737488351232):Ha k n zs w e w':=by
 obtain⟨v,rfl,ho,hb⟩:=h;have hn:zs.length=n:=Q4I;rcases ho.2 with⟨rfl,h0⟩|⟨g,c,cur,rfl,_⟩
 .rw[h0]at hn⊢;rw[List.length_eq_zero_iff.1 hn];exact⟨G,0,rfl,ai.zero _ _ _,hb⟩
 .exact⟨_,_,rfl,ai.owned ho hw hl,hb⟩
def aas (k:ey) (n:Nat) (zs:ah) (w:H) (e:dN) (w':H):Prop:=∃a c,e=bG (O a n c)/\ai k w' a n zs/\(∀x,a=A x->w.heap.size<=x.block/\x.block<w'.heap.size)/\ay w w w'
theorem qL.fresh (h:qL k ZU n zs w e w') (hw:∀z∈zs,(cX k z).wf=true) (hl:n<=140737488351232):aas k n zs w e w':=by
 obtain⟨v,rfl,ho,hb⟩:=h;have hn:zs.length=n:=Q4I;rcases ho.2 with⟨rfl,h0⟩|⟨g,c,cur,rfl,_⟩
 .rw[h0]at hn⊢;rw[List.length_eq_zero_iff.1 hn];exact⟨G,0,rfl,ai.zero _ _ _,(λx hx=>Q3t),hb⟩
 .exact⟨_,_,rfl,ai.owned ho hw hl,(λx hx=>Q4D),hb⟩
theorem fq {p:Addr} (h:w.cell? p=A v) (o:Obj):(li w o).cell? p=A v:=(aD w o).cell_of h
theorem uy {p:Addr} (h:w.cell? p=A v):(∀Z3,(li w Z3).cell? p=A v)/\(∀Z3 B,(li (li w Z3) B).cell? p=A v)/\(∀Z3 B C,(li (li (li w Z3) B) C).cell? p=A v):=⟨λZ3=>fq h Z3,λZ3 B=>fq (fq h Z3) B,λZ3 B C=>fq (fq (fq h Z3) B) C⟩
theorem Hy {base e g:Nat} {xs:List aj} (h:w.ownsRow base e 1 (O g n c) n xs):n<=c:=by
 rcases h.2 with⟨h1,_⟩|⟨g',c',cur,h1,_,_,h2,_⟩
 .cases h1
 .cases h1;exact h2
theorem ai.sub {off:Nat} (h:ai k w (A ⟨b,off,G⟩) len zs) (i n:Nat) (hn:i+n<=len):ai k w (A ⟨b,off+i,G⟩) n ((zs.drop i).take n):=by
 obtain⟨h1,h2,h3,h4⟩:=h;refine⟨Q2R,U,λz EG=>h3 z (List.mem_of_mem_drop (List.mem_of_mem_take EG)),?_⟩;by_cases h0:n=0
 .exact aM h0
 .rcases h4 with h4|⟨b',Sf,e,hcell⟩
  .omega
  .cases e;refine bJ ⟨b,off+i,rfl,λj hj=> ?_⟩;rw[show off+i+j=off+(i+j) by omega,hcell (i+j) U];simp[dV,hj]
namespace P
def Z4 (x:Int):Prop:=0<=x/\x<=18446744073709551615
def xr (a b:Int):Int:=bits BinOp.xor cD a b
def s1 (x:Int):Int:=cD.wrap (x+11400714819323198485)
def s2 (y:Int):Int:=cD.wrap (xr y (y/1073741824)*13787848793156543929)
def s3 (y:Int):Int:=cD.wrap (xr y (y/134217728)*10723151780598845931)
def mix (x:Int):Int:=xr (s3 (s2 (s1 x))) (s3 (s2 (s1 x))/2147483648)
def atq (au stream index:Int):Int:=mix (xr (mix (xr (mix au) stream)) index)
def draw (least m:Int):Nat->Int->Int
 |0,_=>0
 |L+1,x=>if least<=x then x%m else draw least m L (mix x)
def below (au stream index n:Int):Int:=if n<1\/2147483648<n then 0 else draw ((cD.wrap (-n)).tmod n) n 100 (P.atq au stream index)
theorem aat (x:Int):Z4 (cD.wrap x):=by
 rw[pT];unfold Z4;omega
theorem wfU (h:Z4 x):(cX cD x).wf=true:=by
 obtain⟨h1,h2⟩:=h;simp[Lit.wf,IntKind.min,IntKind.max,nD,nG];omega
theorem TI (a b:Int):Z4 (xr a b):=aat _
theorem Ox (x:Int):Z4 (mix x):=TI _ _
theorem Oy (a b c:Int):Z4 (P.atq a b c):=Ox _
theorem TJ (least m:Int) (L:Nat) (x:Int):draw least m (L+1) x=if least<=x then x%m else draw least m L (mix x):=rfl
theorem aau (least m:Int) (hm:1<=m):∀(L:Nat) (x:Int),0<=draw least m L x/\draw least m L x<m
 |0,x=>by unfold draw;omega
 |L+1,x=>by
  unfold draw;split
  .exact⟨Int.emod_nonneg _ U,Int.emod_lt_of_pos _ U⟩
  .exact aau least m hm L _
theorem aav (x:Int) (n:Nat) (h:1<=n) (h2:n<=2147483648):cM (x%(n:Int))=x%n:=by
 have:=Int.emod_nonneg x (show(n:Int)≠0 by omega);have:=Int.emod_lt_of_pos x (show 0<(n:Int) by omega);generalize x%(n:Int)=y at*;unfold cM;omega
theorem Hz (a b c n:Int):0<=below a b c n/\(1<=n->below a b c n<n)/\below a b c n<=2147483648:=by
 unfold below;split
 .omega
 .have:=aau ((cD.wrap (-n)).tmod n) n U 100 (P.atq a b c);omega
end P
theorem aaw (x:Int) (w:H) (h:P.Z4 x):aA aq 180 #[Y cD x] w λe w'=>e=bG (Y cD (P.mix x))/\w=w':=by
 obtain⟨h0,h1⟩:=h;go_enter func180,ntmps180;exact Q0d
theorem TQ (a b c:Int) (w:H) (h1:P.Z4 a) (h2:P.Z4 b) (h3:P.Z4 c):aA aq 179 #[Y cD a,Y cD b,Y cD c] w λe w'=>e=bG (Y cD (P.atq a b c))/\w=w':=by
 have H1:=V h1;obtain⟨a0,a1⟩:=h1;obtain⟨b0,b1⟩:=h2;obtain⟨c0,c1⟩:=h3;have M:=V aaw;go_enter func179,ntmps179;go_wp2_with (go_at_call 180;refine(M.I _ _ (by first|exact H1.I|exact P.TI _ _)).mono ?_;rintro e w' ⟨rfl,rfl⟩)
 go_ret;exact⟨rfl,rfl⟩
theorem ahn (a b c n:Int) (w:H) (h:n<1\/2147483648<n):aA aq 118 #[Y cD a,Y cD b,Y cD c,Y Z n] w λe w'=>e=bG (Y Z 0)/\w=w':=by
 rcases h with h|h
 all_goals
  go_enter func118,ntmps118;go_wp2;go_step3
  go_wp2;rw[Exit.noGoto_ret];go_ret;exact⟨rfl,rfl⟩
theorem aho (a b c:Int) (n:Nat) (w:H) (h1:P.Z4 a) (h2:P.Z4 b) (h3:P.Z4 c) (hn:1<=n) (lU:n<=2147483648):aA aq 118 #[Y cD a,Y cD b,Y cD c,Y Z n] w λe w'=>e=bG (Y Z (P.draw ((cD.wrap (-n)).tmod n) n 100 (P.atq a b c)))/\w=w':=by
 have H1:=V h1;have H2:=V h2;have H3:=V h3;obtain⟨a0,a1⟩:=h1;obtain⟨b0,b1⟩:=h2;obtain⟨c0,c1⟩:=h3;have M:=V aaw;have AT:=V (λw=>TQ a b c w H1.I H2.I H3.I);have HU:=V (P.Oy a b c);generalize P.atq a b c=x at*;obtain⟨LE,hle⟩:=J ((cD.wrap (-(n:Int))).tmod n);rw[hle];obtain⟨R,hR⟩:=J (P.draw LE n 100 x);rw[hR];have HR:=V hR;clear hR;obtain⟨x0,x1⟩:=HU.I;have hLE:0<=cD.wrap (-(n:Int)):=wrap_u64_nonneg _;go_enter func118,ntmps118;go_wp2;refine wp_scope_jumps 0 (λa' w'=>w'=w/\∃(L:Nat) (y:Int) (u4 u5 u6 u7 u13 u14 u15 u16 u17 u18 u19 u20 u21 u22 u23 u24 u25 u26 u27 u28 u29 u30 u31 u32 u33 u34 u35 u36 u37 u38 u39 u40 u41:aj),a'={tmps:=#[Y cD a,Y cD b,Y cD c,Y Z n,u4,u5,u6,u7,Y Z 0,Y cD n,Y cD LE,Y cD y,Y Z ((L+1:Nat):Int),u13,u14,u15,u16,u17,u18,u19,u20,u21,u22,u23,u24,u25,u26,u27,u28,u29,u30,u31,u32,u33,u34,u35,u36,u37,u38,u39,u40,u41],defers:=[]}/\P.Z4 y/\L<100/\P.draw LE n (L+1) y=R) (λa' _=>(aX (a'.tmps.getD 12 undef)).toNat) rfl ?_ ?_
 .go_wp2_with (go_at_call 179;refine(AT.I _).mono ?_;rintro e w' ⟨rfl,rfl⟩)
  go_step3
  go_wp2_with (go_at_call 180;refine(M.I _ _ HU.I).mono ?_;rintro e w' ⟨rfl,rfl⟩)
  .rename_i H4;simp only[Exit.jump];go_ret;exact⟨jS (by rw[<-HR.I,P.TJ LE n 99 x,aR (by assumption)];exact P.aav x n hn lU),rfl⟩
  .go_step3
   have aT:x<LE:=by assumption
   refine⟨rfl,rfl,98,P.mix x,_,_,_,_,_,_,_,_,_,_,_,_,_,_,_,_,_,_,_,_,_,_,_,_,_,_,_,_,_,_,_,_,_,rfl,P.Ox x,U,?_⟩;rw[<-HR.I,P.TJ LE n 99 x,aI U]
 .rintro a' w' ⟨rfl,L,y,u4,u5,u6,u7,u13,u14,u15,u16,u17,u18,u19,u20,u21,u22,u23,u24,u25,u26,u27,u28,u29,u30,u31,u32,u33,u34,u35,u36,u37,u38,u39,u40,u41,rfl,hy,hL,hd⟩;have HD:=V hd;have HY:=V hy;obtain⟨y0,y1⟩:=hy;rw[P.TJ LE n L y]at hd;have HD:=V hd;clear hd hle HR;by_cases c1:LE<=y
  .go_wp2_with (go_at_call 180;refine(M.I _ _ HY.I).mono ?_;rintro e w' ⟨rfl,rfl⟩)
   simp only[Exit.jump];go_ret;exact⟨jS (by rw[<-HD.I,aR c1];exact P.aav y n hn lU),rfl⟩
  .have c2:y<LE:=U;have rH:=HD.I;rw[aI c1]at rH;have HR:=V rH;clear c1 rH HD;by_cases c3:0<L
   .go_wp2_with (go_at_call 180;refine(M.I _ _ HY.I).mono ?_;rintro e w' ⟨rfl,rfl⟩)
    go_step3
    obtain⟨K,rfl⟩:∃K,L=K+1:=⟨L-1,U⟩;refine⟨rfl,⟨rfl,K,P.mix y,_,_,_,_,_,_,_,_,_,_,_,_,_,_,_,_,_,_,_,_,_,_,_,_,_,_,_,_,_,_,_,_,_,rfl,P.Ox y,U,HR.I⟩,?_⟩;simp[aX];omega
   .obtain rfl:L=0:=U;go_wp2_with (go_at_call 180;refine(M.I _ _ HY.I).mono ?_;rintro e w' ⟨rfl,rfl⟩)
    simp only[Exit.jump];go_ret;exact⟨jS (by rw[<-HR.I];rfl),rfl⟩
theorem aax (a b c n:Int) (w:H) (h1:P.Z4 a) (h2:P.Z4 b) (h3:P.Z4 c):aA aq 118 #[Y cD a,Y cD b,Y cD c,Y Z n] w λe w'=>e=bG (Y Z (P.below a b c n))/\w=w':=by
 unfold P.below;split
 .exact ahn a b c n w ‹_›
 .obtain⟨N,rfl⟩:∃N:Nat,n=N:=⟨n.toNat,U⟩;exact aho a b c N w h1 h2 h3 U U
namespace P
def swp (l:ah) (i j:Nat):List Int:=(l.set i (l.getD j 0)).set j (l.getD i 0)
def yx (a s:Int):Nat->List Int->List Int
 |0,l=>l
 |i+1,l=>yx a s i (swp l (i+1) (below a s ((i+1:Nat):Int) ((i+1:Nat)+1)).toNat)
def upto (k n:Nat):List Int:=(iz n).map λj=>if j<k then(j:Int)else 0
def perm (a s n:Int):List Int:=if n<1\/65536<n then[]else yx a s (n.toNat-1) (upto n.toNat n.toNat)
theorem aay (k n:Nat):(upto k n).length=n:=by simp[upto]
theorem ahp (n:Nat):upto 0 n=dz n 0:=by
 unfold upto;apply List.ext_getElem
 .simp
 .intro i h1 h2;simp
theorem ahq (k n:Nat):upto (k+1) n=(upto k n).set k k:=by
 apply List.ext_getElem
 .simp[upto]
 .intro i h1 h2;simp only[upto,List.getElem_map,List.getElem_range,List.getElem_set];by_cases c:k=i
  .subst c;simp
  .by_cases d:i<k
   .rw[aR U,aI c,aR d]
   .rw[aI U,aI c,aI d]
def Bd (n:Nat) (l:ah):Prop:=l.length=n/\∀z∈l,0<=z/\z<n
theorem Bd.getD (h:Bd n l) (i:Nat) (hi:i<n):l.getD i 0∈l:=by
 simp[dV,cR (show i<l.length by rw[h.1];exact hi)]
theorem Bd.swp (h:Bd n l) (hi:i<n) (hj:j<n):Bd n (swp l i j):=by
 refine⟨by simp[P.swp,h.1],λz hz=> ?_⟩;unfold P.swp at hz;rcases List.mem_or_eq_of_mem_set hz with hz|rfl
 .rcases List.mem_or_eq_of_mem_set hz with hz|rfl
  .exact h.2 z hz
  .exact h.2 _ (h.getD j hj)
 .exact h.2 _ (h.getD i hi)
theorem Bd.upto (n:Nat):Bd n (upto n n):=⟨aay n n,λz hz=>by
 unfold P.upto at hz;obtain⟨j,hj,rfl⟩:=kG.1 hz;rw[List.mem_range]at hj;rw[aR hj];omega⟩
theorem Bd.yx (a s:Int):∀(i:Nat) (l:ah),i<n->Bd n l->Bd n (yx a s i l)
 |0,_,_,h=>h
 |i+1,l,hi,h=>Bd.yx a s i _ U (h.swp hi (by
   have:=Hz a s ((i+1:Nat):Int) ((i+1:Nat)+1);omega))
theorem aaz (a s:Int) (n:Nat) (h1:1<=n) (h2:n<=65536):Bd n (perm a s n):=by
 unfold perm;rw[aI U,jx];exact Bd.yx a s _ _ U (Bd.upto n)
end P
theorem ahr:(aq.info? 3).map (λi=>(i.zero,i.size,i.bytes))=A (A (Y Z 0),1,8):=Q2Q
theorem ahs (a b n:Int) (w:H) (h:n<1\/65536<n):aA aq 187 #[Y cD a,Y cD b,Y Z n] w (qL Z 3 0 [] w):=by
 rcases h with h|h
 all_goals
  go_enter func187,ntmps187;go_wp2;go_ret;exact⟨_,rfl,gP _ _ _ _,eG _ _⟩
theorem aht (a b:Int) (n:Nat) (w:H) (h1:P.Z4 a) (h2:P.Z4 b) (hn:1<=n) (lU:n<=65536):aA aq 187 #[Y cD a,Y cD b,Y Z n] w (qL Z 3 n (P.yx a b (n-1) (P.upto n n)) w):=by
 have BE:=V (λ(c:Nat) (m:Int) w (hc:c<=65536)=>aax a b (c:Int) m w h1 h2 ⟨U,U⟩);obtain⟨R,hR⟩:=J (P.yx a b (n-1) (P.upto n n));rw[hR];have HR:=V hR;have ur:=λw:H=>run_make_row' (P:=aq) 55 3 (Y Z 0) 8 underlying55 ahr rfl Z Z n U U w;clear hR;go_enter func187,ntmps187;go_wp2_with fail;have hO:=Kl w Z 3 w.heap.size n (bu _) U;have hB:=aD w (ag (jz #[Y Z 0] n) 3);have HO:=V hO;have HB:=V hB;clear hO hB ur;generalize li w (ag (jz #[Y Z 0] n) 3)=w1 at*;obtain⟨g,hg⟩:=J w.heap.size;rw[hg]at HO⊢;have HG:=V hg;clear hg;go_loopw [21] (λi wr=>∃k:Nat,k<=n/\i=Y Z k/\wr.ownsRow g 3 1 (O g n n) n ((P.upto k n).map (Y Z))/\ay w w wr) (λi _=>n-(aX i).toNat)
 case atStart=>exact⟨0,cK _,rfl,by rw[P.ahp];exact HO.I,HB.I⟩
 case round=>
  obtain⟨k,hk,rfl,ho,hb⟩:=hrel;have Bh:=V ho;have jW:=V hb;clear HO;by_cases aT:k<n
  .have f0:=vI ho k aT (P.aay k n);have f1:=ho.frozenAt k;clear ho hb;go_wp2;go_roundw
   case rel=>exact⟨k+1,U,Q2T,by rw[P.ahq];exact zP Bh.I _,jW.I.setCell Q5m _⟩
   case measure=>exact Q5q
  .obtain rfl:k=n:=U;clear ho hb;go_wp2_with fail;obtain⟨m0,ng⟩:∃m0:Nat,(k:Int)-1=m0:=⟨k-1,U⟩;have sF:m0=k-1:=U;subst sF;rw[ng];clear ng;go_loopw [9] (λi wr=>∃(m:Nat) (l:ah),m<k/\i=Y Z m/\P.Bd k l/\P.yx a b m l=R/\wr.ownsRow g 3 1 (O g k k) k (l.map (Y Z))/\ay w w wr) (λi _=>(aX i).toNat)
   case atStart=>exact⟨k-1,_,U,rfl,P.Bd.upto k,HR.I,Bh.I,jW.I⟩
   case round=>
    obtain⟨m,l,hm,rfl,iL,mM,ho,hb⟩:=hrel;have HO:=V ho;have HB:=V hb;have ju:=V iL;have Bi:=V mM;clear hb mM iL;by_cases hp:0<m
    .obtain⟨q,rfl⟩:∃q,m=q+1:=⟨m-1,U⟩;have aaA:=V (show P.yx a b q (P.swp l (q+1) (P.below a b ((q+1:Nat):Int) ((q+1:Nat)+1)).toNat)=R from Bi.I);have vJ:=P.Hz a b ((q+1:Nat):Int) ((q+1:Nat)+1);have BC:=V (λw=>BE.I (q+1) ((q+1:Nat)+1) w U);generalize P.below a b ((q+1:Nat):Int) ((q+1:Nat)+1)=ZV at*;obtain⟨j,rfl⟩:∃j:Nat,ZV=j:=⟨ZV.toNat,U⟩;have EL:j<k:=U;rw[jx]at aaA;have f0:=vI ho (q+1) hm ju.I.1;have f1:=ho.frozenAt (q+1);have f2:=vI ho j EL ju.I.1;have f3:=ho.frozenAt j;clear ho Bi vJ;go_wp2_with (go_at_call 118;refine(BC.I _).mono ?_;rintro e w' ⟨rfl,rfl⟩)
     have i1:(0:Int)<=(q:Int)+1:=U;have i2:(q:Int)+1<(k:Int):=U;have i3:(0:Int)<=(j:Int):=U;have i4:(j:Int)<(k:Int):=U;obtain⟨v',hy'⟩:=cell?_setCell_some (w:=wr) (p:=⟨g,q+1,G⟩) (x:=Y Z (l.getD j 0)) (q:=⟨g,j,G⟩) (v:=Y Z (l.getD j 0)) f2;generalize hx:l.getD (q+1) 0=x at*;generalize hy:l.getD j 0=y at*;have HX:=V hx;have HY:=V hy;clear hx hy;go_region
     go_wp2_with fail;go_roundw
     case rel=>
      refine⟨q,_,U,Q2T,ju.I.swp hm EL,aaA.I,?_,?_⟩
      .have:=zP (q:=j) (zP (q:=q+1) HO.I y) x;unfold P.swp;rw[HX.I,HY.I];exact this.drew
      .exact((HB.I.setCell Q5m _).setCell Q5m _).bI 1
     case measure=>simp[aX]
    .obtain rfl:m=0:=U;have HL:=V (show l=R from Bi.I);clear ho;go_wp2_with fail;go_ret;exact⟨_,rfl,HG.I.symm▸(HL.I▸HO.I),HB.I⟩
theorem ahu (a b n:Int) (w:H) (h1:P.Z4 a) (h2:P.Z4 b):aA aq 187 #[Y cD a,Y cD b,Y Z n] w (qL Z 3 (P.perm a b n).length (P.perm a b n) w):=by
 by_cases h:n<1\/65536<n
 .rw[show P.perm a b n=[] by unfold P.perm;rw[aR h]];exact ahs a b n w h
 .obtain⟨N,rfl⟩:∃N:Nat,n=N:=⟨n.toNat,U⟩;have hb:=P.aaz a b N U U;rw[hb.1,show P.perm a b N=P.yx a b (N-1) (P.upto N N) by unfold P.perm;rw[aI h,jx]];exact aht a b N w h1 h2 U U
theorem OB (w:H) (ZU:dy):(li w (ag #[] ZU)).ownsRow w.heap.size ZU 1 (O w 0 0) 0 []:=
 World.ownsRow_made w #[] 0 (bu _) (cK _) rfl
theorem Dp:(aq.info? 3).map (λi=>(i.zero,i.size,i.bytes))=A (A (Y Z 0),1,8):=Q2Q
theorem Fc (a:aC) (len cap:Nat) (xs:ah) (w:H) (h:ai Z w a len xs) (h1:len<=1000000000):
 aA aq 142 #[O a len cap] w (qL Z 3 len xs w):=by
 have hq:=λw:H=>Lib.run_eql_slice_nil (P:=aq) w 55 3 a len cap 0 0 underlying55;obtain⟨i0,hi,cF,cG,cB⟩:=fB Dp;have HL:=V h.bA;have OE:=V (OB w 3)
 cases a with
 |none=>
  have h0:len=0:=by
   exact Q1m
  have hx:xs=[]:=Q3g;subst h0 hx;go_enter func142,ntmps142;go_wp2;go_ret;exact⟨_,rfl,gP _ _ _ _,eG _ _⟩
 |some x=>
  have HN:=V (show ∀j u,(xs.map (Y Z))[j]? =A u->(li w (ag #[] 3)).cell? (x.add j)=A u from λj u hj=>by
   have hlen:j<xs.length:=by
    exact Q16
   obtain⟨b,off,e,hc⟩:=h.cells (E h.bA)
   cases e;exact(aD w (ag #[] 3)).cell_of (h.news j u hj))
  clear h;go_enter func142,ntmps142;go_wp2_with (at_builtin;refine wpList_append_own _ rfl _ _ 55 rfl w.heap.size 3 i0 (Y Z 0) 1 8 underlying55 hi cF cG cB rfl eM _ _ _ rfl OE.I x len cap (xs.map (Y Z)) rfl Q54 HN.I (Hb _ _) Q2V U Q2Y ?_)
  intro v' w1 aV eD sA;have HO:=V aV;have HB:=V (NI eD);clear aV eD sA;go_wp2_with fail;go_ret;exact⟨_,rfl,HO.I,HB.I⟩
theorem ahv (a:aC) (len cap:Nat) (xs:ah) (w:H) (h:ai Z w a len xs) (h1:len<=1000000000):
 aA aq 142 #[O a len cap] w (Ha Z len xs w):=(Fc a len cap xs w h h1).mono λ_ _ g=>g.row h.wf U
theorem tA:(aq.info? 106).map (λi=>(i.zero,i.size,i.bytes))=A (A (Y aO 0),1,1):=Q2Q
theorem aaB (a:aC) (len cap:Nat) (xs:ah) (w:H) (h:ai aO w a len xs) (h1:len<=1000000000):
 aA aq 143 #[O a len cap] w (qL aO 106 len xs w):=by
 have hq:=λw:H=>Lib.run_eql_slice_nil (P:=aq) w 52 106 a len cap 0 0 underlying52;obtain⟨i0,hi,cF,cG,cB⟩:=fB tA;have HL:=V h.bA;have OE:=V (OB w 106)
 cases a with
 |none=>
  have h0:len=0:=by
   exact Q1m
  have hx:xs=[]:=Q3g;subst h0 hx;go_enter func143,ntmps143;go_wp2;go_ret;exact⟨_,rfl,gP _ _ _ _,eG _ _⟩
 |some x=>
  have HN:=V (show ∀j u,(xs.map (Y aO))[j]? =A u->(li w (ag #[] 106)).cell? (x.add j)=A u from λj u hj=>by
   have hlen:j<xs.length:=by
    exact Q16
   obtain⟨b,off,e,hc⟩:=h.cells (E h.bA)
   cases e;exact(aD w (ag #[] 106)).cell_of (h.news j u hj))
  clear h;go_enter func143,ntmps143;go_wp2_with (at_builtin;refine wpList_append_own _ rfl _ _ 52 rfl w.heap.size 106 i0 (Y aO 0) 1 1 underlying52 hi cF cG cB rfl eM _ _ _ rfl OE.I x len cap (xs.map (Y aO)) rfl Q54 HN.I (Hb _ _) Q2V U Q2Y ?_)
  intro v' w1 aV eD sA;have HO:=V aV;have HB:=V (NI eD);clear aV eD sA;go_wp2_with fail;go_ret;exact⟨_,rfl,HO.I,HB.I⟩
theorem Dq:(aq.info? 21).map (λi=>(i.zero,i.size,i.bytes))=A (A (Y cr 0),1,4):=Q2Q
theorem ahw (a:aC) (len cap:Nat) (xs:ah) (w:H) (h:ai cr w a len xs) (h1:len<=1000000000):
 aA aq 226 #[O a len cap] w (qL cr 21 len xs w):=by
 have hq:=λw:H=>Lib.run_eql_slice_nil (P:=aq) w 103 21 a len cap 0 0 underlying103;obtain⟨i0,hi,cF,cG,cB⟩:=fB Dq;have HL:=V h.bA;have OE:=V (OB w 21)
 cases a with
 |none=>
  have h0:len=0:=by
   exact Q1m
  have hx:xs=[]:=Q3g;subst h0 hx;go_enter func226,ntmps226;go_wp2;go_ret;exact⟨_,rfl,gP _ _ _ _,eG _ _⟩
 |some x=>
  have HN:=V (show ∀j u,(xs.map (Y cr))[j]? =A u->(li w (ag #[] 21)).cell? (x.add j)=A u from λj u hj=>by
   have hlen:j<xs.length:=by
    exact Q16
   obtain⟨b,off,e,hc⟩:=h.cells (E h.bA)
   cases e;exact(aD w (ag #[] 21)).cell_of (h.news j u hj))
  clear h;go_enter func226,ntmps226;go_wp2_with (at_builtin;refine wpList_append_own _ rfl _ _ 103 rfl w.heap.size 21 i0 (Y cr 0) 1 4 underlying103 hi cF cG cB rfl eM _ _ _ rfl OE.I x len cap (xs.map (Y cr)) rfl Q54 HN.I (Hb _ _) Q2V U Q2Y ?_)
  intro v' w1 aV eD sA;have HO:=V aV;have HB:=V (NI eD);clear aV eD sA;go_wp2_with fail;go_ret;exact⟨_,rfl,HO.I,HB.I⟩
theorem ahx:(aq.info? 5).map (λi=>(i.zero,i.size,i.bytes))=A (A (Y .u8 0),1,1):=Q2Q
theorem Fd (a:aC) (len cap:Nat) (xs:ah) (w:H) (h:ai .u8 w a len xs) (h1:len<=1000000000):
 aA aq 131 #[O a len cap] w (qL .u8 5 len xs w):=by
 have hq:=λw:H=>Lib.run_eql_slice_nil (P:=aq) w 42 5 a len cap 0 0 underlying42;obtain⟨i0,hi,cF,cG,cB⟩:=fB ahx;have HL:=V h.bA;have OE:=V (OB w 5)
 cases a with
 |none=>
  have h0:len=0:=by
   exact Q1m
  have hx:xs=[]:=Q3g;subst h0 hx;go_enter func131,ntmps131;go_wp2;go_ret;exact⟨_,rfl,gP _ _ _ _,eG _ _⟩
 |some x=>
  have HN:=V (show ∀j u,(xs.map (Y .u8))[j]? =A u->(li w (ag #[] 5)).cell? (x.add j)=A u from λj u hj=>by
   have hlen:j<xs.length:=by
    exact Q16
   obtain⟨b,off,e,hc⟩:=h.cells (E h.bA)
   cases e;exact(aD w (ag #[] 5)).cell_of (h.news j u hj))
  clear h;go_enter func131,ntmps131;go_wp2_with (at_builtin;refine wpList_append_own _ rfl _ _ 42 rfl w.heap.size 5 i0 (Y .u8 0) 1 1 underlying42 hi cF cG cB rfl eM _ _ _ rfl OE.I x len cap (xs.map (Y .u8)) rfl Q54 HN.I (Hb _ _) Q2V U Q2Y ?_)
  intro v' w1 aV eD sA;have HO:=V aV;have HB:=V (NI eD);clear aV eD sA;go_wp2_with fail;go_ret;exact⟨_,rfl,HO.I,HB.I⟩
theorem ahy (a:aC) (len cap:Nat) (xs:ah) (w:H) (h:ai .u8 w a len xs) (h1:len<=1000000000):
 aA aq 131 #[O a len cap] w (Ha .u8 len xs w):=(Fd a len cap xs w h h1).mono λ_ _ g=>g.row h.wf U
namespace B
def steps (n s:Int):Int:=if n<1\/64<n\/s<1\/8<s then 0 else(n+s-1)/s
def which (au n s t:Int):List Int:=if steps n s=0\/t<0\/1000000<t then[]else
 ((P.perm au (1099511627776+t/steps n s) n).drop (t%steps n s*s).toNat).take (min (t%steps n s*s+s) n-t%steps n s*s).toNat
theorem aaD {n:Int} (h:steps n s≠0):1<=n/\n<=64/\1<=s/\s<=8/\steps n s=(n+s-1)/s/\1<=steps n s/\steps n s<=64/\(steps n s-1)*s<n:=by
 unfold steps at h⊢;split at h
 .omega
 .rename_i h1;rw[aI h1];have e:=Int.mul_ediv_add_emod (n+s-1) s;have e1:=Int.emod_nonneg (n+s-1) (show s≠0 by omega);have e2:=Int.emod_lt_of_pos (n+s-1) (show 0<s by omega);have d1:(n+s-1)/s<=64:=Int.ediv_le_of_le_mul U (by
   have:64<=64*s:=U;omega)
  generalize(n+s-1)/s=D at*;generalize(n+s-1)%s=M at*;have d0:1<=D:=by
   refine Decidable.byContradiction λh=> ?_;have:s*D<=s*0:=Int.mul_le_mul_of_nonneg_left U U;omega
  have em:(D-1)*s=s*D-s:=by rw[Int.sub_mul,Int.one_mul,Int.mul_comm]
  refine⟨U,U,U,U,rfl,d0,d1,?_⟩;omega
end B
theorem aaE (n s:Int) (w:H):aA aq 186 #[Y Z n,Y Z s] w λe w'=>e=bG (Y Z (B.steps n s))/\w=w':=by
 by_cases h:n<1\/64<n\/s<1\/8<s
 .rw[show B.steps n s=0 by unfold B.steps;rw[aR h]];have cs:n<1\/(1<=n/\64<n)\/(1<=n/\n<=64/\s<1)\/(1<=n/\n<=64/\1<=s/\8<s):=U;clear h;rcases cs with h|⟨h,h2⟩|⟨h,h2,h3⟩|⟨h,h2,h3,h4⟩
  all_goals
   go_enter func186,ntmps186;go_wp2;go_ret;exact⟨rfl,rfl⟩
 .have hs:=B.aaD (n:=n) (s:=s) (by
   unfold B.steps;rw[aI h];intro h0;have e:=Int.mul_ediv_add_emod (n+s-1) s;have e2:=Int.emod_lt_of_pos (n+s-1) (show 0<s by omega);rw[h0]at e;omega)
  obtain⟨h1,h2,h3,h4,h5,h6,h7,h8⟩:=hs;rw[h5]at h6 h7⊢;clear h5 h;go_enter func186,ntmps186;exact Q0d
theorem ahz (au n s t:Int) (w:H) (h:B.steps n s=0\/t<0\/1000000<t):aA aq 132 #[Y cD au,Y Z n,Y Z s,Y Z t] w (Ha Z 0 [] w):=by
 have S:=V (aaE n s);generalize B.steps n s=Z3 at*;have cs:Z3=0\/(Z3≠0/\t<0)\/(Z3≠0/\0<=t/\1000000<t):=U;clear h;rcases cs with rfl|⟨h,h2⟩|⟨h,h2,h3⟩
 .go_enter func132,ntmps132;go_wp2_with (go_at_call 186;refine(S.I _).mono ?_;rintro e w' ⟨rfl,rfl⟩)
  go_ret;exact⟨_,_,rfl,ai.zero _ _ _,eG _ _⟩
 all_goals
  have hA:(Z3==0)=ae:=Q32;clear h;go_enter func132,ntmps132;go_wp2_with (go_at_call 186;refine(S.I _).mono ?_;rintro e w' ⟨rfl,rfl⟩)
  go_ret;exact⟨_,_,rfl,ai.zero _ _ _,eG _ _⟩
theorem ahA (au n s t:Int) (w:H) (hu:P.Z4 au) (h1:B.steps n s≠0) (h2:0<=t) (h3:t<=1000000):aA aq 132 #[Y cD au,Y Z n,Y Z s,Y Z t] w (Ha Z (B.which au n s t).length (B.which au n s t) w):=by
 have hW:B.which au n s t=((P.perm au (1099511627776+t/B.steps n s) n).drop (t%B.steps n s*s).toNat).take (min (t%B.steps n s*s+s) n-t%B.steps n s*s).toNat:=by
  unfold B.which;rw[aI U]
 obtain⟨n1,n2,s1,s2,-,a1,a2,a3⟩:=B.aaD h1;have S:=V (aaE n s);have q0:0<=t/B.steps n s:=Int.ediv_nonneg h2 U;have q1:t/B.steps n s<=1000000:=Int.ediv_le_of_le_mul U (by
  have:t*1<=1000000*B.steps n s:=pA h3 a1 U U;omega)
 have r0:=Int.emod_nonneg t (show B.steps n s≠0 by omega);have r1:=Int.emod_lt_of_pos t (show 0<B.steps n s by omega);generalize B.steps n s=Z3 at*;have hA:(Z3==0)=ae:=Q51;have PM:=V (λw=>ahu au (1099511627776+t/Z3) n w hu ⟨U,U⟩);have f1:t%Z3*s<=(Z3-1)*s:=Int.mul_le_mul_of_nonneg_right U U;have f0:0<=t%Z3*s:=qG r0 U;obtain⟨N,rfl⟩:∃N:Nat,n=N:=⟨n.toNat,U⟩;have hP:=P.aaz au (1099511627776+t/Z3) N U U;generalize P.perm au (1099511627776+t/Z3) N=L at*;obtain⟨hlen,iL⟩:=hP;rw[hlen]at PM;have ju:=V iL;obtain⟨ZX,hF⟩:∃ZX:Nat,t%Z3*s=ZX:=⟨(t%Z3*s).toNat,U⟩;have e1:t.tdiv Z3=t/Z3:=Int.tdiv_eq_ediv_of_nonneg h2;have e2:t.tmod Z3=t%Z3:=Int.tmod_eq_emod_of_nonneg h2;have u1:cD.wrap (t/Z3)=t/Z3:=Q36;have u2:cD.wrap (1099511627776+t/Z3)=1099511627776+t/Z3:=Q36;have hF2:Z.wrap (t%Z3*s)=ZX:=by rw[hF];exact dv _ U
 rw[hF]at hW f0 f1;obtain⟨S0,rfl⟩:∃S0:Nat,s=S0:=⟨s.toNat,U⟩;rw[hW,jx];have hF3:ZX<N:=U;have TS:(min ((ZX:Int)+S0) N-ZX).toNat=min (ZX+S0) N-ZX:=U;rw[TS];have j8:((L.drop ZX).take (min (ZX+S0) N-ZX)).length=min (ZX+S0) N-ZX:=Q2R;rw[j8];clear hW hlen iL f0 f1 j8 TS;go_enter func132,ntmps132;go_wp2_with (go_at_call 186;refine(S.I _).mono ?_;rintro e w' ⟨rfl,rfl⟩)
 refine(PM.I _).mono ?_;rintro e w1 ⟨v,rfl,ho,hb⟩;obtain⟨g,c,rfl⟩:=af4 ho U;have hc:=Hy ho;have HB:=V hb;have hr:=ai.owned ho (λz hz=>by have:=ju.I z hz;exact gF U U) U;have HR:=V (hr.sub ZX (min (ZX+S0) N-ZX) U);rw[Nat.zero_add]at HR;have CL:=V (λc=>ahv (A ⟨g,ZX,G⟩) (min (ZX+S0) N-ZX) c _ w1 HR.I U);clear ho hr u1 u2 PM;go_wp2_with fail;all_goals
  first
   |rw[show((ZX:Int)+S0).toNat-ZX=min (ZX+S0) N-ZX by omega]
   |rw[show N-ZX=min (ZX+S0) N-ZX by omega]
  refine(CL.I _).mono ?_;rintro e w2 ⟨a',c',rfl,pD,du⟩;have dA:=V (HB.I.step du);have cU:=V pD;go_wp2_with fail;go_ret;exact⟨_,_,rfl,cU.I,dA.I⟩
theorem ahB (au n s t:Int) (w:H) (hu:P.Z4 au):aA aq 132 #[Y cD au,Y Z n,Y Z s,Y Z t] w (Ha Z (B.which au n s t).length (B.which au n s t) w):=by
 by_cases h:B.steps n s=0\/t<0\/1000000<t
 .rw[show B.which au n s t=[] by unfold B.which;rw[aR h]];exact ahz au n s t w h
 .exact ahA au n s t w hu U U U
theorem ahC (a0:aC) (dW kj:Nat) (xs:ah) (a1:aC) (fh:Nat) (ys:ah) (w:H) (h0:ai aO w a0 dW xs) (h1:ai aO w a1 dW ys):
 aA aq 265 #[O a0 dW kj,O a1 dW fh] w (oa (aK (decide (xs=ys))) w):=by
 obtain⟨B,hB⟩:=J (decide (xs=ys));have HB:=V hB;rw[hB];clear hB;have H0:=V h0;have H1:=V h1;have hl:=h0.eC;have L0:=V h0.bA;have L1:=V h1.bA;have hb:((dW:Int) != (dW:Int))=ae:=Q2W;clear h0 h1;go_enter func265,ntmps265;go_wp2;go_loopw [13] (λi wr=>∃k q:Nat,k<=dW/\i=Y Z k/\(∀j,j<k->xs.getD j 0=ys.getD j 0)/\wr=w.drewN q) (λi _=>dW-(aX i).toNat)
 case atStart=>exact⟨0,0,cK _,rfl,λj hj=>U,rfl⟩
 case round=>
  exact Q00
theorem ahD (a0:aC) (dW kj:Nat) (xs:ah) (a1:aC) (jA fh:Nat) (ys:ah) (w:H) (h0:ai aO w a0 dW xs) (h1:ai aO w a1 jA ys):
 aA aq 265 #[O a0 dW kj,O a1 jA fh] w (oa (aK (decide (xs=ys))) w):=by
 by_cases c:dW=jA
 .subst c;exact ahC a0 dW kj xs a1 fh ys w h0 h1
 .have e:decide (xs=ys)=ae:=eP λe=>c Q3Q;rw[e];have l0:=h0.eC;have l1:=h1.eC;have hb:((dW:Int) != (jA:Int))=true:=Q3r;clear h0 h1 e c;go_enter func265,ntmps265;exact Q1G
theorem ahE (a0:aC) (dW kj:Nat) (xs:ah) (a1:aC) (fh:Nat) (ys:ah) (w:H) (h0:ai cr w a0 dW xs) (h1:ai cr w a1 dW ys):
 aA aq 216 #[O a0 dW kj,O a1 dW fh] w (oa (aK (decide (xs=ys))) w):=by
 obtain⟨B,hB⟩:=J (decide (xs=ys));have HB:=V hB;rw[hB];clear hB;have H0:=V h0;have H1:=V h1;have hl:=h0.eC;have L0:=V h0.bA;have L1:=V h1.bA;have hb:((dW:Int) != (dW:Int))=ae:=Q2W;clear h0 h1;go_enter func216,ntmps216;go_wp2;go_loopw [13] (λi wr=>∃k q:Nat,k<=dW/\i=Y Z k/\(∀j,j<k->xs.getD j 0=ys.getD j 0)/\wr=w.drewN q) (λi _=>dW-(aX i).toNat)
 case atStart=>exact⟨0,0,cK _,rfl,λj hj=>U,rfl⟩
 case round=>
  exact Q00
theorem ahF (a0:aC) (dW kj:Nat) (xs:ah) (a1:aC) (jA fh:Nat) (ys:ah) (w:H) (h0:ai cr w a0 dW xs) (h1:ai cr w a1 jA ys):
 aA aq 216 #[O a0 dW kj,O a1 jA fh] w (oa (aK (decide (xs=ys))) w):=by
 by_cases c:dW=jA
 .subst c;exact ahE a0 dW kj xs a1 fh ys w h0 h1
 .have e:decide (xs=ys)=ae:=eP λe=>c Q3Q;rw[e];have l0:=h0.eC;have l1:=h1.eC;have hb:((dW:Int) != (jA:Int))=true:=Q3r;clear h0 h1 e c;go_enter func216,ntmps216;exact Q1G
theorem ahG (a0:aC) (dW kj:Nat) (xs:ah) (a1:aC) (fh:Nat) (ys:ah) (w:H) (h0:ai .u8 w a0 dW xs) (h1:ai .u8 w a1 dW ys):
 aA aq 123 #[O a0 dW kj,O a1 dW fh] w (oa (aK (decide (xs=ys))) w):=by
 obtain⟨B,hB⟩:=J (decide (xs=ys));have HB:=V hB;rw[hB];clear hB;have H0:=V h0;have H1:=V h1;have hl:=h0.eC;have L0:=V h0.bA;have L1:=V h1.bA;have hb:((dW:Int) != (dW:Int))=ae:=Q2W;clear h0 h1;go_enter func123,ntmps123;go_wp2;go_loopw [13] (λi wr=>∃k q:Nat,k<=dW/\i=Y Z k/\(∀j,j<k->xs.getD j 0=ys.getD j 0)/\wr=w.drewN q) (λi _=>dW-(aX i).toNat)
 case atStart=>exact⟨0,0,cK _,rfl,λj hj=>U,rfl⟩
 case round=>
  exact Q00
theorem ahH (a0:aC) (dW kj:Nat) (xs:ah) (a1:aC) (jA fh:Nat) (ys:ah) (w:H) (h0:ai .u8 w a0 dW xs) (h1:ai .u8 w a1 jA ys):
 aA aq 123 #[O a0 dW kj,O a1 jA fh] w (oa (aK (decide (xs=ys))) w):=by
 by_cases c:dW=jA
 .subst c;exact ahG a0 dW kj xs a1 fh ys w h0 h1
 .have e:decide (xs=ys)=ae:=eP λe=>c Q3Q;rw[e];have l0:=h0.eC;have l1:=h1.eC;have hb:((dW:Int) != (jA:Int))=true:=Q3r;clear h0 h1 e c;go_enter func123,ntmps123;exact Q1G
theorem ahI (ZX:Nat) (p:Int->Bool) (a:aC) (len cap:Nat) (zs:ah) (w:H) (h:ai cr w a len zs) (hF:∀x w,(cX cr x).wf=true->aA aq ZX #[Y cr x] w λe w'=>e=bG (aK (p x))/\w=w') (hc:∀args w,(callFunc ZX args).run aq w= .ok (.enter ZX args) w):
 aA aq 139 #[O a len cap,.func (.func ZX) #[] #[]] w (Zi (zs.any p) w):=by
 obtain⟨B,hB⟩:=J (zs.any p);have HB:=V hB;rw[hB];clear hB;have H0:=V h;have HF:=V hF;have hl:=h.eC;have L0:=V h.bA;clear h hF;go_enter func139,ntmps139;go_wp2;go_loop [8] (λi=>∃k:Nat,k<=len/\i=Y Z k/\(∀j,j<k->p (zs.getD j 0)=ae)) (λi=>len-(aX i).toNat)
 case atStart=>exact⟨0,cK _,rfl,λj hj=>U⟩
 case round=>
  obtain⟨k,hk,rfl,hs⟩:=hrel;have HS:=V hs;clear hs;by_cases aT:k<len
  .obtain⟨b0,o0,rfl,e0⟩:=H0.I.cells U;have f0:=e0 k aT;clear e0;have OG:k<zs.length:=Q3O;have mZ:=V (show zs.getD k 0∈zs by simp[dV,cR OG]);have HW:=V (H0.I.wf _ mZ.I);have CF:=V (λw=>HF.I _ w HW.I);clear OG;generalize hx:zs.getD k 0=x at*;have HX:=V hx;generalize pF:p x=y at*;have HP:=V pF;clear hx pF;go_wp2_with fail;refine cq (CF.I _) ?_
   cases y
   .go_wp2;go_round
    case rel=>exact⟨k+1,U,Q2T,λj hj=>by(by_cases c:j=k);(subst c;rw[HX.I];exact HP.I);exact HS.I j U⟩
    case measure=>exact Q5q
   .go_wp2;go_ret;exact⟨_,rfl,by
     rw[<-HB.I,List.any_eq_true.2 ⟨x,mZ.I,HP.I⟩];exact dI U,rfl⟩
  .go_wp2;go_ret;exact⟨_,rfl,by
    rw[<-HB.I,show zs.any p=ae from by
     rw[List.any_eq_false];intro x hx;obtain⟨j,hj,e⟩:=List.getElem_of_mem hx;have:=HS.I j (E L0.I);rw[show zs.getD j 0=x by simp[dV,cR hj,e]]at this;rw[this];decide]
    rfl,rfl⟩
theorem TU (ZX:Nat) (p:Int->Bool) (a:aC) (len cap:Nat) (zs:ah) (w:H) (h:ai cr w a len zs) (hF:∀x w,(cX cr x).wf=true->aA aq ZX #[Y cr x] w λe w'=>e=bG (aK (p x))/\w=w') (hc:∀args w,(callFunc ZX args).run aq w= .ok (.enter ZX args) w):
 aA aq 75 #[O a len cap,.func (.func ZX) #[] #[]] w λe w'=>e=bG (aK (zs.any p))/\w=w':=by
 have ZW:=V (λw h=>ahI ZX p a len cap zs w h hF hc);have H0:=V h;generalize zs.any p=B at*;clear h hF hc;go_enter func75,ntmps75;go_wp2_with fail;refine(ZW.I _ H0.I).mono ?_;rintro e w' ⟨n,rfl,hn,rfl⟩;have HN:=V hn;clear hn;go_wp2;go_ret;exact⟨pC HN.I,rfl⟩
namespace ZX
def within (n lo hi:Int):Bool:=decide (lo<=n)&&decide (n<=hi)
def stream (s l h:Int):Int:=if 0<=s/\s<=1000000/\0<=l/\l<=12/\0<=h/\h<=15 then s*1024+l*16+h else 0
theorem O0 (s l h:Int):P.Z4 (stream s l h):=by
 unfold stream P.Z4;split<;>omega
end ZX
theorem aaQ (n lo hi:Int) (w:H):aA aq 141 #[Y Z n,Y Z lo,Y Z hi] w λe w'=>e=bG (aK (ZX.within n lo hi))/\w=w':=by
 unfold ZX.within;by_cases h1:lo<=n
 .rw[dI h1];go_enter func141,ntmps141;exact Q0d
 .rw[eP h1];have h3:decide (lo<=n)=ae:=eP h1;go_enter func141,ntmps141;exact Q0d
theorem aaR (n lo hi:Int) (w:H):aA aq 47 #[Y Z n,Y Z lo,Y Z hi] w λe w'=>e=bG (aK (ZX.within n lo hi))/\w=w':=by
 unfold ZX.within;by_cases h1:lo<=n
 .rw[dI h1];go_enter func47,ntmps47;exact Q0d
 .rw[eP h1];have h3:decide (lo<=n)=ae:=eP h1;go_enter func47,ntmps47;exact Q0d
theorem O5 (s l h:Int) (w:H):aA aq 145 #[Y Z s,Y Z l,Y Z h] w λe w'=>e=bG (Y cD (ZX.stream s l h))/\w=w':=by
 have FN:=V aaQ;by_cases hc:0<=s/\s<=1000000/\0<=l/\l<=12/\0<=h/\h<=15
 .rw[show ZX.stream s l h=s*1024+l*16+h by unfold ZX.stream;rw[aR hc]];obtain⟨a1,a2,b1,b2,c1,c2⟩:=hc;have w1:ZX.within s 0 1000000=true:=by unfold ZX.within;rw[dI a1,dI a2];rfl
  have w2:ZX.within l 0 12=true:=by unfold ZX.within;rw[dI b1,dI b2];rfl
  have w3:ZX.within h 0 15=true:=by unfold ZX.within;rw[dI c1,dI c2];rfl
  go_enter func145,ntmps145;go_wp2_with (go_at_call 141;refine(FN.I _ _ _ _).mono ?_;rintro e w' ⟨rfl,rfl⟩)
  go_ret;exact⟨rfl,rfl⟩
 .rw[show ZX.stream s l h=0 by unfold ZX.stream;rw[aI hc]];have cs:ZX.within s 0 1000000=ae\/(ZX.within s 0 1000000=true/\ZX.within l 0 12=ae)\/(ZX.within s 0 1000000=true/\ZX.within l 0 12=true/\ZX.within h 0 15=ae):=by
   unfold ZX.within;by_cases h1:0<=s<;>by_cases h2:s<=1000000<;>by_cases h3:0<=l<;>by_cases h4:l<=12<;>by_cases h5:0<=h<;>by_cases h6:h<=15<;>simp[h1,h2,h3,h4,h5,h6]<;>exact absurd ⟨h1,h2,h3,h4,h5,h6⟩ hc
  clear hc;rcases cs with h1|⟨h1,h2⟩|⟨h1,h2,h3⟩
  all_goals
   go_enter func145,ntmps145;go_wp2_with (go_at_call 141;refine(FN.I _ _ _ _).mono ?_;rintro e w' ⟨rfl,rfl⟩)
   go_ret;exact⟨rfl,rfl⟩
structure iV where
 b:Int
 w:Int
 r:Int
 m:Int
 d:Int
 e:Int
def mP (h:iV):aj:=aF #[Y Z h.b,Y Z h.w,Y Z h.r,Y Z h.m,Y Z h.d,Y Z h.e]
def iV.aH (h:iV):Bool:=ZX.within h.b 1 8&&(ZX.within h.w 2 8&&(ZX.within h.r 0 20&&(ZX.within h.m 0 20&&(ZX.within h.d 0 20&&ZX.within h.e 0 1000000))))
theorem Ib {g:Nat} {t:dy} {fr:Nat×Nat} (h:w.heap[g]? =A (ag cs t fr)):∀j v,cs[j]? =A v->w ⟨g,j,G⟩=A v:=λj v hv=>bh h j hv
theorem O6 (h:iV) (w:H):aA aq 15 #[mP h] w (dZ (aK h.aH) w):=by
 have OI:=V aaR;have BB:=V (aD w (ag #[Y Z h.b,Y Z h.w,Y Z h.r,Y Z h.m,Y Z h.d,Y Z h.e] 30));have hn:=bZ w (ag #[Y Z h.b,Y Z h.w,Y Z h.r,Y Z h.m,Y Z h.d,Y Z h.e] 30);have f0:=Ib hn 0 _ rfl;have f1:=Ib hn 1 _ rfl;have f2:=Ib hn 2 _ rfl;have f3:=Ib hn 3 _ rfl;have f4:=Ib hn 4 _ rfl;have f5:=Ib hn 5 _ rfl;unfold iV.aH mP;obtain⟨x0,e0⟩:∃x,ZX.within h.b 1 8=x:=⟨_,rfl⟩;obtain⟨x1,e1⟩:∃x,ZX.within h.w 2 8=x:=⟨_,rfl⟩;obtain⟨x2,e2⟩:∃x,ZX.within h.r 0 20=x:=⟨_,rfl⟩;obtain⟨x3,e3⟩:∃x,ZX.within h.m 0 20=x:=⟨_,rfl⟩;obtain⟨x4,e4⟩:∃x,ZX.within h.d 0 20=x:=⟨_,rfl⟩;obtain⟨x5,e5⟩:∃x,ZX.within h.e 0 1000000=x:=⟨_,rfl⟩;rw[e0,e1,e2,e3,e4,e5];clear hn;have cs:x0=ae\/(x0=true/\x1=ae)\/(x0=true/\x1=true/\x2=ae)\/(x0=true/\x1=true/\x2=true/\x3=ae)\/(x0=true/\x1=true/\x2=true/\x3=true/\x4=ae)\/(x0=true/\x1=true/\x2=true/\x3=true/\x4=true):=by
  cases x0<;>cases x1<;>cases x2<;>cases x3<;>cases x4<;>simp
 rcases cs with rfl|⟨rfl,rfl⟩|⟨rfl,rfl,rfl⟩|⟨rfl,rfl,rfl,rfl⟩|⟨rfl,rfl,rfl,rfl,rfl⟩|⟨rfl,rfl,rfl,rfl,rfl⟩
 all_goals
  go_enter func15,ntmps15;go_wp2_with (go_at_call 47;refine(OI.I _ _ _ _).mono ?_;rintro e w' ⟨rfl,rfl⟩)
  go_ret;exact⟨rfl,BB.I⟩
namespace ZX
def ni (n:Int):Bool:=decide (n< -1048576)||decide (1048576<n)
end ZX
theorem air (n:Int) (w:H):aA aq 76 #[Y cr n] w λe w'=>e=bG (aK (ZX.ni n))/\w=w':=by
 unfold ZX.ni;by_cases h1:n< -1048576
 .rw[dI h1];go_enter func76,ntmps76;exact Q0d
 .rw[eP h1,Bool.false_or];have h3:decide (n< -1048576)=ae:=eP h1;obtain⟨B,hB⟩:=J (decide (1048576<n));rw[hB];go_enter func76,ntmps76;exact Q0d
theorem ais (a:aC) (len cap:Nat) (zs:ah) (w:H) (h:ai cr w a len zs):aA aq 75 #[O a len cap,.func (.func 76) #[] #[]] w λe w'=>e=bG (aK (zs.any ZX.ni))/\w=w':=
 TU 76 ZX.ni a len cap zs w h (λx w _=>air x w) (λargs w=>Q3J)
theorem ait (n:Int) (w:H):aA aq 278 #[Y cr n] w λe w'=>e=bG (aK (ZX.ni n))/\w=w':=by
 unfold ZX.ni;by_cases h1:n< -1048576
 .rw[dI h1];go_enter func278,ntmps278;exact Q0d
 .rw[eP h1,Bool.false_or];have h3:decide (n< -1048576)=ae:=eP h1;obtain⟨B,hB⟩:=J (decide (1048576<n));rw[hB];go_enter func278,ntmps278;exact Q0d
theorem aiu (a:aC) (len cap:Nat) (zs:ah) (w:H) (h:ai cr w a len zs):aA aq 75 #[O a len cap,.func (.func 278) #[] #[]] w λe w'=>e=bG (aK (zs.any ZX.ni))/\w=w':=
 TU 278 ZX.ni a len cap zs w h (λx w _=>ait x w) (λargs w=>Q3J)
theorem aiv (n:Int) (w:H):aA aq 200 #[Y cr n] w λe w'=>e=bG (aK (ZX.ni n))/\w=w':=by
 unfold ZX.ni;by_cases h1:n< -1048576
 .rw[dI h1];go_enter func200,ntmps200;exact Q0d
 .rw[eP h1,Bool.false_or];have h3:decide (n< -1048576)=ae:=eP h1;obtain⟨B,hB⟩:=J (decide (1048576<n));rw[hB];go_enter func200,ntmps200;exact Q0d
theorem aiw (a:aC) (len cap:Nat) (zs:ah) (w:H) (h:ai cr w a len zs):aA aq 75 #[O a len cap,.func (.func 200) #[] #[]] w λe w'=>e=bG (aK (zs.any ZX.ni))/\w=w':=
 TU 200 ZX.ni a len cap zs w h (λx w _=>aiv x w) (λargs w=>Q3J)
theorem aaS (n lo hi:Int) (w:H):aA aq 108 #[Y Z n,Y Z lo,Y Z hi] w λe w'=>e=bG (aK (ZX.within n lo hi))/\w=w':=by
 unfold ZX.within;by_cases h1:lo<=n
 .rw[dI h1];go_enter func108,ntmps108;exact Q0d
 .rw[eP h1];have h3:decide (lo<=n)=ae:=eP h1;go_enter func108,ntmps108;exact Q0d
def O7 (a b c e k:Int) (x:aC) (l m:Nat):aj:=aF #[Y Z a,Y Z b,Y Z c,Y Z e,Y Z k,O x l m]
theorem aaT {a b c:Int} (h1:1<=a) (h2:a<=8) (h3:1<=b) (h4:b<=16) (h5:1<=c) (h6:c<=16):1<=a*b/\a*b<=128/\1<=a*b*c/\a*b*c<=2048:=by
 have k1:=pA h2 h4 U U;have k2:=pA h1 h3 U U;have k3:=pA k1 h6 U U;have k4:=pA k2 h5 U U;omega
theorem aaU (a b c e k:Int) (x:aC) (l m:Nat) (w:H) (h1:1<=a) (h2:a<=8) (h3:1<=b) (h4:b<=16) (h5:1<=c) (h6:c<=16):aA aq 110 #[O7 a b c e k x l m] w (dZ (Y Z (a*b*c)) w):=by
 have BB:=V (aD w (ag #[Y Z a,Y Z b,Y Z c,Y Z e,Y Z k,O x l m] 28));obtain⟨k1,k2,k3,k4⟩:=aaT h1 h2 h3 h4 h5 h6;have w1:Z.wrap (a*b)=a*b:=dv _ U;have w2:Z.wrap (a*b*c)=a*b*c:=dv _ U;unfold O7;go_enter func110,ntmps110;go_wp2;go_ret;exact⟨rfl,BB.I⟩
structure Lay where
 aB:Int
 I:Int
 k:Int
 s:Int
 aG:Int
 aJ:Int
 fz:Bool
deriving DecidableEq
def Lay.cells (x:Lay):Array aj:=#[Y Z x.aB,Y Z x.I,Y Z x.k,Y Z x.s,Y Z x.aG,Y Z x.aJ,aK x.fz]
theorem Fs (n lo hi:Int) (w:H):aA aq 176 #[Y Z n,Y Z lo,Y Z hi] w λe w'=>e=bG (aK (ZX.within n lo hi))/\w=w':=by
 unfold ZX.within;by_cases h1:lo<=n
 .rw[dI h1];go_enter func176,ntmps176;exact Q0d
 .rw[eP h1];have h3:decide (lo<=n)=ae:=eP h1;go_enter func176,ntmps176;exact Q0d
def Lay.xt (x:Lay):Bool:=ZX.within x.k 1 5&&ZX.within x.s 1 4
theorem Uj (x:Lay) (w:H):aA aq 213 #[aF x.cells] w (dZ (aK x.xt) w):=by
 have MI:=V Fs;have hn:=bZ w (ag x.cells 102);have f2:=bh hn 2 (v:=Y Z x.k) rfl;have f3:=bh hn 3 (v:=Y Z x.s) rfl;have BB:=V (aD w (ag x.cells 102));unfold Lay.xt;unfold Lay.cells at*;obtain⟨x0,e0⟩:∃y,ZX.within x.k 1 5=y:=⟨_,rfl⟩;obtain⟨x1,e1⟩:∃y,ZX.within x.s 1 4=y:=⟨_,rfl⟩;rw[e0,e1];clear hn
 cases x0;all_goals
  go_enter func213,ntmps213;go_wp2_with (go_at_call 176;refine(MI.I _ _ _ _).mono ?_;rintro e w' ⟨rfl,rfl⟩)
  go_ret;exact⟨rfl,BB.I⟩
def Dw (a b c:Int):Bool:=ZX.within a 1 8&&(ZX.within b 1 16&&ZX.within c 1 16)
theorem aix (a b c:Int) (w:H):aA aq 175 #[aF #[Y Z a,Y Z b,Y Z c]] w (dZ (aK (Dw a b c)) w):=by
 have MI:=V Fs;have hn:=bZ w (ag #[Y Z a,Y Z b,Y Z c] 3);have f0:=bh hn 0 (v:=Y Z a) rfl;have f1:=bh hn 1 (v:=Y Z b) rfl;have f2:=bh hn 2 (v:=Y Z c) rfl;unfold Dw;obtain⟨x0,e0⟩:∃y,ZX.within a 1 8=y:=⟨_,rfl⟩;obtain⟨x1,e1⟩:∃y,ZX.within b 1 16=y:=⟨_,rfl⟩;obtain⟨x2,e2⟩:∃y,ZX.within c 1 16=y:=⟨_,rfl⟩;rw[e0,e1,e2];clear hn
 cases x0<;>cases x1
 all_goals
  go_enter func175,ntmps175;go_wp2_with (go_at_call 176;refine(MI.I _ _ _ _).mono ?_;rintro e w' ⟨rfl,rfl⟩)
  go_ret;exact⟨rfl,(aD _ _)⟩
namespace aiA
variable {P:Program} {ops:Array Oper} {Q:Exit->Act->H->Prop}
end aiA
namespace Lt
variable {P:Program} {ops:Array Oper} {Q:Exit->Act->H->Prop} {md:Region.Mode} {S:H->Prop} {late:Nat->Bool}
def KG (md:Region.Mode) (ops:Array Oper) (late:Nat->Bool):List Nat->Array Bool->Bool
 | [],_=>true
 |i::l,listed=>J1 md ops late i listed&&KG md ops late l (listed.setIfInBounds i true)
def Uk (listed:Array Bool) (l:List Nat):Array Bool:=l.foldl (λa i=>a.setIfInBounds i true) listed
def Bv (P:Program) (ops:Array Oper) (S:H->Prop):List Nat->Act->(Act->Prop)->Prop
 | [],a,K=>K a
 |i::l,a,K=>∃o v,ops[i]? =A o/\YieldsIf P ops S o v a/\Bv P ops S l (a.put o.dst v) K
theorem more {l:List Nat} {o:Oper} (ho:ops.toList[i]? =A o) (hy:YieldsIf P ops S o v a) (h:Bv P ops S l (a.put o.dst v) K):Bv P ops S (i::l) a K:=⟨o,v,by simpa using ho,hy,h⟩
theorem done (h:K a):Bv P ops S [] a K:=h
theorem takes (hQ:∀d v c a w,Q (.panic c) (eR a (A d) v) w->Q (.panic c) a w) (hS:S w):∀(l:List Nat) {m fuel:Nat} {listed:Array Bool} {a:Act},KG md ops late l listed=true->m=fuel+l.length->
 Bv P ops S l a (λa'=>ij P md ops Q S late fuel (Uk listed l) a' w)->ij P md ops Q S late m listed a w
 | [],m,fuel,listed,a,_,hm,h=>by
   have:m=fuel:=Q4Z;subst this;exact h
 |i::l,m,fuel,listed,a,hB,hm,h=>by
  simp only[KG,fS]at hB;obtain⟨o,v,ho,hy,hr⟩:=h;have:m=(fuel+l.length)+1:=by simp at hm;omega
  subst this;exact take ho hB.1 (λc a w=>by
   cases o.dst with
   |none=>exact id
   |some d=>exact hQ d v c a w) hy hS (takes hQ hS l hB.2 rfl hr)
theorem only {o:Oper} (hr:Region.ready md ops listed=[i]) (hi:ops.toList[i]? =A o)
 (h:∀K',RowKit.Hid (∀a' w',((late i=ae->S w')/\ij P md ops Q S late fuel (listed.setIfInBounds i true) a' w')->K' a' w')->if n9 o (yielded ops a.tmps)=true then Oper.wp P o a w K' Q else K' (a.put o.dst undef) w):
 ij P md ops Q S late (fuel+1) listed a w:=
 all hr bK (λj hj=>by
  obtain rfl:j=i:=Q4m;exact step (by simpa using hi) h)
theorem both {o q:Oper} (hr:Region.ready md ops listed=[i,j]) (hi:ops.toList[i]? =A o) (hj:ops.toList[j]? =A q)
 (h:∀K',RowKit.Hid (∀a' w',((late i=ae->S w')/\ij P md ops Q S late fuel (listed.setIfInBounds i true) a' w')->K' a' w')->if n9 o (yielded ops a.tmps)=true then Oper.wp P o a w K' Q else K' (a.put o.dst undef) w)
 (h2:∀K',RowKit.Hid (∀a' w',((late j=ae->S w')/\ij P md ops Q S late fuel (listed.setIfInBounds j true) a' w')->K' a' w')->if n9 q (yielded ops a.tmps)=true then Oper.wp P q a w K' Q else K' (a.put q.dst undef) w):
 ij P md ops Q S late (fuel+1) listed a w:=
 all hr bK (λk hk=>by
  simp only[List.mem_cons,List.not_mem_nil,or_false]at hk;rcases hk with rfl|rfl
  .exact step (by simpa using hi) h
  .exact step Q4m h2)
end Lt
theorem dF {g f:Nat} {T:dy} {fr:Nat×Nat} (h:w.heap[g]? =A (ag cs T fr)) (v:aj):(ss w ⟨g,f,G⟩ v).heap[g]? =A (ag (cs.setIfInBounds f v) T fr):=by
 have hl:=bH h;have h':w.heap[g]=ag cs T fr:=by simpa[Array.getElem?_eq_getElem hl]using h
 show(w.heap.modify g _)[g]? =_
 rw[Array.getElem?_eq_getElem Q4l,Array.getElem_modify_self,h'];rfl
theorem gj {g f:Nat} (v:aj) (cI:b≠g):(ss w ⟨g,f,G⟩ v).heap[b]? =w.heap[b]? :=Below.heap_setCell _ _ _ _ (λe=>cI e)
theorem cE {g:Nat} {T:dy} (h:w.heap[g]? =A (ag cs T (0,0))) (j:Nat):w.frozen? ⟨g,j,G⟩=ae:=by
 unfold World.frozen?;simp only[h];simp
section
open Lt
section
variable {P:Program} {ops:Array Oper} {Q:Exit->Act->World->Prop} {md:Region.Mode} {S:World->Prop} {late:Nat->Bool}
theorem Um {K K':Act->Prop} (hk:∀a,K a->K' a):∀(l:List Nat) {a:Act},Bv P ops S l a K->Bv P ops S l a K'
 | [],_,h=>hk _ h
 |_::l,_,⟨o,v,ho,hy,hr⟩=>⟨o,v,ho,hy,Um hk l hr⟩
theorem cQ {w:World} {m fuel:Nat} {listed:Array Bool} {a a2:Act} (hS:S w) (l:List Nat) (k:ij P md ops Q S late fuel (Uk listed l) a2 w)
 (hQ:∀d v c a w,Q (.panic c) (Act.put a (some d) v) w->Q (.panic c) a w:=by first|exact λ_ _ _ _ _ h=>h|exact λ_ _ _ _ _ h=>jM.I _ _ _ _ _ h)
 (hB:KG md ops late l listed=true:=by kernel_rfl) (hm:m=fuel+l.length:=by rfl)
 (h:Bv P ops S l a (λa'=>a'=a2):=by(
  repeat(first|((refine Lt.more (v:= ?_) rfl (Or.inl ⟨by rfl,?_⟩) ?_;rotate_left;(intro w' hw';go_simp;try with_reducible rfl);try simp only[Act.put,List.setIfInBounds_toArray,List.set_cons_zero,List.set_cons_succ]))|((refine Lt.more (v:=undef) rfl (Or.inr ⟨by rfl,rfl⟩) ?_;try simp only[Act.put,List.setIfInBounds_toArray,List.set_cons_zero,List.set_cons_succ])))
  refine Lt.done ?_;exact rfl)):ij P md ops Q S late m listed a w:=takes hQ hS l hB hm (Um (λ_ e=>e▸k) l h)
theorem bR {w:World} {m fuel:Nat} {listed:Array Bool} {a a2:Act} {Z4:World->Prop} (hS:S w) (l:List Nat) (u:∀w',S w'->Z4 w') (k:ij P md ops Q S late fuel (Uk listed l) a2 w)
 (hQ:∀d v c a w,Q (.panic c) (Act.put a (some d) v) w->Q (.panic c) a w:=by first|exact λ_ _ _ _ _ h=>h|exact λ_ _ _ _ _ h=>jM.I _ _ _ _ _ h)
 (hB:KG md ops late l listed=true:=by kernel_rfl) (hm:m=fuel+l.length:=by rfl)
 (h:RowKit.Hid (∀w',S w'->Z4 w')->Bv P ops S l a (λa'=>a'=a2):=by(
  intro u0;repeat(first|((refine Lt.more (v:= ?_) rfl (Or.inl ⟨by rfl,?_⟩) ?_;rotate_left;(intro w' hw';have hu:=u0.I w' hw';clear hw';go_simp;try with_reducible rfl);try simp only[Act.put,List.setIfInBounds_toArray,List.set_cons_zero,List.set_cons_succ]))|((refine Lt.more (v:=undef) rfl (Or.inr ⟨by rfl,rfl⟩) ?_;try simp only[Act.put,List.setIfInBounds_toArray,List.set_cons_zero,List.set_cons_succ])))
  refine Lt.done ?_;exact rfl)):ij P md ops Q S late m listed a w:=takes hQ hS l hB hm (Um (λ_ e=>e▸k) l (h u))
theorem bL (i:Nat) {o:Oper} {fuel:Nat} {listed:Array Bool} {a:Act} {w:World}
 (h:∀K',RowKit.Hid (∀a' w',((late i=false->S w')/\ij P md ops Q S late fuel (listed.setIfInBounds i true) a' w')->K' a' w')->if Region.wanted o (yielded ops a.tmps)=true then Oper.wp P o a w K' Q else K' (a.put o.dst undef) w)
 (hr:Region.ready md ops listed=[i]:=by kernel_rfl) (hi:ops.toList[i]? =some o:=by rfl):
 ij P md ops Q S late (fuel+1) listed a w:=only hr hi h
theorem bW {listed:Array Bool} {a:Act} {w:World} {fuel:Nat} (h:Q .normal a w) (hr:Region.ready md ops listed=[]:=by kernel_rfl):ij P md ops Q S late fuel listed a w:=over hr h fuel
theorem lI (i j:Nat) {o q:Oper} {fuel:Nat} {listed:Array Bool} {a:Act} {w:World}
 (h:∀K',RowKit.Hid (∀a' w',((late i=false->S w')/\ij P md ops Q S late fuel (listed.setIfInBounds i true) a' w')->K' a' w')->if Region.wanted o (yielded ops a.tmps)=true then Oper.wp P o a w K' Q else K' (a.put o.dst undef) w)
 (h2:∀K',RowKit.Hid (∀a' w',((late j=false->S w')/\ij P md ops Q S late fuel (listed.setIfInBounds j true) a' w')->K' a' w')->if Region.wanted q (yielded ops a.tmps)=true then Oper.wp P q a w K' Q else K' (a.put q.dst undef) w)
 (hr:Region.ready md ops listed=[i,j]:=by kernel_rfl) (hi:ops.toList[i]? =some o:=by rfl) (hj:ops.toList[j]? =some q:=by rfl):
 ij P md ops Q S late (fuel+1) listed a w:=both hr hi hj h h2
theorem cY {K:Act->World->Prop} {c:Prop} {w:World} {a a2:Act} {fuel:Nat} {listed:Array Bool} {o:Oper} (hK:RowKit.Hid (∀a' w',((c->S w')/\ij P md ops Q S late (fuel+1) listed a' w')->K a' w')) (s:S w) (i:Nat)
 (h:∀K',RowKit.Hid (∀a' w',((late i=false->S w')/\ij P md ops Q S late fuel (listed.setIfInBounds i true) a' w')->K' a' w')->if Region.wanted o (yielded ops a2.tmps)=true then Oper.wp P o a2 w K' Q else K' (a2.put o.dst undef) w)
 (ha:a=a2:=by((try simp only[Act.put,List.setIfInBounds_toArray,List.set_cons_zero,List.set_cons_succ]);exact rfl)) (hr:Region.ready md ops listed=[i]:=by kernel_rfl) (hi:ops.toList[i]? =some o:=by rfl):K a w:=by
 subst ha;exact hK.I _ w ⟨λ_=>s,only hr hi h⟩
end
end
section
attribute [local go_sem ↓] wp_at_zero wp_at_succ
theorem KH:(aq.info? 5).map (λi=>(i.zero,i.size,i.bytes))=A (A (Y .u8 0),1,1):=Q2Q
namespace ZY
def put (n:Int) (k:Nat):List Int:=(iz k).map λi=>n/256 ^ (k-1-i)%256
theorem fI (n:Int) (k:Nat):(put n k).length=k:=by simp[put]
theorem aaW (n:Int) (k j:Nat) (h:j<k):(put n k).take (j+1)=(put n k).take j++[n/256 ^ (k-1-j)%256]:=by
 rw[sV (by rw[fI];exact h)];simp[put]
theorem uA {n:Int} {k:Nat} (h:x∈put n k):0<=x/\x<=255:=by
 simp only[put,kG]at h;obtain⟨i,_,rfl⟩:=h;omega
end ZY
theorem O9 (h1:0<=z) (h2:z<=255):(cX .u8 z).wf=true:=Q3f
def kv (B p:Nat) (vd:aj) (xs:ah) (w:H):Prop:=w.heap[p]? =A (ag #[vd] 145 (0,0))/\w.ownsRow B 5 1 vd xs.length (xs.map (Y .u8))/\p<B/\B<=w
structure lm (p:Nat) (vd ke:aj) (w w':H):Prop where
 kept:ar w (λb=>b=p\/vd.ownBlock=A b) w w'
 own:∀b,ke.ownBlock=A b->vd.ownBlock=A b\/w.heap.size<=b
theorem lm.refl (p:Nat) (vd:aj) (w:H):lm p vd vd w w:=⟨⟨rfl,rfl,rfl,bu _,λ_ _ _=>rfl⟩,λ_ h=>aM h⟩
theorem lm.trans {v3:aj} {a b c:H} (h:lm p v1 v2 a b) (k:lm p v2 v3 b c):lm p v1 v3 a c:=by
 refine⟨⟨k.kept.os.trans h.kept.os,k.kept.tape.trans h.kept.tape,k.kept.output.trans h.kept.output,eH h.kept.size k.kept.size,λg hg hn=> ?_⟩,λg hg=> ?_⟩
 .refine(k.kept.block g (iP hg h.kept.size) λe=> ?_).trans (h.kept.block g hg hn);rcases e with e|e
  .exact hn (aM e)
  .rcases h.own g e with e2|e2
   .exact hn (bJ e2)
   .omega
 .rcases k.own g hg with e|e
  .exact h.own g e
  .exact bJ (eH h.kept.size e)
theorem lm.vP {a b:H} (h:lm p v1 v2 a.drew b):lm p v1 v2 a b:=⟨⟨h.kept.os,h.kept.tape,h.kept.output,h.kept.size,h.kept.block⟩,h.own⟩
theorem lm.bI {a b:H} (h:lm p v1 v2 a b) (n:Nat):lm p v1 v2 a (b.drewN n):=⟨⟨h.kept.os,h.kept.tape,h.kept.output,h.kept.size,h.kept.block⟩,h.own⟩
def Ft (B p:Nat) (vd:aj) (zs:ah) (w:H) (e:dN) (w':H):Prop:=e=bG (aL #[])/\∃ke,kv B p ke zs w'/\lm p vd ke w w'
theorem aiB {P:Program} (n:Int) (d:Nat) (hd:d<=7) (w:H):(Op.shift .shr cD n Z (8*(d:Int))).run P w= .ok (Y cD (n/256 ^ d)) w:=by
 have e:(2:Int) ^ (8*d)=256 ^ d:=by rw[Int.pow_mul];rfl
 unfold Op.shift;rw[aI U];have h2:min (8*(d:Int)).toNat cD.bits=8*d:=by
  show min _ 64=_
  omega
 simp only[h2];rw[e,Int.fdiv_eq_ediv_of_nonneg _ (Int.le_of_lt (Int.pow_pos U))];rfl
theorem Wr.aaX {B g:Nat} {w0 w1:H} (h:kv B p vd xs w) (hn:n=(xs++ys).length) (oW:ay w w w0)
 (aV:w1.ownsRow B 5 1 (O g n c) n (xs.map (Y .u8)++ys.map (Y .u8))) (hg:w0.grownBy w1 vd.ownBlock) (lR:vd.ownBlock=A g\/w.heap.size<=g):
 kv B p (O g n c) (xs++ys) (ss w1 p (O g n c))/\lm p vd (O g n c) w (ss w1 p (O g n c)):=by
 subst hn;have hv:=λb (e:vd.ownBlock=A b)=>(h.2.1.lt b e).1;have Un:=h.2.2.1;have hB:=h.2.2.2;have hs:=hg.size;have xu:=oW.size;have zI:B<=g:=by
  rcases lR with e|e
  .exact hv _ e
  .omega
 have wX:=gI hg (bV h.1 oW) (λe=>E (hv _ e));refine⟨⟨dF wX _,?_,Un,Q4G⟩,⟨⟨hg.os.trans oW.os,hg.tape.trans oW.tape,hg.output.trans oW.output,Q4G,λb hb hn=> ?_⟩,λb e=> ?_⟩⟩
 .rw[List.map_append];exact ownsRow_setCell_other aV (λe=>by
   have e:A g=A p:=e;injection e with e;omega) _
 .rw[gj _ (λe=>hn (aM e)),hg.block b U (λe=>hn (bJ e.symm))];exact oW.block b hb
 .have e:A g=A b:=e;injection e with e;subst e;exact lR
theorem Wr.step {B g:Nat} {w1:H} (h:kv B p vd xs w) (hn:n=(xs++ys).length)
 (aV:w1.ownsRow B 5 1 (O g n c) n (xs.map (Y .u8)++ys.map (Y .u8))) (hg:(li w o).grownBy w1 vd.ownBlock) (lR:vd.ownBlock=A g\/g=(li w o).heap.size):
 kv B p (O g n c) (xs++ys) (ss w1 p (O g n c))/\lm p vd (O g n c) w (ss w1 p (O g n c)):=
 Wr.aaX h hn (aD w o) aV hg (lR.imp id λe=>by rw[bF]at e;omega)
theorem Pa (B p:Nat) (vd:aj) (xs:ah) (n:Int) (k:Nat) (w:H) (h:kv B p vd xs w) (hn:0<=n/\n<=18446744073709551615) (hk:k<=8) (hl:xs.length<=100000000):
 aA aq 129 #[aP p,Y cD n,Y Z (k:Int)] w (Ft B p vd (xs++ZY.put n k) w):=by
 have ZW:=V h;obtain⟨h1,h2⟩:=hn;clear h;go_enter func129,ntmps129;go_wp2_with fail;go_loopw [10] (λi wr=>∃(j:Nat) (ke:aj),j<=k/\i=Y Z j/\kv B p ke (xs++(ZY.put n k).take j) wr/\lm p vd ke w wr) (λi _=>k-(aX i).toNat)
 case atStart=>exact⟨0,vd,cK _,rfl,by simpa using ZW.I,lm.refl _ _ _⟩
 case round=>
  obtain⟨j,v1,hj,rfl,hw,hr⟩:=hrel;have HW:=V hw;have HR:=V hr;have hB:=hw.2.2.2;have Un:=hw.2.2.1;clear hw hr;by_cases aT:j<k
  .have c0:=bh HW.I.1 0 (v:=v1) rfl;obtain⟨d,hd⟩:∃d:Nat,k=d+1+j:=⟨k-1-j,U⟩;have w1:Z.wrap ((k:Int)-1)=(k:Int)-1:=dv _ U;have w2:Z.wrap ((k:Int)-1-j)=(d:Int):=Q3l;have w3:Z.wrap (8*(d:Int))=8*(d:Int):=dv _ U;have SH:=λw':H=>aiB (P:=aq) n d U w';have w4:IntKind.u8.wrap (n/256 ^ d)=n/256 ^ d%256:=by simp[IntKind.wrap,nG,nD]
   have HP:=V (show(ZY.put n k).take (j+1)=(ZY.put n k).take j++[n/256 ^ d%256] by rw[ZY.aaW n k j aT,show k-1-j=d by omega]);have wY:(xs++(ZY.put n k).take j).length<=100000008:=by rw[dG,List.length_take,ZY.fI];omega
   obtain⟨zs,ud⟩:=J (xs++(ZY.put n k).take j);rw[ud]at HW wY;have HZ:=V ud;obtain⟨i0,hi,cF,cG,cB⟩:=fB KH;clear hd ud;go_wp2_with fail;refine Lt.begins (λw':H=>w' p=A v1) (λj=>j==17) kr ?_;refine Lt.takes (λ_ _ _ _ _ h=>h) (w:=wr.drew) c0 [0,1,2,3,4,5,6,7,8,9,10,11,12] kr rfl ?_;repeat(refine Lt.more (v:= ?_) rfl (aM ⟨Q3u,?_⟩) ?_;rotate_left;(intro w' hw';go_simp;try with_reducible rfl);try simp only[eR,dC,dD,dE])
   refine Lt.done ?_;refine bL 13 λK hK=> ?_;go_simp;have c1:(λw':H=>w' p=A v1) (li wr.drew (ag #[Y .u8 (n/256 ^ d%256)] 5)):=fq c0 _;refine cY hK c1 14 λK hK=> ?_;refine step_append_lies _ cJ _ _ _ cJ B 5 i0 _ 1 1 underlying42 hi cF cG cB rfl U v1 _ _ cJ (HW.I.2.1.drew.alloc _) ⟨wr,0,G⟩ 1 1 [Y .u8 (n/256 ^ d%256)] cJ cJ (kJ wr.drew _ _) Q35 U Q2V U Q2R _ rfl ?_;intro g1 fh w7 cC bM cN ei;obtain⟨HN,HNr⟩:=Wr.step (w:=wr.drew) (ys:=[n/256 ^ d%256]) HW.I bK cC bM cN;have c2:w7 p=A v1:=bh (gI bM (dX (show wr.drew.heap[p]? =_ from HW.I.1) _) (λe=>E ((HW.I.2.1.lt p e).1))) 0 rfl;have c3:w7.frozen? ⟨p,0,G⟩=ae:=cE (gI bM (dX (show wr.drew.heap[p]? =_ from HW.I.1) _) (λe=>E ((HW.I.2.1.lt p e).1))) 0;have HN1:=V HN;have Fu:=V HNr;refine hK.I _ _ ⟨λ_=>c2,?_⟩;clear hK K HN HNr cC bM cN ei;try simp only[eR,dC,dD,dE]
   refine Lt.takes (λ_ _ _ _ _ h=>h) c2 [15,16] kr rfl ?_;repeat(refine Lt.more (v:= ?_) rfl (aM ⟨Q3u,?_⟩) ?_;rotate_left;(intro w' hw';go_simp;try with_reducible rfl);try simp only[eR,dC,dD,dE])
   refine Lt.done ?_;refine bL 17 λK hK=> ?_;go_simp;refine hK.I _ _ ⟨λh=>absurd h eM,?_⟩;clear hK K c2 c3 SH;try simp only[eR,dC,dD,dE]
   refine bW ?_;generalize ss w7 _ _=w8 at*;go_wp2_with fail;go_roundw
   case rel=>exact⟨j+1,_,U,Q2T,by rw[HP.I,<-lL,HZ.I];exact HN1.I,HR.I.trans Fu.I.vP⟩
   case measure=>exact Q5q
  .obtain rfl:j=k:=U;have HT:=V (show(ZY.put n j).take j=ZY.put n j from oQ (by rw[ZY.fI];omega));rw[HT.I]at HW;go_wp2;refine bodyPost_end (v:=aL #[]) (by simp[aW,results129]) rfl ⟨rfl,v1,HW.I,HR.I⟩
theorem aaY (n:Int):0<=cD.wrap n/\cD.wrap n<=18446744073709551615:=Q36
theorem Fv (B p:Nat) (vd:aj) (xs:ah) (n:Int) (w:H) (h:kv B p vd xs w) (hl:xs.length<=100000000):
 aA aq 62 #[aP p,Y Z n] w (Ft B p vd (xs++ZY.put (cD.wrap n) 1) w):=by
 have P:=V (Pa B p vd xs (cD.wrap n) 1 w h (aaY n) U hl);go_enter func62,ntmps62;go_wp2_with fail;refine P.I.mono ?_;rintro e w' ⟨rfl,ke,h1,h2⟩;have H1:=V h1;have H2:=V h2;go_wp2_with fail;exact bodyPost_end (v:=aL #[]) (by simp[aW,results62]) rfl ⟨rfl,ke,H1.I,H2.I⟩
theorem Uo (B p:Nat) (vd:aj) (xs:ah) (n:Int) (w:H) (h:kv B p vd xs w) (hl:xs.length<=100000000):
 aA aq 64 #[aP p,Y Z n] w (Ft B p vd (xs++ZY.put (cD.wrap n) 2) w):=by
 have P:=V (Pa B p vd xs (cD.wrap n) 2 w h (aaY n) U hl);go_enter func64,ntmps64;go_wp2_with fail;refine P.I.mono ?_;rintro e w' ⟨rfl,ke,h1,h2⟩;have H1:=V h1;have H2:=V h2;go_wp2_with fail;exact bodyPost_end (v:=aL #[]) (by simp[aW,results64]) rfl ⟨rfl,ke,H1.I,H2.I⟩
theorem Ie (B p:Nat) (vd:aj) (xs:ah) (n:Int) (w:H) (h:kv B p vd xs w) (hn:0<=n/\n<=4294967295) (hl:xs.length<=100000000):
 aA aq 61 #[aP p,Y .u32 n] w (Ft B p vd (xs++ZY.put n 4) w):=by
 have P:=V (Pa B p vd xs n 4 w h U U hl);have e1:cD.wrap n=n:=Q36;clear hn;go_enter func61,ntmps61;go_wp2_with fail;refine P.I.mono ?_;rintro e w' ⟨rfl,ke,h1,h2⟩;have H1:=V h1;have H2:=V h2;go_wp2_with fail;exact bodyPost_end (v:=aL #[]) (by simp[aW,results61]) rfl ⟨rfl,ke,H1.I,H2.I⟩
theorem aiC (B p:Nat) (vd:aj) (xs:ah) (n:Int) (w:H) (h:kv B p vd xs w) (hn:0<=n/\n<=18446744073709551615) (hl:xs.length<=100000000):
 aA aq 60 #[aP p,Y cD n] w (Ft B p vd (xs++ZY.put n 8) w):=by
 have P:=V (Pa B p vd xs n 8 w h hn U hl);go_enter func60,ntmps60;go_wp2_with fail;refine P.I.mono ?_;rintro e w' ⟨rfl,ke,h1,h2⟩;have H1:=V h1;have H2:=V h2;go_wp2_with fail;exact bodyPost_end (v:=aL #[]) (by simp[aW,results60]) rfl ⟨rfl,ke,H1.I,H2.I⟩
structure dH where
 b:List Int
 e:Int
namespace dH
def take (r:dH) (n:Int):List Int×dH:=if r.e≠0\/n<=0 then([],r)else if(r.b.length:Int)<n then([],⟨[],4⟩)else(r.b.take n.toNat,⟨r.b.drop n.toNat,r.e⟩)
def sh (a c:Int):Int:=bits BinOp.or cD (cD.wrap (a*256)) c
def num (l:ah):Int:=l.foldl sh 0
def number (r:dH) (k:Int):Int×dH:=(num (r.take k).1,(r.take k).2)
def fin (r:dH):Int:=if r.e=0/\0<r.b.length then 5 else r.e
theorem aaZ {r:dH} {n:Int} (h:r.e≠0\/n<=0):r.take n=([],r):=by unfold take;rw[aR h]
theorem aiD {r:dH} {n:Int} (h:r.e=0) (h1:0<n) (h2:(r.b.length:Int)<n):r.take n=([],⟨[],4⟩):=by unfold take;rw[aI U,aR h2]
theorem Up {r:dH} {n:Int} (h:r.e=0) (h1:0<n) (h2:n<=(r.b.length:Int)):r.take n=(r.b.take n.toNat,⟨r.b.drop n.toNat,r.e⟩):=by unfold take;rw[aI U,aI U]
theorem Uq (l:ah) (x:Int):num (l++[x])=sh (num l) x:=by simp[num,List.foldl_append]
theorem aiE (l:ah):P.Z4 (num l):=by
 rcases List.eq_nil_or_concat l with rfl|⟨l,x,rfl⟩
 .exact⟨Q3h,Q3h⟩
 .rw[List.concat_eq_append,Uq];exact P.aat _
end dH
def iE (g:Nat) (r:dH) (w:H):Prop:=∃a l c,w.heap[g]? =A (ag #[O a l c,Y Z r.e] 235 (0,0))/\ai .u8 w a l r.b/\l<=c/\(∀x,a=A x->x.block<g)
abbrev jE (g:Nat) (w w':H):Prop:=ar w (λb=>b=g) w w'
theorem jE.refl (g:Nat) (w:H):jE g w w:=⟨rfl,rfl,rfl,bu _,λ_ _ _=>rfl⟩
theorem jE.cZ {g:Nat} (h:ay w w w'):jE g w w':=⟨h.os,h.tape,h.output,h.size,λb hb _=>h.block b hb⟩
theorem jE.set {g:Nat} {a:H} (h:jE g a w) (j:Nat) (v:aj):jE g a (ss w ⟨g,j,G⟩ v):=
 ⟨h.os,h.tape,h.output,by rw[jR];exact h.size,λb hb hn=>(gj v hn).trans (h.block b hb hn)⟩
theorem jE.row {g:Nat} (h:jE g w w') {a:aC} {l:Nat} (hr:ai k w a l zs) (hg:∀x,a=A x->x.block≠g):ai k w' a l zs:=by
 obtain⟨h1,h2,h3,h4⟩:=hr;refine⟨h1,h2,h3,h4.imp id ?_⟩;rintro⟨b,off,rfl,hc⟩;refine⟨b,off,rfl,λj hj=> ?_⟩;have t8:=hc j hj;have aT:=World.block_lt_of_cell? w _ t8;unfold kY at t8⊢;rw[h.block b aT (hg _ rfl)];exact t8
theorem jE.bC {g:Nat} (h:jE g w w') (hb:w.heap[b]? =A o) (hn:b≠g):w'.heap[b]? =A o:=(h.block b (bH hb) hn).trans hb
def Ig (g:Nat) (p:List Int×dH) (w:H) (e:dN) (w':H):Prop:=
 ∃a l c,e=bG (O a l c)/\ai .u8 w' a l p.1 /\l<=c/\(∀x,a=A x->w.heap.size<=x.block)/\iE g p.2 w'/\jE g w w'
def ab0 (k:ey) (n:Nat) (zs:ah) (w:H) (e:dN) (w':H):Prop:=∃a c,e=bG (O a n c)/\ai k w' a n zs/\n<=c/\(∀x,a=A x->w.heap.size<=x.block/\x.block<w'.heap.size)/\ay w w w'
theorem qL.new (h:qL k ZU n zs w e w') (hw:∀z∈zs,(cX k z).wf=true) (hl:n<=140737488351232):ab0 k n zs w e w':=by
 obtain⟨v,rfl,ho,hb⟩:=h;have hn:zs.length=n:=Q4I;rcases ho.2 with⟨rfl,h0⟩|⟨g,c,cur,rfl,_⟩
 .rw[h0]at hn⊢;rw[List.length_eq_zero_iff.1 hn];exact⟨G,0,rfl,ai.zero _ _ _,U,(λx hx=>Q3t),hb⟩
 .exact⟨_,_,rfl,ai.owned ho hw hl,Hy ho,(λx hx=>Q4D),hb⟩
theorem Ur (a:aC) (l c:Nat) (b:ah) (w:H) (h:ai .u8 w a l b) (hl:l<=1000000000):
 aA aq 81 #[O a l c] w λe w'=>∃g,e=bG (aP (A ⟨g,0,G⟩))/\iE g ⟨b,0⟩ w'/\w.heap.size<=g/\ay w w w':=by
 have C:=V ((Fd a l c b w h hl).mono λ_ _ g=>g.new h.wf U);clear h;go_enter func81,ntmps81;go_wp2_with fail;refine C.I.mono ?_;rintro e w1 ⟨va,vc,rfl,hr,uB,hf,hb⟩;have HR:=V (hr.below (aD w1 (ag #[O va l vc,Y Z 0] 235)));have HB:=V (hb.step (aD w1 (ag #[O va l vc,Y Z 0] 235)));have HF:=V hf;have HL:=V uB;have hs:=hb.size;clear hb hr hf uB;go_wp2_with fail;go_ret;exact⟨_,rfl,⟨va,l,vc,bZ _ _,HR.I,HL.I,λx hx=>(HF.I x hx).2⟩,hs,HB.I⟩
theorem ab1 (g:Nat) (r:dH) (n:Int) (w:H) (h:iE g r w) (hl:r.b.length<=1000000000):
 aA aq 149 #[aP g,Y Z n] w (Ig g (r.take n) w):=by
 obtain⟨a,l,c,hb,hr,uB,cI⟩:=h;have c0:=bh hb 0 (v:=O a l c) rfl;have c1:=bh hb 1 (v:=Y Z r.e) rfl;have z0:=cE hb 0;have z1:=cE hb 1;have vJ:=hr.bA;have HN:=V cI;have oZ:=V hr;have oI:=V hb;have Us:=V uB;obtain⟨ZU,hE⟩:=J (r.take n);rw[hE];have HE:=V hE;clear hE hr hb cI;have cs:r.e≠0\/(r.e=0/\n<=0)\/(r.e=0/\0<n/\(l:Int)<n)\/(r.e=0/\0<n/\n<=(l:Int)):=U;rcases cs with h|⟨h,h1⟩|⟨h,h1,h2⟩|⟨h,h1,h2⟩
 .obtain rfl:=HE.I.symm.trans (dH.aaZ (n:=n) (aM h));have e1:(r.e != 0)=true:=Q32;exact Q1h
 .obtain rfl:=HE.I.symm.trans (dH.aaZ (n:=n) (bJ h1));have e1:(r.e != 0)=ae:=Q32;exact Q1h
 .obtain rfl:=HE.I.symm.trans (dH.aiD (n:=n) h h1 U);have e1:(r.e != 0)=ae:=Q32;clear h;go_enter func149,ntmps149;go_wp2;go_ret;exact⟨_,_,_,rfl,ai.zero _ _ _,bu _,(λx hx=>Q3t),⟨G,0,0,dF (dF oI.I _) _,ai.zero _ _ _,bu _,(λx hx=>Q3t)⟩,((jE.refl _ _).set _ _).set _ _⟩
 .obtain rfl:=HE.I.symm.trans (dH.Up (n:=n) h h1 U);have e1:(r.e != 0)=ae:=Q32;obtain⟨N,rfl⟩:∃N:Nat,n=N:=⟨n.toNat,U⟩;obtain⟨p,o,rfl,hc⟩:=oZ.I.cells U;have CL:=V (λw' (h:ai .u8 w' (A ⟨p,o,G⟩) N (r.b.take N))=>(Fd (A ⟨p,o,G⟩) N c (r.b.take N) w' h U).mono λ_ _ g=>g.new h.wf U);have Bf:=V (oZ.I.take N U);clear h hc;go_enter func149,ntmps149;go_wp2_with fail;refine(CL.I _ Bf.I).mono ?_;rintro e w1 ⟨va,vc,rfl,hr,ab2,hf,hb⟩;have gG:=V hr;have Pb:=V hf;have jW:=V hb;have Fx:=V ab2;have Pc:=V (bV oI.I hb);clear hr hf hb ab2 c0 c1 z0 z1;have c0:=bh Pc.I 0 (v:=O (A ⟨p,o,G⟩) l c) rfl;have z0:=cE Pc.I 0;have vQ:=V ((oZ.I.below jW.I).sub N (l-N) U);by_cases ip:N=c
  .obtain rfl:l=N:=E Us.I;subst ip;go_wp2_with fail;go_ret;have hd:r.b.drop (l:Int).toNat=[]:=List.drop_eq_nil_iff.2 U;refine⟨_,_,_,rfl,(jE.row (g:=g) ((jE.refl _ _).set _ _) gG.I (λx hx=>by have:=Pb.I x hx;have:=bH oI.I;omega)),Fx.I,(λx hx=>(Pb.I x hx).1),⟨A ⟨p,o,G⟩,0,0,dF Pc.I _,?_,bu _,HN.I⟩,(jE.cZ jW.I).set _ _⟩;show ai .u8 _ _ 0 (r.b.drop (l:Int).toNat)
   rw[hd];exact ai.zero _ _ _
  .go_wp2_with fail;go_ret;refine⟨_,_,_,rfl,(jE.row (g:=g) ((jE.refl _ _).set _ _) gG.I (λx hx=>by have:=Pb.I x hx;have:=bH oI.I;omega)),Fx.I,(λx hx=>(Pb.I x hx).1),⟨A ⟨p,o+N,G⟩,l-N,c-N,dF Pc.I _,?_,U,λx hx=>by cases hx;exact(HN.I ⟨p,o,G⟩ rfl:p<g)⟩,(jE.cZ jW.I).set _ _⟩;show ai .u8 _ _ _ (r.b.drop N)
   have h3:=(jE.row (g:=g) ((jE.refl _ _).set 0 (O (A ⟨p,o+N,G⟩) (l-N) (c-N))) vQ.I (λx hx=>by cases hx;exact Nat.ne_of_lt (HN.I ⟨p,o,G⟩ rfl:p<g)));rwa[oQ (by rw[List.length_drop];omega)]at h3
theorem ab3 (h:(cX .u8 x).wf=true):0<=x/\x<=255:=by
 exact Q1s
def NumOut (g:Nat) (k:ey) (x:Int) (r:dH) (w:H) (e:dN) (w':H):Prop:=e=bG (Y k x)/\iE g r w'/\jE g w w'
theorem Pd (g:Nat) (r:dH) (n:Int) (w:H) (h:iE g r w) (hl:r.b.length<=1000000000):
 aA aq 150 #[aP g,Y Z n] w (NumOut g cD (r.number n).1 (r.number n).2 w):=by
 have T:=V (ab1 g r n w h hl);unfold dH.number;generalize r.take n=ZU at*;obtain⟨zs,r2⟩:=ZU;clear h;go_enter func150,ntmps150;go_wp2_with fail;refine T.I.mono ?_;rintro e w1 ⟨a,l,c,rfl,hr,uB,hf,fO,iq⟩;have HR:=V hr;have il:=V fO;have lp:=V iq;have ik:=hr.eC;have Pe:=V hr.bA;clear hr fO iq hf;go_wp2_with fail;go_loop [5,12] (λs i=>∃j:Nat,j<=l/\i=Y Z j/\s=Y cD (dH.num (zs.take j))) (λ_ i=>l-(aX i).toNat)
 case atStart=>exact⟨0,cK _,rfl,rfl⟩
 case round=>
  obtain⟨j,hj,rfl,rfl⟩:=hrel;by_cases aT:j<l
  .obtain⟨p0,o0,rfl,e0⟩:=HR.I.cells U;have f3:=e0 j aT;have gS:j<zs.length:=by rw[Pe.I];exact aT
   have hx:=ab3 (HR.I.wf (zs.getD j 0) Q3m);have HS:=V (show dH.num (zs.take (j+1))=dH.sh (dH.num (zs.take j)) (zs.getD j 0) by rw[sV gS,dH.Uq];simp[dV,cR gS]);have hu:=dH.aiE (zs.take j);clear e0 gS;generalize zs.getD j 0=x at*;generalize dH.num (zs.take j)=s at*;obtain⟨x1,x2⟩:=hx;obtain⟨u1,u2⟩:=hu;have w1:cD.wrap x=x:=Q36;go_wp2;go_round
   case rel=>exact⟨j+1,U,Q2T,by rw[HS.I];rfl⟩
   case measure=>exact Q5q
  .obtain rfl:j=l:=U;have HZ:=V (show zs.take j=zs by rw[<-Pe.I];exact List.take_length);rw[HZ.I];go_wp2;go_ret;exact⟨rfl,il.I,lp.I⟩
namespace dH
def u8 (r:dH):Int×dH:=(cM (r.number 1).1,(r.number 1).2)
def u16 (r:dH):Int×dH:=(cM (r.number 2).1,(r.number 2).2)
def u32 (r:dH):Int×dH:=(IntKind.u32.wrap (r.number 4).1,(r.number 4).2)
def u64 (r:dH):Int×dH:=r.number 8
end dH
theorem Ih (g:Nat) (r:dH) (w:H) (h:iE g r w) (hl:r.b.length<=1000000000):
 aA aq 86 #[aP g] w (NumOut g Z r.u8.1 r.u8.2 w):=by
 have N:=V (Pd g r 1 w h hl);unfold dH.u8;generalize r.number 1=ZU at*;obtain⟨z,r2⟩:=ZU;clear h;go_enter func86,ntmps86;go_wp2_with fail;refine N.I.mono ?_;rintro e w1 ⟨rfl,h1,h2⟩;have H1:=V h1;have H2:=V h2;clear h1 h2;go_wp2_with fail;go_ret;exact⟨rfl,H1.I,H2.I⟩
theorem Ut (g:Nat) (r:dH) (w:H) (h:iE g r w) (hl:r.b.length<=1000000000):
 aA aq 119 #[aP g] w (NumOut g Z r.u16.1 r.u16.2 w):=by
 have N:=V (Pd g r 2 w h hl);unfold dH.u16;generalize r.number 2=ZU at*;obtain⟨z,r2⟩:=ZU;clear h;go_enter func119,ntmps119;go_wp2_with fail;refine N.I.mono ?_;rintro e w1 ⟨rfl,h1,h2⟩;have H1:=V h1;have H2:=V h2;clear h1 h2;go_wp2_with fail;go_ret;exact⟨rfl,H1.I,H2.I⟩
theorem Pf (g:Nat) (r:dH) (w:H) (h:iE g r w) (hl:r.b.length<=1000000000):
 aA aq 85 #[aP g] w (NumOut g .u32 r.u32.1 r.u32.2 w):=by
 have N:=V (Pd g r 4 w h hl);unfold dH.u32;generalize r.number 4=ZU at*;obtain⟨z,r2⟩:=ZU;clear h;go_enter func85,ntmps85;go_wp2_with fail;refine N.I.mono ?_;rintro e w1 ⟨rfl,h1,h2⟩;have H1:=V h1;have H2:=V h2;clear h1 h2;go_wp2_with fail;go_ret;exact⟨rfl,H1.I,H2.I⟩
theorem aiF (g:Nat) (r:dH) (w:H) (h:iE g r w) (hl:r.b.length<=1000000000):
 aA aq 84 #[aP g] w (NumOut g cD r.u64.1 r.u64.2 w):=by
 have N:=V (Pd g r 8 w h hl);unfold dH.u64;generalize r.number 8=ZU at*;obtain⟨z,r2⟩:=ZU;clear h;go_enter func84,ntmps84;go_wp2_with fail;refine N.I.mono ?_;rintro e w1 ⟨rfl,h1,h2⟩;have H1:=V h1;have H2:=V h2;clear h1 h2;go_wp2_with fail;go_ret;exact⟨rfl,H1.I,H2.I⟩
theorem KI (g:Nat) (r:dH) (n:Int) (w:H) (h:iE g r w) (hl:r.b.length<=1000000000):
 aA aq 83 #[aP g,Y Z n] w (Ig g (r.take n) w):=by
 have N:=V (ab1 g r n w h hl);clear h;go_enter func83,ntmps83;go_wp2_with fail;refine N.I.mono ?_;rintro e w1 ⟨a,l,c,rfl,h1⟩;have H1:=V h1;clear h1;go_wp2_with fail;go_ret;exact⟨a,l,c,rfl,H1.I⟩
theorem KJ (g:Nat) (r:dH) (w:H) (h:iE g r w):
 aA aq 88 #[aP g] w λe w'=>e=bG (Y Z r.fin)/\w=w':=by
 obtain⟨a,l,c,hb,hr,_⟩:=h;have c0:=bh hb 0 (v:=O a l c) rfl;have c1:=bh hb 1 (v:=Y Z r.e) rfl;have ik:=hr.eC;obtain⟨ZX,hF⟩:=J r.fin;rw[hF];unfold dH.fin at hF;rw[hr.bA]at hF;have HF:=V hF;clear hF hr hb;by_cases h:r.e=0
 .have e1:(r.e==0)=true:=by simpa using h
  by_cases h2:0<l
  .obtain rfl:5=ZX:=by rw[<-HF.I,aR ⟨h,h2⟩]
   exact Q2G
  .obtain rfl:r.e=ZX:=by rw[<-HF.I,aI (λc=>h2 c.2)]
   exact Q2G
 .have e1:(r.e==0)=ae:=by simpa using h
  obtain rfl:r.e=ZX:=by rw[<-HF.I,aI (λc=>h c.1)]
  exact Q2G
theorem kv.row {B:Nat} (h:kv B p vd xs w) (hx:∀x∈xs,0<=x/\x<=255) (hl:xs.length<=100000000):∃a c,vd=O a xs.length c/\ai .u8 w a xs.length xs:=
 ai.nJ h.2.1 (λz hz=>O9 (hx z hz).1 (hx z hz).2) U
theorem Pg (B p:Nat) (vd:aj) (xs:ah) (w:H) (h:kv B p vd xs w) (hx:∀x∈xs,0<=x/\x<=255) (hl:xs.length<=100000000):
 aA aq 66 #[aP p] w (ab0 .u8 xs.length xs w):=by
 obtain⟨a,c,rfl,hr⟩:=h.row hx hl;have c0:=bh h.1 0 (v:=O a xs.length c) rfl;have CL:=V ((Fd a xs.length c xs w hr U).mono λ_ _ g=>g.new hr.wf U);obtain⟨n,hn⟩:=J xs.length;rw[hn]at CL c0⊢;clear h hr hn hx hl;go_enter func66,ntmps66;go_wp2_with fail;refine CL.I.mono ?_;rintro e w1 ⟨va,vc,rfl,hr⟩;have HR:=V hr;clear hr c0;go_wp2_with fail;go_ret;exact⟨va,vc,rfl,HR.I⟩
theorem Uu (B p:Nat) (vd:aj) (xs ys:ah) (b o l c:Nat) (w:H) (h:kv B p vd xs w) (hy:ai .u8 w (A ⟨b,o,G⟩) l ys) (h0:0<l) (h1:l<=1000000) (hl:xs.length<=100000000):
 aA aq 59 #[aP p,O (A ⟨b,o,G⟩) l c] w (Ft B p vd (xs++ys) w):=by
 have c0:=bh h.1 0 (v:=vd) rfl;have HW:=V h;have HY:=V hy;have HL:=V hy.bA;have hB:=h.2.2.2;obtain⟨i0,hi,cF,cG,cB⟩:=fB KH;clear h hy;go_enter func59,ntmps59;go_wp2_with (at_builtin;refine ko _ rfl _ _ 42 rfl B 5 i0 (Y .u8 0) 1 1 underlying42 hi cF cG cB rfl eM _ _ _ rfl HW.I.2.1 ⟨b,o,G⟩ l c (ys.map (Y .u8)) rfl (by rw[ib,HL.I];omega) HY.I.news (Hb .u8 ys) Q2V U hB h0 ?_)
 intro g1 fh w7 cC bM cN ei fC;have dR:=gI bM HW.I.1 (λe=>by have:=(HW.I.2.1.lt p e).1;have:=HW.I.2.2.1;omega);have c1:=bh dR 0 (v:=vd) rfl;have z1:=cE dR 0;have HF:=V (Wr.aaX HW.I (by rw[dG,HL.I]) (eG _ _) cC bM (cN.imp id λe=>U));clear cC bM cN ei fC dR c0;go_wp2_with fail;exact bodyPost_end (v:=aL #[]) (by simp[aW,results59]) rfl ⟨rfl,_,HF.I⟩
end
namespace dH
theorem abg {a c:Int} (h0:0<=a) (h1:a<72057594037927936) (h2:0<=c) (h3:c<=255):sh a c=a*256+c:=by
 obtain⟨m,rfl⟩:=Int.eq_ofNat_of_zero_le h0;obtain⟨n,rfl⟩:=Int.eq_ofNat_of_zero_le h2;unfold sh bits;have e1:cD.wrap ((m:Int)*256)=((m*256:Nat):Int):=Q36;rw[e1];show cD.wrap (((BitVec.ofInt 64 ((m*256:Nat):Int))|||(BitVec.ofInt 64 ((n:Nat):Int))).toNat:Int)=_
 rw[BitVec.ofInt_natCast,BitVec.ofInt_natCast,BitVec.toNat_or,BitVec.toNat_ofNat,BitVec.toNat_ofNat,Nat.mod_eq_of_lt U,Nat.mod_eq_of_lt U];have h:=Nat.two_pow_add_eq_or_of_lt (i:=8) (b:=n) U m;rw[show m*256=2 ^ 8*m by omega,<-h,pT];omega
theorem abh (n:Int) (k:Nat) (h0:0<=n) (h1:n<18446744073709551616) (hk:n<256 ^ k):∀j:Nat,j<=k->num ((ZY.put n k).take j)=n/256 ^ (k-j)
 |0,_=>by
  simp only[List.take_zero,Nat.sub_zero];rw[Int.ediv_eq_zero_of_lt h0 hk];rfl
 |j+1,hj=>by
  obtain⟨d,hd⟩:∃d:Nat,k=d+1+j:=⟨k-1-j,U⟩;rw[ZY.aaW n k j U,Uq,abh n k h0 h1 hk j U,show k-1-j=d by omega,show k-(j+1)=d by omega,show k-j=d+1 by omega,Int.pow_succ,<-Int.ediv_ediv_of_nonneg (Int.le_of_lt (Int.pow_pos U))];have uC:0<=n/256 ^ d:=Int.ediv_nonneg h0 (Int.le_of_lt (Int.pow_pos U));have iQ:n/256 ^ d<=n:=Int.ediv_le_self _ h0;rw[abg U U U U];omega
theorem UC (n:Int) (k:Nat) (h0:0<=n) (h1:n<18446744073709551616) (hk:n<256 ^ k):num (ZY.put n k)=n:=by
 have h:=abh n k h0 h1 hk k (bu _);rw[oQ (by rw[ZY.fI];omega),Nat.sub_self]at h;simpa using h
theorem Ld (xs rest:ah) (n:Int) (h:n=(xs.length:Int)) (h0:0<n):(⟨xs++rest,0⟩:dH).take n=(xs,⟨rest,0⟩):=by
 subst h;rw[Up rfl h0 (by show _<=((xs++rest).length:Int);rw[dG];omega)];simp
theorem Pm (n:Int) (k:Nat) (rest:ah) (hk:0<k):(⟨ZY.put n k++rest,0⟩:dH).number (k:Int)=(num (ZY.put n k),⟨rest,0⟩):=by
 unfold number;rw[Ld (ZY.put n k) rest k (by rw[ZY.fI]) U]
theorem aiX (n:Int):num (ZY.put n 1)=n%256:=by
 show sh 0 (n/256 ^ 0%256)=_
 rw[abg U U U U];simp
theorem Io (n:Int) (rest:ah):(⟨ZY.put n 1++rest,0⟩:dH).u8=(n%256,⟨rest,0⟩):=by
 unfold u8;rw[show((1:Int))=((1:Nat):Int)from rfl,Pm n 1 rest U,aiX];exact Prod.ext (show cM (n%256)=n%256 from iZ _ ⟨U,U⟩) rfl
theorem UD (n:Int) (rest:ah) (h0:0<=n) (h1:n<=65535):(⟨ZY.put n 2++rest,0⟩:dH).u16=(n,⟨rest,0⟩):=by
 unfold u16;rw[show((2:Int))=((2:Nat):Int)from rfl,Pm n 2 rest U,UC n 2 h0 U U];exact Prod.ext (show cM n=n from iZ _ ⟨U,U⟩) rfl
theorem abj (n:Int) (rest:ah) (h0:0<=n) (h1:n<=4294967295):(⟨ZY.put n 4++rest,0⟩:dH).u32=(n,⟨rest,0⟩):=by
 unfold u32;rw[show((4:Int))=((4:Nat):Int)from rfl,Pm n 4 rest U,UC n 4 h0 U U];refine Prod.ext ?_ rfl;show IntKind.u32.wrap n=n
 simp[IntKind.wrap,nG,nD];omega
theorem aiY (n:Int) (rest:ah) (h0:0<=n) (h1:n<=18446744073709551615):(⟨ZY.put n 8++rest,0⟩:dH).u64=(n,⟨rest,0⟩):=by
 unfold u64;rw[show((8:Int))=((8:Nat):Int)from rfl,Pm n 8 rest U,UC n 8 h0 U U]
end dH
namespace Sq
variable {P:Program} {ops:Array Oper} {Q:Exit->Act->H->Prop} {S:H->Prop}
theorem begins {id:Nat} {l:List Oper} (h:wpList P l.toArray Q l a w):(Code.region id l.toArray ae).wp P Q a w:=wp_region_lit h
theorem head {o:Oper} (hy:YieldsIf P ops S o v a) (hS:S w) (h:wpList P ops Q rest (a.put o.dst v) w):wpList P ops Q (o::rest) a w:=by
 unfold wpList;rcases hy with⟨hw,hv⟩|⟨hw,rfl⟩
 .simp only[hw,if_true,Oper.wp,hv w hS,Oper.upon];exact .inl h
 .simp only[hw,Bool.false_eq_true,if_false];exact h
end Sq
namespace Lt
variable {P:Program} {ops:Array Oper} {Q:Exit->Act->H->Prop} {md:Region.Mode}
abbrev JL (b3 b5 b6 b8 b9 eO eK ep:Bool):Array Bool:=#[true,true,true,b3,true,b5,b6,true,b8,b9,eO,eK,ep]
def Nu (md:Region.Mode) (ops:Array Oper) (b3 b5 b6 b8 b9 eO eK ep:Bool):Bool:=
 (Region.ready md ops (JL b3 b5 b6 b8 b9 eO eK ep)).all (λi=>(i==3&& !b3)||(i==5&& !b5)||(i==6&&b3&&b5&& !b6)||(i==8&& !b8)||(i==9&&b8&& !b9)||(i==10&&b6&&b9&& !eO)||(i==11&& !eK)||(i==12&&b3&&b5&&b6&&b8&&b9&&eO&&eK&& !ep))&&
  (!(Region.ready md ops (JL b3 b5 b6 b8 b9 eO eK ep)).isEmpty||(b3&&b5&&b6&&b8&&b9&&eO&&eK&&ep))
theorem apm (hc:∀b3 b5 b6 b8 b9 eO eK ep,Nu md ops b3 b5 b6 b8 b9 eO eK ep=true)
 (h3:∀b5 b6 b8 b9 eO eK ep a w,ZV ae b5 b6 b8 b9 eO eK ep a w->wpOp P ops Q 3 (ZV true b5 b6 b8 b9 eO eK ep) a w)
 (h5:∀b3 b6 b8 b9 eO eK ep a w,ZV b3 ae b6 b8 b9 eO eK ep a w->wpOp P ops Q 5 (ZV b3 true b6 b8 b9 eO eK ep) a w)
 (h6:∀b8 b9 eO eK ep a w,ZV true true ae b8 b9 eO eK ep a w->wpOp P ops Q 6 (ZV true true true b8 b9 eO eK ep) a w)
 (h8:∀b3 b5 b6 b9 eO eK ep a w,ZV b3 b5 b6 ae b9 eO eK ep a w->wpOp P ops Q 8 (ZV b3 b5 b6 true b9 eO eK ep) a w)
 (h9:∀b3 b5 b6 eO eK ep a w,ZV b3 b5 b6 true ae eO eK ep a w->wpOp P ops Q 9 (ZV b3 b5 b6 true true eO eK ep) a w)
 (h10:∀b3 b5 b8 eK ep a w,ZV b3 b5 true b8 true ae eK ep a w->wpOp P ops Q 10 (ZV b3 b5 true b8 true true eK ep) a w)
 (h11:∀b3 b5 b6 b8 b9 eO ep a w,ZV b3 b5 b6 b8 b9 eO ae ep a w->wpOp P ops Q 11 (ZV b3 b5 b6 b8 b9 eO true ep) a w)
 (h12:∀a w,ZV true true true true true true true ae a w->wpOp P ops Q 12 (ZV true true true true true true true true) a w)
 (he:∀a w,ZV true true true true true true true true a w->Q .normal a w):
 ∀(n:Nat) (b3 b5 b6 b8 b9 eO eK ep:Bool) (a:Act) (w:H),n=(!b3).toNat+(!b5).toNat+(!b6).toNat+(!b8).toNat+(!b9).toNat+(!eO).toNat+(!eK).toNat+(!ep).toNat->ZV b3 b5 b6 b8 b9 eO eK ep a w->
  ij P md ops Q (λ_=>True) (λ_=>ae) n (JL b3 b5 b6 b8 b9 eO eK ep) a w:=by
 have hz:∀b3 b5 b6 b8 b9 eO eK ep:Bool,Region.ready md ops (JL b3 b5 b6 b8 b9 eO eK ep)=[]->∀a w,ZV b3 b5 b6 b8 b9 eO eK ep a w->Q .normal a w:=λb3 b5 b6 b8 b9 eO eK ep h a w hj=>by
  have:=hc b3 b5 b6 b8 b9 eO eK ep;unfold Nu at this;rw[h]at this;simp at this;obtain⟨⟨⟨⟨⟨⟨⟨rfl,rfl⟩,rfl⟩,rfl⟩,rfl⟩,rfl⟩,rfl⟩,rfl⟩:=this;exact he a w hj
 intro n;induction n with
 |zero=>
  intro b3 b5 b6 b8 b9 eO eK ep a w hn hj;have hr:Region.ready md ops (JL b3 b5 b6 b8 b9 eO eK ep)=[]:=by
   rw[List.eq_nil_iff_forall_not_mem];intro i hi;have:=hc b3 b5 b6 b8 b9 eO eK ep;unfold Nu at this;rw[fS,List.all_eq_true]at this;have:=this.1 i hi
   cases b3<;>cases b5<;>cases b6<;>cases b8<;>cases b9<;>cases eO<;>cases eK<;>cases ep<;>simp at hn this
  exact⟨hr,hz _ _ _ _ _ _ _ _ hr a w hj⟩
 |succ n ih=>
  intro b3 b5 b6 b8 b9 eO eK ep a w hn hj;refine⟨λh=>hz _ _ _ _ _ _ _ _ h a w hj,λi hi=> ?_⟩;have:=hc b3 b5 b6 b8 b9 eO eK ep;unfold Nu at this;rw[fS,List.all_eq_true]at this;have:=this.1 i hi;simp only[Bool.or_eq_true,fS,beq_iff_eq,Bool.not_eq_true']at this;rcases this with((((((⟨rfl,rfl⟩|⟨rfl,rfl⟩)|⟨⟨⟨rfl,rfl⟩,rfl⟩,rfl⟩)|⟨rfl,rfl⟩)|⟨⟨rfl,rfl⟩,rfl⟩)|⟨⟨⟨rfl,rfl⟩,rfl⟩,rfl⟩)|⟨rfl,rfl⟩)|⟨⟨⟨⟨⟨⟨⟨⟨rfl,rfl⟩,rfl⟩,rfl⟩,rfl⟩,rfl⟩,rfl⟩,rfl⟩,rfl⟩
  .exact wpOp_mono (λa' w' h=>⟨λ_=>trivial,ih _ _ _ _ _ _ _ _ a' w' Q3i h⟩) (h3 _ _ _ _ _ _ _ a w hj)
  .exact wpOp_mono (λa' w' h=>⟨λ_=>trivial,ih _ _ _ _ _ _ _ _ a' w' Q3i h⟩) (h5 _ _ _ _ _ _ _ a w hj)
  .exact wpOp_mono (λa' w' h=>⟨λ_=>trivial,ih _ _ _ _ _ _ _ _ a' w' Q3i h⟩) (h6 _ _ _ _ _ a w hj)
  .exact wpOp_mono (λa' w' h=>⟨λ_=>trivial,ih _ _ _ _ _ _ _ _ a' w' Q3i h⟩) (h8 _ _ _ _ _ _ _ a w hj)
  .exact wpOp_mono (λa' w' h=>⟨λ_=>trivial,ih _ _ _ _ _ _ _ _ a' w' Q3i h⟩) (h9 _ _ _ _ _ _ a w hj)
  .exact wpOp_mono (λa' w' h=>⟨λ_=>trivial,ih _ _ _ _ _ _ _ _ a' w' Q3i h⟩) (h10 _ _ _ _ _ a w hj)
  .exact wpOp_mono (λa' w' h=>⟨λ_=>trivial,ih _ _ _ _ _ _ _ _ a' w' Q3i h⟩) (h11 _ _ _ _ _ _ _ a w hj)
  .exact wpOp_mono (λa' w' h=>⟨λ_=>trivial,ih _ _ _ _ _ _ _ _ a' w' Q3i h⟩) (h12 a w hj)
def fr (a0:Act) (v55 v57 v58 v60 v61 v62 v14:aj):Act:=((((((a0.put (A 55) v55).put (A 57) v57).put (A 58) v58).put (A 60) v60).put (A 61) v61).put (A 62) v62).put (A 14) v14
theorem apn (a0:Act) (Z5:Bool->Bool->Bool->Bool->Bool->Bool->Bool->Bool->aj->aj->aj->aj->aj->aj->aj->H->Prop) (hc:∀b3 b5 b6 b8 b9 eO eK ep,Nu md ops b3 b5 b6 b8 b9 eO eK ep=true)
 (h3:∀b5 b6 b8 b9 eO eK ep v55 v57 v58 v60 v61 v62 v14 w,Z5 ae b5 b6 b8 b9 eO eK ep v55 v57 v58 v60 v61 v62 v14 w->wpOp P ops Q 3 (λa' w'=>∃u55 u57 u58 u60 u61 u62 u14,a'=fr a0 u55 u57 u58 u60 u61 u62 u14/\Z5 true b5 b6 b8 b9 eO eK ep u55 u57 u58 u60 u61 u62 u14 w') (fr a0 v55 v57 v58 v60 v61 v62 v14) w)
 (h5:∀b3 b6 b8 b9 eO eK ep v55 v57 v58 v60 v61 v62 v14 w,Z5 b3 ae b6 b8 b9 eO eK ep v55 v57 v58 v60 v61 v62 v14 w->wpOp P ops Q 5 (λa' w'=>∃u55 u57 u58 u60 u61 u62 u14,a'=fr a0 u55 u57 u58 u60 u61 u62 u14/\Z5 b3 true b6 b8 b9 eO eK ep u55 u57 u58 u60 u61 u62 u14 w') (fr a0 v55 v57 v58 v60 v61 v62 v14) w)
 (h6:∀b8 b9 eO eK ep v55 v57 v58 v60 v61 v62 v14 w,Z5 true true ae b8 b9 eO eK ep v55 v57 v58 v60 v61 v62 v14 w->wpOp P ops Q 6 (λa' w'=>∃u55 u57 u58 u60 u61 u62 u14,a'=fr a0 u55 u57 u58 u60 u61 u62 u14/\Z5 true true true b8 b9 eO eK ep u55 u57 u58 u60 u61 u62 u14 w') (fr a0 v55 v57 v58 v60 v61 v62 v14) w)
 (h8:∀b3 b5 b6 b9 eO eK ep v55 v57 v58 v60 v61 v62 v14 w,Z5 b3 b5 b6 ae b9 eO eK ep v55 v57 v58 v60 v61 v62 v14 w->wpOp P ops Q 8 (λa' w'=>∃u55 u57 u58 u60 u61 u62 u14,a'=fr a0 u55 u57 u58 u60 u61 u62 u14/\Z5 b3 b5 b6 true b9 eO eK ep u55 u57 u58 u60 u61 u62 u14 w') (fr a0 v55 v57 v58 v60 v61 v62 v14) w)
 (h9:∀b3 b5 b6 eO eK ep v55 v57 v58 v60 v61 v62 v14 w,Z5 b3 b5 b6 true ae eO eK ep v55 v57 v58 v60 v61 v62 v14 w->wpOp P ops Q 9 (λa' w'=>∃u55 u57 u58 u60 u61 u62 u14,a'=fr a0 u55 u57 u58 u60 u61 u62 u14/\Z5 b3 b5 b6 true true eO eK ep u55 u57 u58 u60 u61 u62 u14 w') (fr a0 v55 v57 v58 v60 v61 v62 v14) w)
 (h10:∀b3 b5 b8 eK ep v55 v57 v58 v60 v61 v62 v14 w,Z5 b3 b5 true b8 true ae eK ep v55 v57 v58 v60 v61 v62 v14 w->wpOp P ops Q 10 (λa' w'=>∃u55 u57 u58 u60 u61 u62 u14,a'=fr a0 u55 u57 u58 u60 u61 u62 u14/\Z5 b3 b5 true b8 true true eK ep u55 u57 u58 u60 u61 u62 u14 w') (fr a0 v55 v57 v58 v60 v61 v62 v14) w)
 (h11:∀b3 b5 b6 b8 b9 eO ep v55 v57 v58 v60 v61 v62 v14 w,Z5 b3 b5 b6 b8 b9 eO ae ep v55 v57 v58 v60 v61 v62 v14 w->wpOp P ops Q 11 (λa' w'=>∃u55 u57 u58 u60 u61 u62 u14,a'=fr a0 u55 u57 u58 u60 u61 u62 u14/\Z5 b3 b5 b6 b8 b9 eO true ep u55 u57 u58 u60 u61 u62 u14 w') (fr a0 v55 v57 v58 v60 v61 v62 v14) w)
 (h12:∀v55 v57 v58 v60 v61 v62 v14 w,Z5 true true true true true true true ae v55 v57 v58 v60 v61 v62 v14 w->wpOp P ops Q 12 (λa' w'=>∃u55 u57 u58 u60 u61 u62 u14,a'=fr a0 u55 u57 u58 u60 u61 u62 u14/\Z5 true true true true true true true true u55 u57 u58 u60 u61 u62 u14 w') (fr a0 v55 v57 v58 v60 v61 v62 v14) w)
 (he:∀v55 v57 v58 v60 v61 v62 v14 w,Z5 true true true true true true true true v55 v57 v58 v60 v61 v62 v14 w->Q .normal (fr a0 v55 v57 v58 v60 v61 v62 v14) w)
 (v55 v57 v58 v60 v61 v62 v14:aj) (w:H) (hf:fr a0 v55 v57 v58 v60 v61 v62 v14=a0) (hg:Z5 ae ae ae ae ae ae ae ae v55 v57 v58 v60 v61 v62 v14 w):ij P md ops Q (λ_=>True) (λ_=>ae) 8 (JL ae ae ae ae ae ae ae ae) a0 w:=
 apm (ZV:=λb3 b5 b6 b8 b9 eO eK ep a w=>∃v55 v57 v58 v60 v61 v62 v14,a=fr a0 v55 v57 v58 v60 v61 v62 v14/\Z5 b3 b5 b6 b8 b9 eO eK ep v55 v57 v58 v60 v61 v62 v14 w) hc
  (λ_ _ _ _ _ _ _ a w=>by rintro⟨_,_,_,_,_,_,_,rfl,h⟩;exact h3 _ _ _ _ _ _ _ _ _ _ _ _ _ _ w h)
  (λ_ _ _ _ _ _ _ a w=>by rintro⟨_,_,_,_,_,_,_,rfl,h⟩;exact h5 _ _ _ _ _ _ _ _ _ _ _ _ _ _ w h)
  (λ_ _ _ _ _ a w=>by rintro⟨_,_,_,_,_,_,_,rfl,h⟩;exact h6 _ _ _ _ _ _ _ _ _ _ _ _ w h)
  (λ_ _ _ _ _ _ _ a w=>by rintro⟨_,_,_,_,_,_,_,rfl,h⟩;exact h8 _ _ _ _ _ _ _ _ _ _ _ _ _ _ w h)
  (λ_ _ _ _ _ _ a w=>by rintro⟨_,_,_,_,_,_,_,rfl,h⟩;exact h9 _ _ _ _ _ _ _ _ _ _ _ _ _ w h)
  (λ_ _ _ _ _ a w=>by rintro⟨_,_,_,_,_,_,_,rfl,h⟩;exact h10 _ _ _ _ _ _ _ _ _ _ _ _ w h)
  (λ_ _ _ _ _ _ _ a w=>by rintro⟨_,_,_,_,_,_,_,rfl,h⟩;exact h11 _ _ _ _ _ _ _ _ _ _ _ _ _ _ w h)
  (λa w=>by rintro⟨_,_,_,_,_,_,_,rfl,h⟩;exact h12 _ _ _ _ _ _ _ w h)
  (λa w=>by rintro⟨_,_,_,_,_,_,_,rfl,h⟩;exact he _ _ _ _ _ _ _ w h) 8 ae ae ae ae ae ae ae ae a0 w rfl ⟨v55,v57,v58,v60,v61,v62,v14,hf.symm,hg⟩
end Lt
section
open Go.ChangeMaps (setBlock)
open Go.Maps (Keyed)
namespace Ct
def Qa (xs:ah):aj:=aF (xs.map (Y Z)).toArray
def Gl (xs:ah):Lit:= .string (keyBytes (xs.map (cX Z)))
def Ja (n:Nat) (xs:ah):Prop:=xs.length=n/\∀x∈xs,(cX Z x).wf=true
theorem alN (h:Qa xs=Qa ys):xs=ys:=by
 unfold Qa at h;injection h with h;have h2:xs.map (Y Z)=ys.map (Y Z):=Q32;have inj:∀a b:Int,Y Z a=Y Z b->a=b:=λa b e=>by injection e
 exact(List.map_inj_right inj).1 h2
structure Kind (P:Program) (t k e:dy) (n:Nat):Prop where
 ht:P.underlying t=A (.map k e)
 he:P.underlying e=A (.int Z)
 law:WideMaps.KeyLaw P k
 key:∀xs:List Int,Ja n xs->keyOf P k (Qa xs)=A (Gl xs)
 zero:∀w,(zeroValue e).run P w= .ok (Y Z 0) w
theorem Kind.inj {P:Program} {t k e:dy} {n:Nat} (K:Kind P t k e n) (hx:Ja n xs) (hy:Ja n ys) (h:Gl xs=Gl ys):xs=ys:=
 alN (K.law.inj (K.key xs hx) (h▸K.key ys hy))
def At (P:Program) (k e:dy) (n:Nat) (w:H) (b:Nat) (L:List (List Int)):Prop:=
 ∃D:DataW Unit,w.ownsMap P k (plainElem P e) b L.length D/\(∀xs,Ja n xs->D.atKey (Gl xs) (.lit (.int Z 0))= .lit (.int Z (L.count xs:Nat)))/\
  (∀xs,Ja n xs->Maps.has D (Gl xs)=L.contains xs)/\(L.Nodup->Maps.size D=L.length)
variable {P:Program} {t k e:dy} {n:Nat}
theorem made (w:H):At P k e n (li w (.map #[] 0)) w.heap.size []:=
 ⟨_,World.ownsMap_made w P k _,λ_ _=>rfl,λ_ _=>rfl,λ_=>rfl⟩
theorem At.lt {L:List (List Int)} (h:At P k e n w b L):b<w:=by
 obtain⟨D,h1,_⟩:=h;exact h1.lt
theorem At.kept {row:Option Nat} {L:List (List Int)} (h:At P k e n w b L) (hg:w.grownBy w' row) (cI:A b≠row):At P k e n w' b L:=by
 obtain⟨D,h1,h2⟩:=h;exact⟨D,h1.kept hg cI,h2⟩
theorem At.alloc {L:List (List Int)} (h:At P k e n w b L) (o:Obj):At P k e n (li w o) b L:=by
 obtain⟨D,h1,h2⟩:=h;exact⟨D,h1.alloc o,h2⟩
theorem At.below {L:List (List Int)} (h:At P k e n w b L) (hb:ay w w w'):At P k e n w' b L:=by
 have hl:=h.lt;obtain⟨D,⟨es,clock,hh,h1⟩,h2⟩:=h;exact⟨D,⟨es,clock,(hb.block b hl).trans hh,h1⟩,h2⟩
theorem At.more (K:Kind P t k e n) {L:List (List Int)} (h:At P k e n w b L) (hL:L.length<eS) (hx:Ja n xs)
 (hw':∀D:DataW Unit,w.ownsMap P k (plainElem P e) b L.length D->(cX Z ((L.count xs:Nat)+1)).wf=true->w'.ownsMap P k (plainElem P e) b (L.length+1) (D.put (Gl xs) (.lit (.int Z ((L.count xs:Nat)+1))))):At P k e n w' b (L++[xs]):=by
 obtain⟨D,h1,h2,h3,h4⟩:=h;have TS:L.count xs<=L.length:=List.count_le_length;have lQ:(cX Z ((L.count xs:Nat)+1)).wf=true:=WalkArith.wf_i64 (by unfold eS at hL;omega);have isK:WideAt.IsKeyLit (Gl xs):=(Keyed.of_law K.law).key (K.key xs hx);refine⟨_,by rw[dG];exact hw' D h1 lQ,λys hy=> ?_,λys hy=> ?_,λhn=> ?_⟩
 .by_cases e:ys=xs
  .subst e;rw[Maps.atKey_put_same h1.isMap isK];simp
  .rw[Maps.atKey_put_other (λh=>e (K.inj hy hx h)),h2 ys hy];rw[List.count_append,List.count_singleton,show(xs==ys)=ae by simpa using λh=>e h.symm];simp
 .by_cases e:ys=xs
  .subst e;rw[Maps.has_put_same h1.isMap isK];simp
  .rw[Maps.has_put_other (λh=>e (K.inj hy hx h)),h3 ys hy];simp[e]
 .obtain⟨n1,n2,n3⟩:=List.nodup_append.1 hn;rw[Maps.size_put (h1.tidy (Keyed.of_law K.law)),h3 xs hx,h4 n1];have:L.contains xs=ae:=by
   cases hc:L.contains xs
   .rfl
   .exact absurd rfl (n3 xs (by simpa using hc) xs bK)
  rw[this];simp
end Ct
end
namespace Wn
theorem Wq {rows y:Int} {k:Nat}:t∈win rows aU y x n k↔∃i j:Nat,i<n/\j<k/\(0<=y+i/\y+i<=rows-1)/\(0<=x+j/\x+j<=aU-1)/\t=((y+i)*aU+(x+j),(i:Int),(j:Int)):=by
 exact Q0K
end Wn
theorem acL (rows aU r c k s p:Int):(jc rows aU r c k s p).length<=25:=by
 exact Q0Z
namespace Lk
def one (n y x tgt:Int) (L:List (Int×Int×Int)):List (Int×Int×Int):=L.flatMap (λw=>if w.1 =tgt then[(y*n+x,w.2.1,w.2.2)]else[])
def row (f:Int->Int->List (Int×Int×Int)) (n tgt y:Int) (q:Nat):List (Int×Int×Int):=(iz q).flatMap (λ(x:Nat)=>one n y x tgt (f y x))
def all (f:Int->Int->List (Int×Int×Int)) (n tgt:Int) (p q:Nat):List (Int×Int×Int):=(iz p).flatMap (λ(y:Nat)=>row f n tgt y q)
theorem alP (n y x tgt:Int):one n y x tgt []=[]:=rfl
theorem alQ (f:Int->Int->List (Int×Int×Int)) (n tgt y:Int):row f n tgt y 0=[]:=rfl
theorem alR (n y x tgt:Int) (L:List (Int×Int×Int)) (w:Int×Int×Int):one n y x tgt (L++[w])=one n y x tgt L++if w.1 =tgt then[(y*n+x,w.2.1,w.2.2)]else[]:=by
 simp[one]
theorem JX (f:Int->Int->List (Int×Int×Int)) (n tgt y:Int) (q:Nat):row f n tgt y (q+1)=row f n tgt y q++one n y q tgt (f y q):=by
 simp[row,List.range_succ]
theorem all_succ (f:Int->Int->List (Int×Int×Int)) (n tgt:Int) (p q:Nat):all f n tgt (p+1) q=all f n tgt p q++row f n tgt p q:=by
 simp[all,List.range_succ]
theorem Ws (n y x tgt:Int):∀L:List (Int×Int×Int),(one n y x tgt L).length<=L.length
 | []=>by simp[one]
 |w::L=>by
  have:=Ws n y x tgt L;have e:one n y x tgt (w::L)=(if w.1 =tgt then[(y*n+x,w.2.1,w.2.2)]else[])++one n y x tgt L:=rfl;rw[e,dG,List.length_cons];split<;>simp<;>omega
theorem EK (f:Int->Int->List (Int×Int×Int)) (n tgt y:Int) (h:∀a b,(f a b).length<=25):∀q,(row f n tgt y q).length<=q*25
 |0=>by simp[row]
 |q+1=>by
  have:=EK f n tgt y h q;have:=Ws n y q tgt (f y q);have:=h y q;rw[JX,dG];omega
theorem Wt (f:Int->Int->List (Int×Int×Int)) (n tgt:Int) (h:∀a b,(f a b).length<=25) (q:Nat) (hq:q<=20):∀p,(all f n tgt p q).length<=p*500
 |0=>by simp[all]
 |p+1=>by
  have:=Wt f n tgt h q hq p;have:=EK f n tgt p h q;rw[all_succ,dG];omega
theorem alS {n y:Int} {L:List (Int×Int×Int)}:t∈one n y x tgt L↔∃w∈L,w.1 =tgt/\t=(y*n+x,w.2.1,w.2.2):=by
 unfold one;rw[List.mem_flatMap];constructor
 .rintro⟨w,hw,h⟩;split at h
  .exact⟨w,hw,‹_›,Q32⟩
  .simp at h
 .rintro⟨w,hw,h1,h2⟩;exact⟨w,hw,by rw[aR h1];simpa using h2⟩
theorem Wu {n:Int}:t∈all f n tgt p q↔∃y x:Nat,y<p/\x<q/\∃w∈f y x,w.1 =tgt/\t=((y:Int)*n+x,w.2.1,w.2.2):=by
 unfold all row;simp only[List.mem_flatMap,List.mem_range,alS];constructor
 .rintro⟨y,hy,x,hx,w,hw,h⟩;exact⟨y,x,hy,hx,w,hw,h⟩
 .rintro⟨y,x,hy,hx,w,hw,h⟩;exact⟨y,hy,x,hx,w,hw,h⟩
def Qb (u:Int) (w:Int×Int×Int):List Int:=[u,w.1,w.2.1,w.2.2]
def Qc (u:Int) (w:Int×Int×Int):List Int:=[w.1,u,w.2.1,w.2.2]
def Wv (f:Int->Int->List (Int×Int×Int)) (n:Int) (p q:Nat):List (List Int):=(iz p).flatMap (λ(y:Nat)=>(iz q).flatMap (λ(x:Nat)=>(f y x).map (Qb ((y:Int)*n+x))))
def looks (g:Int->Int->List (Int×Int×Int)) (n:Int) (p q:Nat):List (List Int):=(iz p).flatMap (λ(y:Nat)=>(iz q).flatMap (λ(x:Nat)=>(g y x).map (Qc ((y:Int)*n+x))))
theorem alT {n:Int} {k:ah}:k∈Wv f n p q↔∃y x:Nat,y<p/\x<q/\∃w∈f y x,k=Qb ((y:Int)*n+x) w:=by
 unfold Wv;exact Q14
theorem alU {n:Int} {k:ah}:k∈looks f n p q↔∃y x:Nat,y<p/\x<q/\∃w∈f y x,k=Qc ((y:Int)*n+x) w:=by
 unfold looks;exact Q14
theorem both {g:Int->Int->List (Int×Int×Int)} {n:Int} {R C:Nat} (hC:(C:Int)=aU) (hg:∀(r c:Nat),r<R->c<C->g r c=all f n ((r:Int)*aU+c) p q)
 (hf:∀(y x:Nat),y<p->x<q->∀w∈f y x,∃r c:Nat,r<R/\c<C/\w.1 =(r:Int)*aU+c) (k:ah):k∈looks g aU R C↔k∈Wv f n p q:=by
 rw[alU,alT];constructor
 .rintro⟨r,c,hr,hc,w,hw,rfl⟩;rw[hg r c hr hc]at hw;obtain⟨y,x,hy,hx,v,hv,e1,rfl⟩:=Wu.1 hw;exact⟨y,x,hy,hx,v,hv,by simp[Qc,Qb,e1]⟩
 .rintro⟨y,x,hy,hx,w,hw,rfl⟩;obtain⟨r,c,hr,hc,e⟩:=hf y x hy hx w hw;refine⟨r,c,hr,hc,((y:Int)*n+x,w.2.1,w.2.2),?_,by simp[Qc,Qb,e]⟩;rw[hg r c hr hc];exact Wu.2 ⟨y,x,hy,hx,w,hw,e,rfl⟩
end Lk
def Gm (rows aU r c k s p:Int):Prop:=1<=bO rows k s p/\1<=bO aU k s p/\0<=r/\r<=rows-1/\0<=c/\c<=aU-1
instance (rows aU r c k s p:Int):Decidable (Gm rows aU r c k s p):=by unfold Gm;infer_instance
def Am (rows aU k s p:Int) (y x:Int):List (Int×Int×Int):=Wn.win rows aU (y*s-p) (x*s-p) k.toNat k.toNat
def lookW (rows aU r c k s p:Int):List (Int×Int×Int):=
 if Gm rows aU r c k s p then Lk.all (Am rows aU k s p) (bO aU k s p) (r*aU+c) (bO rows k s p).toNat (bO aU k s p).toNat else[]
theorem acM {rows k p:Int} (hk:k<=5) (a b:Int):(Am rows aU k s p a b).length<=25:=by
 have:=Wn.JY rows aU (a*s-p) (b*s-p) k.toNat k.toNat;have:=mq (show k.toNat<=5 by omega) (show k.toNat<=5 by omega);unfold Am;omega
section
open Fl
theorem oq.Ww {a:aC} {L:List (Int×Int×Int)} (h:oq w a n L) (hb:ay w w w'):oq w' a n L:=by
 exact Q10
theorem oq.grown {row:Option Nat} {a:aC} {L:List (Int×Int×Int)} (h:oq w a n L) (hg:w.grownBy w' row) (cI:∀x,a=A x->row≠A x.block):oq w' a n L:=by
 obtain⟨h1,h2⟩:=h;refine⟨h1,h2.imp id ?_⟩;rintro⟨g,e,nk,hc⟩;have hr:=cI _ e;refine⟨g,e,iP nk hg.size,λj hj=> ?_⟩;obtain⟨f1,f2,f3⟩:=hc j hj;exact⟨AU hg f1 hr,AU hg f2 hr,AU hg f3 hr⟩
theorem Wn.alV (L:List (Int×Int×Int)) (j:Nat) (h:j<L.length):L.take (j+1)=L.take j++[L.getD j (0,0,0)]/\L.getD j (0,0,0)∈L:=by
 exact Q2e
theorem alW {rows k p y:Int} (hr:rows<=16) (hc:aU<=16) (kU:1<=aU) (h:t∈Am rows aU k s p y x):0<=t.1 /\t.1 <=300:=by
 obtain⟨i,j,_,_,h1,h2,rfl⟩:=Wn.Wq.1 h;have m1:=pA h1.2 hc U U;have m2:=qG h1.1 (show 0<=aU by omega);simp only[];omega
theorem alX (rows aU r c k s p:Int) (w:H) (h:Gm rows aU r c k s p):aA aq 322 #[Y Z rows,Y Z aU,Y Z r,Y Z c,Y Z k,Y Z s,Y Z p] w (AV (Lk.all (Am rows aU k s p) (bO aU k s p) (r*aU+c) (bO rows k s p).toNat (bO aU k s p).toNat) w):=by
 obtain⟨o1,o2,r1,r2,c1,c2⟩:=h;obtain⟨b1,b2,b3,b4,b5,b6,b7,b8,b9⟩:=oy o1;obtain⟨d1,d2,d3,d4,d5,d6,d7,d8,d9⟩:=oy o2;have PO:=V (NV rows aU k s p);have PW:=V (λy x (hy:0<=y) (JZ:y<=20) (hx:0<=x) (lD:x<=20) w=>Zf rows aU s p y x k.toNat w b1 b2 d1 d2 U U b5 b6 b7 U hy JZ hx lD);rw[show((k.toNat:Nat):Int)=k by omega]at PW;have HFF:=(λa b=>acM (rows:=rows) (aU:=aU) (s:=s) (p:=p) (show k<=5 by omega) a b);have HB:=V (λy x (t:Int×Int×Int) (h:t∈Am rows aU k s p y x)=>alW b2 d2 d1 h);have PW2:Hid (∀y x,0<=y->y<=20->0<=x->x<=20->∀w,aA aq 319 #[iI rows aU k s p,Y Z y,Y Z x] w (Zd (Am rows aU k s p y x) w)):=PW;clear PW;have HF:=V HFF;clear HFF;have m3:=qG r1 (show 0<=aU by omega);have m4:=pA (show r<=16 by omega) d2 U U;have t1:0<=r*aU+c:=U;have t2:r*aU+c<=300:=U;obtain⟨i0,hi,cF,cG,cB⟩:=fB Ze;generalize Am rows aU k s p=ZX at*;obtain⟨m,hm⟩:∃m:Nat,bO rows k s p=m:=⟨(bO rows k s p).toNat,U⟩;obtain⟨n,hn⟩:∃n:Nat,bO aU k s p=n:=⟨(bO aU k s p).toNat,U⟩;rw[hm]at o1 b9 PO⊢;rw[hn]at o2 d9 PO⊢;rw[jx,jx];have dm:decide ((m:Int)<1)=ae:=eP U;have dn:decide ((n:Int)<1)=ae:=eP U;clear hm hn;go_enter func322,ntmps322;go_wp2_with fail;refine bY (PO.I _) λw2 hb=> ?_;obtain⟨f0,f1,f2,f3,f4⟩:=NS rows aU k s p w;have g0:=hb.cell_of f0;have g1:=hb.cell_of f1;have g2:=hb.cell_of f2;have g3:=hb.cell_of f3;have g4:=hb.cell_of f4;have hB:=V ((aD w _).step hb);clear f0 f1 f2 PO;go_wp2_with fail;refine cq (AR r 0 (rows-1) _ r1 r2) ?_;go_wp2_with fail;refine cq (AR c 0 (aU-1) _ c1 c2) ?_;have G0:=V g0;have G1:=V g1;have G2:=V g2;have G3:=V g3;have G4:=V g4;go_wp2_with fail;go_loopw [18,55] (λl i wr=>∃Z6:Nat,Z6<=m/\i=Y Z Z6/\wr.ownsRow w2.heap.size 377 3 l (Lk.all ZX n (r*aU+c) Z6 n).length (Wn.flat (Lk.all ZX n (r*aU+c) Z6 n))/\ay w2 w2 wr) (λ_ i _=>m-(aX i).toNat)
 case atStart=>exact⟨0,cK _,rfl,gP _ _ _ _,eG _ _⟩
 case round=>
  obtain⟨Z6,hY,rfl,aV,j7⟩:=hrel;have GO:=V aV;have GN:=V j7;clear aV j7;obtain⟨wo,rfl⟩:∃wo:H,wo=wr:=⟨_,rfl⟩;by_cases aT:Z6<m
  .go_wp2_with fail;go_loopw [18,59] (λl i wr=>∃X:Nat,X<=n/\i=Y Z X/\wr.ownsRow w2.heap.size 377 3 l (Lk.all ZX n (r*aU+c) Z6 n++Lk.row ZX n (r*aU+c) Z6 X).length (Wn.flat (Lk.all ZX n (r*aU+c) Z6 n++Lk.row ZX n (r*aU+c) Z6 X))/\ay w2 w2 wr) (λ_ i _=>n-(aX i).toNat)
   case atStart=>exact⟨0,cK _,rfl,by rw[Lk.alQ,List.append_nil];exact GO.I,GN.I⟩
   case round=>
    obtain⟨X,hX,rfl,aV,j7⟩:=hrel;have GO:=V aV;have GN:=V j7;clear aV j7;obtain⟨CQ,rfl⟩:∃CQ:H,CQ=wr:=⟨_,rfl⟩;by_cases Ij:X<n
    .have e0:=GN.I.cell_of G0.I;have e1:=GN.I.cell_of G1.I;have e2:=GN.I.cell_of G2.I;have e3:=GN.I.cell_of G3.I;have e4:=GN.I.cell_of G4.I;go_wp2_with fail;refine(PW2.I Z6 X U U U U _).mono ?_;rintro e w3 ⟨a,l3,c3,rfl,fZ,eg,wZ⟩;have J3:l3<=25:=by rw[<-fZ.1];exact HF.I _ _
     have W3:=V fZ;have AX:=V (oh GO.I eg);have L9:=V (GN.I.step eg);have GF:=V (CD.fresh GO.I wZ);clear fZ wZ;go_wp2_with fail;go_loopw [18,67] (λl i wr=>∃ZV:Nat,ZV<=l3/\i=Y Z ZV/\wr.ownsRow w2.heap.size 377 3 l (Lk.all ZX n (r*aU+c) Z6 n++Lk.row ZX n (r*aU+c) Z6 X++Lk.one n Z6 X (r*aU+c) ((ZX Z6 X).take ZV)).length (Wn.flat (Lk.all ZX n (r*aU+c) Z6 n++Lk.row ZX n (r*aU+c) Z6 X++Lk.one n Z6 X (r*aU+c) ((ZX Z6 X).take ZV)))/\oq wr a l3 (ZX Z6 X)/\ay w2 w2 wr/\CD l a) (λ_ i _=>l3-(aX i).toNat)
     case atStart=>exact⟨0,cK _,rfl,by rw[List.take_zero,Lk.alP,List.append_nil];exact AX.I,W3.I,L9.I,GF.I⟩
     case round=>
      obtain⟨ZV,hJ,rfl,aV,mY,j7,lK⟩:=hrel;have GO:=V aV;have GW:=V mY;have GN:=V j7;have GF:=V lK;clear aV mY j7 lK;by_cases wY:ZV<l3
      .obtain⟨ga,rfl,J4,hc⟩:=GW.I.2.resolve_left U;obtain⟨f0,f1,f2⟩:=hc ZV wY;obtain⟨rA,sX⟩:=Wn.alV (ZX Z6 X) ZV (by rw[GW.I.1];exact wY);have iL:=HB.I _ _ _ sX;rw[Nat.mul_comm 3 ZV]at f0 f1 f2;have rB:=Lk.alR n Z6 X (r*aU+c) ((ZX Z6 X).take ZV) ((ZX Z6 X).getD ZV (0,0,0));rw[<-rA]at rB;clear rA sX hc;generalize(ZX Z6 X).getD ZV (0,0,0)=tt at*;obtain⟨tx,ty,tz⟩:=tt;obtain⟨SQ,SR⟩:=iL;simp only[]at SQ SR rB;have iB:(Lk.all ZX n (r*aU+c) Z6 n++Lk.row ZX n (r*aU+c) Z6 X++Lk.one n Z6 X (r*aU+c) ((ZX Z6 X).take ZV)).length<=20000:=by
        rw[dG,dG];have l1:=Lk.Wt ZX n (r*aU+c) HF.I n U Z6;have l2:=Lk.EK ZX n (r*aU+c) Z6 HF.I X;have l3:=Lk.Ws n Z6 X (r*aU+c) ((ZX Z6 X).take ZV);have l4:((ZX Z6 X).take ZV).length<=ZV:=List.length_take_le _ _;omega
       have z0:(0:Int)<=(Z6:Int)*n:=qG U U;have z1:(Z6:Int)*n<=20*20:=pA U U U U;by_cases ht:tx=r*aU+c
       .rw[aR ht]at rB;have acN:Lk.all ZX n (r*aU+c) Z6 n++Lk.row ZX n (r*aU+c) Z6 X++Lk.one n Z6 X (r*aU+c) ((ZX Z6 X).take (ZV+1))=Lk.all ZX n (r*aU+c) Z6 n++Lk.row ZX n (r*aU+c) Z6 X++Lk.one n Z6 X (r*aU+c) ((ZX Z6 X).take ZV)++[((Z6:Int)*n+X,ty,tz)]:=by
         rw[rB,lL,lL,lL]
        generalize Lk.all ZX n (r*aU+c) Z6 n++Lk.row ZX n (r*aU+c) Z6 X++Lk.one n Z6 X (r*aU+c) ((ZX Z6 X).take ZV)=L at*;have HS:=V acN;have he:(tx==r*aU+c)=true:=by simp[ht]
        clear rB acN ht;go_wp2_with (at_builtin;refine ko _ rfl _ _ 374 rfl w2.heap.size 377 i0 (aF #[Y Z 0,Y Z 0,Y Z 0]) 3 24 underlying374 hi cF cG cB rfl eM _ L.length (Wn.flat L) rfl ((GO.I.alloc _).alloc _) ⟨wr+1,0,G⟩ 1 1 [Y Z ((Z6:Int)*n+X),Y Z ty,Y Z tz] rfl rfl ?c1 ?c2 ?c3 ?c4 ?c5 ?c6 ?_)
        case c2=>exact⟨rfl,rfl,rfl⟩
        case c3=>unfold eS;omega
        case c4=>omega
        case c5=>have:=GN.I.size;omega
        intro g c' w4 fT eD mH pX qI;have GB:=V (Se (GN.I.alloc GN.I.size _) (by have:=GN.I.size;rw[bF];omega) (GO.I.alloc _) eD);have AX:=V (Wn.app (t:=((Z6:Int)*n+X,ty,tz)) (M:=Lk.all ZX n (r*aU+c) Z6 n++Lk.row ZX n (r*aU+c) Z6 X++Lk.one n Z6 X (r*aU+c) ((ZX Z6 X).take (ZV+1))) fT HS.I);have Wx:=V ((((GW.I.Ww (aD wr _)).Ww (aD _ _)).grown eD GF.I));have GF2:=V (show CD (O g (L.length+1) c') ga from GF.I.new mH (λx hx=>by cases hx;show ga<wr+1+1;omega));clear fT eD mH f0 f1 f2;go_wp2;go_roundw
        case rel=>exact⟨ZV+1,U,Q2T,AX.I,Wx.I,GB.I,GF2.I⟩
        case measure=>exact Q5q
       .rw[aI ht,List.append_nil]at rB;have HS:=V rB;have he:(tx==r*aU+c)=ae:=Q4Y;have Wx:=V (GW.I.Ww (aD wr (ag #[Y Z tx,Y Z ty,Y Z tz] 377)));have L9:=V (GN.I.step (aD wr (ag #[Y Z tx,Y Z ty,Y Z tz] 377)));have AX:=V (GO.I.alloc (ag #[Y Z tx,Y Z ty,Y Z tz] 377));clear rB ht;go_wp2_with fail;go_roundw
        case rel=>exact⟨ZV+1,U,Q2T,by rw[HS.I];exact AX.I,Wx.I,L9.I,GF.I⟩
        case measure=>exact Q5q
      .have zF:ZV=l3:=U;have Wy:=V (show wr.ownsRow w2.heap.size 377 3 _ (Lk.all ZX n (r*aU+c) Z6 n++Lk.row ZX n (r*aU+c) Z6 (X+1)).length (Wn.flat (Lk.all ZX n (r*aU+c) Z6 n++Lk.row ZX n (r*aU+c) Z6 (X+1)))from by
        have:=GO.I;rw[zF,<-GW.I.1,List.take_length,lL,<-Lk.JX]at this;exact this)
       clear GO zF;go_wp2;go_roundw
       case rel=>exact⟨X+1,U,Q2T,Wy.I,GN.I⟩
       case measure=>exact Q5q
    .have xF:X=n:=U;have Wy:=V (show CQ.ownsRow w2.heap.size 377 3 _ (Lk.all ZX n (r*aU+c) (Z6+1) n).length (Wn.flat (Lk.all ZX n (r*aU+c) (Z6+1) n))from by
      have:=GO.I;rw[xF,<-Lk.all_succ]at this;exact this)
     clear GO xF;go_wp2;go_roundw
     case rel=>exact⟨Z6+1,U,Q2T,Wy.I,GN.I⟩
     case measure=>exact Q5q
  .have hye:Z6=m:=U;have fT:=GO.I;rw[hye]at fT;obtain⟨a,n3,c',hv,mY⟩:=oq.owned fT;rw[hv];have GW:=V mY;have L9:=V (GN.I.mono hB.I.size);clear fT hye hv mY;go_wp2;go_ret;exact⟨_,_,_,rfl,GW.I,hB.I.trans L9.I⟩
theorem alY (rows aU r c k s p:Int) (w:H) (wr:(cX Z rows).wf=true) (wc:(cX Z aU).wf=true) (h:¬Gm rows aU r c k s p):aA aq 322 #[Y Z rows,Y Z aU,Y Z r,Y Z c,Y Z k,Y Z s,Y Z p] w (AV [] w):=by
 have PO:=V (NV rows aU k s p);obtain⟨m0,m20⟩:=uf rows k s p;obtain⟨n0,n20⟩:=uf aU k s p;have br:1<=bO rows k s p->1<=rows/\rows<=16:=λh=>E (oy h);have bc:1<=bO aU k s p->1<=aU/\aU<=16:=λh=>E (oy h);unfold Gm at h;generalize bO rows k s p=m at*;generalize bO aU k s p=n at*;have cs:m<1\/(1<=m/\n<1)\/(1<=m/\1<=n/\1<=rows/\rows<=16/\(r<0\/rows-1<r))\/(1<=m/\1<=n/\1<=rows/\rows<=16/\0<=r/\r<=rows-1/\1<=aU/\aU<=16/\(c<0\/aU-1<c)):=U;clear h br bc wr wc;rcases cs with h|⟨h1,h⟩|⟨h1,h2,h3,h4,h⟩|⟨h1,h2,h3,h4,h5,h6,h7,h8,h⟩
 .go_enter func322,ntmps322;exact Q0w
 .go_enter func322,ntmps322;exact Q0w
 .have IN:=V (λw=>Hh r 0 (rows-1) w h);clear h;go_enter func322,ntmps322;exact Q2B
 .have IN:=V (λw=>Hh c 0 (aU-1) w h);clear h;go_enter func322,ntmps322;go_wp2_with fail;refine bY (PO.I _) λw2 hb=> ?_;have hB:=V ((aD w _).step hb);go_wp2_with fail;refine cq (AR r 0 (rows-1) _ h5 h6) ?_;exact Q0P
theorem alZ (rows aU r c k s p:Int) (w:H) (wr:(cX Z rows).wf=true) (wc:(cX Z aU).wf=true):aA aq 322 #[Y Z rows,Y Z aU,Y Z r,Y Z c,Y Z k,Y Z s,Y Z p] w (AV (lookW rows aU r c k s p) w):=by
 unfold lookW;by_cases h:Gm rows aU r c k s p
 .rw[aR h];exact alX rows aU r c k s p w h
 .rw[aI h];exact alY rows aU r c k s p w wr wc h
end
end Go.Proofs.YtcpmhoodeieanaaGreatDoor
