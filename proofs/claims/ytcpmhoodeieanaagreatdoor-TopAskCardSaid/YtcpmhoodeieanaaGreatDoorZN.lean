/-
  Part 14 of the proof that TopAsk answers true: laws of the functions that it calls, on any memory that holds their arguments.
-/
import Derived.Test.YtcpmhoodeieanaaGreatDoorZM
import Derived.Lib.AtoiErrMem
set_option maxRecDepth 100000
set_option maxHeartbeats 20000000
set_option linter.unusedVariables false
set_option linter.unusedSimpArgs false
open Go.Lib renaming hid→V
open Go.IntKind renaming i64→Z,i8→aO,i32→cr,u64→cD
open Go.Value renaming int→Y,slice→O,agg→aF,bool→aK,tuple→aL,pointer→aP
open Option renaming none→G,some→A
open Go renaming World→H,Value→aj,Calls→aA,results→aW,bodyPost_ret→aZ,lt_of_block→bH,heap_alloc_new→bZ,Ending→dN,maxLen→eS,info_parts→fB,bodyPost→gW
open Bool renaming false→ae
open Go.Obj renaming cells→ag
open Go.Proofs.Tryz renaming prog→aq
open And renaming intro→aw
open Go.RowKit renaming Below→ay,intOf→aX
open Or renaming inl→aM,inr→bJ
open Nat renaming le_refl→bu,zero_le→cK,le_trans→eH,add_zero→eL,lt_of_lt_of_le→iP
open Go.World renaming size_alloc→bF
open Go.Ending renaming returned→bG
open List renaming getElem?_eq_getElem→cR,setIfInBounds_toArray→dC,set_cons_zero→dD,set_cons_succ→dE,length_append→dG,getElem?_eq_some_iff→fX,length_map→ib,range→iz,mem_cons→jy,map_append→kF,mem_map→kG,not_mem_nil→mj
open Go.IntWalk renaming wrap64_in→iZ
open Go.RowKit.Below renaming refl→eG
open Go.Value renaming oneCell'→fV
open Go.World renaming ownsRow_nil→gP,block_lt_of_cell?→jY,cell?→kY,setCell→ss,alloc→li
open Array renaming toList→jf
open Go.Lib renaming decDigits→nE
namespace Go.Proofs.YtcpmhoodeieanaaGreatDoor
open Go.RowKit Go.Proofs.Tryz
variable {x:ByteArray} {w w' w1:H} {au:Int} {j:Jn} {N cb n wb:Nat} {S:Nat->Prop} {a:aC} {b:ah} {v:aj} {s:dJ} {e:dN} {t:TypeId}
section
attribute [local go_sem ↓] wp_at_zero wp_at_succ
structure gA where
 tb:Nat
 jb:Nat
 db:Nat
 nb:Nat
 sb:Nat
 N:Nat
abbrev gA.q (p:gA) (B:Nat):DA:=⟨p.db,p.nb,p.sb,p.N,B⟩
abbrev gA.ZY (p:gA):Nat->Prop:=λb=>b=p.jb\/b=p.db\/b=p.nb\/b=p.sb
abbrev gA.M (p:gA):Nat->Prop:=λb=>b=p.tb\/p.ZY b
structure TR where
 xa:Option Addr
 xl:Nat
 xm:Nat
 da:Option Addr
 dl:Nat
 dm:Nat
 fa:Option Addr
 fl:Nat
 fm:Nat
 pa:Option Addr
 pl:Nat
 pm:Nat
abbrev TR.cells (r:TR) (p:gA) (t:eY):Array aj:=#[Y Z t.m.a,Y Z t.m.b,Y Z t.m.c,O r.xa r.xl r.xm,Y Z t.d.a,Y Z t.d.b,Y Z t.d.c,Y Z t.d.e,Y Z t.d.k,O r.da r.dl r.dm,
 Y Z t.h.b,Y Z t.h.w,Y Z t.h.r,Y Z t.h.m,Y Z t.h.d,Y Z t.h.e,O r.fa r.fl r.fm,Y cD t.s.au,Y Z t.s.step,O r.pa r.pl r.pm,aP (A ⟨p.db,0,G⟩),aP (A ⟨p.jb,0,G⟩),Y Z t.saved,aK t.has,Y Z t.failed,aK ae]
structure sq (p:gA) (r:TR) (ok:Nat->Prop) (w:H) (t:eY):Prop where
 net:cH iM 7 ok w r.xa r.xl t.m.L
 data:cH kz 2 ok w r.da r.dl t.d.xs
 fst:fR ok .u8 w r.fa r.fl t.first
 ps:rM ok w r.pa r.pl t.s.ps
 JG:fA (p.q w.heap.size) (O G 0 0) [] w t.k
 JH:rr p.db p.jb ok w t.j
 ne:¬p.ZY p.tb/\p.jb≠p.db/\p.jb≠p.nb/\p.jb≠p.sb
 zA:∀b,ok b->¬p.M b
def kX (p:gA) (r:TR) (ok:Nat->Prop) (w:H) (t:eY):Prop:=w.heap[p.tb]? =A (ag (r.cells p t) 76 (0,0))/\sq p r ok w t
theorem rr.lt {db jb:Nat} {ok:Nat->Prop} (h:rr db jb ok w j):jb<w:=by
 obtain⟨_,_,_,h1,_⟩:=h;exact bH h1
theorem sq.lt {p:gA} {r:TR} {ok:Nat->Prop} {t:eY} (h:sq p r ok w t):∀b,p.ZY b->b<w.heap.size:=by
 intro b e;have:=h.JG.lt;rcases e with rfl|rfl|rfl|rfl
 .exact h.JH.lt
 .exact this.1
 .exact this.2.1
 .exact this.2.2.1
theorem sq.move {p:gA} {r:TR} {ok fJ:Nat->Prop} {t:eY} (h:sq p r ok w t) (kp:ar w S w w') (hS:∀b,S b->¬p.ZY b) (hk:∀b,b<w.heap.size->ok b->¬S b/\fJ b) (hM:∀b,fJ b->¬p.M b):sq p r fJ w' t:=by
 have AJ:=λb hb ho=>(⟨hb,(hk b hb ho).1,(hk b hb ho).2⟩:b<w.heap.size/\¬S b/\fJ b);have hl:=h.lt;have hs:=kp.size;refine⟨h.net.move gL U kp AJ,h.data.move iG U kp AJ,h.fst.move kp AJ,h.ps.move iF U kp AJ,?_,h.JH.move kp ⟨h.JH.lt,λe=>hS _ e (aM rfl)⟩ AJ,h.ne,hM⟩;exact(h.JG.move kp (λe=>hS _ e (bJ (aM rfl))) (λe=>hS _ e (bJ (bJ (aM rfl)))) (λe=>hS _ e (bJ (bJ (bJ rfl)))) (λb e=>Q4Q)).base (B:=w') (λb e=>by
  have:=hl b (bJ e);omega) (bu _)
theorem sq.below {p:gA} {r:TR} {ok:Nat->Prop} {t:eY} (h:sq p r ok w t) (hb:ay w w w'):sq p r ok w' t:=h.move (ar.cZ (S:=λ_=>False) hb) (λ_ e=>e.elim) (λb _ ho=>⟨id,ho⟩) h.zA
theorem sq.set {p:gA} {r:TR} {ok:Nat->Prop} {t:eY} (h:sq p r ok w t) (i:Nat) (v:aj):sq p r ok (ss w ⟨p.tb,i,G⟩ v) t:=
 h.move ((ar.cP w (λb=>b=p.tb) w).set (g:=p.tb) (aM rfl) i v) (λb e=>by rw[e];exact h.ne.1) (λb _ ho=>⟨λe=>h.zA b ho (aM e),ho⟩) h.zA
theorem sq.as {p:gA} {r:TR} {ok:Nat->Prop} {t t':eY} (h:sq p r ok w t) (h1:t'.m=t.m) (h2:t'.d=t.d) (h3:t'.first=t.first) (h4:t'.s.ps=t.s.ps) (h5:t'.k=t.k) (h6:t'.j=t.j):sq p r ok w t':=
 ⟨h1▸h.net,h2▸h.data,h3▸h.fst,h4▸h.ps,h5▸h.JG,h6▸h.JH,h.ne,h.zA⟩
theorem kX.below {p:gA} {r:TR} {ok:Nat->Prop} {t:eY} (h:kX p r ok w t) (hb:ay w w w'):kX p r ok w' t:=⟨bV h.1 hb,h.2.below hb⟩
theorem kX.bt {p:gA} {r:TR} {ok:Nat->Prop} {t:eY} (h:kX p r ok w t):aE w λw=>kX p r ok w t:=λ_ hb=>h.below hb
structure eY.kD (N:Nat) (t:eY):Prop where
 n4:4<=N
 nN:N<=4096
 half:t.j.half=N/2
 slot:t.j.slot<=1
 gen:0<=t.j.gen/\t.j.gen<=4294967295
 ops:0<=t.k.ops
 aH:t.s.aH=true
 au:P.Z4 t.s.au
 fail:0<=t.failed/\t.failed<=1000000
theorem Jr.anD {d:fd} (h:(Jr.commit j d b).1 ≠0):(Jr.commit j d b).2 =(j,d):=by
 unfold Jr.commit at h⊢;split
 .rfl
 .rename_i c;rw[aI c]at h;exact absurd rfl h
theorem Jr.anE {d:fd} (h1:j.half<=5000) (hs:j.slot<=1) (hg:0<=j.gen/\j.gen<=4294967295):(Jr.commit j d b).2.1.half=j.half/\(Jr.commit j d b).2.1.slot<=1/\(0<=(Jr.commit j d b).2.1.gen/\(Jr.commit j d b).2.1.gen<=4294967295)/\d.ops<=(Jr.commit j d b).2.2.ops/\(Jr.commit j d b).2.2.ops<=d.ops+6000:=by
 unfold Jr.commit;split
 .exact⟨rfl,hs,hg,Int.le_refl _,by show d.ops<=d.ops+6000;omega⟩
 .rename_i h;have hk:Jr.ro b.length<=5000:=by unfold Jr.ro;omega
  have hw:=(Jr.Yd b ((1-j.slot)*j.half) d (Jr.ro b.length)).1;have e:(Jr.write j.half (1-j.slot) (j.gen+1) b d).ops=(Jr.writes b ((1-j.slot)*j.half) (Jr.ro b.length) d).ops+1+1+1:=rfl;rw[hw]at e;exact⟨rfl,by show 1-j.slot<=1;omega,by show 0<=j.gen+1/\j.gen+1<=_;omega,by show d.ops<=(Jr.write j.half (1-j.slot) (j.gen+1) b d).ops;omega,by show(Jr.write j.half (1-j.slot) (j.gen+1) b d).ops<=_;omega⟩
theorem Tr.aed {t:eY} (h:t.s.aH=true):Tr.check t=if(Jr.commit t.j t.k (ZY.enc t.s)).1 ≠0 then((Jr.commit t.j t.k (ZY.enc t.s)).1,{t with failed:=min (t.failed+1) 1000000})else(0,{t with j:=(Jr.commit t.j t.k (ZY.enc t.s)).2.1,k:=(Jr.commit t.j t.k (ZY.enc t.s)).2.2,saved:=t.s.step,has:=true}):=by
 have e:ZY.encode t.s=(0,ZY.enc t.s):=by unfold ZY.encode;rw[aR h]
 unfold Tr.check;rw[e];rfl
theorem Tr.Ri {t:eY} (h:t.kD N):(Tr.check t).2.kD N/\(Tr.check t).2.k.ops<=t.k.ops+6000:=by
 have c:=Jr.anE (j:=t.j) (d:=t.k) (b:=ZY.enc t.s) (by have:=h.half;have:=h.nN;omega) h.slot h.gen;have hf:=h.fail;have ho:=h.ops;rw[Tr.aed h.aH];split
 .exact⟨⟨h.n4,h.nN,h.half,h.slot,h.gen,h.ops,h.aH,h.au,by dsimp only;omega⟩,by dsimp only;omega⟩
 .exact⟨⟨h.n4,h.nN,c.1.trans h.half,c.2.1,c.2.2.1,by dsimp only;omega,h.aH,h.au,h.fail⟩,c.2.2.2.2⟩
theorem ZY.aee (h:s.aH=true):1<=(ZY.enc s).length/\(ZY.enc s).length<=1000000:=by
 have hm:=dJ.aea h;have:=ZY.zT (L:=s.ps) hm.2;unfold ZY.enc;simp only[dG,ZY.fI,List.length_cons,List.length_nil];have:s.ps.length*60000<=12*60000:=Nat.mul_le_mul_right _ hm.1.2.2;omega
def vu (p:gA) (ok:Nat->Prop) (t:eY) (w:H) (v:aj) (e:dN) (w':H):Prop:=e=bG v/\(∃r,kX p r ok w' t)/\ar w p.M w w'
theorem aef (p:gA) (r:TR) (ok:Nat->Prop) (t:eY) (w:H) (h:kX p r ok w t) (hn:t.kD p.N) (fY:∀b,w.heap.size<=b->ok b) (ho:t.k.ops<=900000000):
 aA aq 26 #[aP (A ⟨p.tb,0,G⟩)] w (vu p ok (Tr.check t).2 w (Y Z (Tr.check t).1)):=by
 have GX:=bh h.1 17 (v:=Y cD t.s.au) rfl;have Rj:=bh h.1 18 (v:=Y Z t.s.step) rfl;have c19:=bh h.1 19 (v:=O r.pa r.pl r.pm) rfl;have EN:=V (Ux t.s r.pa r.pl r.pm w h.2.ps.Bz hn.aH hn.au);have HT:=V h.bt;obtain⟨R,hR⟩:=J (Tr.check t);rw[hR];rw[Tr.aed hn.aH]at hR;have HR:=V hR;have zj:=V (ZY.aee hn.aH);have asO:=hn.half;have Kf:=hn.n4;have hnN:=hn.nN;clear h hR;go_enter func26,ntmps26;go_wp2_with fail;refine EN.I.mono ?_;rintro e' w1 ⟨a,c,rfl,dY,-,kL,hb⟩;obtain⟨bb,bo,rfl,-⟩:=dY.cells (by have:=zj.I.1;exact this);have sr:=V (HT.I.jD hb);have wh:=hb.size;have mU:=V dY;have pN:=(kL _ rfl).1;have uY:=V (ar.cZ (S:=p.M) hb);clear dY kL hb;have ei:=sr.I.2.lt;have Ni:=sr.I.2.ne;have CM:=V (anx (p.q w1.heap.size) t.k p.jb bb bo (ZY.enc t.s).length c t.j ok (ZY.enc t.s) w1 sr.I.2.JG sr.I.2.JH (λe=>by rcases e with e|e|e;exact Ni.2.1 e;exact Ni.2.2.1 e;exact Ni.2.2.2 e) (ei _ (aM rfl)) (λb hb=>⟨λe=>sr.I.2.zA b hb (bJ (bJ e)),λe=>sr.I.2.zA b hb (bJ (aM e))⟩) hn.slot U (show 2*t.j.half<=p.N by omega) hnN mU.I (λe=>sr.I.2.zA bb (fY bb pN) (bJ (bJ e))) (λe=>sr.I.2.zA bb (fY bb pN) (bJ (aM e))) zj.I.1 (E zj.I.2) hn.gen hn.ops ho);have c21:=bh sr.I.1 21 (v:=aP (A ⟨p.jb,0,G⟩)) rfl;have HCe:=V (Jr.anD (j:=t.j) (d:=t.k) (b:=ZY.enc t.s));generalize Jr.commit t.j t.k (ZY.enc t.s)=cm at*;obtain⟨ce,cj,ck⟩:=cm;go_wp2_with fail;refine CM.I.mono ?_;rintro e' w2 ⟨rfl,hd,hj,cA⟩;have HD:=V hd;have HJ:=V hj;have GY:ar w1 p.ZY w1 w2:=cA.mono (bu _) (λb _ e=>by rcases e with e|e;exact bJ e;exact aM e);have dA:=V (GY.bC (bH sr.I.1) Ni.1 sr.I.1);have ja:=cA.size;have jF:=V (uY.I.trans' (GY.mono (S':=p.M) (C:=w) wh (λb _ e=>bJ e)) (bu _));have fC:∀b,p.ZY b->b<w2.heap.size:=λb e=>iP (ei b e) ja;have aeg:=V (show sq p r ok w2 {t with j:=cj,k:=ck}from by
  have AJ:=λb (hb:b<w1.heap.size) (ho:ok b)=>(⟨hb,λe=>sr.I.2.zA b ho (bJ e),ho⟩:b<w1.heap.size/\¬p.ZY b/\ok b);refine⟨sr.I.2.net.move gL U GY AJ,sr.I.2.data.move iG U GY AJ,sr.I.2.fst.move GY AJ,sr.I.2.ps.move iF U GY AJ,HD.I.base (B:=w2) (λb e=>fC b (bJ e)) (bu _),?_,Ni,sr.I.2.zA⟩;exact HJ.I.move (ar.cP w2 (λ_=>False) w2) ⟨HJ.I.lt,id⟩ (λb hb ho=>⟨hb,id,ho.elim id (λh=>fY b (eH wh h))⟩))
 clear hd hj cA GY;try dsimp only
 try dsimp only at HR
 by_cases hce:ce=0
 .subst hce;obtain rfl:(0,{t with j:=cj,k:=ck,saved:=t.s.step,has:=true})=R:=by rw[<-HR.I,aI (λc=>c rfl)]
  have Rj:=bh dA.I 18 (v:=Y Z t.s.step) rfl;have c22:=bh dA.I 22 (v:=Y Z t.saved) rfl;have c23:=bh dA.I 23 (v:=aK t.has) rfl;have q22:=cE dA.I 22;have q23:=cE dA.I 23;go_wp2_with fail;go_ret;refine⟨rfl,⟨r,by simpa using dF (f:=23) (dF (f:=22) dA.I (Y Z t.s.step)) (aK true),?_⟩,(jF.I.set (g:=p.tb) (aM (aM rfl)) 22 (Y Z t.s.step)).set (g:=p.tb) (aM (aM rfl)) 23 (aK true)⟩;exact((aeg.I.set 22 (Y Z t.s.step)).set 23 (aK true)).as rfl rfl rfl rfl rfl rfl
 .have e1:(ce != 0)=true:=by simpa using hce
  obtain rfl:(ce,{t with failed:=min (t.failed+1) 1000000})=R:=by rw[<-HR.I,aR hce]
  have c24:=bh dA.I 24 (v:=Y Z t.failed) rfl;have q24:=cE dA.I 24;obtain⟨rfl,rfl⟩:=Prod.mk.inj (HCe.I hce);have yu:=hn.fail;have i1:∀[Inhabited Nat],wrap64 (t.failed+1)=t.failed+1:=λ[_]=>iZ _ ⟨U,U⟩;go_wp2_with fail;go_ret;refine⟨rfl,⟨r,by simpa using dF (f:=24) dA.I (Y Z (min (t.failed+1) 1000000)),(aeg.I.set 24 _).as rfl rfl rfl rfl rfl rfl⟩,jF.I.set (g:=p.tb) (aM (aM rfl)) 24 _⟩
theorem Tr.anF {k:Nat} (t:eY) (h:k<n):Tr.vh k t (n-k)=if(Tr.next t.m t.d t.h t.s).1 ≠0 then(((k:Int),(Tr.next t.m t.d t.h t.s).1),t)else Tr.vh (k+1) (Tr.step t (Tr.next t.m t.d t.h t.s).2) (n-(k+1)):=by
 obtain⟨m,hm⟩:∃m,n-k=m+1:=⟨n-k-1,U⟩;rw[hm,show n-(k+1)=m by omega];rfl
theorem eY.kD.next {t:eY} (h:t.kD N) (h1:s.aH=true) (h2:s.au=t.s.au):({t with s:=s}:eY).kD N:=⟨h.n4,h.nN,h.half,h.slot,h.gen,h.ops,h1,by show P.Z4 s.au;rw[h2];exact h.au,h.fail⟩
theorem EB {p:gA} {r:TR} {t:eY} (h:w.heap[p.tb]? =A (ag (r.cells p t) 76 (0,0))):
 (w ⟨p.tb,0,G⟩=A (Y Z t.m.a)/\w ⟨p.tb,1,G⟩=A (Y Z t.m.b)/\w ⟨p.tb,2,G⟩=A (Y Z t.m.c)/\w ⟨p.tb,3,G⟩=A (O r.xa r.xl r.xm)/\
 w ⟨p.tb,4,G⟩=A (Y Z t.d.a)/\w ⟨p.tb,5,G⟩=A (Y Z t.d.b)/\w ⟨p.tb,6,G⟩=A (Y Z t.d.c)/\w ⟨p.tb,7,G⟩=A (Y Z t.d.e)/\w ⟨p.tb,8,G⟩=A (Y Z t.d.k)/\w ⟨p.tb,9,G⟩=A (O r.da r.dl r.dm))/\
 (w ⟨p.tb,10,G⟩=A (Y Z t.h.b)/\w ⟨p.tb,11,G⟩=A (Y Z t.h.w)/\w ⟨p.tb,12,G⟩=A (Y Z t.h.r)/\w ⟨p.tb,13,G⟩=A (Y Z t.h.m)/\w ⟨p.tb,14,G⟩=A (Y Z t.h.d)/\w ⟨p.tb,15,G⟩=A (Y Z t.h.e))/\
 (w ⟨p.tb,17,G⟩=A (Y cD t.s.au)/\w ⟨p.tb,18,G⟩=A (Y Z t.s.step)/\w ⟨p.tb,19,G⟩=A (O r.pa r.pl r.pm)):=by
 refine⟨⟨?_,?_,?_,?_,?_,?_,?_,?_,?_,?_⟩,⟨?_,?_,?_,?_,?_,?_⟩,?_,?_,?_⟩;all_goals exact bh h _ rfl
def anG (r:Int×dJ) (w:H) (a b:aj) (wx:H):Prop:=∃(bo:Nat) (pa:aC) (pl pm:Nat),a=aP bo/\b=Y Z r.1 /\wx.heap[bo]? =A (ag (r.2.cells pa pl pm) 48 (0,0))/\w.heap.size<=bo/\rM (λb=>w.heap.size<=b) wx pa pl r.2.ps/\ay w w wx
theorem anH (p:gA) (r0:TR) (ok:Nat->Prop) (t:eY) (n:Nat) (w:H) (h:kX p r0 ok w t) (hn:t.kD p.N) (fY:∀b,w.heap.size<=b->ok b) (ho:t.k.ops<=800000000) (ku:n<=100):
 aA aq 24 #[aP (A ⟨p.tb,0,G⟩),Y Z (n:Int)] w (vu p ok (Tr.rq t n).2 w (aL #[Y Z (Tr.rq t n).1.1,Y Z (Tr.rq t n).1.2])):=by
 have HT:=V h;have HN:=V hn;obtain⟨R,hR⟩:=J (Tr.rq t n);rw[hR];have HR:=V (show Tr.vh 0 t (n-0)=R from hR);have e1:decide ((100:Int)<(n:Int))=ae:=eP U;clear h hn hR;go_enter func24,ntmps24;go_upto_region 4 with fail;go_loopw [16,6,7,8] (λi _ _ _ wr=>∃(k:Nat) (t':eY) (r:TR),k<=n/\i=Y Z k/\Tr.vh k t' (n-k)=R/\kX p r ok wr t'/\t'.kD p.N/\t'.k.ops<=t.k.ops+(k:Int)*6000/\ar w p.M w wr) (λi _ _ _ _=>n-(aX i).toNat)
 case atStart=>exact⟨0,t,r0,cK _,rfl,HR.I,HT.I,HN.I,Q2W,ar.cP _ _ _⟩
 case round=>
  obtain⟨k,t',r,hk,rfl,nU,ht,zH,Ng,cA⟩:=hrel;have EC:=V ht;have HN':=V zH;have HK:=V cA;have iW:=V nU;have Hw:=cA.size;clear ht zH cA nU;by_cases aT:k<n
  case neg=>
   obtain rfl:k=n:=U;obtain rfl:(((k:Int),0),t')=R:=Q4U;go_wp2_with fail;refine aZ (v:=aL #[Y Z (k:Int),Y Z 0]) (by simp[aW,results24]) rfl ⟨rfl,⟨r,EC.I⟩,HK.I⟩
  have xX:=V (iW.I.symm.trans (Tr.anF t' aT)).symm;have fC:(k:Int)<(n:Int):=Int.ofNat_lt.2 aT;have NX:=V (λw' h1 h2 h3=>amT t'.m t'.d t'.h t'.s ok ok ok r.xa r.xl r.xm r.da r.dl r.dm r.pa r.pl r.pm w' h1 h2 h3 HN'.I.au);have HNm:=V (Tr.aeb (m:=t'.m) (d:=t'.d) (h:=t'.h) (s:=t'.s));generalize j7:Tr.next t'.m t'.d t'.h t'.s=nx at*;clear j7;obtain⟨ne,ns⟩:=nx;unfold mP at NX;go_upto_region 6 with fail;go_cut [7,8] (λa b wx=>anG (ne,ns) wr a b wx)
  case first=>
   refine cS (λw':H=>w'.heap[p.tb]? =A (ag (r.cells p t') 76 (0,0))) ?_;have hS:wr.drew.heap[p.tb]? =A (ag (r.cells p t') 76 (0,0)):=EC.I.1;refine bR hS [0,4,8,12,1,5,9,13,2,6,10,14,3,7,11,15] (λ_ h=>EB h) ?_;refine lI 16 20 (λK hK=> ?_) (λK hK=> ?_)
   .go_simp;have Cw:=EC.I.2.below (below_drewN wr 1);refine(NX.I _ Cw.net Cw.data Cw.ps).mono ?_;rintro e' w2 ⟨pa,pl,pm,rfl,jd,hb⟩;unfold dJ.cells;try dsimp only
    have du:ay wr wr w2:=(below_drewN wr 1).step hb;have bX:=bV hS hb;have tW:=V jd;clear hb jd Cw hS;refine bB hK bX ?_;refine cQ bX [17,18,19] (bL 20 λK hK=> ?_);go_simp;have fM:=λo=>bV bX (aD w2 o);refine cY hK (fM _) 21 λK hK=> ?_;go_simp;refine bB hK (fM _) ?_;refine cQ (fM _) [22] (bW ?_);go_wp2_with fail;go_meet
    exact⟨_,pa,pl,pm,rfl,rfl,bZ w2 _,du.size,tW.I.below iF U (aD w2 _),du.step (aD w2 _)⟩
   .go_simp;have eX:ay wr wr (li wr (kI 0 0 G 0 0)).drew:=(aD wr (kI 0 0 G 0 0)).bI 1;have hSA:=bV EC.I.1 eX;have Cw:=EC.I.2.below eX;refine cY hK hSA 16 λK hK=> ?_;go_simp;refine(NX.I _ Cw.net Cw.data Cw.ps).mono ?_;rintro e' w2 ⟨pa,pl,pm,rfl,jd,hb⟩;unfold dJ.cells;try dsimp only
    have bX:=bV hSA hb;have cy:=bV (show(li wr (kI 0 0 G 0 0)).drew.heap[wr.heap.size]? =_ from bZ wr _) hb;have du:ay wr wr w2:=eX.step hb;have vR:=bH EC.I.1;have hA:(li wr (kI 0 0 G 0 0)).drew.heap.size=wr.heap.size+1:=bF _ _;have tW:=V jd;rw[hA]at tW;clear hb jd Cw hS eX hA;refine bB hK bX ?_;refine cQ bX [17,18,19] ?_;have z0:=aY cy;refine bL 21 λK hK=> ?_;go_simp;have E0:=(ar.cP w2 (λb=>b=wr.heap.size) w2).eJ (aM rfl) (Y cD ns.au) (Y Z ns.step) (O pa pl pm);have fM:=E0.bC (bH bX) (λe=>by have e:p.tb=wr.heap.size:=e;omega) bX;refine bB hK fM ?_;refine cQ fM [22] (bW ?_);go_wp2_with fail;go_meet
    exact⟨_,pa,pl,pm,rfl,rfl,oV cy,bu _,tW.I.move iF U E0 (λb hb h=>⟨hb,U,U⟩),cL du (bu _) _ _ _⟩
  case rest=>
   obtain⟨bo,pa,pl,pm,rfl,rfl,cy,pN,jd,hb⟩:=hcut;dsimp only at jd cy
   have GZ:=V (EC.I.below hb);have tW:=V (show rM ok wc pa pl ns.ps from jd.move iF U (ar.cP wc (λ_=>False) wc) (λb hb h=>⟨hb,id,fY b U⟩));have jF:=V (HK.I.trans' ((ar.cZ (S:=p.M) hb).mono (C:=w) Hw (λ_ _ h=>h)) (bu _));have jm:=hb.size;have vK:=V cy;have vR:=bH EC.I.1;clear jd hb cy;try simp only[Exit.inBlock,Exit.then]
   by_cases cI:ne=0
   case neg=>
    have e8:(ne != 0)=true:=by simpa using cI
    obtain rfl:(((k:Int),ne),t')=R:=by have:=xX.I;rwa[aR cI]at this
    go_wp2_with fail;try simp only[Exit.inBlock,Exit.then]
    refine aZ (v:=aL #[Y Z (k:Int),Y Z ne]) (by simp[aW,results24]) rfl ⟨rfl,⟨r,GZ.I⟩,jF.I⟩
   subst cI;have tL:=V (show Tr.vh (k+1) (Tr.step t' ns) (n-(k+1))=R by have:=xX.I;rwa[aI (λc=>c rfl)]at this);have zH:=HNm.I rfl;have Fu:=V (HN'.I.next zH.1 zH.2);clear zH;have z0:=bP vK.I;obtain⟨-,-,d0,d1,d2⟩:=EB GZ.I.1;have q17:=cE GZ.I.1 17;have q18:=cE GZ.I.1 18;have q19:=cE GZ.I.1 19;go_upto_region 10 with fail;have MN:=((((ar.cP wc (λb=>b=p.tb) wc).set (g:=p.tb) (aM rfl) 17 (Y cD ns.au)).set (g:=p.tb) (aM rfl) 18 (Y Z ns.step)).set (g:=p.tb) (aM rfl) 19 (O pa pl pm));have gV:=V (MN.bC (bH vK.I) (λe=>by have e:bo=p.tb:=e;omega) vK.I);have nz:=V (jF.I.trans' (MN.mono (C:=w) (S':=p.M) U (λb _ e=>aM e)) (bu _));obtain⟨r3,oJ⟩:∃r3:TR,({r with pa:=pa,pl:=pl,pm:=pm}:TR)=r3:=⟨_,rfl⟩;obtain⟨t3,wV⟩:∃t3:eY,({t' with s:=ns}:eY)=t3:=⟨_,rfl⟩;have Nj:=V (show kX p r3 ok (ss (ss (ss wc ⟨p.tb,17,G⟩ (Y cD ns.au)) ⟨p.tb,18,G⟩ (Y Z ns.step)) ⟨p.tb,19,G⟩ (O pa pl pm)) t3 from by
    rw[<-oJ,<-wV];refine⟨by simpa using dF (f:=19) (dF (f:=18) (dF (f:=17) GZ.I.1 (Y cD ns.au)) (Y Z ns.step)) (O pa pl pm),?_⟩;have h:=GZ.I.2;exact(((show sq p {r with pa:=pa,pl:=pl,pm:=pm} ok wc {t' with s:=ns}from⟨h.net,h.data,h.fst,tW.I,h.JG,h.JH,h.ne,h.zA⟩).set 17 _).set 18 _).set 19 _)
   have sN:t3.h=t'.h:=by rw[<-wV]
   have hts:t3.s=ns:=by rw[<-wV]
   have Aw:=V (show Tr.step t' ns=if 0<t'.h.e/\ns.step.tmod t'.h.e=0 then(Tr.check t3).2 else t3 by rw[<-wV];rfl);rw[wV]at Fu;have asQ:t3.k.ops<=t.k.ops+(k:Int)*6000:=by rw[<-wV];exact Ng
   clear MN tW wV oJ;have fZ:=nz.I.size;generalize ss (ss (ss wc ⟨p.tb,17,G⟩ (Y cD ns.au)) ⟨p.tb,18,G⟩ (Y Z ns.step)) ⟨p.tb,19,G⟩ (O pa pl pm)=w3 at*;have HCk:=V (aef p r3 ok t3 w3.drew (Nj.I.below (below_drewN w3 1)) Fu.I (λb hb=>fY b (eH fZ hb)) U);have HCn:=V (Tr.Ri Fu.I);have i7:∀[Inhabited Nat],Z.wrap ((k:Int)+1)=(k:Int)+1:=λ[_]=>IntWalk.i64_in _ U;refine cS (λw':H=>w'.heap[p.tb]? =A (ag (r3.cells p t3) 76 (0,0))/\w'.heap[bo]? =A (ag (ns.cells pa pl pm) 48 (0,0))) ?_;have hS:w3.drew.heap[p.tb]? =A (ag (r3.cells p t3) 76 (0,0))/\w3.drew.heap[bo]? =A (ag (ns.cells pa pl pm) 48 (0,0)):=⟨Nj.I.1,gV.I⟩;by_cases he:0<t'.h.e
   .have e1:decide ((0:Int)<t'.h.e)=true:=dI he;have e2:¬t'.h.e=0:=U;by_cases hm:ns.step.tmod t'.h.e=0
    .have anI:=V (aw he hm);refine bR hS [0,1,2,3,4,5,6,7,9,8,10,11,12,13,14,15,16] (λ_ h=>aw (EB h.1) (bP h.2)) (bW ?_);clear hS;go_wp2_with fail;refine HCk.I.mono ?_;rintro e' w4 ⟨rfl,⟨r4,Dy⟩,hk4⟩;have HT4:=V Dy;have lu:=V (nz.I.trans' (hk4.vP.mono (C:=w) (show w.heap.size<=w3.drew.heap.size from fZ) (λ_ _ h=>h)) (bu _));clear Nj nz;go_wp2_with fail;go_roundw
     case rel=>exact⟨k+1,(Tr.check t3).2,r4,U,rfl,by have:=tL.I;rwa[Aw.I,aR anI.I]at this,HT4.I,HCn.I.1,by have:=HCn.I.2;omega,lu.I⟩
     case measure=>exact Q5q
    .have e3:(ns.step.tmod t'.h.e==0)=ae:=by simpa using hm
     have Fz:=V (show ¬(0<t'.h.e/\ns.step.tmod t'.h.e=0)from λc=>hm c.2);clear hm;exact Q0O
   .have e1:decide ((0:Int)<t'.h.e)=ae:=eP he;have Fz:=V (show ¬(0<t'.h.e/\ns.step.tmod t'.h.e=0)from λc=>he c.1);exact Q0O
theorem rM.wf {ok:Nat->Prop} {L:List bD} (h:rM ok w a n L):∀q∈L,q.wf:=by
 intro q hq;obtain⟨i,hi⟩:=List.getElem?_of_mem hq;obtain⟨b,off,cs,_,_,hE,_⟩:=cH.get h hi;obtain⟨a1,l1,c1,a2,l2,c2,a3,l3,c3,a4,l4,c4,a5,l5,c5,rfl,h1,h2,h3,h4,h5⟩:=hE;exact⟨λx hx=>Om (h2.1.wf x hx),λx hx=>Om (h5.1.wf x hx)⟩
def Yk (s:dJ) (w:H) (e:dN) (w':H):Prop:=∃a n c,e=bG (aF (s.cells a n c))/\rM (λb=>w.heap.size<=b) w' a n s.ps/\ay w w w'
theorem Rk (p:gA) (r:TR) (ok:Nat->Prop) (t:eY) (w:H) (h:kX p r ok w t) (hn:t.kD p.N):
 aA aq 9 #[aP (A ⟨p.tb,0,G⟩)] w (Yk t.s w):=by
 have K0:=V ((aE.fg w (kI 0 0 G 0 0)).and (h.bt.alloc (kI 0 0 G 0 0)));obtain⟨-,-,d0,d1,d2⟩:=EB K0.F.2.1;have r0:=aY K0.F.1.1;have EN:=V (Ux t.s r.pa r.pl r.pm _ K0.F.2.2.ps.Bz hn.aH hn.au);have DE:=V (λa l c w' hr=>aby t.s a l c w' hr hn.aH hn.au h.2.ps.wf);clear h;go_enter func9,ntmps9
 let pq:=gW aq Tryz.f9 (λ_ _=>True)
 generalize dS:gW aq Tryz.f9 (Yk t.s w)=BP;have dB:=V dS;have jM:=oz dS;clear dS;go_wp2_with fail;refine EN.I.mono ?_;rintro e' w1 ⟨a,c,rfl,dY,-,kL,hb⟩;have mU:=V dY;have K1:=K0.bU hb;clear dY kL;go_wp2_with fail;refine(DE.I _ _ _ w1 mU.I).mono ?_;rintro e' w2 ⟨da,dn,dc,rfl,jd,-,hb⟩;have Nk:=bZ w2 (ag (t.s.cells da dn dc) 48);have xZ:=aD w2 (ag (t.s.cells da dn dc) 48);have K2:=V ((K1.I.step (hb.step xZ)).and (aE.block Nk));have tW:=V (jd.below iF U xZ);have iK:=K1.F.1.2.size;have aT:=bH K1.F.1.1;clear jd hb Nk xZ;unfold dJ.cells;try dsimp only
 go_upto_region 5 with fail;unfold dJ.cells at K2 tW;obtain⟨sb,sH⟩:∃u,w2.heap.size=u:=⟨_,rfl⟩;rw[sH]at K2⊢;clear sH;generalize li w2 (kI t.s.au t.s.step da dn dc)=w3 at*;have s0:=bP K2.F.2;have r0:=aY K2.F.1.1.1;go_wp2_with fail;rw[<-dB.I];refine aZ (v:=aF #[Y cD t.s.au,Y Z t.s.step,O da dn dc]) ?_ rfl ⟨da,dn,dc,rfl,?_,cL K2.F.1.1.2 (bu _) _ _ _⟩
 .simp[aW,results9,go_sem,cT K2.F.1.1.1]
 .exact tW.I.move iF U ((ar.cP w3 (λb=>b=w.heap.size) w3).eJ (aM rfl) _ _ _) (λb hb h=>⟨hb,U,U⟩)
theorem vu.jD {p:gA} {ok:Nat->Prop} {t:eY} (h:vu p ok t w1 v e w') (hb:ay w w w1):vu p ok t w v e w':=
 ⟨h.1,h.2.1,(ar.cZ (S:=p.M) hb).trans' (h.2.2.mono (C:=w) hb.size (λ_ _ h=>h)) (bu _)⟩
theorem Yl (p:gA) (r:TR) (ok:Nat->Prop) (t:eY) (n:Nat) (w:H) (h:kX p r ok w t) (hn:t.kD p.N) (fY:∀b,w.heap.size<=b->ok b) (ho:t.k.ops<=800000000) (ku:n<=100):
 aA aq 7 #[aP (A ⟨p.tb,0,G⟩),aF #[Y Z 1,Y Z (n:Int),O G 0 0]] w (vu p ok (Tr.rq t n).2 w (aL #[Y Z (Tr.rq t n).1.1,Y Z (Tr.rq t n).1.2])):=by
 obtain⟨aB,hk⟩:∃k:Int,(1:Int)=k:=⟨_,rfl⟩;have K0:=V ((aE.fg w (sy aB (n:Int) G 0 0)).and (h.bt.alloc (sy aB (n:Int) G 0 0)));have TR:=V (anH p r ok t n _ K0.F.2 hn (λb hb=>fY b (eH K0.F.1.2.size hb)) ho ku);have s0:=bP K0.F.1.1;have Nl:=bh K0.F.2.1 25 (v:=aK ae) rfl;generalize Tr.rq t n=R at*;clear h;subst hk;go_enter func7,ntmps7;go_wp2_with fail;refine TR.I.mono ?_;rintro e' w1 ⟨rfl,hr,cA⟩;have HR:=V (aw hr cA);clear hr cA TR;go_wp2_with fail;refine aZ (v:=aL #[Y Z R.1.1,Y Z R.1.2]) Q48 rfl (vu.jD ⟨rfl,HR.I.1,HR.I.2⟩ K0.F.1.2)
theorem anK (p:gA) (r:TR) (ok:Nat->Prop) (t:eY) (w:H) (h:kX p r ok w t):
 aA aq 7 #[aP (A ⟨p.tb,0,G⟩),aF #[Y Z 5,Y Z 0,O G 0 0]] w λe w'=>e=bG (aL #[Y Z (Tr.eval t.m t.d t.s.ps).1,Y Z (Tr.eval t.m t.d t.s.ps).2])/\ay w w w':=by
 obtain⟨aB,hk⟩:∃k:Int,(5:Int)=k:=⟨_,rfl⟩;obtain⟨n,hn⟩:∃n:Nat,(0:Int)=(n:Int):=⟨0,rfl⟩;rw[hk,hn];have K0:=V ((aE.fg w (sy aB (n:Int) G 0 0)).and (h.bt.alloc (sy aB (n:Int) G 0 0)));have s0:=bP K0.F.1.1;have Nl:=bh K0.F.2.1 25 (v:=aK ae) rfl;obtain⟨w1,eI⟩:∃u,li w (sy aB (n:Int) G 0 0)=u:=⟨_,rfl⟩;have HE:=V (λw' (hb:ay w1 w1 w')=>adN t.m t.d t.s.ps ok ok r.xa r.xl r.xm r.da r.dl r.dm r.pa r.pl r.pm w' (K0.aQ (eI▸hb)).2.2.net (K0.aQ (eI▸hb)).2.2.data (K0.aQ (eI▸hb)).2.2.ps.Bz);have HW:=V eI;obtain⟨R,hR⟩:=J (Tr.eval t.m t.d t.s.ps);rw[hR]at HE⊢;clear h hR hn eI;subst hk;go_enter func7,ntmps7;go_upto_region 14 with fail;rw[HW.I]at K0⊢;clear HW s0 Nl;refine cS (λw':H=>w'.heap[p.tb]? =A (ag (r.cells p t) 76 (0,0))) ?_;have hS:w1.drew.heap[p.tb]? =A (ag (r.cells p t) 76 (0,0)):=K0.F.2.1;refine bR hS [0,4,8,1,5,9,2,6,10,3,7,11,12] (λ_ h=>EB h) (bL 13 λK hK=> ?_);go_simp;refine bY (HE.I w1.drew (below_drewN w1 1)) λw2 hb=> ?_;have HB:=V (K0.F.1.2.step ((below_drewN w1 1).step hb));have bX:=bV hS hb;clear hb HE hS;refine bB hK bX ?_;refine cQ bX [14,15,16,17] (bW ?_);clear bX;go_wp2_with fail;refine aZ (v:=aL #[Y Z R.1,Y Z R.2]) Q48 rfl ⟨rfl,HB.I⟩
def Tr.told (t:eY):Int×Int:=if(Tr.check t).1 =0 then(t.s.step,0)else(0,(Tr.check t).1)
theorem Tr.aeh {t:eY}:(Tr.check t).2.s=t.s:=by
 unfold Tr.check;split
 .rfl
 .split<;>rfl
theorem anL (p:gA) (r:TR) (ok:Nat->Prop) (t:eY) (w:H) (h:kX p r ok w t) (hn:t.kD p.N) (fY:∀b,w.heap.size<=b->ok b) (ho:t.k.ops<=800000000):
 aA aq 7 #[aP (A ⟨p.tb,0,G⟩),aF #[Y Z 2,Y Z 0,O G 0 0]] w (vu p ok (Tr.check t).2 w (aL #[Y Z (Tr.told t).1,Y Z (Tr.told t).2])):=by
 obtain⟨aB,hk⟩:∃k:Int,(2:Int)=k:=⟨_,rfl⟩;obtain⟨n,qh⟩:∃n:Nat,(0:Int)=(n:Int):=⟨0,rfl⟩;rw[hk,qh];have K0:=V ((aE.fg w (sy aB (n:Int) G 0 0)).and (h.bt.alloc (sy aB (n:Int) G 0 0)));have CK:=V (aef p r ok t _ K0.F.2 hn (λb hb=>fY b (eH K0.F.1.2.size hb)) U);have s0:=bP K0.F.1.1;have Nl:=bh K0.F.2.1 25 (v:=aK ae) rfl;have tV:=V (show Tr.told t=if(Tr.check t).1 =0 then(t.s.step,0)else(0,(Tr.check t).1)from rfl);have HS:=V (Tr.aeh (t:=t));generalize Tr.told t=T at*;generalize Tr.check t=R at*;obtain⟨re,rt⟩:=R;clear h qh;subst hk;go_enter func7,ntmps7;go_wp2_with fail;refine CK.I.mono ?_;rintro e' w1 ⟨rfl,⟨r1,gZ⟩,cA⟩;have HR:=V (aw gZ cA);have Rj:=bh gZ.1 18 (v:=Y Z t.s.step) (by show A (Y Z rt.s.step)=_;rw[HS.I]);clear gZ cA CK s0 Nl;try dsimp only
 try dsimp only at tV
 by_cases he:re=0
 .subst he;obtain rfl:(t.s.step,0)=T:=by rw[tV.I,aR rfl]
  go_wp2_with fail;refine aZ (v:=aL #[Y Z t.s.step,Y Z 0]) Q48 rfl (vu.jD ⟨rfl,⟨r1,HR.I.1⟩,HR.I.2⟩ K0.F.1.2)
 .have e1:(re != 0)=true:=by simpa using he
  obtain rfl:(0,re)=T:=by rw[tV.I,aI he]
  go_wp2_with fail;refine aZ (v:=aL #[Y Z 0,Y Z re]) Q48 rfl (vu.jD ⟨rfl,⟨r1,HR.I.1⟩,HR.I.2⟩ K0.F.1.2)
def Tr.u9 (t:eY) (s:dJ):eY:={t with k:=t.k.u9.flush,j:=Jr.opened t.k.sure,s:=s,saved:=s.step,has:=true}
def Nm (p:gA) (t:eY) (v:aj) (w:H) (e:dN) (w':H):Prop:=e=bG v/\(∃jb r,kX {p with jb:=jb} r (λb=>¬({p with jb:=jb}:gA).M b) w' t)/\ar w p.M w w'
theorem anM (p:gA) (r:TR) (t:eY) (s:dJ) (w:H) (h:kX p r (λb=>¬p.M b) w t) (hN:4<=p.N/\p.N<=4096) (ho:0<=t.k.ops/\t.k.ops<=800000000) (hg:(Jr.opened t.k.sure).gen≠0) (hl:(Jr.opened t.k.sure).last=ZY.enc s) (hm:s.aH=true) (gD:P.Z4 s.au) (lQ:∀q∈s.ps,q.wf):
 aA aq 23 #[aP (A ⟨p.tb,0,G⟩),O G 0 0] w (Nm p (Tr.u9 t s) (aL #[Y Z s.step,Y Z 0]) w):=by
 have c20:=bh h.1 20 (v:=aP (A ⟨p.db,0,G⟩)) rfl;have aT:=h.2.lt;have vR:=bH h.1;have cI:=h.2.ne;have hL:=ZY.aee hm;have CR:=V (an2 (p.q w.heap.size) G 0 0 t.k w h.2.JG);have DE:=V (λa l c w' hr=>aby s a l c w' hr hm gD lQ);have HT:=V h;have HG:=V hg;have I9:=V hl;have zj:=V hL;clear h hg hl hL lQ;go_enter func23,ntmps23;go_wp2_with fail;refine CR.I.mono ?_;rintro e' w1 ⟨rfl,yJ,ot⟩;have pQ:=V yJ;have wh:=ot.size;have IQ:ar w p.ZY w w1:=ot.mono (bu _) (λb _ e=>bJ e);have jW:=V (IQ.bC vR cI.1 HT.I.1);have c20:=bh jW.I 20 (v:=aP (A ⟨p.db,0,G⟩)) rfl;have uY:=V IQ;have OP:=V (ae8 (p.q w.heap.size) t.k.u9 w1 pQ.I hN.1 hN.2 ho.1 Q4f);clear IQ;go_wp2_with fail;refine OP.I.mono ?_;rintro e' w2 ⟨jb,rfl,Yb,Rl,Kv,hj,ig⟩;have asT:=ig.size;have IZ:ar w1 p.ZY w1 w2:=ig.mono (bu _) (λb _ e=>bJ e);have dA:=V (IZ.bC (bH jW.I) cI.1 jW.I);have jF:=V (uY.I.trans' (IZ.mono (C:=w) wh (λ_ _ h=>h)) (bu _));have vr:=V Kv;have Cv:=V hj;have LA:=V (anu p.db jb _ _ w2 hj (by show(Jr.opened t.k.sure).last.length<=_;rw[I9.I];have:=zj.I.2;omega));have e0:((Jr.opened t.k.u9.aN).gen != 0)=true:=(by simpa using HG.I:((Jr.opened t.k.sure).gen != 0)=true);have HE0:=V (@id ((if(Jr.opened t.k.u9.aN).gen=0 then[]else(Jr.opened t.k.u9.aN).last)=ZY.enc s) (by show(if(Jr.opened t.k.sure).gen=0 then[]else(Jr.opened t.k.sure).last)=ZY.enc s;rw[aI HG.I];exact I9.I));rw[e0,HE0.I]at LA;clear hj IZ e0 HE0 HG I9;go_wp2_with fail;refine LA.I.mono ?_;rintro e' w3 ⟨la,ln,lc,rfl,dY,eg⟩;have mU:=V dY;have gV:=V eg;clear dY LA;go_wp2_with fail;refine(DE.I _ _ _ w3 mU.I).mono ?_;rintro e' w4 ⟨da,dn,dc,rfl,jd,-,hb⟩;have Nk:=bZ w4 (ag (s.cells da dn dc) 48);have xZ:=aD w4 (ag (s.cells da dn dc) 48);have dO:=V (gV.I.step (hb.step xZ));have Rm:=V Nk;have anN:=gV.I.size;have tW:=V (jd.below iF U xZ);have anO:w2.heap.size<=w4:=eH anN hb.size;clear jd Nk xZ;unfold dJ.cells;try dsimp only
 go_upto_region 13 with fail;unfold dJ.cells at Rm tW dO;obtain⟨sb,sH⟩:∃u,w4.heap.size=u:=⟨_,rfl⟩;rw[sH]at Rm anO⊢;clear sH;generalize li w4 (kI s.au s.step da dn dc)=w5 at*;have eW:=V (bV dA.I dO.I);have anP:sb≠p.tb:=E (bH dA.I);have hs:∀(u:H) (i:Nat) (v:aj),u.heap[sb]? =A (kI s.au s.step da dn dc)->(u.setCell ⟨p.tb,i,G⟩ v).heap[sb]? =A (kI s.au s.step da dn dc):=λu i v h=>(gj v anP).trans h;have gO:=V hs;clear hs;refine cS (λw':H=>w'.heap[sb]? =A (kI s.au s.step da dn dc)) ?_;have hS:w5.drew.heap[sb]? =A (kI s.au s.step da dn dc):=Rm.I;refine bR hS [0,1,2,3,4,5,6,7,8,9] (λ_ h=>bP h) ?_;have xQ:w5.drew.heap[p.tb]? =_:=eW.I;have JI:=V (show ay w2 w2 w5.drew from dO.I.bI 1);have HPd:=V (show rM _ w5.drew da dn s.ps from tW.I.below iF U (below_drewN w5 1));clear Rm;generalize w5.drew=w5 at*;obtain⟨-,-,d0,d1,d2⟩:=EB xQ;have c21:=bh xQ 21 (v:=aP (A ⟨p.jb,0,G⟩)) rfl;have c22:=bh xQ 22 (v:=Y Z t.saved) rfl;have c23:=bh xQ 23 (v:=aK t.has) rfl;have Nl:=bh xQ 25 (v:=aK ae) rfl;have qf:=λj=>cE xQ j;refine bL 10 λK hK=> ?_;go_simp;refine bB hK (gO.I _ _ _ hS) ?_;refine cQ (gO.I _ _ _ hS) [11,12] (bL 13 λK hK=> ?_);go_simp;refine bB hK (gO.I _ _ _ (gO.I _ _ _ (gO.I _ _ _ (gO.I _ _ _ hS)))) ?_;refine cQ (gO.I _ _ _ (gO.I _ _ _ (gO.I _ _ _ (gO.I _ _ _ hS)))) [14,15] (bL 16 λK hK=> ?_);go_simp;refine bB hK (gO.I _ _ _ (gO.I _ _ _ (gO.I _ _ _ (gO.I _ _ _ (gO.I _ _ _ hS))))) ?_;refine cQ (gO.I _ _ _ (gO.I _ _ _ (gO.I _ _ _ (gO.I _ _ _ (gO.I _ _ _ hS))))) [17,18] (bL 19 λK hK=> ?_);go_simp;refine bB hK (gO.I _ _ _ (gO.I _ _ _ (gO.I _ _ _ (gO.I _ _ _ (gO.I _ _ _ (gO.I _ _ _ hS)))))) ?_;refine cQ (gO.I _ _ _ (gO.I _ _ _ (gO.I _ _ _ (gO.I _ _ _ (gO.I _ _ _ (gO.I _ _ _ hS)))))) [20,21] (bL 22 λK hK=> ?_);go_simp;refine bB hK (gO.I _ _ _ (gO.I _ _ _ (gO.I _ _ _ (gO.I _ _ _ (gO.I _ _ _ (gO.I _ _ _ (gO.I _ _ _ hS))))))) ?_;refine bW ?_;have Ym:=(gO.I _ 25 (aK ae) (gO.I _ 22 (Y Z 0) (gO.I _ 23 (aK true) (gO.I _ 19 (O da dn dc) (gO.I _ 18 (Y Z s.step) (gO.I _ 17 (Y cD s.au) (gO.I _ 21 (aP jb) hS)))))));have z0:=bP Ym;have Rn:=dF (f:=25) (dF (f:=22) (dF (f:=23) (dF (f:=19) (dF (f:=18) (dF (f:=17) (dF (f:=21) xQ (aP jb)) (Y cD s.au)) (Y Z s.step)) (O da dn dc)) (aK true)) (Y Z 0)) (aK ae);have asU:=bh Rn 22 (v:=Y Z 0) bK;have asV:=cE Rn 22;have HTf:=V (dF (f:=22) Rn (Y Z s.step));have uG:=V Ym;have uV:=V ((((((((ar.cP w5 (λb=>b=p.tb) w5).set (g:=p.tb) (aM rfl) 21 (aP jb)).set (g:=p.tb) (aM rfl) 17 (Y cD s.au)).set (g:=p.tb) (aM rfl) 18 (Y Z s.step)).set (g:=p.tb) (aM rfl) 19 (O da dn dc)).set (g:=p.tb) (aM rfl) 23 (aK true)).set (g:=p.tb) (aM rfl) 22 (Y Z 0)).set (g:=p.tb) (aM rfl) 25 (aK ae));clear hS xQ Ym Rn;generalize(ss (ss (ss (ss (ss (ss (ss w5 ⟨p.tb,21,G⟩ (aP jb)) ⟨p.tb,17,G⟩ (Y cD s.au)) ⟨p.tb,18,G⟩ (Y Z s.step)) ⟨p.tb,19,G⟩ (O da dn dc)) ⟨p.tb,23,G⟩ (aK true)) ⟨p.tb,22,G⟩ (Y Z 0)) ⟨p.tb,25,G⟩ (aK ae))=w6 at*;have z0:=bP uG.I;go_wp2_with fail;refine aZ (v:=aL #[Y Z s.step,Y Z 0]) (by simp[aW,results23]) rfl ⟨rfl,⟨jb,{r with pa:=da,pl:=dn,pm:=dc},by have h:=HTf.I;simp only[dC,dD,dE]at h;exact h,?_⟩,?_⟩
 .have qU:=uV.I.set (g:=p.tb) (aM rfl) 22 (Y Z s.step);have anQ:jb<w2:=Rl;have rx:∀b,p.M b->b≠jb:=λb e=>by
   have hb:b<w:=by
    rcases e with e|e
    .omega
    .exact aT b e
   omega
  have hO:∀b,¬p.M b->b≠jb->¬({p with jb:=jb}:gA).M b:=λb h1 h2 e=>by
   rcases e with e|e|e
   .exact h1 (aM e)
   .exact h2 e
   .exact h1 (bJ (bJ e))
  have kA:ar w p.M w (ss w6 ⟨p.tb,22,G⟩ (Y Z s.step)):=((jF.I.mono (S':=p.M) (bu _) (λb _ e=>bJ e)).trans' ((ar.cZ (S:=p.M) JI.I).mono (C:=w) U (λ_ _ h=>h)) (bu _)).trans' (qU.mono (C:=w) (S':=p.M) (E JI.I.size) (λb _ e=>aM e)) (bu _);have Yn:=λb (hb:b<w.heap.size) (ho:¬p.M b)=>(⟨hb,ho,hO b ho U⟩:b<w.heap.size/\¬p.M b/\¬({p with jb:=jb}:gA).M b);have k2:ar w2 (λb=>b=p.tb) w2 (ss w6 ⟨p.tb,22,G⟩ (Y Z s.step)):=(ar.cZ (S:=λb=>b=p.tb) JI.I).trans' qU JI.I.size;have rV:∀b,w2.heap.size<=b->¬({p with jb:=jb}:gA).M b:=λb hb e=>by
   rcases e with e|e|e
   .have e:b=p.tb:=e;omega
   .have e:b=jb:=e;omega
   .have:=aT b (bJ e);omega
  have rU:∀b,w1.heap.size<=b->b≠jb->¬({p with jb:=jb}:gA).M b:=λb hb hn e=>by
   rcases e with e|e|e
   .have e:b=p.tb:=e;omega
   .exact hn e
   .have:=aT b (bJ e);omega
  have hR:=HT.I.2;refine⟨hR.net.move gL U kA Yn,hR.data.move iG U kA Yn,hR.fst.move kA Yn,HPd.I.move iF U qU (λb hb h=>⟨hb,U,rV b U⟩),?_,?_,⟨λe=> ?_,λe=> ?_,λe=> ?_,λe=> ?_⟩,λb h=>h⟩
  .refine(vr.I.move k2 (λe=>cI.1 (bJ (aM e.symm))) (λe=>cI.1 (bJ (bJ (aM e.symm)))) (λe=>cI.1 (bJ (bJ (bJ e.symm)))) (λb e=>Q4Q)).base (λb e=> ?_) (bu _);have:=aT b (bJ e);have:=kA.size;omega
  .exact Cv.I.move k2 ⟨anQ,U⟩ (λb hb h=>⟨hb,by have:=h.1;omega,rU b h.1 h.2⟩)
  .rcases e with e|e
   .have e:p.tb=jb:=e;omega
   .exact cI.1 (bJ e)
  .have e:jb=p.db:=e;exact rx p.db (bJ (bJ (aM rfl))) e.symm
  .have e:jb=p.nb:=e;exact rx p.nb (bJ (bJ (bJ (aM rfl)))) e.symm
  .have e:jb=p.sb:=e;exact rx p.sb (bJ (bJ (bJ (bJ rfl)))) e.symm
 .have qU:=uV.I.set (g:=p.tb) (aM rfl) 22 (Y Z s.step);exact((jF.I.mono (S':=p.M) (bu _) (λb _ e=>bJ e)).trans' ((ar.cZ (S:=p.M) JI.I).mono (C:=w) U (λ_ _ h=>h)) (bu _)).trans' (qU.mono (C:=w) (S':=p.M) (E JI.I.size) (λb _ e=>aM e)) (bu _)
theorem anS:(aq.info? 102).map (λi=>(i.zero,i.size,i.bytes))=A (A (aF #[Y Z 0,Y Z 0,Y Z 0,Y Z 0,Y Z 0,Y Z 0,aK ae]),7,56):=Q2Q
theorem aei {g:Nat} {x0 x1 x2 x3 y0 y1 y2 y3:aj} (h:w.heap[g]? =A (ag #[x0,x1,x2,x3] t (0,0))):
 (ss (ss (ss (ss w g y0) ⟨g,1,G⟩ y1) ⟨g,2,G⟩ y2) ⟨g,3,G⟩ y3).heap[g]? =A (ag #[y0,y1,y2,y3] t (0,0)):=by
 simpa using dF (f:=3) (dF (f:=2) (dF (f:=1) (dF (f:=0) h y0) y1) y2) y3
theorem aej (L:List Lay):((L.map Lay.cells).flatMap jf).length=L.length*7:=by
 induction L with
 |nil=>rfl
 |cons x L ih=>rw[List.map_cons,List.flatMap_cons,dG,ih];simp[Lay.cells];omega
theorem anT (L:List Lay):∀u∈(L.map Lay.cells).flatMap jf,u.oneCell'=true:=by
 intro u hu;obtain⟨cs,hcs,hu⟩:=List.mem_flatMap.1 hu;obtain⟨x,-,rfl⟩:=kG.1 hcs;simp[Lay.cells]at hu;rcases hu with rfl|rfl|rfl|rfl|rfl|rfl|rfl<;>rfl
theorem cH.news {ok:Nat->Prop} {b off:Nat} {L:List Lay} (h:cH iM 7 ok w (A ⟨b,off,G⟩) n L):∀j u,((L.map Lay.cells).flatMap jf)[j]? =A u->w.cell? ((⟨b,off,G⟩:Addr).add j)=A u:=by
 intro j u hu;have hj:j<L.length*7:=by rw[<-aej];exact(fX.1 hu).1
 have hi:j/7<L.length:=U;obtain⟨b2,asW,cs,he,_,hE,hcs⟩:=h.get (i:=j/7) (x:=L[j/7]'hi) bK
 cases he;have hE:cs=(L[j/7]'hi).cells:=hE;have dQ:cs.size=7:=by rw[hE];rfl
 obtain⟨v,hv⟩:∃v,cs[j%7]? =A v:=⟨cs[j%7]'U,Q2W⟩;have hf:=flat_get (sz:=7) (L.map Lay.cells) (j/7) (j%7) cs v (λc hc=>by
  obtain⟨x,-,rfl⟩:=kG.1 hc;rfl) (by rw[List.getElem?_map,cR hi,hE];rfl) hv
 rw[show j/7*7+j%7=j by omega,hu]at hf;injection hf with hf;subst hf;have:=hcs (j%7) u hv;rw[Addr.add_mid,show off+j=off+j/7*7+j%7 by omega];exact this
theorem anU.on {B g c:Nat} {L:List Lay} (h:w.ownsRow B 102 7 (O g n c) n ((L.map Lay.cells).flatMap jf)) (hn:L.length=n) (hl:n<=100):cH iM 7 (λb=>B<=b) w g n L:=by
 subst hn;obtain⟨a,c2,hv,-,hm,-⟩:=gy.on (ZU:=iM) gL U (P:=λ_=>False) (ok:=λb=>B<=b) (L:=L) (n:=L.length) (CS:=L.map Lay.cells) ⟨Q2W,λi x hx=>⟨x.cells,by simp[hx],rfl⟩,h⟩ rfl U (λb _ h=>h.elim) (λb _ h=>h)
 cases hv;exact hm
theorem ar.Ro {B g:Nat} {a:H} (h:ar B S a w) (hg:S g\/B<=g) (y0 y1 y2 y3 y4 y5:aj):ar B S a (ss (ss (ss (ss (ss (ss w g y0) ⟨g,1,G⟩ y1) ⟨g,2,G⟩ y2) ⟨g,3,G⟩ y3) ⟨g,4,G⟩ y4) ⟨g,5,G⟩ y5):=(((((h.set hg 0 y0).set hg 1 y1).set hg 2 y2).set hg 3 y3).set hg 4 y4).set hg 5 y5
def aek (m:Mod) (w:H) (e:dN) (w':H):Prop:=∃a n c,e=bG (aF (m.cells a n c))/\cH iM 7 (λb=>w.heap.size<=b) w' a n m.L/\ay w w w'
theorem anV (m:Mod) (ok:Nat->Prop) (xa:aC) (xl xm:Nat) (w:H) (h:cH iM 7 ok w xa xl m.L) (h1:1<=xl) (h2:xl<=12):aA aq 18 #[aF (m.cells xa xl xm)] w (aek m w):=by
 have K0:=V (aE.fG w (ag (m.cells xa xl xm) 25) (mG 0 0 0 G 0 0));have hlen:=h.1;obtain⟨b,off,rfl⟩:∃b off,xa=A ⟨b,off,G⟩:=by
  rcases h.2.2 with h3|⟨b,off,h3,_⟩
  .omega
  .exact⟨b,off,h3⟩
 obtain⟨L7,Rp⟩:=J ((m.L.map Lay.cells).flatMap jf);have HN:=V ((h.below gL U K0.F.2.2).news);have HO:=V (anT m.L);have BQ:=V (show L7.length=xl*7 by rw[<-Rp,aej,hlen]);rw[Rp]at HN HO;have HL7:=V (aw Rp hlen);obtain⟨i0,hi,cF,cG,cB⟩:=fB anS;have f0:=eQ K0.F.1;have dQ:(li (li w (ag (m.cells (A ⟨b,off,G⟩) xl xm) 25)) (mG 0 0 0 G 0 0)).heap.size=w.heap.size+1+1:=Q4u;have HSz:=V dQ;clear h hlen dQ Rp;go_enter func18,ntmps18
 let pq:=gW aq Tryz.f18 (λ_ _=>True)
 generalize dS:gW aq Tryz.f18 (aek m w)=BP;have dB:=V dS;have jM:=oz dS;clear dS;go_wp2_with (at_builtin;refine ko _ rfl _ _ 23 rfl (w.heap.size+1+1) 102 i0 (aF #[Y Z 0,Y Z 0,Y Z 0,Y Z 0,Y Z 0,Y Z 0,aK ae]) 7 56 underlying23 hi cF cG cB rfl eM (O G 0 0) 0 [] rfl (gP _ _ _ _) ⟨b,off,G⟩ xl xm L7 rfl BQ.I HN.I HO.I Q2V U (Nat.le_of_eq HSz.I.symm) h1 ?_)
 intro g1 fh w3 cC bM cN ei fC;have eg:ay (li (li w (ag (m.cells (A ⟨b,off,G⟩) xl xm) 25)) (mG 0 0 0 G 0 0)).heap.size _ w3:=⟨bM.os,bM.tape,bM.output,bM.size,λb hb=>bM.block b hb (λe=>Q4Q)⟩;have K3:=K0.bU eg;have pX:=cC.lt g1 rfl;have jO:=V cC;clear cC bM cN ei fC HN HO hi;have f0:=eQ K3.F.1;have z0:=eQ K3.F.2.1;have q3:=cE K3.F.1 3;have qz:=λj=>cE K3.F.2.1 j;go_wp2_with fail;rw[<-dB.I];have kp:=(((((ar.cP w3 (λb=>b=w.heap.size\/b=w.heap.size+1) w3).set (g:=w) (aM (aM rfl)) 3 (O g1 xl fh)).set (g:=w+1) (aM (bJ rfl)) 0 (Y Z m.a)).set (g:=w+1) (aM (bJ rfl)) 1 (Y Z m.b)).set (g:=w+1) (aM (bJ rfl)) 2 (Y Z m.c)).set (g:=w+1) (aM (bJ rfl)) 3 (O g1 xl fh);refine aZ (v:=aF (m.cells g1 xl fh)) ?_ rfl ⟨A ⟨g1,0,G⟩,xl,fh,rfl,?_,?_⟩
 .have hz:=(gj (O g1 xl fh) (w:=w3) (g:=w) (f:=3) (b:=w+1) U).trans K3.F.2.1;have t0:=eQ (aei (y0:=Y Z m.a) (y1:=Y Z m.b) (y2:=Y Z m.c) (y3:=O g1 xl fh) hz);simp[aW,results18,go_sem,t0]
 .have hm:=anU.on (L:=m.L) (by rw[HL7.I.1];exact jO.I) HL7.I.2 U;exact hm.move gL U kp (λb hb h=>⟨hb,U,U⟩)
 .exact ar.nO K3.F.2.2 kp K3.F.2.2.size (λb e=>U)
def ael (d:dL) (w:H) (e:dN) (w':H):Prop:=∃a n c,e=bG (aF (d.cells a n c))/\cH kz 2 (λb=>w.heap.size<=b) w' a n d.xs/\ay w w w'
theorem anW {ok:Nat->Prop} {L:List ky} (h:cH kz 2 ok w a n L):∀x∈L,∀y∈x.z,-128<=y/\y<=127:=by
 intro x hx y hy;obtain⟨i,hi⟩:=List.getElem?_of_mem hx;obtain⟨b,off,cs,_,_,hE,_⟩:=h.get hi;obtain⟨a1,l1,c1,rfl,h1⟩:=hE;exact Om (h1.1.wf y hy)
theorem anX (d:dL) (ok:Nat->Prop) (xa:aC) (xl xm:Nat) (w:H) (h:cH kz 2 ok w xa xl d.xs) (hm:d.aH=true):aA aq 19 #[aF (d.cells xa xl xm)] w (ael d w):=by
 have K0:=V (aE.fG w (ag (d.cells xa xl xm) 28) (qH 0 0 0 0 0 G 0 0));have EN:=V (ajx d ok xa xl xm _ (h.below iG U K0.F.2.2) hm);have DE:=V (λa l c w' hr=>ajD d a l c w' hr hm (anW h));have f0:=df K0.F.1;clear h;go_enter func19,ntmps19
 let pq:=gW aq Tryz.f19 (λ_ _=>True)
 generalize dS:gW aq Tryz.f19 (ael d w)=BP;have dB:=V dS;have jM:=oz dS;clear dS;go_wp2_with fail;refine EN.I.mono ?_;rintro e' w1 ⟨a,c,rfl,dY,-,-,hb⟩;have K1:=K0.bU hb;have HR:=V dY;clear dY;go_wp2_with fail;refine(DE.I _ _ _ w1 HR.I).mono ?_;rintro e' w2 ⟨da,dn,dc,rfl,Lq,-,hb⟩;have iK:=K1.F.2.2.size;have cG:=bH K1.F.2.1;have K2:=K1.bU hb;have HX:=V Lq;clear Lq hb;have f0:=df K2.F.1;have z0:=df K2.F.2.1;have qf:=λj=>cE K2.F.1 j;have qz:=λj=>cE K2.F.2.1 j;go_wp2_with fail;rw[<-dB.I];have k1:=(ar.cP w2 (λb=>b=w.heap.size) w2).Ro (aM rfl) (Y Z d.a) (Y Z d.b) (Y Z d.c) (Y Z d.e) (Y Z d.k) (O da dn dc);have j8:=bH K2.F.2.1;have hz:=k1.bC j8 (λe=>by have e:w.heap.size+1=w.heap.size:=e;omega) K2.F.2.1;have kp:=(k1.mono (S':=λb=>b=w.heap.size\/b=w.heap.size+1) (bu _) (λb _ e=>aM e)).Ro (g:=w+1) (aM (bJ rfl)) (Y Z d.a) (Y Z d.b) (Y Z d.c) (Y Z d.e) (Y Z d.k) (O da dn dc);refine aZ (v:=aF (d.cells da dn dc)) ?_ rfl ⟨da,dn,dc,rfl,?_,?_⟩
 .have t0:=df (Ps (y0:=Y Z d.a) (y1:=Y Z d.b) (y2:=Y Z d.c) (y3:=Y Z d.e) (y4:=Y Z d.k) (y5:=O da dn dc) hz);simp[aW,results19,go_sem,t0]
 .exact HX.I.move iG U kp (λb hb h=>⟨hb,U,U⟩)
 .exact ar.nO K2.F.2.2 kp K2.F.2.2.size (λb e=>U)
theorem Mod.anY {m:Mod} (h:(m.init au).1 =0):1<=m.L.length/\m.L.length<=12:=by
 unfold Mod.init at h;by_cases c:m.iy.2.2 ≠0
 .rw[aR c]at h;exact absurd h c
 have hm:=(Mod.zX (m:=m) (l:=m.iy.1) (n:=m.iy.2.1) (by
  have:m.iy.2.2 =0:=U;rw[<-this])).1
 have:=Mod.nT hm;omega
def Yo (m:Mod) (d:dL) (h:iV) (au:Int) (n:Nat) (w:H) (e:dN) (w':H):Prop:=
 (Tr.Cr m d h au≠0/\e=bG (aL #[aP G,Y Z (Tr.Cr m d h au)])/\ay w w w')\/
 (Tr.Cr m d h au=0/\∃p r,p.N=n/\e=bG (aL #[aP (A ⟨p.tb,0,G⟩),Y Z 0])/\kX p r (λb=>w.heap.size<=b/\¬p.M b) w' (Tr.new m d h au n).2 /\(∀b,p.M b->w.heap.size<=b)/\ay w w w')
theorem aem (m:Mod) (d:dL) (h:iV) (au:Int) (n:Nat) (nX rj:Nat->Prop) (xa:aC) (xl xm:Nat) (da:aC) (dl dm:Nat) (w:H) (hm:cH iM 7 nX w xa xl m.L) (hd:cH kz 2 rj w da dl d.xs) (gD:P.Z4 au) (hn:4<=n) (lU:n<=4096):
 aA aq 6 #[aF (m.cells xa xl xm),aF (d.cells da dl dm),mP h,Y cD au,Y Z (n:Int)] w (Yo m d h au n w):=by
 have K0:=V (aE.lj w (ag (m.cells xa xl xm) 25) (ag (d.cells da dl dm) 28) (nI h.b h.w h.r h.m h.d h.e));have KR:=V ((hm.bt gL U).and (hd.bt iG U));have DM:=V (Lm d rj da dl dm);have HM:=V (O6 h);have GO:=V (ac5 m d h nX xa xl xm da dl dm);have PI:=V (λw h1=>akm m nX xa xl xm au w h1 gD);obtain⟨ZU,hE⟩:=J (Tr.Cr m d h au);have HE:=V hE;unfold Tr.Cr at hE;have HIm:=V (Mod.aec (m:=m) (au:=au));have AF:=V (show(Tr.new m d h au n).2 =⟨m,d,h,(ZY.encode ⟨au,0,(m.init au).2⟩).2,⟨au,0,(m.init au).2⟩,(fd.new n).flush,Jr.opened (fd.new n).aN,0,ae,0⟩from rfl);obtain⟨A1,qW⟩:∃Z3,d.aH=Z3:=⟨_,rfl⟩;obtain⟨A2,xV⟩:∃Z3,h.aH=Z3:=⟨_,rfl⟩;rw[qW,xV]at hE;rw[qW]at DM;rw[xV]at HM;have HR:=V hE;have XQ:=V qW;have Jo:=V (Mod.anY (m:=m) (au:=au));have oO:=V hm.1;unfold mP;unfold mP at HM GO;clear hm hd hE qW xV;have f0:=eQ K0.F.1;have g0:=df K0.F.2.1;have q0:=df K0.F.2.2.1;go_enter func6,ntmps6;go_wp2_with fail;refine bY (DM.I _ (KR.aQ K0.F.2.2.2).2) λw2 hb=> ?_;have K1:=K0.bU hb;clear hb DM;have q0:=df K1.F.2.2.1;have Rq:=V (λ(w':H) (hb:ay w w w') (c:ZU≠0)=>(aM ⟨by rw[HE.I];exact c,by rw[HE.I],hb⟩:Yo m d h au n w (bG (aL #[aP G,Y Z ZU])) w'))
 cases A1
 .obtain rfl:1=ZU:=by rw[<-HR.I,aR bK]
  go_wp2_with fail;refine aZ (v:=aL #[aP G,Y Z 1]) Q49 rfl (Rq.I _ K1.F.2.2.2 eM)
 go_wp2_with fail;refine bY (HM.I _) λw3 hb=> ?_;have K2:=K1.bU hb;clear hb HM
 cases A2
 .obtain rfl:1=ZU:=by rw[<-HR.I,aR bK]
  go_wp2_with fail;refine aZ (v:=aL #[aP G,Y Z 1]) Q49 rfl (Rq.I _ K2.F.2.2.2 eM)
 have cU:=V (show(if m.goes d h≠0 then m.goes d h else(m.init au).1)=ZU from by have:=HR.I;rwa[aI bK]at this);clear HR;have f0:=eQ K2.F.1;have g0:=df K2.F.2.1;have q0:=df K2.F.2.2.1;go_wp2_with fail;refine bY (GO.I _ (KR.aQ K2.F.2.2.2).1) λw4 hb=> ?_;have K3:=K2.bU hb;by_cases c6:m.goes d h=0
 case neg=>
  have e6:(m.goes d h != 0)=true:=Q52;obtain rfl:m.goes d h=ZU:=by rw[<-cU.I,aR c6]
  have HC:=V c6;clear c6;generalize m.goes d h=ge at*;go_wp2_with fail;refine aZ (v:=aL #[aP G,Y Z ge]) Q49 rfl (Rq.I _ K3.F.2.2.2 HC.I)
 have e6:(m.goes d h != 0)=ae:=Q52;have fL:=V (show(m.init au).1 =ZU from by have:=cU.I;rwa[aI (λc=>c c6)]at this);clear cU c6;generalize m.init au=ini at*;obtain⟨ie,ps⟩:=ini;have f0:=eQ K3.F.1;go_wp2_with fail;refine(PI.I _ (KR.aQ K3.F.2.2.2).1).mono ?_;rintro e' w5 ⟨pa,pn,pc,rfl,jd,-,hb⟩;have gi:=K3.F.2.2.2.size;have jd:=jd.move (fJ:=λb=>w.heap.size<=b/\b<w5.heap.size) iF U (ar.cP w5 (λ_=>False) w5) (λb hb h=>⟨hb,id,U,hb⟩);have K4:=V ((K3.I.step hb).and (jd.bt iF U));clear jd e6;try dsimp only
 by_cases c7:ie=0
 case neg=>
  have e7:(ie != 0)=true:=by simpa using c7
  obtain rfl:ie=ZU:=fL.I;go_wp2_with fail;refine aZ (v:=aL #[aP G,Y Z ie]) Q49 rfl (Rq.I _ K4.F.1.2.2.2 c7)
 subst c7;obtain rfl:0=ZU:=fL.I;have uZ:=HIm.I rfl;have yQ:=V uZ;have fP:=Jo.I rfl;rw[oO.I]at fP;clear uZ;go_upto_region 9 with fail;have ON:=V (λw' h=>anV m nX xa xl xm w' h fP.1 fP.2);have OD:=V (λw' h=>anX d rj da dl dm w' h XQ.I);have DN:=V (an6 n lU);refine cS (λw':H=>w'.heap[w.heap.size]? =A (ag (m.cells xa xl xm) 25 (0,0))/\w'.heap[w.heap.size+1]? =A (ag (d.cells da dl dm) 28 (0,0))/\w'.heap[w.heap.size+1+1]? =A (nI h.b h.w h.r h.m h.d h.e)) ?_;have iL:ay w5 w5 w5.drew:=below_drewN w5 1;have hS:=(K4.aQ iL).1;refine bR (⟨hS.1,hS.2.1,hS.2.2.1⟩) [0,2,4,5] (λ_ h=>aw (eQ h.1) (aw (df h.2.1) (df h.2.2))) (bL 1 λK hK=> ?_);go_simp;refine(ON.I _ (KR.aQ hS.2.2.2).1).mono ?_;rintro e' w6 ⟨na,nn,nc,rfl,zB,hb⟩;have cO:=iL.step hb;have py:=(K4.aQ cO).1;have hw6:=cO.size;have hd5:w5.drew.heap.size=w5.heap.size:=rfl;have By:=K4.F.1.2.2.2.size;have zB:=zB.move (fJ:=λb=>w.heap.size<=b/\b<w6.heap.size) gL U (ar.cP w6 (λ_=>False) w6) (λb hb h=>⟨hb,id,U,hb⟩);have anZ:=V (zB.bt gL U);clear zB hS;refine cY hK (⟨py.1,py.2.1,py.2.2.1⟩) 3 λK hK=> ?_;go_simp;refine(OD.I _ (KR.aQ py.2.2.2).2).mono ?_;rintro e' w7 ⟨ea,en,ec,rfl,Rr,hb⟩;have dR:=cO.step hb;have ao0:=V (anZ.I.step hb);have G5:=(K4.aQ dR).1;have Lc:=hb.size;have Rr:=Rr.move (fJ:=λb=>w.heap.size<=b/\b<w7.heap.size) iG U (ar.cP w7 (λ_=>False) w7) (λb hb h=>⟨hb,id,U,hb⟩);have ao1:=V (Rr.bt iG U);clear Rr;refine cY hK (⟨G5.1,G5.2.1,G5.2.2.1⟩) 6 λK hK=> ?_;go_simp;refine(DN.I _).mono ?_;rintro e' w8 ⟨q,JC,rfl,Nf,wU,hb⟩;have ej:=dR.step hb;have xS:=(K4.aQ ej).1;have ao2:=V (ao0.I.step hb);have ao3:=V (ao1.I.step hb);have JD:=V Nf;have GU:=V wU;have ao4:=hb.size;clear hb Nf wU;refine bB hK (⟨xS.1,xS.2.1,xS.2.2.1⟩) ?_;refine cQ (⟨xS.1,xS.2.1,xS.2.2.1⟩) [7] (bL 8 λK hK=> ?_);go_simp;have gK:=λo=>ej.step (aD w8 o);have zS:=λo=>(K4.aQ (gK o)).1;refine bB hK (⟨(zS _).1,(zS _).2.1,(zS _).2.2.1⟩) ?_;refine cQ (⟨(zS _).1,(zS _).2.1,(zS _).2.2.1⟩) [9] (bW ?_);have hn9:=bZ w8 (ag #[Y Z m.a,Y Z m.b,Y Z m.c,O na nn nc,Y Z d.a,Y Z d.b,Y Z d.c,Y Z d.e,Y Z d.k,O ea en ec,Y Z h.b,Y Z h.w,Y Z h.r,Y Z h.m,Y Z h.d,Y Z h.e,O G 0 0,Y cD 0,Y Z 0,O G 0 0,aP (A ⟨q.db,0,G⟩),aP G,Y Z 0,aK ae,Y Z 0,aK ae] 76);have gX:=aD w8 (ag #[Y Z m.a,Y Z m.b,Y Z m.c,O na nn nc,Y Z d.a,Y Z d.b,Y Z d.c,Y Z d.e,Y Z d.k,O ea en ec,Y Z h.b,Y Z h.w,Y Z h.r,Y Z h.m,Y Z h.d,Y Z h.e,O G 0 0,Y cD 0,Y Z 0,O G 0 0,aP (A ⟨q.db,0,G⟩),aP G,Y Z 0,aK ae,Y Z 0,aK ae] 76);have JJ:=V hn9;have rS:=V (ej.step gX);have ao5:=V (ao2.I.step gX);have ao6:=V (ao3.I.step gX);have ao7:=V (JD.I.below gX);have aen:4<=q.N/\q.N<=4096:=U;have hqB:=JD.I.lt;obtain⟨tb,sO⟩:∃u,w8.heap.size=u:=⟨_,rfl⟩;have Yp:=bH hn9;rw[sO]at JJ Yp hqB ao4⊢;clear gX sO;generalize li w8 (ag #[Y Z m.a,Y Z m.b,Y Z m.c,O na nn nc,Y Z d.a,Y Z d.b,Y Z d.c,Y Z d.e,Y Z d.k,O ea en ec,Y Z h.b,Y Z h.w,Y Z h.r,Y Z h.m,Y Z h.d,Y Z h.e,O G 0 0,Y cD 0,Y Z 0,O G 0 0,aP (A ⟨q.db,0,G⟩),aP G,Y Z 0,aK ae,Y Z 0,aK ae] 76)=w9 at*;have OP:=V (ae8 q (fd.new n) w9 ao7.I aen.1 aen.2 (by show(0:Int)<=0;omega) (by show(0:Int)<=_;omega));have c20:=bh JJ.I 20 (v:=aP (A ⟨q.db,0,G⟩)) rfl;have Nn:∀b,q.S b->b<tb:=λb e=>by rcases e with e|e|e<;>omega
 go_wp2_with fail;refine OP.I.mono ?_;rintro e' fU ⟨jb,rfl,Yb,Rl,ao8,hj,Yq⟩;have Yr:=Yq.bC Yp (λe=>E (Nn tb e)) JJ.I;have ao9:=V Yr;have aoa:=V ao8;have aob:=V hj;have aoc:=V Yq;have aod:=Yq.size;have c21:=bh Yr 21 (v:=aP G) rfl;have q21:=cE Yr 21;clear hj JJ;go_upto_region 11 with fail;have aeo:(ss fU ⟨tb,21,G⟩ (aP jb)).heap[tb]? =A (ag #[Y Z m.a,Y Z m.b,Y Z m.c,O na nn nc,Y Z d.a,Y Z d.b,Y Z d.c,Y Z d.e,Y Z d.k,O ea en ec,Y Z h.b,Y Z h.w,Y Z h.r,Y Z h.m,Y Z h.d,Y Z h.e,O G 0 0,Y cD 0,Y Z 0,O G 0 0,aP (A ⟨q.db,0,G⟩),aP jb,Y Z 0,aK ae,Y Z 0,aK ae] 76 (0,0)):=by simpa using dF (f:=21) ao9.I (aP jb)
 have DV:=V aeo;have aep:=V ((ar.cP fU (λb=>b=tb) fU).set (g:=tb) (aM rfl) 21 (aP jb));clear aeo;have asY:=aep.I.size;generalize ss fU ⟨tb,21,G⟩ (aP jb)=BV at*;have GX:=bh DV.I 17 (v:=Y cD 0) rfl;have Rj:=bh DV.I 18 (v:=Y Z 0) rfl;have c19:=bh DV.I 19 (v:=O G 0 0) rfl;have qf:=λj=>cE DV.I j;go_upto_region 14 with fail;have aeq:(ss (ss (ss BV ⟨tb,17,G⟩ (Y cD au)) ⟨tb,18,G⟩ (Y Z 0)) ⟨tb,19,G⟩ (O pa pn pc)).heap[tb]? =A (ag #[Y Z m.a,Y Z m.b,Y Z m.c,O na nn nc,Y Z d.a,Y Z d.b,Y Z d.c,Y Z d.e,Y Z d.k,O ea en ec,Y Z h.b,Y Z h.w,Y Z h.r,Y Z h.m,Y Z h.d,Y Z h.e,O G 0 0,Y cD au,Y Z 0,O pa pn pc,aP (A ⟨q.db,0,G⟩),aP jb,Y Z 0,aK ae,Y Z 0,aK ae] 76 (0,0)):=by simpa using dF (f:=19) (dF (f:=18) (dF (f:=17) DV.I (Y cD au)) (Y Z 0)) (O pa pn pc)
 have Rs:=V aeq;have Rt:=V (((aep.I.set (g:=tb) (aM rfl) 17 (Y cD au)).set (g:=tb) (aM rfl) 18 (Y Z 0)).set (g:=tb) (aM rfl) 19 (O pa pn pc));clear aeq;generalize ss (ss (ss BV ⟨tb,17,G⟩ (Y cD au)) ⟨tb,18,G⟩ (Y Z 0)) ⟨tb,19,G⟩ (O pa pn pc)=sR at*;have asZ:=Rt.I.size;have Du:=V (show ar w9 (λb=>q.S b\/b=tb) w9 sR from(aoc.I.mono (S':=λb=>q.S b\/b=tb) (bu _) (λb _ e=>aM e)).trans' (Rt.I.mono (C:=w9) (S':=λb=>q.S b\/b=tb) aod (λb _ e=>bJ e)) (bu _));have lK:∀b,b<w7.heap.size->¬(q.S b\/b=tb):=λb hb e=>by
  rcases e with e|e
  .have:=GU.I b e;omega
  .omega
 have at0:w9.heap.size>tb:=Yp;have Ys:=λb (_:b<w9.heap.size) (ho:w.heap.size<=b/\b<w7.heap.size)=>(⟨U,lK b ho.2,ho⟩:b<w9.heap.size/\¬(q.S b\/b=tb)/\(w.heap.size<=b/\b<w7.heap.size));have aer:=V ((K4.aQ rS.I).2.move iF U Du.I (λb hb ho=>Ys b hb ⟨ho.1,U⟩));have Gp:=V (ao5.I.aN.move gL U Du.I (λb hb ho=>Ys b hb ⟨ho.1,U⟩));have aoe:=V (ao6.I.aN.move iG U Du.I Ys);have aof:=V (aoa.I.move Rt.I (λe=>by have e:q.db=tb:=e;omega) (λe=>by have e:q.nb=tb:=e;omega) (λe=>by have e:q.sb=tb:=e;omega) (λb e=>Q4Q));have aog:=V (aob.I.move Rt.I ⟨Rl,U⟩ (fJ:=λb=>w9.heap.size<=b/\b≠jb) (λb hb ho=>⟨hb,U,ho⟩));have aes:=V (show ay w w sR from ar.nO (K4.F.1.2.2.2.step rS.I) Du.I (E rS.I.size) (λb e=>by
  rcases e with e|e
  .have:=GU.I b e;omega
  .omega))
 have EN:=V (Ux ⟨au,0,ps⟩ pa pn pc sR aer.I.Bz yQ.I gD);have GX:=bh Rs.I 17 (v:=Y cD au) rfl;have Rj:=bh Rs.I 18 (v:=Y Z 0) rfl;have c19:=bh Rs.I 19 (v:=O pa pn pc) rfl;unfold dJ.cells at EN;dsimp only at EN
 go_wp2_with fail;refine EN.I.mono ?_;rintro e' G6 ⟨fa,fc,rfl,dY,-,kL,aet⟩;have Yt:=bV Rs.I aet;have Np:=bh Yt 16 (v:=O G 0 0) rfl;have q16:=cE Yt 16;have aoh:=V Yt;have HF:=V (show fR (λb=>sR.heap.size<=b) .u8 G6 fa _ _ from⟨dY,λx hx _=>(kL x hx).1⟩);have Ru:=V aet;clear dY kL EN;go_wp2_with fail;have kW:=(ar.cP G6 (λb=>b=tb) G6).set (g:=tb) (aM rfl) 16 (O fa (ZY.enc ⟨au,0,ps⟩).length fc);have aoi:=Ru.I.size;have JK:ar sR (λb=>b=tb) sR (ss G6 ⟨tb,16,G⟩ (O fa (ZY.enc ⟨au,0,ps⟩).length fc)):=(ar.cZ (S:=λb=>b=tb) Ru.I).trans' kW aoi;have he:ZY.encode ⟨au,0,ps⟩=(0,ZY.enc ⟨au,0,ps⟩):=by unfold ZY.encode;rw[aR yQ.I]
 have ht:(Tr.new m d h au n).2 =⟨m,d,h,ZY.enc ⟨au,0,ps⟩,⟨au,0,ps⟩,(fd.new n).flush,Jr.opened (fd.new n).aN,0,ae,0⟩:=by rw[AF.I,he]
 have Yu:∀b,(⟨tb,jb,q.db,q.nb,q.sb,n⟩:gA).M b->w7.heap.size<=b/\b<sR.heap.size:=λb e=>by
  rcases e with e|e|e
  .have e:b=tb:=e;omega
  .have e:b=jb:=e;omega
  .have h1:=GU.I b e;have h2:=Nn b e;omega
 have fH:=λb (_:b<sR.heap.size) (ho:w.heap.size<=b/\b<w7.heap.size)=>(⟨U,U,ho.1,λe=>E ((Yu b e).1)⟩:b<sR.heap.size/\¬b=tb/\(w.heap.size<=b/\¬(⟨tb,jb,q.db,q.nb,q.sb,n⟩:gA).M b));have dQ:G6.heap.size=(ss G6 ⟨tb,16,G⟩ (O fa (ZY.enc ⟨au,0,ps⟩).length fc)).heap.size:=(World.size_setCell _ _ _).symm;have hww:w.heap.size<=sR:=aes.I.size;refine aZ (v:=aL #[aP tb,Y Z 0]) Q49 rfl (bJ ⟨HE.I,⟨tb,jb,q.db,q.nb,q.sb,n⟩,⟨na,nn,nc,ea,en,ec,fa,(ZY.enc ⟨au,0,ps⟩).length,fc,pa,pn,pc⟩,rfl,rfl,?_,λb e=>E ((Yu b e).1),?_⟩)
 .rw[ht];refine⟨by have h:=dF (f:=16) aoh.I (O fa (ZY.enc ⟨au,0,ps⟩).length fc);simp only[dC,dD,dE]at h;exact h,Gp.I.move gL U JK fH,aoe.I.move iG U JK fH,HF.I.move kW (λb hb h=>⟨hb,U,U,λe=>E ((Yu b e).2)⟩),aer.I.move iF U JK fH,?_,aog.I.move JK ⟨U,U⟩ (λb hb h=>⟨hb,U,U,λe=> ?_⟩),⟨λe=> ?_,λe=> ?_,λe=> ?_,λe=> ?_⟩,λb h=>h.2⟩
  .have hh:=(aof.I.move JK (λe=>by have e:q.db=tb:=e;omega) (λe=>by have e:q.nb=tb:=e;omega) (λe=>by have e:q.sb=tb:=e;omega) (λb e=>Q4Q)).base (B:=(ss G6 ⟨tb,16,G⟩ (O fa (ZY.enc ⟨au,0,ps⟩).length fc)).heap.size) (λb e=>E (Nn b e)) (bu _);rw[JC]at hh;exact hh
  .rcases e with e|e|e
   .have e:b=tb:=e;omega
   .exact h.2 e
   .have:=Nn b e;omega
  .rcases e with e|e
   .have e:tb=jb:=e;omega
   .have:=Nn tb e;omega
  .have e:jb=q.db:=e;omega
  .have e:jb=q.nb:=e;omega
  .have e:jb=q.sb:=e;omega
 .exact ar.nO aes.I JK hww (λb e=>U)
theorem Nm.jD {p:gA} {t:eY} (h:Nm p t v w1 e w') (hb:ay w w w1):Nm p t v w e w':=
 ⟨h.1,h.2.1,(ar.cZ hb).trans' (h.2.2.mono hb.size (λ_ _ h=>h)) (bu _)⟩
theorem aow (p:gA) (r:TR) (t:eY) (s:dJ) (w:H) (h:kX p r (λb=>¬p.M b) w t) (hN:4<=p.N/\p.N<=4096) (ho:0<=t.k.ops/\t.k.ops<=800000000) (hg:(Jr.opened t.k.sure).gen≠0) (hl:(Jr.opened t.k.sure).last=ZY.enc s) (hm:s.aH=true) (gD:P.Z4 s.au) (lQ:∀q∈s.ps,q.wf):
 aA aq 7 #[aP (A ⟨p.tb,0,G⟩),aF #[Y Z 3,Y Z 0,O G 0 0]] w (Nm p (Tr.u9 t s) (aL #[Y Z s.step,Y Z 0]) w):=by
 obtain⟨aB,hk⟩:∃k:Int,(3:Int)=k:=⟨_,rfl⟩;rw[hk];have K0:=V ((aE.fg w (sy aB 0 G 0 0)).and (h.bt.alloc (sy aB 0 G 0 0)));have CK:=V (anM p r t s _ K0.F.2 hN ho hg hl hm gD lQ);have s0:=bP K0.F.1.1;clear h;subst hk;go_enter func7,ntmps7;go_wp2_with fail;refine CK.I.mono ?_;rintro e' w1 h;have HC:=V h;obtain rfl:=h.1;clear h;go_wp2_with fail;refine aZ (v:=aL #[Y Z s.step,Y Z 0]) Q48 rfl (HC.I.jD K0.F.1.2)
def bN.num (i j:Nat):Int:=(7*(i:Int)+5*(j:Int))%41-20
def bN.ED (i:Nat):ky:=⟨(iz 4).map (bN.num i),(i:Int)%2⟩
def bN.m:Mod:=⟨1,2,2,[⟨6,0,0,0,0,0,ae⟩,⟨1,4,0,0,0,0,ae⟩,⟨5,0,0,0,0,0,ae⟩,⟨1,2,0,0,0,0,ae⟩]⟩
def bN.d:dL:=⟨1,2,2,-5,2,(iz 6).map bN.ED⟩
def bN.h:iV:=⟨2,5,2,3,0,0⟩
def aot (w:H) (e:dN) (w':H):Prop:=∃a l b n,e=bG (aL #[aF (bN.m.cells a 4 l),aF (bN.d.cells b 6 n),mP bN.h])/\cH iM 7 (λ_=>True) w' a 4 bN.m.L/\cH kz 2 (λ_=>True) w' b 6 bN.d.xs/\ay w w w'
def aeu (n:Nat) (w:H):Prop:=
 w.heap[n]? =A (mG 0 0 0 G 0 0)/\w.heap[n+1]? =A (qH 0 0 0 0 0 G 0 0)/\w.heap[n+1+1]? =A (nI 0 0 0 0 0 0)/\w.heap[n+1+1+1]? =A (ag #[Y Z 6,Y Z 0,Y Z 0,Y Z 0,Y Z 0,Y Z 0,aK ae,Y Z 1,Y Z 4,Y Z 0,Y Z 0,Y Z 0,Y Z 0,aK ae,Y Z 5,Y Z 0,Y Z 0,Y Z 0,Y Z 0,Y Z 0,aK ae,Y Z 1,Y Z 2,Y Z 0,Y Z 0,Y Z 0,Y Z 0,aK ae] 102)/\w.heap[n+1+1+1+1]? =A (mG 1 2 2 (A ⟨n+1+1+1,0,G⟩) 4 4)/\w.heap[n+1+1+1+1+1]? =A (qH 1 2 2 (-5) 2 G 0 0)/\n+1+1+1+1+1+1=w.heap.size
theorem aou (w:H):aeu w.heap.size (li (li (li (li (li (li w (mG 0 0 0 G 0 0)) (qH 0 0 0 0 0 G 0 0)) (nI 0 0 0 0 0 0)) (ag #[Y Z 6,Y Z 0,Y Z 0,Y Z 0,Y Z 0,Y Z 0,aK ae,Y Z 1,Y Z 4,Y Z 0,Y Z 0,Y Z 0,Y Z 0,aK ae,Y Z 5,Y Z 0,Y Z 0,Y Z 0,Y Z 0,Y Z 0,aK ae,Y Z 1,Y Z 2,Y Z 0,Y Z 0,Y Z 0,Y Z 0,aK ae] 102)) (mG 1 2 2 (w+1+1+1:Nat) 4 4)) (qH 1 2 2 (-5) 2 G 0 0))/\ay w w (li (li (li (li (li (li w (mG 0 0 0 G 0 0)) (qH 0 0 0 0 0 G 0 0)) (nI 0 0 0 0 0 0)) (ag #[Y Z 6,Y Z 0,Y Z 0,Y Z 0,Y Z 0,Y Z 0,aK ae,Y Z 1,Y Z 4,Y Z 0,Y Z 0,Y Z 0,Y Z 0,aK ae,Y Z 5,Y Z 0,Y Z 0,Y Z 0,Y Z 0,Y Z 0,aK ae,Y Z 1,Y Z 2,Y Z 0,Y Z 0,Y Z 0,Y Z 0,aK ae] 102)) (mG 1 2 2 (w+1+1+1:Nat) 4 4)) (qH 1 2 2 (-5) 2 G 0 0)):=by
 refine⟨⟨?_,?_,?_,?_,?_,?_,Q4u⟩,((((((eG _ _).step (aD _ _)).step (aD _ _)).step (aD _ _)).step (aD _ _)).step (aD _ _)).step (aD _ _)⟩
 .exact dX (dX (dX (dX (dX (bZ w _) _) _) _) _) _
 .exact dX (dX (dX (dX (by have:=bZ (li w (mG 0 0 0 G 0 0)) (qH 0 0 0 0 0 G 0 0);rwa[bF]at this) _) _) _) _
 .exact dX (dX (dX (by have:=bZ (li (li w (mG 0 0 0 G 0 0)) (qH 0 0 0 0 0 G 0 0)) (nI 0 0 0 0 0 0);simpa only[bF]using this) _) _) _
 .exact dX (dX (by have:=bZ (li (li (li w (mG 0 0 0 G 0 0)) (qH 0 0 0 0 0 G 0 0)) (nI 0 0 0 0 0 0)) (ag #[Y Z 6,Y Z 0,Y Z 0,Y Z 0,Y Z 0,Y Z 0,aK ae,Y Z 1,Y Z 4,Y Z 0,Y Z 0,Y Z 0,Y Z 0,aK ae,Y Z 5,Y Z 0,Y Z 0,Y Z 0,Y Z 0,Y Z 0,aK ae,Y Z 1,Y Z 2,Y Z 0,Y Z 0,Y Z 0,Y Z 0,aK ae] 102);simpa only[bF]using this) _) _
 .exact dX (by have:=bZ (li (li (li (li w (mG 0 0 0 G 0 0)) (qH 0 0 0 0 0 G 0 0)) (nI 0 0 0 0 0 0)) (ag #[Y Z 6,Y Z 0,Y Z 0,Y Z 0,Y Z 0,Y Z 0,aK ae,Y Z 1,Y Z 4,Y Z 0,Y Z 0,Y Z 0,Y Z 0,aK ae,Y Z 5,Y Z 0,Y Z 0,Y Z 0,Y Z 0,Y Z 0,aK ae,Y Z 1,Y Z 2,Y Z 0,Y Z 0,Y Z 0,Y Z 0,aK ae] 102)) (mG 1 2 2 (w+1+1+1:Nat) 4 4);simpa only[bF]using this) _
 .have:=bZ (li (li (li (li (li w (mG 0 0 0 G 0 0)) (qH 0 0 0 0 0 G 0 0)) (nI 0 0 0 0 0 0)) (ag #[Y Z 6,Y Z 0,Y Z 0,Y Z 0,Y Z 0,Y Z 0,aK ae,Y Z 1,Y Z 4,Y Z 0,Y Z 0,Y Z 0,Y Z 0,aK ae,Y Z 5,Y Z 0,Y Z 0,Y Z 0,Y Z 0,Y Z 0,aK ae,Y Z 1,Y Z 2,Y Z 0,Y Z 0,Y Z 0,Y Z 0,aK ae] 102)) (mG 1 2 2 (w+1+1+1:Nat) 4 4)) (qH 1 2 2 (-5) 2 G 0 0);simpa only[bF]using this
theorem aov (w:H):aA aq 38 #[] w (aot w):=by
 go_enter func38,ntmps38;go_wp2_with fail;have jl:=bZ w (mG 0 0 0 G 0 0);obtain⟨w0,sY⟩:∃u,li (li (li (li (li (li w (mG 0 0 0 G 0 0)) (qH 0 0 0 0 0 G 0 0)) (nI 0 0 0 0 0 0)) (ag #[Y Z 6,Y Z 0,Y Z 0,Y Z 0,Y Z 0,Y Z 0,aK ae,Y Z 1,Y Z 4,Y Z 0,Y Z 0,Y Z 0,Y Z 0,aK ae,Y Z 5,Y Z 0,Y Z 0,Y Z 0,Y Z 0,Y Z 0,aK ae,Y Z 1,Y Z 2,Y Z 0,Y Z 0,Y Z 0,Y Z 0,aK ae] 102)) (mG 1 2 2 (w+1+1+1:Nat) 4 4)) (qH 1 2 2 (-5) 2 G 0 0)=u:=⟨_,rfl⟩;have HF:=V (show aeu w.heap.size w0/\ay w w w0 by rw[<-sY];exact aou w);rw[sY];clear sY;obtain⟨B,hB⟩:=J w0.heap.size;have HB:=V hB;have o9:w.heap.size+1+1+1+1+1+1=B:=hB▸HF.I.1.2.2.2.2.2.2;clear hB;obtain⟨n0,qh⟩:∃n,w.heap.size=n:=⟨_,rfl⟩;rw[qh]at HF o9⊢;go_loopw [18,5,6,7,24] (λi _ _ _ _ wr=>∃(j:Nat) (vd:aj) (CS:List (Array aj)),j<=6/\i=Y Z j/\wr.heap[n0+1+1+1+1+1]? =A (ag #[Y Z 1,Y Z 2,Y Z 2,Y Z (-5),Y Z 2,vd] 28 (0,0))/\gy kz 2 54 B (λb=>B<=b) wr vd ((iz j).map bN.ED) CS/\ar B (λb=>b=n0+1+1+1+1+1) w0 wr) (λi _ _ _ _ _=>6-(aX i).toNat)
 case atStart=>exact⟨0,_,[],U,rfl,HF.I.1.2.2.2.2.2.1,gy.nil _ _ _ _ _ _,ar.cP _ _ _⟩
 case round=>
  obtain⟨j,vd,CS,hj,rfl,cy,nS,hk⟩:=hrel;have HO:=V cy;have HM:=V nS;have HK:=V hk;clear cy nS hk;have qO:B<=wr:=Q3p;by_cases aT:j<6
  .have i1:(j:Int)<6:=U;go_wp2_with fail;obtain⟨xo,m7⟩:=J wr.heap.size;rw[m7];obtain⟨pa,pl,pc,rfl⟩:=HM.I.slice;have Pu:=λb (h:(O pa pl pc).ownBlock=A b)=>HM.I.2.2.lt b h;have yW:=V (HM.I.move iG (P':=λb=>B<=b/\b≠xo) (ar.cP wr (λ_=>False) wr) (λb e=>⟨(HM.I.2.2.lt b e).2,id⟩) (λb hb _ ho=>⟨hb,id,ho,U⟩));have KX:=V ((di.block (S:=λb=>b=xo) HO.I U).and (di.many (S:=λb=>b=xo) iG yW.I (λb e=>E (yW.I.2.2.lt b e)) (λb hb ho=>Q3L))|>.alloc (lB G 0 0 ((j:Int)%2)));have je:=bZ wr (lB G 0 0 ((j:Int)%2));rw[m7]at je;have rP:=V (HK.I.trans' (ar.cZ (aD wr (lB G 0 0 ((j:Int)%2)))) U);have qQ:=V je;have Lq:xo+1=(li wr (lB G 0 0 ((j:Int)%2))).heap.size:=Q2Y;have hBC:B<=xo:=U;clear HO HK je;generalize li wr (lB G 0 0 ((j:Int)%2))=w5 at*;obtain⟨C,hC⟩:=J w5.heap.size;have HC:=V hC;have FK:xo<C:=U;clear hC;obtain⟨y,hy⟩:=J ((j:Int)%2);have HY:=V hy;rw[hy]at qQ⊢;clear hy;go_loopw [24,7] (λi _ wx=>∃(k:Nat) (vz:aj),k<=4/\i=Y Z k/\wx.heap[xo]? =A (ag #[vz,Y Z y] 54 (0,0))/\wx.ownsRow C 106 1 vz k (((iz k).map (bN.num j)).map (Y aO))/\ar C (λb=>b=xo) w5 wx) (λi _ _=>4-(aX i).toNat)
   case atStart=>exact⟨0,_,cK _,rfl,qQ.I,gP _ _ _ _,ar.cP _ _ _⟩
   case round=>
    obtain⟨k,vz,hk,rfl,hx,aV,fH⟩:=hrel;have FM:C<=wr:=Q3v;by_cases o8:k<4
    .have yR:=V (show(iz (k+1)).map (bN.num j)=(iz k).map (bN.num j)++[(7*(j:Int)+5*(k:Int))%41-20] by rw[List.range_succ,kF];rfl);obtain⟨zt,Dz⟩:=J ((iz k).map (bN.num j));rw[Dz]at aV yR;have iR:=V aV;have HX:=V hx;have yX:=V fH;clear Dz aV hx fH;obtain⟨i0,hi,cF,cG,cB⟩:=fB tA;have q0:=nj HX.I;have i3:(k:Int)<4:=U;go_wp2_with (at_builtin;refine ko _ rfl _ _ 52 rfl C 106 i0 (Y aO 0) 1 1 underlying52 hi cF cG cB rfl eM vz k (zt.map (Y aO)) rfl (iR.I.alloc _) ⟨wr,0,G⟩ 1 1 [Y aO ((7*(j:Int)+5*(k:Int))%41-20)] rfl rfl ?c1 ?c2 ?c3 ?c4 ?c5 ?c6 ?_)
     try(case c1=>exact kJ wr _ _)
     try(case c2=>simp[fV])
     try(case c3=>unfold eS;omega)
     try(case c4=>omega)
     try(case c5=>(try simp only[bF]);omega)
     try(case c6=>omega)
     intro g1 c1 BF cC bM cN ei fC;have dh:=λb (h:vz.ownBlock=A b)=>(iR.I.lt b h).1;have iD:=gI bM (dX HX.I _) (λh=>E (dh _ h));obtain⟨f1,f2,f3,f4⟩:=App.field 0 HX.I FK FM dh cC bM ei;simp only[dC,dD,dE]at f1;have U0:=V f1;have mO:=V f2;have U6:=V (yX.I.trans' f3 (bu _));have r0:=nj iD;have z3:=cE iD 0;clear cC bM cN dh f1;exact Q1z
    .obtain rfl:k=4:=U;obtain⟨pd,cd,rfl,gC⟩:=ai.nJ aV (λy hy=>by
      obtain⟨i,hi,rfl⟩:=kG.1 hy;have: -128<=bN.num j i/\bN.num j i<=127:=by unfold bN.num;omega
      exact yw this.1 this.2) U
     have U7:=V (λy (hy:pd=A y)=>(aV.lt y.block (by rw[hy];rfl)));have zW:=V (KX.I.step (fH.mono (C:=w5) Q4n (λ_ _ h=>h)));have rQ:=V (rP.I.trans' (fH.mono (C:=B) (S':=λb=>b=n0+1+1+1+1+1) U (λb h1 h2=>U)) U);have Lr:=V hx;have hEx:kz (λb=>C<=b) wr #[O pd 4 cd,Y Z y] (bN.ED j):=⟨_,_,_,by rw[<-HY.I];rfl,gC,λy hy _=>(U7.I y hy).1⟩;have Lv:=V (iG.move (fJ:=qt (λb=>B<=b/\b≠xo) (O pa pl pc)) hEx (ar.cP _ (λ_=>False) wr) (λb h1 h2=>⟨h1,id,λe=>by
      have h2:C<=b:=h2;have:=Pu b e;omega,by have h2:C<=b:=h2;exact⟨U,U⟩⟩))
     have eX:B<=wr:=by have:=fH.size;rw[HC.I]at this;omega
     have HS:=V (show(iz (j+1)).map bN.ED=(iz j).map bN.ED++[bN.ED j] by rw[List.range_succ,kF];rfl);clear gC aV hx fH qQ hEx;obtain⟨dt,rN⟩:=J ((iz j).map bN.ED);have jU:dt.length=j:=by rw[<-rN,ib,List.length_range]
     rw[rN]at zW HS;clear rN;have f0:=df zW.I.aN.1;have q0:=nj Lr.I;obtain⟨i0,hi,cF,cG,cB⟩:=fB abD;have kg:=V (show wr.ownsRow B 54 2 (O pa pl pc) j (CS.flatMap jf)from jU▸zW.I.aN.2.2.2);go_wp2_with (at_builtin;refine ko _ rfl _ _ 26 rfl B 54 i0 (aF #[O G 0 0,Y Z 0]) 2 32 underlying26 hi cF cG cB rfl eM (O pa pl pc) j (CS.flatMap jf) rfl (kg.I.alloc _) ⟨wr,0,G⟩ 1 1 [O pd 4 cd,Y Z y] rfl rfl ?c1 ?c2 ?c3 ?c4 ?c5 ?c6 ?_)
     try(case c1=>exact xy wr #[O pd 4 cd,Y Z y] _)
     try(case c2=>simp[fV])
     try(case c3=>unfold eS;omega)
     try(case c4=>omega)
     try(case c5=>(try simp only[bF]);omega)
     try(case c6=>omega)
     intro g1 c1 BF cC bM cN ei fC;have dh:=λb (h:(O pa pl pc).ownBlock=A b)=>(kg.I.lt b h).1;have Iv:=gy.app iG zW.I.aN.2 Lv.I (n:=j+1) U cC bM Q3B;obtain⟨vW,DK,Lw,e4'⟩:=App.field 5 zW.I.aN.1 (by omega:n0+1+1+1+1+1<B) eX dh cC bM ei;simp only[dC,dD,dE]at vW;have uD:=V (Iv.move iG (P':=λb=>B<=b) ((ar.cP BF (λb=>b=n0+1+1+1+1+1) BF).set (g:=n0+1+1+1+1+1) (aM rfl) 5 (O g1 (j+1) c1)) (λb e=>by
      have e:A g1=A b:=e;injection e with e;exact⟨U,U⟩) (λb hb _ ho=>⟨hb,Q3L,ho.1⟩))
     have U9:=V (rQ.I.trans' (Lw.mono (C:=B) (bu _) (λb h1 h2=>h2)) (bu _));have Va:=V vW;have iD:=gI bM (dX zW.I.aN.1 _) (λh=>E (dh _ h));have r0:=df iD;have z3':=cE iD 5;clear cC bM cN ei fC dh vW;go_wp2_with fail;go_roundw
     case rel=>exact⟨j+1,_,_,U,Q2T,Va.I,Q5l,U9.I⟩
     case measure=>exact Q5q
  .obtain rfl:j=6:=U;obtain⟨pa,pc,rfl,pJ,iq,qP⟩:=HM.I.on iG U (by rw[ib,List.length_range]) U (ok:=λb=>B<=b/\b<wr.heap.size) (λb hb h=>⟨h,hb⟩) (λb hb h=>⟨h,hb⟩);have lp:=V iq;have hM:=HK.I.bC (g:=n0+1+1+1+1) U U HF.I.1.2.2.2.2.1;have hL:=HK.I.bC (g:=n0+1+1+1) U U HF.I.1.2.2.2.1;have Fh:=HK.I.bC (g:=n0) U U HF.I.1.1;have zU:=HK.I.bC (g:=n0+1) U U HF.I.1.2.1;have rH:=HK.I.bC (g:=n0+1+1) U U HF.I.1.2.2.1;have jV:=V (Below.gh (by rw[qh];exact HF.I.2 :ay w w w0) HK.I (λb h=>Q3Z));have Fo:=V (show wr.drew.heap[n0]? =A (mG 0 0 0 G 0 0)/\wr.drew.heap[n0+1]? =A (qH 0 0 0 0 0 G 0 0)/\wr.drew.heap[n0+1+1]? =A (nI 0 0 0 0 0 0)/\wr.drew.heap[n0+1+1+1]? =A (ag #[Y Z 6,Y Z 0,Y Z 0,Y Z 0,Y Z 0,Y Z 0,aK ae,Y Z 1,Y Z 4,Y Z 0,Y Z 0,Y Z 0,Y Z 0,aK ae,Y Z 5,Y Z 0,Y Z 0,Y Z 0,Y Z 0,Y Z 0,aK ae,Y Z 1,Y Z 2,Y Z 0,Y Z 0,Y Z 0,Y Z 0,aK ae] 102)/\wr.drew.heap[n0+1+1+1+1]? =A (mG 1 2 2 (A ⟨n0+1+1+1,0,G⟩) 4 4)/\wr.drew.heap[n0+1+1+1+1+1]? =A (qH 1 2 2 (-5) 2 pa 6 pc)/\ay w w wr.drew/\cH kz 2 (λb=>B<=b) wr.drew pa 6 ((iz 6).map bN.ED)from⟨Fh,zU,rH,hL,hM,HO.I,jV.I.step (below_drewN wr 1),lp.I.move (fJ:=λb=>B<=b) iG U (ar.cZ (S:=λ_=>False) (below_drewN wr 1)) (λb h1 h2=>⟨h1,id,h2.1⟩)⟩);clear iq hM hL;go_upto_region 14 with fail;refine cS (λw':H=>w'.heap[n0+1+1+1+1]? =A (mG 1 2 2 (A ⟨n0+1+1+1,0,G⟩) 4 4)/\w'.heap[n0+1+1+1+1+1]? =A (qH 1 2 2 (-5) 2 pa 6 pc)) ?_;generalize wr.drew=wd at*;obtain⟨a0,a1,a2,a3,a4,a5,a6,a7⟩:=Fo.I;refine bR (⟨a4,a5⟩) [0,1,2] (λ_ h=>aw (eQ h.1) (df h.2)) ?_;have f0:=eQ a0;have z3:=λj=>cE a0 j;refine bL 3 λK hK=> ?_;go_simp;have k3:=((((ar.cP wd (λb=>b=n0) wd).set (g:=n0) (aM rfl) 0 (Y Z 1)).set (aM rfl) 1 (Y Z 2)).set (aM rfl) 2 (Y Z 2)).set (aM rfl) 3 (O (A ⟨n0+1+1+1,0,G⟩) 4 4);have s0:=aei (y0:=Y Z 1) (y1:=Y Z 2) (y2:=Y Z 2) (y3:=O (A ⟨n0+1+1+1,0,G⟩) 4 4) a0;have l5:=bH a5;generalize ss (ss (ss (ss wd n0 (Y Z 1)) ⟨n0,1,G⟩ (Y Z 2)) ⟨n0,2,G⟩ (Y Z 2)) ⟨n0,3,G⟩ (O (A ⟨n0+1+1+1,0,G⟩) 4 4)=w3 at*;have b1:=k3.bC U U a1;have b2:=k3.bC U U a2;have b3:=k3.bC U U a3;have b4:=k3.bC U U a4;have b5:=k3.bC U U a5;have b6:=Below.gh a6 k3 (λb h=>Q3Z);have b7:=a7.move (fJ:=λb=>B<=b) iG U k3 (λb h1 h2=>⟨h1,U,h2⟩);have hs:=k3.size;have z3:=λj=>cE b1 j;have f0:=df b1;refine cY hK (⟨b4,b5⟩) 4 λK hK=> ?_;go_simp;have k3:=(ar.cP w3 (λb=>b=n0+1) w3).Ro (g:=n0+1) (aM rfl) (Y Z 1) (Y Z 2) (Y Z 2) (Y Z (-5)) (Y Z 2) (O pa 6 pc);have s1:=Ps (y0:=Y Z 1) (y1:=Y Z 2) (y2:=Y Z 2) (y3:=Y Z (-5)) (y4:=Y Z 2) (y5:=O pa 6 pc) b1;generalize ss (ss (ss (ss (ss (ss w3 ⟨n0+1,0,G⟩ (Y Z 1)) ⟨n0+1,1,G⟩ (Y Z 2)) ⟨n0+1,2,G⟩ (Y Z 2)) ⟨n0+1,3,G⟩ (Y Z (-5))) ⟨n0+1,4,G⟩ (Y Z 2)) ⟨n0+1,5,G⟩ (O pa 6 pc)=w4 at*;have c0:=k3.bC U U s0;have c2:=k3.bC U U b2;have c3:=k3.bC U U b3;have c4:=k3.bC U U b4;have c5:=k3.bC U U b5;have c6:=Below.gh b6 k3 (λb h=>Q3Z);have c7:=b7.move (fJ:=λb=>B<=b) iG U k3 (λb h1 h2=>⟨h1,U,h2⟩);have A7:=k3.size;have z3:=λj=>cE c2 j;have f0:=df c2;refine cY hK (⟨c4,c5⟩) 5 λK hK=> ?_;go_simp;have k3:=(ar.cP w4 (λb=>b=n0+1+1) w4).Ro (g:=n0+1+1) (aM rfl) (Y Z 2) (Y Z 5) (Y Z 2) (Y Z 3) (Y Z 0) (Y Z 0);have s2:=Ps (y0:=Y Z 2) (y1:=Y Z 5) (y2:=Y Z 2) (y3:=Y Z 3) (y4:=Y Z 0) (y5:=Y Z 0) c2;generalize ss (ss (ss (ss (ss (ss w4 ⟨n0+1+1,0,G⟩ (Y Z 2)) ⟨n0+1+1,1,G⟩ (Y Z 5)) ⟨n0+1+1,2,G⟩ (Y Z 2)) ⟨n0+1+1,3,G⟩ (Y Z 3)) ⟨n0+1+1,4,G⟩ (Y Z 0)) ⟨n0+1+1,5,G⟩ (Y Z 0)=w5 at*;have d0:=k3.bC U U c0;have d1:=k3.bC U U s1;have d3:=k3.bC U U c3;have d4:=k3.bC U U c4;have d5:=k3.bC U U c5;have d6:=Below.gh c6 k3 (λb h=>Q3Z);have d7:=c7.move (fJ:=λb=>True) iG U k3 (λb h1 h2=>⟨h1,by have h2:B<=b:=h2;omega,trivial⟩);refine bB hK (⟨d4,d5⟩) ?_;refine bW ?_;have f0:=eQ d0;have g0:=df d1;have q0:=df s2;go_wp2_with fail;refine aZ (v:=aL #[aF (bN.m.cells (A ⟨n0+1+1+1,0,G⟩) 4 4),aF (bN.d.cells pa 6 pc),mP bN.h]) ?_ rfl ⟨_,4,_,_,rfl,⟨rfl,U,bJ ⟨_,_,rfl,trivial,λi x hx=> ?_⟩⟩,d7,d6⟩
   .simp[aW,results38,go_sem,f0,g0,q0,bN.m,bN.d,bN.h,mP]
   .refine⟨x.cells,rfl,λj v hv=> ?_⟩;rw[Nat.zero_add];refine bh d3 _ ?_;unfold bN.m at hx
    match i,hx with
    |0,hx|1,hx|2,hx|3,hx=>
     obtain rfl:=Option.some.inj hx.symm
     match j,hv with
     |0,hv|1,hv|2,hv|3,hv|4,hv|5,hv|6,hv=>exact hv
def sS (wb:Nat) (w:H) (L:List ByteArray):Prop:=∃a n c,w.heap[wb]? =A (ag #[O a n c,aK ae] 119 (0,0))/\n=L.length/\n<=c/\∀i x,L[i]? =A x->∃b off,a=A ⟨b,off,G⟩/\b≠wb/\w ⟨b,off+i,G⟩=A (.string x)
def aox (wb:Nat) (s:ByteArray) (w:H) (e:dN) (w':H):Prop:=e=bG (.string s)/\sS wb w' []/\ar w (λb=>b=wb) w w'
theorem aev (wb:Nat) (s:ByteArray) (w:H) (h:sS wb w [s]):aA aq 168 #[aP wb] w (aox wb s w):=by
 obtain⟨a,n,c,hb,rfl,hc,hl⟩:=h;obtain⟨b,off,rfl,cI,hcell⟩:=hl 0 s rfl;rw[eL]at hcell;have hc:1<=c:=hc;have hb:w.heap[wb]? =A (ag #[O (A ⟨b,off,G⟩) 1 c,aK ae] 119 (0,0)):=hb;have HB:=V hb;have f0:=nj hb;have z:=cE hb 0;have aT:=bH hb;clear hb hl;go_enter func168,ntmps168;go_wp2_with fail;all_goals
  refine aZ (v:= .string s) (by simp[aW,results168]) rfl ⟨rfl,⟨_,0,_,dF (f:=0) HB.I _,rfl,cK _,λi x h=>Q38⟩,(ar.cP _ (λb=>b=wb) w).set (aM rfl) _ _⟩
theorem aoy (wb:Nat) (w:H) (h:sS wb w []):aA aq 167 #[aP wb] w λe w'=>e=bG (aK true)/\w'=w:=by
 obtain⟨a,n,c,hb,rfl,hc,hl⟩:=h;have hb:w.heap[wb]? =A (ag #[O a 0 c,aK ae] 119 (0,0)):=hb;have f0:=nj hb;clear hb hl;go_enter func167,ntmps167;exact Q0S
theorem sS.kept (h:sS wb w []) (k:ar w S w w') (hs:¬S wb):sS wb w' []:=by
 obtain⟨a,n,c,hb,h1,h2,h3⟩:=h;exact⟨a,n,c,k.bC (bH hb) hs hb,h1,h2,λi x h=>Q38⟩
theorem aoz (wb:Nat) (w:H) (h:sS wb w [⟨#[45]⟩]):aA aq 103 #[aP wb] w λe w'=>e=bG (O G 0 0)/\sS wb w' []/\ar w (λb=>b=wb) w w':=by
 have NX:=V (aev wb _ w h);clear h;go_enter func103,ntmps103;go_wp2_with fail;refine NX.I.mono ?_;rintro e w1 ⟨rfl,h1,h2⟩;have ZW:=V (aw h1 h2);go_wp2_with fail;refine aZ (v:=O G 0 0) (by simp[aW,results103]) rfl ⟨rfl,ZW.I⟩
theorem aoA (wb i:Nat) (w:H) (h:sS wb w [⟨(nE i).toArray⟩]) (hi:i<100) (hp:Lib.parseIntB 64 (nE i)= .ok i) (hs:(nE i).length<=10):aA aq 102 #[aP wb] w λe w'=>e=bG (Y Z i)/\sS wb w' []/\ar w (λb=>b=wb) w w':=by
 have NX:=V (aev wb _ w h);obtain⟨s,gD⟩:∃s:ByteArray,⟨(nE i).toArray⟩=s:=⟨_,rfl⟩;have PI:=V (Tryz.strconv_ParseInt_10_at64_ok s (by rw[<-gD];show(nE i).toArray.size<=_;simp;omega) i (by rw[<-gD];exact hp));have FI:=V (λw=>gD▸Tryz.strconv_FormatInt_10_small i hi w);rw[gD]at NX;have hss:(s.toList != s.toList)=ae:=Q2W;clear h gD hp hs;go_enter func102,ntmps102;go_wp2_with fail;refine NX.I.mono ?_;rintro e w1 ⟨rfl,h1,h2⟩;obtain⟨a,n,c,hb,rfl,hc,hl⟩:=h1;have mI:=bH hb;have HB:=V hb;have HK:=V h2;clear NX hl;go_wp2_with fail;refine(PI.I _).mono ?_;rintro e w2 ⟨rfl,hw⟩;have du:ay w1 w1 w2:=by
  rcases hw with rfl|⟨t,rfl⟩
  .exact eG _ _
  .exact Lib.bytesWorld_below _ _ _
 have h2:=bV HB.I du;have dA:=V h2;have jF:=V (HK.I.trans' (ar.cZ du) HK.I.size);have f0:=nj h2;have z:=cE h2 1;clear hw;go_wp2_with fail;refine(FI.I _).mono ?_;rintro e w3 ⟨rfl,rfl⟩;go_wp2_with fail;exact aZ (v:=Y Z i) (by simp[aW,results102]) rfl ⟨rfl,⟨a,0,c,dF (f:=1) dA.I _,rfl,hc,λi x h=>Q38⟩,jF.I.trans' ((ar.cP _ (λb=>b=wb) w3).set (aM rfl) _ _) jF.I.size⟩
def bN.ok (n:Nat):ByteArray:=⟨#[111,107,32]⟩++⟨(nE n).toArray⟩
def Rv (tb:Nat) (kd N:Int) (n:Nat) (M:Nat->Prop) (R:H->Prop) (w:H):Prop:=aA aq 7 #[aP tb,aF #[Y Z kd,Y Z N,O G 0 0]] w λe w'=>e=bG (aL #[Y Z n,Y Z 0])/\R w'/\ar w M w w'
def AK (s:ByteArray) (R:H->Prop) (e:dN) (w':H):Prop:=e=bG (.string s)/\R w'
theorem Yv (cb tb wb:Nat) (kd N:Int) (n:Nat) (M:Nat->Prop) (R:H->Prop) (w:H) (hM:∀b,M b->b≠cb/\b<w.heap.size) (hc:w.heap[cb]? =A (ag #[aP tb] 110 (0,0))) (hw:sS wb w []) (hn:n<100) (iB:(nE n).length<=10) (qu:∀w1,ay w w w1->Rv tb kd N n M R w1):
 aA aq 101 #[aP cb,aP wb,aF #[Y Z kd,Y Z N,O G 0 0]] w (AK (bN.ok n) R):=by
 have K0:=V ((aE.fg w (sy kd N G 0 0)).and ((aE.block hc).alloc (sy kd N G 0 0)));have HD:=V (aoy wb (li w (sy kd N G 0 0)) (hw.kept (ar.cZ (S:=λ_=>False) (aD w _)) id));have Nq:=V qu;have IT:=V (Tryz.strconv_Itoa_small n hn);clear hc hw qu;go_enter func101,ntmps101;go_wp2_with fail;refine cq HD.I ?_;go_upto_region 3 with fail;generalize li w (sy kd N G 0 0)=w1 at*;refine cS (λw':H=>w'.heap[w.heap.size]? =A (sy kd N G 0 0)/\w'.heap[cb]? =A (ag #[aP tb] 110 (0,0))) ?_;have hS:w1.drew.heap[w.heap.size]? =A (sy kd N G 0 0)/\w1.drew.heap[cb]? =A (ag #[aP tb] 110 (0,0)):=⟨K0.F.1.1,K0.F.2⟩;refine bR hS [0,4,1,2,3] (λ_ h=>aw (bP h.1) (bh h.2 0 (v:=aP tb) rfl)) (bL 5 λK hK=> ?_);go_simp;refine(Nq.I w1.drew (K0.F.1.2.step (below_drewN w1 1))).mono ?_;rintro e' w2 ⟨rfl,hr,hk⟩;have HR:=V hr;have bX:w2.heap[w.heap.size]? =A (sy kd N G 0 0)/\w2.heap[cb]? =A (ag #[aP tb] 110 (0,0)):=⟨hk.bC (bH hS.1) (λh=>E ((hM _ h).2)) hS.1,hk.bC (bH hS.2) (λh=>(hM _ h).1 rfl) hS.2⟩;clear hr hS hk;refine bB hK bX ?_;refine cQ bX [6,7,8,9,10] (bW ?_);clear bX;go_wp2_with fail;refine cq (IT.I _) ?_;have zN:¬9223372036854775807<3+(nE n).length:=U;go_wp2_with fail;refine aZ (v:= .string (bN.ok n)) ?_ rfl ⟨rfl,HR.I⟩;simp[aW,results101,bN.ok]
theorem aoB (cb tb wb i:Nat) (n:Nat) (M:Nat->Prop) (R:H->Prop) (w:H) (hM:∀b,M b->b≠cb/\b<w.heap.size) (xO:cb≠wb) (hc:w.heap[cb]? =A (ag #[aP tb] 110 (0,0))) (hw:sS wb w [⟨(nE i).toArray⟩]) (hn:n<100) (iB:(nE n).length<=10) (hi:i<100) (hp:Lib.parseIntB 64 (nE i)= .ok i) (hs:(nE i).length<=10) (qu:∀w1,ar w (λb=>b=wb) w w1->Rv tb 1 i n M R w1):
 aA aq 42 #[aP cb,.string ⟨#[116,114,97,105,110]⟩,aP wb] w (AK (bN.ok n) R):=by
 have HN:=V (aoA wb i w hw hi hp hs);have HS:=V (λw' Yw OZ hw' Ly=>Yv cb tb wb 1 i n M R w' Yw OZ hw' hn iB Ly);have Nq:=V qu;have HC:=V hc;clear hw qu hp hs hc;go_enter func42,ntmps42;go_wp2_with fail;refine HN.I.mono ?_;rintro e w1 ⟨rfl,h1,h2⟩;have jT:=V (HS.I w1 (λb hb=>⟨(hM b hb).1,iP (hM b hb).2 h2.size⟩) (h2.bC (bH HC.I) xO HC.I) h1 (λw' hb=>Nq.I w' (h2.trans' (ar.cZ hb) h2.size)));go_wp2_with fail;refine jT.I.mono ?_;rintro e w2 ⟨rfl,hr⟩;have HR:=V hr;clear hr;go_wp2_with fail;exact aZ (v:= .string (bN.ok n)) (by simp[aW,results42]) rfl ⟨rfl,HR.I⟩
theorem aoC (cb tb wb:Nat) (n:Nat) (M:Nat->Prop) (R:H->Prop) (w:H) (hM:∀b,M b->b≠cb/\b<w.heap.size) (hc:w.heap[cb]? =A (ag #[aP tb] 110 (0,0))) (hw:sS wb w []) (hn:n<100) (iB:(nE n).length<=10) (qu:∀w1,ar w (λb=>b=wb) w w1->Rv tb 2 0 n M R w1):
 aA aq 42 #[aP cb,.string ⟨#[99,104,101,99,107]⟩,aP wb] w (AK (bN.ok n) R):=by
 have jT:=V (Yv cb tb wb 2 0 n M R w hM hc hw hn iB (λw1 h=>qu w1 (ar.cZ h)));clear hw qu hc;go_enter func42,ntmps42;go_wp2_with fail;refine jT.I.mono ?_;rintro e w2 ⟨rfl,hr⟩;have HR:=V hr;clear hr;go_wp2_with fail;exact aZ (v:= .string (bN.ok n)) (by simp[aW,results42]) rfl ⟨rfl,HR.I⟩
theorem aoD (cb tb wb:Nat) (n:Nat) (M:Nat->Prop) (R:H->Prop) (w:H) (hM:∀b,M b->b≠cb/\b<w.heap.size) (xO:cb≠wb) (hc:w.heap[cb]? =A (ag #[aP tb] 110 (0,0))) (hw:sS wb w [⟨#[45]⟩]) (hn:n<100) (iB:(nE n).length<=10) (qu:∀w1,ar w (λb=>b=wb) w w1->Rv tb 3 0 n M R w1):
 aA aq 42 #[aP cb,.string ⟨#[99,114,97,115,104]⟩,aP wb] w (AK (bN.ok n) R):=by
 have HN:=V (aoz wb w hw);have HS:=V (λw' Yw OZ hw' Ly=>Yv cb tb wb 3 0 n M R w' Yw OZ hw' hn iB Ly);have Nq:=V qu;have HC:=V hc;clear hw qu hc;go_enter func42,ntmps42;go_wp2_with fail;refine HN.I.mono ?_;rintro e w1 ⟨rfl,h1,h2⟩;have jT:=V (HS.I w1 (λb hb=>⟨(hM b hb).1,iP (hM b hb).2 h2.size⟩) (h2.bC (bH HC.I) xO HC.I) h1 (λw' hb=>Nq.I w' (h2.trans' (ar.cZ hb) h2.size)));go_wp2_with fail;refine jT.I.mono ?_;rintro e w2 ⟨rfl,hr⟩;have HR:=V hr;clear hr;go_wp2_with fail;exact aZ (v:= .string (bN.ok n)) (by simp[aW,results42]) rfl ⟨rfl,HR.I⟩
def Yx (told:ByteArray) (ok:Bool) (w:H) (e:dN) (w':H):Prop:=e=bG (aL #[.string told,aK ok])/\ay w w w'
theorem Yy (cb:Nat) (s:ByteArray) (w:H) (h1:(s.toList==[115,116,101,112])=ae) (h2:(s.toList==[102,97,105,108,101,100])=ae) (h3:(s.toList==[115,97,118,101,100])=ae) (h4:(s.toList==[110,101,116])=ae):
 aA aq 41 #[aP cb,.string s] w (Yx ⟨#[]⟩ ae w):=by
 go_enter func41,ntmps41;go_wp2_with fail;exact aZ (v:=aL #[.string ⟨#[]⟩,aK ae]) (by simp[aW,results41]) rfl ⟨rfl,eG _ _⟩
theorem aoE (cb tb n:Nat) (s:dJ) (w:H) (hc:w.heap[cb]? =A (ag #[aP tb] 110 (0,0))) (hs:s.step=n) (hn:n<100) (fE:aA aq 9 #[aP tb] w (Yk s w)):
 aA aq 41 #[aP cb,.string ⟨#[115,116,101,112]⟩] w (Yx ⟨(nE n).toArray⟩ true w):=by
 have HS:=V fE;have IT:=V (Tryz.strconv_Itoa_small n hn);have q0:=bh hc 0 (v:=aP tb) rfl;clear fE hc;go_enter func41,ntmps41;go_wp2_with fail;refine HS.I.mono ?_;rintro e w1 ⟨a,l,c,rfl,h1,h2⟩;have HB:=V h2;unfold dJ.cells;rw[hs];have BD:∀(x y z:aj) (w:H),(Instr.field 48 (aF #[x,y,z]) 1).run aq w= .ok y w:=λ_ _ _ _=>Q2Q;go_wp2_with fail;refine(IT.I _).mono ?_;rintro e' w3 ⟨rfl,rfl⟩;go_wp2_with fail;exact aZ (v:=aL #[.string ⟨(nE n).toArray⟩,aK true]) (by simp[aW,results41]) rfl ⟨rfl,HB.I⟩
theorem aoF:(aq.info? 9).map (λi=>(i.zero,i.size,i.bytes))=A (A (.string ByteArray.empty),1,16):=Q2Q
theorem aoG {b:Nat} {L:List ByteArray} (h:w.heap[b]? =A (ag (L.map Value.string).toArray t (0,0))) {i:Nat} (hx:L[i]? =A x):w ⟨b,i,G⟩=A (.string x):=
 bh h i (by rw[List.getElem?_toArray,List.getElem?_map,hx];rfl)
theorem Rw (cb tb:Nat) (m:Int) (s x0 told I:ByteArray) (P T:List ByteArray) (ok:Bool) (M:Nat->Prop) (R:H->Prop) (w:H) (hM:∀b,M b->b<w.heap.size) (hc:w.heap[cb]? =A (ag #[aP tb] 110 (0,0))) (hm:w ⟨0,0,G⟩=A (Y Z m)) (hs:s.size<=100) (hP:Lib.splitB ⟨#[32]⟩ 0 (Lib.countB s ⟨#[32]⟩) s=P) (hn:Lib.countB s ⟨#[32]⟩+1=P.length) (Dj:P=x0::T) (kN:P.length<=5) (cI:∀x∈P,(!x.toList.isEmpty)=true)
 (fY:ok=true->T=[]/\told=I/\∀w',ay w w w'->R w') (aew:∀w1,ay w w w1->aA aq 41 #[aP cb,.string x0] w1 (Yx told ok w1))
 (zi:ok=ae->∀w1 wb,ay w w w1->w.heap.size<=wb->sS wb w1 T->aA aq 42 #[aP cb,.string x0,aP (A ⟨wb,0,G⟩)] w1 (AK I λw'=>R w'/\ar w1 (λb=>M b\/b=wb) w1 w')):
 aA aq 13 #[aP cb,.string s] w (AK I R):=by
 have SP:=V (Tryz.strings_Split s ⟨#[32]⟩ m w U hm eM);rw[hP,hn]at SP;have rK:=V fY;have aoH:=V aew;have Nb:=V zi;have qi:=V Dj;have dQ:¬(2000:Int)<(s.size:Int):=U;obtain⟨pl,Rx⟩:=J P.length;rw[Rx]at SP;have qy:=V Rx;have at6:1<=pl:=by rw[<-Rx,Dj];simp
 have at7:pl<=5:=U;have uP:=V cI;have hLB:=bZ w (ag (P.map Value.string).toArray 9);have K0:=V ((aE.fg w (ag (P.map Value.string).toArray 9)).and ((aE.block hc).alloc (ag (P.map Value.string).toArray 9)));clear hc fY aew zi hm hP hn Dj kN cI Rx hLB;go_enter func13,ntmps13;go_wp2_with fail;refine SP.I.mono ?_;rintro e w1 ⟨rfl,rfl⟩;clear SP;obtain⟨lb,Gh⟩:=J w.heap.size;have HLb:=V Gh;have HB:=V K0.F.1.2;have HL:=V K0.F.1.1;rw[Gh]at HL⊢;have iK:(li w (ag (P.map Value.string).toArray 9)).heap.size=lb+1:=by rw[bF,Gh]
 clear Gh;generalize li w (ag (P.map Value.string).toArray 9)=w1 at*;go_wp2_with fail;go_loopw [19,5,7] (λi v _ wr=>∃(k:Nat) (vz:aj),vz=v/\k<=pl/\i=Y Z k/\wr.ownsRow (lb+1) 9 1 vz k ((P.take k).map Value.string)/\ar (lb+1) (λ_=>False) w1 wr) (λi _ _ _=>pl-(aX i).toNat)
 case atStart=>exact⟨0,_,rfl,cK _,rfl,gP _ _ _ _,ar.cP _ _ _⟩
 case round=>
  obtain⟨k,vz,rfl,hk,rfl,aV,fH⟩:=hrel;have qO:lb+1<=wr.heap.size:=E fH.size;by_cases aT:k<pl
  .obtain⟨x,hx⟩:∃x,P[k]? =A x:=⟨P[k]' Q4C,Q2W⟩;have hcell:=aoG (fH.bC U id HL.I) hx;have at8:=uP.I x (List.mem_of_getElem? hx);have HS:=V (show P.take (k+1)=P.take k++[x] by
    have hj:=(fX.1 hx).1;rw[List.take_succ_eq_append_getElem hj];rw[cR hj]at hx;injection hx with hx;rw[hx])
   obtain⟨pt,hpt⟩:=J (P.take k);rw[hpt]at aV HS;have iR:=V aV;have yX:=V fH;clear hx hpt aV fH;obtain⟨i0,hi,cF,cG,cB⟩:=fB aoF;have i3:(k:Int)<(pl:Int):=U;go_wp2_with (at_builtin;refine ko _ rfl _ _ 112 rfl (lb+1) 9 i0 (.string ByteArray.empty) 1 16 underlying112 hi cF cG cB rfl eM vz k (pt.map Value.string) rfl (iR.I.alloc _) ⟨wr,0,G⟩ 1 1 [.string x] rfl rfl ?c1 ?c2 ?c3 ?c4 ?c5 ?c6 ?_)
   try(case c1=>exact kJ wr _ _)
   try(case c2=>simp[fV])
   try(case c3=>unfold eS;omega)
   try(case c4=>omega)
   try(case c5=>(try simp only[bF]);omega)
   try(case c6=>omega)
   intro g1 c1 BF cC bM cN ei fC;have dh:=λb (h:vz.ownBlock=A b)=>(iR.I.lt b h).1;have nh:=V (yX.I.trans' (App.slot qO dh bM (λ_=>False)) (bu _));have mO:=V cC;clear cC bM cN ei fC dh;go_wp2_with fail;go_roundw
   case rel=>exact⟨k+1,_,rfl,U,Q2T,Q4R,nh.I⟩
   case measure=>exact Q5q
  .obtain rfl:k=pl:=U;rw[List.take_of_length_le Q5k]at aV;obtain⟨g,c,rfl,zI,nk,hkc,hcs⟩:∃g c,vz=O (A ⟨g,0,G⟩) k c/\lb+1<=g/\g<wr.heap.size/\k<=c/\∀i x,P[i]? =A x->wr ⟨g,i,G⟩=A (.string x):=by
    rcases aV.2 with⟨rfl,hz⟩|⟨g,cap,cur,rfl,hb,hg,iJ,jH,kf,oK⟩
    .omega
    .refine⟨g,cap,rfl,hb,bH hg,iJ,λi x hx=> ?_⟩;have hi:i<k*1:=by rw[Nat.mul_one,<-qy.I];exact(fX.1 hx).1
     refine bh hg i ?_;rw[<-Array.getElem?_toList,<-List.getElem?_take_of_lt hi,oK,List.getElem?_map,hx];rfl
   have kU:=hcs 0 x0 (by rw[qi.I];rfl);have HCs:=V hcs;have dA:=V (Below.gh HB.I fH (λb h=>by have:=HLb.I;exact⟨U,id⟩));clear hcs aV fH;have i1:(0:Int)<(k:Int):=U;have i2:0<k:=U;have i4:(1:Int)<=(k:Int):=U;have i5:(k:Int)<=(c:Int):=U;go_wp2_with fail;refine(aoH.I wr dA.I).mono ?_;rintro e w2 ⟨rfl,hb⟩;have gV:=V (dA.I.step hb);have HG:=V (λi x h=>hb.cell_of (HCs.I i x h))
   cases ok
   .go_upto_region 17 with fail;refine cS (λw':H=>w' g=A (.string x0)) ?_;have hS:w2.drew g=A (.string x0):=HG.I 0 x0 (by rw[qi.I];rfl);refine cQ hS [0,1,4,2,5,3,6] (bL 7 λK hK=> ?_);go_simp;generalize QO:(if c=1 then A (⟨g,0,G⟩:Addr)else A ⟨g,1,G⟩)=va;have hW:ay w w (li w2 (ag #[O va (k-1) (c-1),aK ae] 119)).drew:=(gV.I.step (aD w2 (ag #[O va (k-1) (c-1),aK ae] 119))).step (below_drewN _ 1);have hT:T.length+1=k:=by have:=qy.I;rw[qi.I]at this;simpa using this
    have rR:sS w2.heap.size (li w2 (ag #[O va (k-1) (c-1),aK ae] 119)).drew T:=⟨va,k-1,c-1,bZ w2 _,U,U,λi x hx=>by
     have h1:(P[i+1]?)=A x:=by rw[qi.I];exact hx
     have hT2:i<T.length:=(fX.1 hx).1;have h2:=HG.I (i+1) x h1;have h3:=jY w2 _ h2;refine⟨g,1,by rw[<-QO,aI U],by have h3:g<w2:=h3;omega,?_⟩;rw[Nat.add_comm 1 i];exact((aD w2 _).step (below_drewN _ 1)).cell_of h2⟩
    have fM:(li w2 (ag #[O va (k-1) (c-1),aK ae] 119)).drew g=A (.string x0):=((aD w2 _).step (below_drewN _ 1)).cell_of (HG.I 0 x0 (by rw[qi.I];rfl));have uN:=V (Nb.I trivial _ w2.heap.size hW gV.I.size rR);clear hW rR hS;generalize(li w2 (ag #[O va (k-1) (c-1),aK ae] 119)).drew=w3 at*;refine cY hK fM 8 λK hK=> ?_;go_simp;refine uN.I.mono ?_;rintro e w4 ⟨rfl,hr,hk⟩;have iU:w4 g=A (.string x0):=by
     have Yg:=jY w3 _ fM;have qI:=jY w2 _ (HG.I 0 x0 (by rw[qi.I];rfl));have h:=hk.block g Yg (λe=>by
      rcases e with e|e
      .have:=hM _ e;have:=HLb.I;omega
      .have qI:g<w2:=qI;omega)
     unfold kY at fM⊢;rw[h];exact fM
    have HR:=V hr;clear hr hk fM;refine bB hK iU ?_;refine cQ iU [9] (bW ?_);go_wp2_with fail;exact aZ (v:= .string I) (by simp[aW,results13]) rfl ⟨rfl,HR.I⟩
   .obtain⟨rfl,rfl,hr⟩:=rK.I rfl;obtain rfl:k=1:=by have:=qy.I;rw[qi.I]at this;simpa using this.symm
    go_wp2_with fail;exact aZ (v:= .string told) (by simp[aW,results13]) rfl ⟨rfl,hr _ gV.I⟩
abbrev nY (m:Mod) (d:dL) (h:iV) (au n:Int) (xa:aC) (xl xm:Nat) (da:aC) (dl dm:Nat):Array aj:=
 #[Y Z m.a,Y Z m.b,Y Z m.c,O xa xl xm,Y Z d.a,Y Z d.b,Y Z d.c,Y Z d.e,Y Z d.k,O da dl dm,Y Z h.b,Y Z h.w,Y Z h.r,Y Z h.m,Y Z h.d,Y Z h.e,Y cD au,Y Z n]
def apB (w:H) (e:dN) (w':H):Prop:=(∃z,e=bG (Y Z z))/\ay w w w'
theorem apC (m:Mod) (d:dL) (h:iV) (au n:Int) (xa:aC) (xl xm:Nat) (da:aC) (dl dm:Nat) (w:H) (hb:12<xl\/64<dl):
 aA aq 4 #[aF (nY m d h au n xa xl xm da dl dm)] w λe w'=>e=bG (Y Z 1)/\ay w w w':=by
 have K0:=V (aE.fg w (ag (nY m d h au n xa xl xm da dl dm) 33));have f3:=bh K0.F.1 3 (v:=O xa xl xm) rfl;have f9:=bh K0.F.1 9 (v:=O da dl dm) rfl;have h1:(12:Int)<(xl:Int)\/(¬(12:Int)<(xl:Int)/\(64:Int)<(dl:Int)):=U;rcases h1 with h1|⟨h1,h2⟩
 all_goals
  go_enter func4,ntmps4;go_wp2_with fail;exact aZ (v:=Y Z 1) Q4A rfl ⟨rfl,K0.F.2⟩
theorem apD (m:Mod) (d:dL) (h:iV) (au n:Int) (nX rj:Nat->Prop) (xa:aC) (xl xm:Nat) (da:aC) (dl dm:Nat) (w:H) (hm:cH iM 7 nX w xa xl m.L) (hd:cH kz 2 rj w da dl d.xs) (h12:xl<=12) (Ny:dl<=64):
 aA aq 4 #[aF (nY m d h au n xa xl xm da dl dm)] w (apB w):=by
 have K0:=V (aE.fg w (ag (nY m d h au n xa xl xm da dl dm) 33));have KR:=V ((hm.bt gL U).and (hd.bt iG U));have f3:=bh K0.F.1 3 (v:=O xa xl xm) rfl;have f9:=bh K0.F.1 9 (v:=O da dl dm) rfl;have h1:¬(12:Int)<(xl:Int):=U;have h2:¬(64:Int)<(dl:Int):=U;clear hm hd;go_enter func4,ntmps4;go_wp2_with fail;obtain⟨w1,eI⟩:∃u,li w (ag (nY m d h au n xa xl xm da dl dm) 33)=u:=⟨_,rfl⟩;try rw[eI]
 rw[eI]at K0;have uY:=V K0.F.2;clear eI;go_loopw [25,3,5] (λi s3 _ wr=>∃(k sz:Nat),k<=dl/\i=Y Z k/\s3=Y Z sz/\sz<=k*140737488351232/\ay w1 w1 wr) (λi _ _ _=>dl-(aX i).toNat)
 case atStart=>exact⟨0,0,cK _,rfl,rfl,U,eG _ _⟩
 case round=>
  obtain⟨k,sz,hk,rfl,rfl,dQ,hb⟩:=hrel;have HB:=V hb;have Nz:=V (uY.I.step hb);clear hb;by_cases aT:k<dl
  .obtain⟨x,hx⟩:∃x,d.xs[k]? =A x:=⟨d.xs[k]'(E ((KR.aQ Nz.I).2.1)),Q2W⟩;obtain⟨b,off,cs,rfl,_,⟨a1,l1,c1,rfl,dY⟩,hcs⟩:=(KR.aQ Nz.I).2.get hx;have g0:=hcs 0 (O a1 l1 c1) rfl;have g1:=hcs 1 (Y Z x.y) rfl;simp only[eL]at g0;have kM:=dY.1.eC;have q0:=nj (bZ wr (lB a1 l1 c1 x.y));have pK:=V (HB.I.step (aD wr (lB a1 l1 c1 x.y)));obtain⟨P,hP⟩:=J (k*140737488351232);rw[hP]at dQ;have Dj:P<=9007199254740992:=U;have eI:wrap64 ((sz:Int)+(l1:Int))=((sz+l1:Nat):Int):=by rw[iZ _ ⟨U,U⟩];omega
   clear hx dY hcs;go_wp2_with fail;go_roundw
   case rel=>exact⟨k+1,sz+l1,U,Q2T,by first|rfl|go_num,U,pK.I⟩
   case measure=>exact Q5q
  .obtain rfl:k=dl:=U;have G8:=bV K0.F.1 HB.I;have e0:=bh G8 0 (v:=Y Z m.a) rfl;have e1:=bh G8 1 (v:=Y Z m.b) rfl;have e2:=bh G8 2 (v:=Y Z m.c) rfl;have e3:=bh G8 3 (v:=O xa xl xm) rfl;have MA:=V (apz m nX xa xl xm wr (KR.aQ Nz.I).1);by_cases h15:(1500:Int)<(sz:Int)
   .go_wp2_with fail;exact aZ (v:=Y Z 2) Q4A rfl ⟨⟨_,rfl⟩,Nz.I⟩
   go_wp2_with fail;refine MA.I.mono ?_;rintro e' w5 ⟨a,l,c,a2,l2,c2,x,a3,l3,c3,r,rfl,hb⟩;have dO:=V (Nz.I.step hb);clear hb e1;by_cases hr:r=10
   .subst hr;go_wp2_with fail;exact aZ (v:=Y Z 3) Q4A rfl ⟨⟨_,rfl⟩,dO.I.step (aD _ _)⟩
   .have e1:(r==10)=ae:=by simpa using hr
    go_wp2_with fail;exact aZ (v:=Y Z 0) Q4A rfl ⟨⟨_,rfl⟩,dO.I.step (aD _ _)⟩
theorem aeK (w:H) (a:aC) (l c:Nat) (e:Int) (b:aC) (m k:Nat) (t:TypeId):
 (li w (ag #[O a l c,Y Z e,O b m k] t)).heap[w.heap.size]? =A (ag #[O a l c,Y Z e,O b m k] t (0,0)):=bZ _ _
theorem aeL (a:aC) (l c:Nat) (d:ah) (e:Int) (b:aC) (m k:Nat) (z:ah) (a2:aC) (l2 c2:Nat) (b2:aC) (m2 k2:Nat) (w:H)
 (h0:ai Z w a l d) (h1:ai aO w b m z) (g0:ai Z w a2 l2 d) (g1:ai aO w b2 m2 z):
 aA aq 89 #[aS a l c e b m k,aS a2 l2 c2 e b2 m2 k2] w (dZ (aK true) w):=by
 obtain rfl:l=l2:=by rw[<-h0.bA,<-g0.bA]
 obtain rfl:m=m2:=by rw[<-h1.bA,<-g1.bA]
 have pW:=h1.eC;have B1:=aD w (ag #[O a l c,Y Z e,O b m k] 57);have B2:=aD (li w (ag #[O a l c,Y Z e,O b m k] 57)) (ag #[O a2 l c2,Y Z e,O b2 m k2] 57);have ku:=fF (aeK w a l c e b m k 57) B2;have lU:=aeK (li w (ag #[O a l c,Y Z e,O b m k] 57)) a2 l c2 e b2 m k2 57;have BB:=V (B1.step B2);have H0:=V (h0.below BB.I);have H1:=V (h1.below BB.I);have G0:=V (g0.below BB.I);have G1:=V (g1.below BB.I);have hb:((m:Int) != (m:Int))=ae:=Q2W;have he:(e != e)=ae:=Q2W;rw[bF]at lU;have N1:=V ku;have N2:=V lU;clear h0 h1 g0 g1 lU;unfold aS;go_enter func89,ntmps89;go_wp2_with fail;generalize eI:li (li w (ag #[O a l c,Y Z e,O b m k] 57)) (ag #[O a2 l c2,Y Z e,O b2 m k2] 57)=w1 at*;refine(show aA _ _ _ _ (oa (aK true) w1)from(dI (show d=d from rfl))▸aeA a l c d a2 l c2 d w1 H0.I G0.I).mono ?_;rintro e' w' ⟨rfl,q0,rfl⟩;have x0:=aY (fF N1.I (below_drewN w1 q0));have y0:=aY (fF N2.I (below_drewN w1 q0));go_wp2_with fail;go_loopw [31] (λi wr=>∃k q:Nat,k<=m/\i=Y Z k/\wr=w1.drewN q) (λi _=>m-(aX i).toNat)
 case atStart=>exact⟨0,q0,cK _,rfl,rfl⟩
 case round=>
  obtain⟨i,q,hk,rfl,rfl⟩:=hrel;have x0:=aY N1.I;have y0:=aY N2.I;by_cases aT:i<m
  .obtain⟨p0,o0,rfl,e0⟩:=H1.I.cells U;obtain⟨p1,o1,rfl,e1⟩:=G1.I.cells U;have f0:=e0 i aT;have f1:=e1 i aT;generalize z.getD i 0=x at*;have c2:(x != x)=ae:=Q2W;go_wp2;go_quiet (fail)
   go_wp2;go_roundw
   case rel=>exact⟨i+1,q+nq,U,Q2T,rfl⟩
   case measure=>exact Q5q
  .go_wp2;go_ret;exact⟨rfl,BB.I.bI q⟩
theorem apE (ps:List bD) (RF RG:Nat->Prop) (pa qa:aC) (pn pc qn qc:Nat) (w:H) (hp:rM RF w pa pn ps) (hq:rM RG w qa qn ps):
 aA aq 33 #[O pa pn pc,O qa qn qc] w (dZ (aK true) w):=by
 obtain rfl:pn=qn:=by rw[<-hp.1,<-hq.1]
 have HP:=V ((hp.bt iF U).and (hq.bt iF U));have hlen:=hp.1;have iB:=hp.2.1;have e0:((pn:Int) != (pn:Int))=ae:=Q2W;clear hp hq;go_enter func33,ntmps33;go_wp2_with fail;go_loopw [14,5,6] (λi _ _ wr=>∃k:Nat,k<=pn/\i=Y Z k/\ay w w wr) (λi _ _ _=>pn-(aX i).toNat)
 case atStart=>exact⟨0,cK _,rfl,eG _ _⟩
 case round=>
  obtain⟨k,hk,rfl,hb⟩:=hrel;have HB:=V hb;clear hb;by_cases aT:k<pn
  case neg=>
   obtain rfl:k=pn:=U;go_wp2_with fail;exact aZ (v:=aK true) (by simp[aW,results33]) rfl ⟨rfl,HB.I⟩
  obtain⟨x,hx⟩:∃x,ps[k]? =A x:=⟨ps[k]'U,Q2W⟩;have YH:=HP.I.jD HB.I;obtain⟨pb,po,cs,rfl,_,⟨a1,l1,c1,a2,l2,c2,a3,l3,c3,a4,l4,c4,a5,l5,c5,rfl,r1,r2,r3,r4,r5⟩,hcs⟩:=YH.1.get hx;obtain⟨qb,qo,ds,rfl,_,⟨b1,m1,d1,b2,m2,d2,b3,m3,d3,b4,m4,d4,b5,m5,d5,rfl,s1,s2,s3,s4,s5⟩,oX⟩:=YH.2.get hx;have HC:=V hcs;have HD:=V oX;have HR:=V (aw r3.1 s3.1);have T1:=V (λw' (hb:ay wr wr w')=>aeL a1 l1 c1 x.w.d x.w.e a2 l2 c2 x.w.z b1 m1 d1 b2 m2 d2 w' (r1.1.below hb) (r2.1.below hb) (s1.1.below hb) (s2.1.below hb));have T2:=V (λw' (hb:ay wr wr w')=>aeL a4 l4 c4 x.b.d x.b.e a5 l5 c5 x.b.z b4 m4 d4 b5 m5 d5 w' (r4.1.below hb) (r5.1.below hb) (s4.1.below hb) (s5.1.below hb));obtain rfl:l3=m3:=by rw[<-r3.1.bA,<-s3.1.bA]
  have zN:=r3.1.eC;unfold aS at T1 T2;have k1:(k:Int)<(pn:Int):=U;have e3:((l3:Int) != (l3:Int))=ae:=Q2W;clear hx YH hcs oX r3 s3;go_upto_region 6 with fail;refine cS (λw':H=>ay wr wr w') ?_;have hS:ay wr wr wr.drew:=below_drewN wr 1;refine Lt.takes Q2U hS [0,1,5,6,2,7,3,8,4,9] kr rfl ?_;repeat(first|((refine Lt.more (v:= ?_) rfl (aM ⟨Q3u,?_⟩) ?_;rotate_left;(intro w' hw';have g0:=hw'.cell_of (HC.I 0 _ rfl);have g1:=hw'.cell_of (HC.I 1 _ rfl);have g2:=hw'.cell_of (HC.I 2 _ rfl);have g3:=hw'.cell_of (HD.I 0 _ rfl);have g4:=hw'.cell_of (HD.I 1 _ rfl);have g5:=hw'.cell_of (HD.I 2 _ rfl);simp only[eL]at g0 g3;go_simp;try with_reducible rfl);try simp only[Act.put,dC,dD,dE]))|((refine Lt.more (v:=undef) rfl (bJ ⟨Q3u,rfl⟩) ?_;try simp only[Act.put,dC,dD,dE])))
  refine Lt.done ?_;refine bL 10 λK hK=> ?_;go_simp;refine bY (T1.I _ hS) λw2 hb=> ?_;have bX:ay wr wr w2:=hS.step hb;clear hS hb;refine bB hK bX ?_;refine bR bX [11,12,13,14,18,19,15,20,16,21,17,22] (λ_ h=>aw (h.cell_of (HC.I 4 _ rfl)) (aw (h.cell_of (HC.I 5 _ rfl)) (aw (h.cell_of (HC.I 6 _ rfl)) (aw (h.cell_of (HD.I 4 _ rfl)) (aw (h.cell_of (HD.I 5 _ rfl)) (h.cell_of (HD.I 6 _ rfl))))))) (bL 23 λK hK=> ?_);go_simp;refine bY (T2.I _ bX) λw3 hb=> ?_;have fM:ay wr wr w3:=bX.step hb;clear hb;refine bB hK fM ?_;refine bR fM [24,25,26,27,28,33,34,29,35,30,36,31,37,32,38,39,40] (λ_ h=>aw (h.cell_of (HC.I 3 _ rfl)) (h.cell_of (HD.I 3 _ rfl))) (bW ?_);have gV:=V fM;have g0:=fM.cell_of (HC.I 3 _ rfl);go_wp2_with fail;clear g0;go_loopw [64,6] (λi _ wx=>∃j:Nat,j<=l3/\i=Y Z j/\ay wr wr wx) (λi _ _=>l3-(aX i).toNat)
  case atStart=>exact⟨0,cK _,rfl,gV.I⟩
  case round=>
   obtain⟨j,hj,rfl,hb⟩:=hrel;have B8:=V hb;clear hb;by_cases gS:j<l3
   .have j1:(j:Int)<(l3:Int):=U;obtain⟨p3,o3,rfl,y0⟩:=HR.I.1.cells U;obtain⟨q3,v3,rfl,y1⟩:=HR.I.2.cells U;have HY:=V (aw (y0 j gS) (y1 j gS));generalize x.m.getD j 0=z at*;have ez:(z != z)=ae:=Q2W;have g0:=B8.I.cell_of (HC.I 3 _ rfl);have g1:=B8.I.cell_of (HD.I 3 _ rfl);have g2:=B8.I.cell_of HY.I.1;have g3:=B8.I.cell_of HY.I.2;have pK:=V (B8.I.step (below_drewN _ 1));go_upto_region 11 with fail;refine cS (λw':H=>w' ⟨pb,po+k*7+3,G⟩=A (O (A ⟨p3,o3,G⟩) l3 c3)/\w' ⟨qb,qo+k*7+3,G⟩=A (O (A ⟨q3,v3,G⟩) l3 d3)/\w' ⟨p3,o3+j,G⟩=A (Y cr z)/\w' ⟨q3,v3+j,G⟩=A (Y cr z)) ?_;have hS:(wr.drew) ⟨pb,po+k*7+3,G⟩=A (O (A ⟨p3,o3,G⟩) l3 c3)/\(wr.drew) ⟨qb,qo+k*7+3,G⟩=A (O (A ⟨q3,v3,G⟩) l3 d3)/\(wr.drew) ⟨p3,o3+j,G⟩=A (Y cr z)/\(wr.drew) ⟨q3,v3+j,G⟩=A (Y cr z):=⟨g0,g1,g2,g3⟩;clear g0 g3;refine bR hS [0,1,5,8,9,13,2,10,3,11,4,12,6,14,7,15,16] (λ_ h=>aw h.1 (aw h.2.1 (aw h.2.2.1 h.2.2.2))) (bW ?_);clear hS;go_wp2_with fail;go_roundw
    case rel=>exact⟨j+1,U,Q2T,pK.I⟩
    case measure=>exact Q5q
   .obtain rfl:j=l3:=U;go_wp2_with fail;go_roundw
    case rel=>exact⟨k+1,U,Q2T,HB.I.step B8.I⟩
    case measure=>exact Q5q
theorem apF (s:dJ) (RF RG:Nat->Prop) (pa qa:aC) (pn pc qn qc:Nat) (w:H) (hp:rM RF w pa pn s.ps) (hq:rM RG w qa qn s.ps):
 aA aq 10 #[aF (s.cells pa pn pc),aF (s.cells qa qn qc)] w (dZ (aK true) w):=by
 have K0:=V (aE.fG w (kI s.au s.step pa pn pc) (kI s.au s.step qa qn qc));have SP:=V (apE s.ps RF RG pa qa pn pc qn qc _ (hp.below iF U K0.F.2.2) (hq.below iF U K0.F.2.2));have f0:=bP K0.F.1;have g0:=bP K0.F.2.1;have e1:(s.au==s.au)=true:=Q2W;have e2:(s.step==s.step)=true:=Q2W;clear hp hq;unfold dJ.cells;go_enter func10,ntmps10;go_wp2_with fail;refine bY SP.I λw2 hb=> ?_;have HB:=V (K0.F.2.2.step hb);go_wp2_with fail;exact aZ (v:=aK true) (by simp[aW,results10]) rfl ⟨rfl,HB.I⟩
end
theorem Tr.aoI {t:eY} (h:t.kD N) (h1:s.aH=true) (h2:s.au=t.s.au):(Tr.step t s).kD N/\(Tr.step t s).k.ops<=t.k.ops+6000:=by
 unfold Tr.step;split
 .exact Tr.Ri (h.next h1 h2)
 .exact⟨h.next h1 h2,Q4f⟩
theorem Tr.Nr:∀(k i:Nat) (t:eY),t.kD N->(Tr.vh i t k).2.kD N/\(Tr.vh i t k).2.k.ops<=t.k.ops+(k:Int)*6000
 |0,i,t,h=>⟨h,Q4f⟩
 |k+1,i,t,h=>by
  unfold Tr.vh;by_cases c:(Tr.next t.m t.d t.h t.s).1 ≠0
  .rw[aR c];exact⟨h,Q4f⟩
  .rw[aI c];have hm:=Tr.aeb (m:=t.m) (d:=t.d) (h:=t.h) (s:=t.s) U;have hs:=Tr.aoI h hm.1 hm.2;have hr:=Tr.Nr k (i+1) _ hs.1;exact⟨hr.1,by have:=hs.2;have:=hr.2;omega⟩
theorem Tr.aex {m:Mod} {d:dL} {h:iV} (h0:Tr.Cr m d h au=0) (hs:P.Z4 au) (h4:4<=n) (hn:n<=4096) (hj:(Jr.opened (fd.new n).aN).half=n/2/\(Jr.opened (fd.new n).aN).slot<=1/\0<=(Jr.opened (fd.new n).aN).gen/\(Jr.opened (fd.new n).aN).gen<=4294967295):(Tr.new m d h au n).2.kD n:=by
 have h1:(m.init au).1 =0:=by
  unfold Tr.Cr at h0;split at h0
  .omega
  .split at h0
   .omega
   .exact h0
 exact⟨h4,hn,hj.1,hj.2.1,hj.2.2,by show(0:Int)<=0+1;omega,Mod.aec h1,hs,by show(0:Int)<=0/\(0:Int)<=1000000;omega⟩
theorem kX.other {p:gA} {r:TR} {ok fJ:Nat->Prop} {t:eY} (h:kX p r ok w t) (kp:ar w S w w') (hS:∀b,S b->¬p.M b) (hk:∀b,b<w.heap.size->ok b->¬S b/\fJ b) (hM:∀b,fJ b->¬p.M b):kX p r fJ w' t:=
 ⟨kp.bC (bH h.1) (λe=>hS _ e (aM rfl)) h.1,h.2.move kp (λb e o=>hS b e (bJ o)) hk hM⟩
theorem kX.lt {p:gA} {r:TR} {ok:Nat->Prop} {t:eY} (h:kX p r ok w t):∀b,p.M b->b<w.heap.size:=λb e=>e.elim (λe=>by rw[e];exact bH h.1) (h.2.lt b)
def ry (cb:Nat) (p:gA) (w:H) (t:eY):Prop:=w.heap[cb]? =A (ag #[aP (A ⟨p.tb,0,G⟩)] 110 (0,0))/\(∃m,w ⟨0,0,G⟩=A (Y Z m))/\∃r,kX p r (λb=>¬p.M b) w t
def wW (w:H):Prop:=∃m,w ⟨0,0,G⟩=A (Y Z m)
theorem wW.kept (h:wW w) (k:ar w S w w') (hS:¬S 0):wW w':=by
 obtain⟨m,h⟩:=h;refine⟨m,?_⟩;have h0:=jY w _ h;unfold kY at h⊢;rw[k.block 0 h0 hS];exact h
theorem ry.bt {p:gA} {t:eY} (h:ry cb p w t) (k:ar w (λ_=>False) w w'):ry cb p w' t:=by
 obtain⟨h1,h2,r,h3⟩:=h;exact⟨k.bC (bH h1) id h1,wW.kept h2 k id,r,h3.other k (λ_ e=>e.elim) (λb hb ho=>⟨id,ho⟩) (λ_ h=>h)⟩
theorem ry.to {p:gA} {w2:H} {t t':eY} (h:ry cb p w t) (hp:¬p.M cb/\¬p.M 0) (k1:ar w (λ_=>False) w w1) (ht:∃r,kX p r (λb=>¬p.M b) w2 t') (k2:ar w1 p.M w1 w2):ry cb p w2 t'/\ar w p.M w w2:=by
 obtain⟨h1,h2,r,h3⟩:=h.bt k1;exact⟨⟨k2.bC (bH h1) hp.1 h1,wW.kept h2 k2 hp.2,ht⟩,(k1.mono (bu _) (λ_ _ e=>e.elim)).trans' k2 k1.size⟩
theorem Yz {w2:H} (hb:ay w w w1) (hw:w.heap.size<=wb) (k:ar w1 (λb=>b=wb) w1 w2):ar w (λ_=>False) w w2:=
 (ar.cZ hb).trans' (k.mono (bu w1.heap.size) (S':=λb=>b=wb) (λ_ _ e=>e)|>.mono (C:=w) (S':=λ_=>False) hb.size (λb h e=>U)) (bu _)
theorem aey (cb:Nat) (p:gA) (t:eY) (i:Nat) (w:H) (hi:i=1\/i=2) (hp:¬p.M cb/\¬p.M 0) (h:ry cb p w t) (hn:t.kD p.N) (ho:t.k.ops<=800000000) (hr:(Tr.rq t i).1 =((i:Int),0)):
 aA aq 13 #[aP cb,.string ⟨(([116,114,97,105,110,32]:List UInt8)++nE i).toArray⟩] w (AK (bN.ok i) λw'=>ry cb p w' (Tr.rq t i).2 /\ar w p.M w w'):=by
 have h0:=h;obtain⟨hc,⟨m,hm⟩,r,ht⟩:=h0;have aT:=ht.lt;refine Rw cb p.tb m _ ⟨#[116,114,97,105,110]⟩ ⟨#[]⟩ (bN.ok i) [⟨#[116,114,97,105,110]⟩,⟨(nE i).toArray⟩] [⟨(nE i).toArray⟩] ae p.M _ w aT hc hm ?_ ?_ ?_ rfl bK ?_ (λh=>Q38) (λw1 _=>Yy cb _ w1 kr kr kr kr) ?_
 .exact Q1S
 .rcases hi with rfl|rfl<;>kernel_rfl
 .rcases hi with rfl|rfl<;>kernel_rfl
 .rcases hi with rfl|rfl<;> ·intro x hx;simp only[jy,mj,or_false]at hx;rcases hx with rfl|rfl<;>kernel_rfl
 .intro _ w1 wb hb hw rR;refine aoB cb p.tb wb i i p.M _ w1 (λb e=>⟨λe2=>hp.1 (e2▸e),iP (aT b e) hb.size⟩) (λe=>E (bH hc)) (bV hc hb) rR ?_ ?_ ?_ ?_ ?_ ?_
  .omega
  .exact Q1S
  .omega
  .rcases hi with rfl|rfl<;>kernel_rfl
  .exact Q1S
  .intro w2 hk;have k0:=Yz hb hw hk;obtain⟨_,_,r2,zC⟩:=h.bt k0;refine(Yl p r2 _ t i w2 zC hn (λb hb h=>E (zC.lt b h)) ho (by rcases hi with rfl|rfl<;>decide)).mono ?_;exact Q1g
theorem aoJ (cb:Nat) (p:gA) (t:eY) (w:H) (hp:¬p.M cb/\¬p.M 0) (h:ry cb p w t) (hn:t.kD p.N) (ho:t.k.ops<=800000000) (hr:Tr.told t=(2,0)):
 aA aq 13 #[aP cb,.string ⟨#[99,104,101,99,107]⟩] w (AK (bN.ok 2) λw'=>ry cb p w' (Tr.check t).2 /\ar w p.M w w'):=by
 have h0:=h;obtain⟨hc,⟨m,hm⟩,r,ht⟩:=h0;have aT:=ht.lt;refine Rw cb p.tb m _ ⟨#[99,104,101,99,107]⟩ ⟨#[]⟩ (bN.ok 2) [⟨#[99,104,101,99,107]⟩] [] ae p.M _ w aT hc hm eM kr kr rfl bK ?_ (λh=>Q38) (λw1 _=>Yy cb _ w1 kr kr kr kr) ?_
 .intro x hx;simp only[jy,mj,or_false]at hx;subst hx;kernel_rfl
 .intro _ w1 wb hb hw rR;refine aoC cb p.tb wb 2 p.M _ w1 (λb e=>⟨λe2=>hp.1 (e2▸e),iP (aT b e) hb.size⟩) (bV hc hb) rR U (Nat.le_of_ble_eq_true kr) ?_;intro w2 hk;have k0:=Yz hb hw hk;obtain⟨_,_,r2,zC⟩:=h.bt k0;refine(anL p r2 _ t w2 zC hn (λb hb h=>E (zC.lt b h)) ho).mono ?_;exact Q1g
theorem aoK (cb:Nat) (p:gA) (t:eY) (s:dJ) (w:H) (hp:¬p.M cb/\¬p.M 0) (h:ry cb p w t) (hN:4<=p.N/\p.N<=4096) (ho:0<=t.k.ops/\t.k.ops<=800000000) (hg:(Jr.opened t.k.sure).gen≠0) (hl:(Jr.opened t.k.sure).last=ZY.enc s) (ng:s.aH=true) (gD:P.Z4 s.au) (lQ:∀q∈s.ps,q.wf) (hs:s.step=2):
 aA aq 13 #[aP cb,.string ⟨#[99,114,97,115,104,32,45]⟩] w (AK (bN.ok 2) λw'=>(∃jb,ry cb {p with jb:=jb} w' (Tr.u9 t s))/\ar w p.M w w'):=by
 have h0:=h;obtain⟨hc,⟨m,hm⟩,r,ht⟩:=h0;have aT:=ht.lt;refine Rw cb p.tb m _ ⟨#[99,114,97,115,104]⟩ ⟨#[]⟩ (bN.ok 2) [⟨#[99,114,97,115,104]⟩,⟨#[45]⟩] [⟨#[45]⟩] ae p.M _ w aT hc hm eM kr kr rfl bK ?_ (λh=>Q38) (λw1 _=>Yy cb _ w1 kr kr kr kr) ?_
 .intro x hx;simp only[jy,mj,or_false]at hx;rcases hx with rfl|rfl<;>kernel_rfl
 .intro _ w1 wb hb hw rR;refine aoD cb p.tb wb 2 p.M _ w1 (λb e=>⟨λe2=>hp.1 (e2▸e),iP (aT b e) hb.size⟩) (λe=>E (bH hc)) (bV hc hb) rR U (Nat.le_of_ble_eq_true kr) ?_;intro w2 hk;have k0:=Yz hb hw hk;obtain⟨jH,h02,r2,zC⟩:=h.bt k0;refine(aow p r2 t s w2 zC hN ho hg hl ng gD lQ).mono ?_;rintro e w3 ⟨rfl,⟨jb,r3,wV⟩,k3⟩;rw[hs];exact⟨rfl,⟨⟨⟨jb,k3.bC (bH jH) hp.1 jH,wW.kept h02 k3 hp.2,r3,wV⟩,(k0.mono (bu _) (λ_ _ e=>e.elim)).trans' k3 k0.size⟩,(hk.mono (bu _) (λ_ _ e=>bJ e)).trans' (k3.mono (bu _) (λ_ _ e=>aM e)) hk.size⟩,k3⟩
theorem aoL (cb:Nat) (p:gA) (t:eY) (w:H) (h:ry cb p w t) (hn:t.kD p.N) (hs:t.s.step=2):
 aA aq 13 #[aP cb,.string ⟨#[115,116,101,112]⟩] w (AK ⟨#[50]⟩ λw'=>ay w w w'):=by
 have h0:=h;obtain⟨hc,⟨m,hm⟩,r,ht⟩:=h0;have hd:(⟨(nE 2).toArray⟩:ByteArray)=⟨#[50]⟩:=Q2Q;refine Rw cb p.tb m _ ⟨#[115,116,101,112]⟩ ⟨#[50]⟩ ⟨#[50]⟩ [⟨#[115,116,101,112]⟩] [] true (λ_=>False) _ w (λ_ e=>e.elim) hc hm eM kr kr rfl bK ?_ (λ_=>⟨rfl,rfl,λw' h=>h⟩) (λw1 hb=> ?_) (λh=>Q38)
 .intro x hx;simp only[jy,mj,or_false]at hx;subst hx;kernel_rfl
 .obtain⟨jH,h02,r2,zC⟩:=h.bt (ar.cZ hb);exact hd▸aoE cb p.tb 2 t.s w1 jH hs U (Rk p r2 _ t w1 zC hn)
def bN.t0:eY:=(Tr.new bN.m bN.d bN.h 1 256).2
def bN.t1:eY:=(Tr.rq bN.t0 2).2
def bN.t2:eY:=(Tr.check bN.t1).2
def bN.t3:eY:=(Tr.rq bN.t2 1).2
theorem bN.ev0:Tr.Cr bN.m bN.d bN.h 1=0:=Q2Q
theorem bN.ev1:(Tr.rq bN.t0 2).1 =(2,0):=Q2Q
theorem bN.ev2:Tr.told bN.t1=(2,0):=Q2Q
theorem bN.ev3:(Tr.rq bN.t2 1).1 =(1,0):=Q2Q
theorem bN.ev4:(Jr.opened bN.t3.k.sure).gen=1:=Q2Q
theorem bN.ev5:(Jr.opened bN.t3.k.sure).last=ZY.enc bN.t1.s:=Q2Q
theorem bN.ev6:bN.t1.s.step=2:=Q2Q
theorem bN.ev8:bN.t3.k.ops=7:=Q2Q
theorem bN.ev9:((Jr.opened (fd.new 256).aN).half,(Jr.opened (fd.new 256).aN).slot,(Jr.opened (fd.new 256).aN).gen)=(128,1,0):=Q2Q
theorem bN.aoM:((Jr.opened (fd.new 60).aN).half,(Jr.opened (fd.new 60).aN).slot,(Jr.opened (fd.new 60).aN).gen)=(30,1,0):=Q2Q
theorem bN.aoN:((Jr.opened bN.t3.k.sure).half,Nat.ble (Jr.opened bN.t3.k.sure).slot 1)=(128,true):=Q2Q
theorem bN.n0:bN.t0.kD 256:=Tr.aex bN.ev0 ⟨U,U⟩ U U (by
 have h:=bN.ev9;injection h with h1 h2;injection h2 with h2 h3;rw[h1,h2,h3];omega)
theorem bN.o0:bN.t0.k.ops=1:=Q2Q
theorem bN.n1:bN.t1.kD 256/\bN.t1.k.ops<=20000:=⟨(Tr.Nr 2 0 _ bN.n0).1,by have h:bN.t1.k.ops<=_:=(Tr.Nr 2 0 _ bN.n0).2;rw[bN.o0]at h;omega⟩
theorem bN.n2:bN.t2.kD 256/\bN.t2.k.ops<=30000:=⟨(Tr.Ri bN.n1.1).1,by have h:bN.t2.k.ops<=_:=(Tr.Ri bN.n1.1).2;have:=bN.n1.2;omega⟩
theorem bN.n3:bN.t3.kD 256:=(Tr.Nr 1 0 _ bN.n2.1).1
theorem bN.n4:(Tr.u9 bN.t3 bN.t1.s).kD 256:=by
 have h:=bN.aoN;injection h with h1 h2;exact⟨U,U,h1,Nat.le_of_ble_eq_true h2,by show 0<=(Jr.opened bN.t3.k.sure).gen/\(Jr.opened bN.t3.k.sure).gen<=4294967295;rw[bN.ev4];omega,by show 0<=bN.t3.k.ops+1;rw[bN.ev8];omega,bN.n1.1.aH,bN.n1.1.au,bN.n3.fail⟩
section
attribute [local go_sem ↓] wp_at_zero wp_at_succ
def aoO (w:H) (e:dN) (w':H):Prop:=∃cb p,e=bG (aP (A ⟨cb,0,G⟩))/\ry cb p w' bN.t0/\¬p.M cb/\¬p.M 0/\(∀b,p.M b->w.heap.size<=b)/\p.N=256/\w.heap.size<=cb/\ay w w w'
theorem aoP (w:H) (h0:wW w):aA aq 12 #[] w (aoO w):=by
 have FI:=V (aov w);have HC:=V h0;go_enter func12,ntmps12;go_wp2_with fail;refine FI.I.mono ?_;rintro e w1 ⟨a,l,b,n,rfl,hm,hd,hb⟩;have K0:=V ((aE.lj w1 (ag (bN.m.cells a 4 l) 25) (ag (bN.d.cells b 6 n) 28) (nI bN.h.b bN.h.w bN.h.r bN.h.m bN.h.d bN.h.e)).and (((hm.bt gL U).and (hd.bt iG U))|>.alloc (ag (bN.m.cells a 4 l) 25)|>.alloc (ag (bN.d.cells b 6 n) 28)|>.alloc (nI bN.h.b bN.h.w bN.h.r bN.h.m bN.h.d bN.h.e)));have HB:=V hb;clear hm hd hb;unfold mP;try dsimp only
 have NW:=V (λw' h1 h2=>aem bN.m bN.d bN.h 1 256 (λ_=>True) (λ_=>True) a 4 l b 6 n w' h1 h2 ⟨U,U⟩ U U);unfold mP at NW;try dsimp only at NW
 have f0:=eQ K0.F.1.1;have g0:=df K0.F.1.2.1;have q0:=df K0.F.1.2.2.1;go_wp2_with fail;generalize li (li (li w1 (ag (bN.m.cells a 4 l) 25)) (ag (bN.d.cells b 6 n) 28)) (nI bN.h.b bN.h.w bN.h.r bN.h.m bN.h.d bN.h.e)=w2 at*;refine(NW.I w2 K0.F.2.1 K0.F.2.2).mono ?_;rintro e w3 h;rcases h with⟨h,-⟩|⟨-,p,r,hN,rfl,ht,hM,hb⟩
 .exact absurd bN.ev0 h
 have hw:=(HB.I.step K0.F.1.2.2.2).step hb;have ja:=(HB.I.step K0.F.1.2.2.2).size;have gN:=aD w3 (ag #[aP (A ⟨p.tb,0,G⟩)] 110);have xO:=bZ w3 (ag #[aP (A ⟨p.tb,0,G⟩)] 110);have Et:¬p.M w3.heap.size:=λe=>Nat.lt_irrefl _ (ht.lt _ e);have h0:¬p.M 0:=λe=>by
  obtain⟨m,h⟩:=HC.I;have:=jY w _ h;have h2:=hM 0 e;have this:0<w.heap.size:=this;omega
 have zC:=ht.other (fJ:=λb=>¬p.M b) (S:=λ_=>False) (ar.cZ gN) (λ_ e=>e.elim) (λb hb ho=>⟨id,ho.2⟩) (λ_ h=>h);have HF:=V (show ry w3.heap.size p (li w3 (ag #[aP (A ⟨p.tb,0,G⟩)] 110)) bN.t0/\¬p.M w3.heap.size/\¬p.M 0/\(∀b,p.M b->w.heap.size<=b)/\p.N=256/\w.heap.size<=w3/\ay w w (li w3 (ag #[aP (A ⟨p.tb,0,G⟩)] 110))from⟨⟨xO,HC.I.kept (S:=λ_=>False) (ar.cZ (hw.step gN)) id,r,zC⟩,Et,h0,λb e=>eH ja (hM b e),hN,hw.size,hw.step gN⟩);clear ht hM hw gN xO Et NW;go_wp2_with fail;refine aZ (v:=aP w3) (by simp[aW,results12]) rfl ⟨_,p,rfl,HF.I⟩
theorem aez (w:H) (h0:wW w):aA aq 5 #[] w λe w'=>e=bG (aK true)/\ay w w w':=by
 have NW:=V (aoP w h0);have e1:(⟨(([116,114,97,105,110,32]:List UInt8)++nE 2).toArray⟩:ByteArray)=⟨#[116,114,97,105,110,32,50]⟩:=Q2Q;have e2:(⟨(([116,114,97,105,110,32]:List UInt8)++nE 1).toArray⟩:ByteArray)=⟨#[116,114,97,105,110,32,49]⟩:=Q2Q;have e3:bN.ok 2=⟨#[111,107,32,50]⟩:=Q2Q;have e4:bN.ok 1=⟨#[111,107,32,49]⟩:=Q2Q;have L1:=V (λcb p w h1 h2 h3=>e3▸e1▸aey cb p bN.t0 2 w (bJ rfl) h1 h2 h3 (by rw[bN.o0];omega) bN.ev1);have L2:=V (λcb p w h1 h2 h3=>e3▸aoJ cb p bN.t1 w h1 h2 h3 (E bN.n1.2) bN.ev2);have L3:=V (λcb p w h1 h2 h3=>e4▸e2▸aey cb p bN.t2 1 w (aM rfl) h1 h2 h3 (E bN.n2.2) bN.ev3);have L4:=V (λcb p w h1 h2 h3 h4=>e3▸aoK cb p bN.t3 bN.t1.s w h1 h2 h3 (by rw[bN.ev8];omega) (by rw[bN.ev4];omega) bN.ev5 bN.n1.1.aH bN.n1.1.au h4 bN.ev6);have L5:=V (λcb p w h1 h2=>aoL cb p (Tr.u9 bN.t3 bN.t1.s) w h1 h2 bN.ev6);clear e3 e4;go_enter func5,ntmps5;go_wp2_with fail;refine NW.I.mono ?_;rintro e w1 ⟨cb,p,rfl,hc,wX,DQ,hM,hN,xO,hb⟩;have Ow:=V hc;have jW:=V hb;have HM:=V hM;clear hc hb hM;go_wp2_with fail;refine(L1.I cb p w1 ⟨wX,DQ⟩ Ow.I (by rw[hN];exact bN.n0)).mono ?_;rintro e w2 ⟨rfl,hc,hk⟩;have Vu:=V (show ry cb p w2 bN.t1 from hc);have dA:=V (Below.gh jW.I hk (λb h=>⟨iP h jW.I.size,λe=>E (HM.I b e)⟩));clear hc hk;go_wp2_with fail;refine(L2.I cb p w2 ⟨wX,DQ⟩ Vu.I (by rw[hN];exact bN.n1.1)).mono ?_;rintro e w3 ⟨rfl,hc,hk⟩;have LG:=V (show ry cb p w3 bN.t2 from hc);have gV:=V (Below.gh dA.I hk (λb h=>⟨iP h dA.I.size,λe=>E (HM.I b e)⟩));clear hc hk;go_wp2_with fail;refine(L3.I cb p w3 ⟨wX,DQ⟩ LG.I (by rw[hN];exact bN.n2.1)).mono ?_;rintro e w4 ⟨rfl,hc,hk⟩;have Vy:=V (show ry cb p w4 bN.t3 from hc);have gT:=V (Below.gh gV.I hk (λb h=>⟨iP h gV.I.size,λe=>E (HM.I b e)⟩));have lQ:∀q∈bN.t1.s.ps,q.wf:=by
  obtain⟨-,-,r,ht⟩:=LG.I;have h:=ht.2.ps.wf;have hs:bN.t2.s=bN.t1.s:=Tr.aeh;rwa[hs]at h
 clear hc hk;go_wp2_with fail;refine(L4.I cb p w4 ⟨wX,DQ⟩ Vy.I (by rw[hN];omega) lQ).mono ?_;rintro e w5 ⟨rfl,⟨jb,hc⟩,hk⟩;have IE:=V hc;have dO:=V (Below.gh gT.I hk (λb h=>⟨iP h gT.I.size,λe=>E (HM.I b e)⟩));clear hc hk;go_wp2_with fail;refine bY (L5.I cb _ w5 IE.I (by show(Tr.u9 bN.t3 bN.t1.s).kD p.N;rw[hN];exact bN.n4)) λw6 hb=> ?_;have eW:=V (dO.I.step hb);go_wp2_with fail;exact aZ (v:=aK true) (by simp[aW,results5]) rfl ⟨rfl,eW.I⟩
end
end Go.Proofs.YtcpmhoodeieanaaGreatDoor
