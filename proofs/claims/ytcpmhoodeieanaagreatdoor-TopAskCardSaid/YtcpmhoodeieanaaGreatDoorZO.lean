/-
  Part 15 of the proof that TopAsk answers true: laws of the functions that it calls, on any memory that holds their arguments.
-/
import Derived.Test.YtcpmhoodeieanaaGreatDoorZN
set_option maxRecDepth 100000
set_option maxHeartbeats 20000000
set_option linter.unusedVariables false
set_option linter.unusedSimpArgs false
open Go.Lib renaming hid→V
open Go.IntKind renaming i64→Z,u64→cD
open Go.Value renaming int→Y,agg→aF,bool→aK
open Option renaming none→G,some→A
open Go renaming World→H,Value→aj,results→aW,bodyPost_ret→aZ,Ending→dN
open Go.Obj renaming cells→ag
open Go.Proofs.Tryz renaming prog→aq
open Go.RowKit renaming Below→ay,intOf→aX
open Nat renaming le_trans→eH,lt_of_lt_of_le→iP
open Go.World renaming size_alloc→bF
open Go.Ending renaming returned→bG
open Go.World renaming alloc→li
namespace Go.Proofs.YtcpmhoodeieanaaGreatDoor
open Go.RowKit Go.Proofs.Tryz
variable {w:H} {m:Mod} {k:Nat} {v1:aj} {d:dL} {e1:dN} {p q:gA}
section
attribute [local go_sem ↓] wp_at_zero wp_at_succ
theorem Tr.apG {t:eY}:(Tr.check t).2.m=t.m/\(Tr.check t).2.d=t.d:=by
 unfold Tr.check;split
 .exact⟨rfl,rfl⟩
 .split<;>exact⟨rfl,rfl⟩
theorem Tr.aeM:∀(k i:Nat) (t:eY),(Tr.vh i t k).2.m=t.m/\(Tr.vh i t k).2.d=t.d
 |0,i,t=>⟨rfl,rfl⟩
 |k+1,i,t=>by
  unfold Tr.vh;by_cases c:(Tr.next t.m t.d t.h t.s).1 ≠0
  .rw[aR c];exact⟨rfl,rfl⟩
  .rw[aI c];have h:=Tr.aeM k (i+1) (Tr.step t (Tr.next t.m t.d t.h t.s).2);rw[h.1,h.2];unfold Tr.step;split
   .exact Tr.apG
   .exact⟨rfl,rfl⟩
def YI (w:H) (e:dN) (w':H):Prop:=e=bG (aK true)/\ay w w w'
theorem JN {g:Nat} {x0 x1 x2 x3 x4 x5 x6 x7 x8 x9 x10 x11 x12 x13 x14 x15 x16 x17:aj} {T:TypeId} (h:w.heap[g]? =A (ag #[x0,x1,x2,x3,x4,x5,x6,x7,x8,x9,x10,x11,x12,x13,x14,x15,x16,x17] T (0,0))):
 (w g=A x0/\w ⟨g,1,G⟩=A x1/\w ⟨g,2,G⟩=A x2/\w ⟨g,3,G⟩=A x3/\w ⟨g,4,G⟩=A x4/\w ⟨g,5,G⟩=A x5)/\(w ⟨g,6,G⟩=A x6/\w ⟨g,7,G⟩=A x7/\w ⟨g,8,G⟩=A x8/\w ⟨g,9,G⟩=A x9)/\(w ⟨g,10,G⟩=A x10/\w ⟨g,11,G⟩=A x11/\w ⟨g,12,G⟩=A x12/\w ⟨g,13,G⟩=A x13/\w ⟨g,14,G⟩=A x14/\w ⟨g,15,G⟩=A x15)/\(w ⟨g,16,G⟩=A x16/\w ⟨g,17,G⟩=A x17):=
 ⟨⟨bh h 0 rfl,bh h 1 rfl,bh h 2 rfl,bh h 3 rfl,bh h 4 rfl,bh h 5 rfl⟩,⟨bh h 6 rfl,bh h 7 rfl,bh h 8 rfl,bh h 9 rfl⟩,⟨bh h 10 rfl,bh h 11 rfl,bh h 12 rfl,bh h 13 rfl,bh h 14 rfl,bh h 15 rfl⟩,⟨bh h 16 rfl,bh h 17 rfl⟩⟩
theorem apH (m:Mod) (d:dL) (h:iV) (au n nn:Int) (xa:aC) (xl xm:Nat) (da:aC) (dl dm:Nat) (w:H) (h0:wW w) (hb:12<xl\/64<dl):
 Calls aq 3 #[aF (nY m d h au n xa xl xm da dl dm),Y Z nn] w (YI w):=by
 have K0:=V (aE.fg w (ag (nY m d h au n xa xl xm da dl dm) 33));have SM:=V (apC m d h au n xa xl xm da dl dm (li w (ag (nY m d h au n xa xl xm da dl dm) 33)) hb);have AW:=V (λw' (hb:ay w w w')=>aez w' (h0.kept (S:=λ_=>False) (ar.cZ hb) id));obtain⟨⟨a0,a1,a2,a3,a4,a5⟩,⟨a6,a7,a8,a9⟩,⟨RH,RJ,a12,RL,RQ,RS⟩,⟨RX,R5⟩⟩:=JN K0.F.1;clear hb;go_enter func3,ntmps3;go_wp2_with fail;refine bY SM.I λw1 hb=> ?_;have HB:=V (K0.F.2.step hb);clear hb;go_wp2_with fail;refine bY (AW.I _ HB.I) λw2 hb=> ?_;have dA:=V (HB.I.step hb);go_wp2_with fail;exact aZ (v:=aK true) Q4B rfl ⟨rfl,dA.I⟩
structure yf (m:Mod) (d:dL) (p q:gA) (w0:H) (k:Nat) (w:H) (T:eY):Prop where
 t:∃r,kX p r (λb=>¬p.M b/\¬q.M b) w T
 u:∃r,kX q r (λb=>¬p.M b/\¬q.M b) w T
 num:T.kD 60
 ops:T.k.ops<=1+(k:Int)*6000
 md:T.m=m/\T.d=d
 kO:ay w0 w0 w
theorem yf.below {w0 w':H} {T:eY} (h:yf m d p q w0 k w T) (hb:ay w w w'):yf m d p q w0 k w' T:=by
 obtain⟨⟨r,ht⟩,⟨r',hu⟩,h1,h2,h3,h4⟩:=h;exact⟨⟨r,ht.other (S:=λ_=>False) (ar.cZ hb) (λ_ e=>e.elim) (λb _ o=>⟨id,o⟩) (λb o=>o.1)⟩,⟨r',hu.other (S:=λ_=>False) (ar.cZ hb) (λ_ e=>e.elim) (λb _ o=>⟨id,o⟩) (λb o=>o.2)⟩,h1,h2,h3,h4.step hb⟩
structure YJ (p q:gA) (w0:H):Prop where
 np:p.N=60
 nq:q.N=60
 ap:∀b,p.M b->¬q.M b
 jD:∀b,p.M b\/q.M b->w0.heap.size<=b
theorem yf.step {w0 w1 w2:H} {T:eY} {v2:aj} {e2:dN} (h:yf m d p q w0 k w T) (ha:YJ p q w0)
 (h1:vu p (λb=>¬p.M b/\¬q.M b) (Tr.rq T 1).2 w v1 e1 w1) (h2:vu q (λb=>¬p.M b/\¬q.M b) (Tr.rq T 1).2 w1 v2 e2 w2):yf m d p q w0 (k+1) w2 (Tr.rq T 1).2 :=by
 obtain⟨-,⟨r1,ht⟩,k1⟩:=h1;obtain⟨-,hu,k2⟩:=h2;have hn:=Tr.Nr 1 0 T h.num;have hm:=Tr.aeM 1 0 T;refine⟨⟨r1,ht.other k2 (λb e e2=>ha.ap b e2 e) (λb _ o=>⟨o.2,o⟩) (λb o=>o.1)⟩,hu,hn.1,?_,⟨hm.1.trans h.md.1,hm.2.trans h.md.2⟩,?_⟩
 .have:=hn.2;have:=h.ops;show(Tr.vh 0 T 1).2.k.ops<=_
  omega
 .have hs:=h.kO.size;have b1:=Below.gh h.kO k1 (λb hb=>⟨iP hb hs,λe=>E (ha.jD b (Or.inl e))⟩);exact Below.gh b1 k2 (λb hb=>⟨iP hb b1.size,λe=>E (ha.jD b (Or.inr e))⟩)
theorem yf.mid {w0 w1:H} {T T':eY} (h:yf m d p q w0 k w T) (ha:YJ p q w0) (h1:vu p (λb=>¬p.M b/\¬q.M b) T' w v1 e1 w1):∃r,kX q r (λb=>¬p.M b/\¬q.M b) w1 T:=by
 obtain⟨-,-,k1⟩:=h1;obtain⟨r,hu⟩:=h.u;exact⟨r,hu.other k1 (λb e=>ha.ap b e) (λb _ o=>⟨o.1,o⟩) (λb o=>o.2)⟩
theorem yf.okt {w0:H} {T:eY} (h:yf m d p q w0 k w T):∀b,w.heap.size<=b->¬p.M b/\¬q.M b:=λb hb=>by
 obtain⟨r,ht⟩:=h.t;obtain⟨r',hu⟩:=h.u;exact⟨λe=>E (ht.lt b e),λe=>E (hu.lt b e)⟩
theorem bN.o60:(fd.new 60).flush.ops=1:=Q2Q
theorem apI (m:Mod) (d:dL) (h:iV) (au n nn:Int) (nX rj:Nat->Prop) (xa:aC) (xl xm:Nat) (da:aC) (dl dm:Nat) (w:H) (hm:cH iM 7 nX w xa xl m.L) (hd:cH kz 2 rj w da dl d.xs) (h12:xl<=12) (Ny:dl<=64) (gD:P.Z4 au) (h0:wW w):
 Calls aq 3 #[aF (nY m d h au n xa xl xm da dl dm),Y Z nn] w (YI w):=by
 have K0:=V (aE.fg w (ag (nY m d h au n xa xl xm da dl dm) 33));have SM:=V (apD m d h au n nX rj xa xl xm da dl dm (li w (ag (nY m d h au n xa xl xm da dl dm) 33)) (hm.below gL U (aD _ _)) (hd.below iG U (aD _ _)) h12 Ny);have AW:=V (λw' (hb:ay w w w')=>aez w' (h0.kept (S:=λ_=>False) (ar.cZ hb) id));have KR:=V ((hm.bt gL U).and (hd.bt iG U));have iw:=V gD;obtain⟨⟨a0,a1,a2,a3,a4,a5⟩,⟨a6,a7,a8,a9⟩,⟨RH,RJ,a12,RL,RQ,RS⟩,⟨RX,R5⟩⟩:=JN K0.F.1;clear h0 hm hd gD;go_enter func3,ntmps3;go_wp2_with fail;refine SM.I.mono ?_;rintro e w2 ⟨⟨z,rfl⟩,hb⟩
 as_aux_lemma=>
 have K2:=K0.bU hb;have eI:w.heap.size<(li w (ag (nY m d h au n xa xl xm da dl dm) 33)).heap.size:=Q2Y;have jW:=V hb;clear hb SM a0 a1 a2 a3 a4 a5 a6 a7 a8 a9 RH RJ a12 RL RQ RS RX R5 K0;by_cases hz:0<z
 .as_aux_lemma=>
  go_wp2_with fail;refine bY (AW.I _ K2.F.2) λw3 hb=> ?_;have dA:=V (K2.F.2.step hb);clear hb;go_wp2_with fail;exact aZ (v:=aK true) Q4B rfl ⟨rfl,dA.I⟩
 have hN6:0<=cD.wrap nn%6/\cD.wrap nn%6<6:=⟨Int.emod_nonneg _ U,Int.emod_lt_of_pos _ U⟩;have hNn:0<=cD.wrap nn:=wrap_u64_nonneg _;obtain⟨u,hu⟩:=J (cD.wrap nn);rw[hu]at hN6 hNn;obtain⟨N,hN⟩:∃N:Nat,u%6=N:=⟨(u%6).toNat,U⟩;have hN5:N<=5:=U;go_upto_region 4 with fail;have NW:=V (λw' h1 h2=>aem m d h au 60 nX rj xa xl xm da dl dm w' h1 h2 iw.I U U);unfold mP at NW;have YK:=V (λh0=>Tr.aex (m:=m) (d:=d) (h:=h) (au:=au) (n:=60) h0 iw.I U U (by
  have h:=bN.aoM;injection h with h1 h2;injection h2 with h2 h3;rw[h1,h2,h3];omega))
 have YL:=V (show(Tr.new m d h au 60).2.k.ops=1 from bN.o60);have vX:=V (show(Tr.new m d h au 60).2.m=m/\(Tr.new m d h au 60).2.d=d from⟨rfl,rfl⟩);have aeN:=V (KR.aQ K2.F.2);obtain⟨⟨a0,a1,a2,a3,a4,a5⟩,⟨a6,a7,a8,a9⟩,⟨RH,RJ,a12,RL,RQ,RS⟩,⟨RX,R5⟩⟩:=JN K2.F.1;clear hN hu hN6 hNn;unfold Yo at NW;generalize Tr.Cr m d h au=ZU at*;obtain⟨T0,Fk⟩:∃T,(Tr.new m d h au 60).2 =T:=⟨_,rfl⟩;rw[Fk]at NW YK YL vX;clear Fk;go_wp2_with fail;refine(NW.I _ aeN.I.1 aeN.I.2).mono ?_;clear a0 a1 a2 a3 a4 a5 a6 a7 a8 a9 RH RJ a12 RL RQ RS RX R5;rintro e w3 (⟨hE,rfl,hb⟩|⟨rfl,p,r,YM,rfl,htp,hpM,hb⟩)
 .as_aux_lemma=>
  have e1:(ZU != 0)=true:=by simpa using hE
  have e2:(ZU==ZU)=true:=Q2W;have K3:=K2.bU hb;have NA:=V (KR.aQ K3.F.2);obtain⟨⟨a0,a1,a2,a3,a4,a5⟩,⟨a6,a7,a8,a9⟩,⟨RH,RJ,a12,RL,RQ,RS⟩,⟨RX,R5⟩⟩:=JN K3.F.1;clear hb;go_wp2_with fail;refine(NW.I _ NA.I.1 NA.I.2).mono ?_;clear a0 a1 a2 a3 a4 a5 a6 a7 a8 a9 RH RJ a12 RL RQ RS RX R5;rintro e w4 (⟨-,rfl,hb⟩|⟨h0,-⟩)
  .have gT:=V (K3.F.2.step hb);clear hb;go_wp2_with fail;refine bY (AW.I _ gT.I) λw5 hb=> ?_;have dO:=V (gT.I.step hb);clear hb;go_wp2_with fail;exact aZ (v:=aK true) Q4B rfl ⟨rfl,dO.I⟩
  .exact absurd h0 hE
 as_aux_lemma=>
 have K3:=K2.bU hb;have NA:=V (KR.aQ K3.F.2);obtain⟨⟨a0,a1,a2,a3,a4,a5⟩,⟨a6,a7,a8,a9⟩,⟨RH,RJ,a12,RL,RQ,RS⟩,⟨RX,R5⟩⟩:=JN K3.F.1;have HTp:=V htp;have apJ:=V hb.size;have Ru:=V (jW.I.step hb);have Is:=V hpM;clear hb htp hpM;go_wp2_with fail;refine(NW.I _ NA.I.1 NA.I.2).mono ?_;clear a0 a1 a2 a3 a4 a5 a6 a7 a8 a9 RH RJ a12 RL RQ RS RX R5;rintro e w4 (⟨h0,-⟩|⟨-,q,r',JC,rfl,htq,R7,hb⟩)
 .exact absurd rfl h0
 as_aux_lemma=>
 have kN:=HTp.I.lt;have aeO:=V (show YJ p q (li w (ag (nY m d h au n xa xl xm da dl dm) 33))from⟨YM,JC,λb e1 e2=>by have:=kN b e1;have:=R7 b e2;omega,λb e=>by
  have h2:=jW.I.size;have h3:=K3.F.2.size;have nQ:w2.heap.size<=w3:=apJ.I;rcases e with e|e
  .exact eH h2 (Is.I b e)
  .exact eH h2 (eH nQ (R7 b e))⟩)
 have DB:=V (show yf m d p q (li w (ag (nY m d h au n xa xl xm da dl dm) 33)) 0 w4 T0 from⟨⟨r,HTp.I.other (S:=λ_=>False) (ar.cZ hb) (λ_ e=>e.elim) (λb hb o=>⟨id,o.2,λe=>E (R7 b e)⟩) (λb o=>o.1)⟩,
  ⟨r',htq.other (S:=λ_=>False) (ar.cP _ _ _) (λ_ e=>e.elim) (λb _ o=>⟨id,λe=>E (kN b e),o.2⟩) (λb o=>o.2)⟩,YK.I trivial,by rw[YL.I];omega,vX.I,Ru.I.step hb⟩)
 have cW:=aD w (ag (nY m d h au n xa xl xm da dl dm) 33);have eV:=V cW;have G8:=heap_alloc_new w (ag (nY m d h au n xa xl xm da dl dm) 33);have HKb:=V G8;clear hb htq R7 cW G8 NW YK YL vX aeN NA HTp Is apJ Ru K3 K2 jW kN;go_wp2_with fail;go_loopw [76,9,10,11,12,13,14,15,16,17,18] (λi _ _ _ _ _ _ _ _ _ _ wr=>∃(k:Nat) (T:eY),k<=N/\i=Y Z k/\yf m d p q (li w (ag (nY m d h au n xa xl xm da dl dm) 33)) k wr T) (λi _ _ _ _ _ _ _ _ _ _ _=>N-(aX i).toNat)
 case atStart=>exact⟨0,T0,Nat.zero_le _,rfl,DB.I⟩
 case round=>
  as_aux_lemma=>
  obtain⟨k,T,hk,rfl,Dk⟩:=hrel;have HP:=V Dk;clear Dk;by_cases aT:k<N
  case neg=>
   as_aux_lemma=>
   obtain rfl:k=N:=U;have R8:T.kD p.N:=by rw[YM];exact HP.I.num
   have YN:T.kD q.N:=by rw[JC];exact HP.I.num
   have YO:=V (by
    obtain⟨r,ht⟩:=HP.I.t;exact Rk p r _ T wr ht R8)
   have LR:=V (λw' (hb:ay wr wr w')=>by
    obtain⟨r,ht⟩:=(HP.I.below hb).u;exact Rk q r _ T w' ht YN)
   go_wp2_with fail;refine YO.I.mono ?_;rintro e w5 ⟨a1,n1,c1,rfl,h1,gi⟩;have dO:=V gi;have H1:=V (h1.bt iF U);clear gi h1 YO;go_wp2_with fail;refine(LR.I w5 dO.I).mono ?_;rintro e w6 ⟨a2,n2,c2,rfl,h2,cO⟩;have eW:=V (dO.I.step cO);have SS:=V (apF T.s _ _ a1 a2 n1 c1 n2 c2 w6 (H1.I.jD cO) h2);clear cO h2 LR H1 dO;go_wp2_with fail;refine bY SS.I λw7 dR=> ?_;have kP:=V (eV.I.step (HP.I.kO.step (eW.I.step dR)));clear dR SS eW;go_wp2_with fail;refine bY (AW.I _ kP.I) λw8 ej=> ?_;have uJ:=V (kP.I.step ej);clear ej;go_wp2_with fail;exact aZ (v:=aK true) Q4B rfl ⟨rfl,uJ.I⟩
  as_aux_lemma=>
  have k1:(k:Int)<(N:Int):=U;obtain⟨EV,YP⟩:=J (Tr.eval T.m T.d T.s.ps);have D1:=V (λw' (hb:ay wr wr w')=>by
   obtain⟨r,ht⟩:=(HP.I.below hb).t;exact YP▸anK p r _ T w' ht)
  have e1:(EV.1!= EV.1)=false:=Q2W;have e2:(EV.2!= EV.2)=false:=Q2W;go_wp2_with fail;refine bY (D1.I wr (Below.refl _ _)) λw5 gi=> ?_;have dO:=V gi;clear gi;go_wp2_with fail;refine bY (D1.I w5 dO.I) λw6 cO=> ?_;have eW:=V (dO.I.step cO);clear cO dO D1;go_upto_region 12 with fail
  as_aux_lemma=>
  have R8:T.kD p.N:=by rw[YM];exact HP.I.num
  have YN:T.kD q.N:=by rw[JC];exact HP.I.num
  have YO:=V (λw' (hb:ay wr wr w')=>by
   obtain⟨r,ht⟩:=(HP.I.below hb).t;exact Rk p r _ T w' ht R8)
  have BD:∀(x y z:aj) (w:H),(Instr.field 48 (aF #[x,y,z]) 2).run aq w= .ok z w:=λ_ _ _ _=>Q2Q;have YQ:=V (λw' (hb:ay wr wr w')=>bV HKb.I (HP.I.kO.step hb));have YR:=V (λw' (hb:ay wr wr w') a n c (hp:pH w' a n T.s.ps)=>adN m d T.s.ps nX rj xa xl xm da dl dm a n c w' (KR.aQ (eV.I.step (HP.I.kO.step hb))).1 (KR.aQ (eV.I.step (HP.I.kO.step hb))).2 hp);rw[HP.I.md.1,HP.I.md.2]at YP;rw[YP]at YR;refine cS (λw':H=>w'.heap[w.heap.size]? =A (ag (nY m d h au n xa xl xm da dl dm) 33 (0,0))) ?_;have dR:=eW.I.step (below_drewN w6 1);have hS:w6.drew.heap[w.heap.size]? =A (ag (nY m d h au n xa xl xm da dl dm) 33 (0,0)):=YQ.I _ dR;refine bR hS [0,2,4,1,3] (λ_ h=>JN h) (bL 5 λK hK=> ?_);go_simp;refine(YO.I _ dR).mono ?_;rintro e' w8 ⟨sa,sn,sc,rfl,jd,ej⟩;have gK:=dR.step ej;have bX:=YQ.I _ gK;have tW:=V jd.Bz;unfold dJ.cells;clear hS dR ej jd;refine bB hK bX ?_;clear hK K;refine cQ bX [6] (bL 7 λK hK=> ?_);go_simp;refine bY (YR.I w8 gK sa sn sc tW.I) λw9 eX=> ?_;have o9:=gK.step eX;have fM:=YQ.I _ o9;have rS:=V o9;clear gK eX o9 bX YR tW YO;refine bB hK fM ?_;clear hK K;refine cQ fM [8,9,10,11,12] (bW ?_);clear fM;have DC:=V (HP.I.below rS.I);have Ng:T.k.ops<=800000000:=E HP.I.ops;obtain⟨TT,R9⟩:=J (Tr.rq T 1);have TR1:=V (by
   obtain⟨r,ht⟩:=DC.I.t;exact R9▸Yl p r _ T 1 w9 ht R8 DC.I.okt Ng U)
  have TR2:=V (λw' e v (h1:vu p (λb=>¬p.M b/\¬q.M b) TT.2 w9 v e w')=>by
   obtain⟨r,ht⟩:=DC.I.mid aeO.I h1;exact R9▸Yl q r _ T 1 w' ht YN (λb hb=>DC.I.okt b (eH h1.2.2.size hb)) Ng U)
  have HTT:=V R9;have e3:(TT.1.2!= TT.1.2)=false:=Q2W;clear R9;go_wp2_with fail;refine TR1.I.mono ?_;rintro e' wA hA;have HA:=V hA;obtain rfl:=hA.1;clear hA TR1;go_wp2_with fail;refine(TR2.I wA _ _ HA.I).mono ?_;rintro e' wB hB;have QT:=V hB;obtain rfl:=hB.1;clear hB TR2;have uI:=V (DC.I.step aeO.I (by rw[HTT.I];exact HA.I) (by rw[HTT.I];exact QT.I));go_wp2_with fail;go_roundw
  case rel=>exact⟨k+1,_,U,Q2T,uI.I⟩
  case measure=>exact Q5q
end
end Go.Proofs.YtcpmhoodeieanaaGreatDoor
