/-
  Part 13 of the proof that TopAsk answers true: laws of the functions that it calls, on any memory that holds their arguments.
-/
import Derived.Test.YtcpmhoodeieanaaGreatDoorZL
import Derived.Deep.MidRow
import Derived.Deep.WholeRow
import Derived.Great.BuildSlice
import Derived.Laws.CopyRow
set_option maxRecDepth 100000
set_option maxHeartbeats 20000000
set_option linter.unusedVariables false
set_option linter.unusedSimpArgs false
open Go.Lib renaming hid→V
open Go.IntKind renaming i64→Z
open Go.Value renaming int→Y,slice→O,agg→aF,bool→aK,tuple→aL,pointer→aP
open Option renaming none→G,some→A
open Go renaming World→H,Value→aj,Calls→aA,results→aW,bodyPost_ret→aZ,lt_of_block→bH,heap_alloc_new→bZ,TypeId→dy,Ending→dN,maxLen→eS,info_parts→fB,madeCells→jz
open Bool renaming false→ae
open Go.Obj renaming cells→ag
open Go.Proofs.Tryz renaming prog→aq
open And renaming intro→aw
open Go.RowKit renaming Below→ay,intOf→aX,wrap64→cM
open Or renaming inl→aM,inr→bJ
open Nat renaming le_refl→bu,zero_le→cK,le_trans→eH,add_zero→eL,mul_one→lA,zero_add→nF
open Go.World renaming size_alloc→bF
open Go.Ending renaming returned→bG
open List renaming replicate→dz,setIfInBounds_toArray→dC,set_cons_zero→dD,set_cons_succ→dE,length_append→dG,getElem?_eq_some_iff→fX,length_map→ib,mem_append→kE,map_append→kF,append_assoc→lL,mem_of_getElem?→nB,length_cons→n8,flatMap_cons→rz,length_replicate→sw
open Go.IntWalk renaming i64_in→dv,wrap64_in→iZ
open Go.World renaming ownsRow_nil→gP,size_setCell→jR,setCell→ss,alloc→li
open Int renaming natCast_mul→gQ
open Go.Region renaming wanted→n9
namespace Go.Proofs.YtcpmhoodeieanaaGreatDoor
open Go.RowKit Go.Proofs.Tryz
variable {a:Act} {K:Act->H->Prop} {c:Array aj} {Q:Exit->Act->H->Prop} {w w' w1:H} {j:Jn} {rest:List Oper} {xs:List aj} {b i jb n:Nat} {o op:Oper} {ZU:Prop} {s z:ah} {lv:aj} {d:fd}
namespace Sc
def eF (s:ah):List aj:=s.map (Y .u8)
def flat (D:List (List Int)):List aj:=D.flatMap eF
end Sc
theorem Sc.zT:∀{D:List (List Int)},(∀s∈D,s.length=64)->(Sc.flat D).length=D.length*64
 | [],_=>rfl
 |s::D,h=>by
  have h1:=Sc.zT (D:=D) λx hx=>h x (by simp[hx]);have h2:=h s bK;unfold Sc.flat at h1⊢;rw[rz,dG,h1,Sc.eF,ib,h2,n8];omega
theorem Sc.flat_get:∀{D:List (List Int)} {i j:Nat} {s:ah},(∀s∈D,s.length=64)->D[i]? =A s->j<64->(Sc.flat D)[i*64+j]? =(Sc.eF s)[j]?
 | [],i,j,s,_,h,_=>Q4b
 |c::D,0,j,s,hs,h,hj=>by
  obtain rfl:c=s:=Q32;unfold Sc.flat;rw[rz,Nat.zero_mul,nF,List.getElem?_append_left (by rw[Sc.eF,ib,hs _ bK];exact hj)]
 |c::D,i+1,j,s,hs,h,hj=>by
  have h1:D[i]? =A s:=Q32;have h2:(Sc.eF c).length=64:=Q5d;have:=Sc.flat_get (λx hx=>hs x (by simp[hx])) h1 hj;unfold Sc.flat at this⊢;rw[rz,List.getElem?_append_right U,h2,<-this]
  congr 1
  omega
theorem Sc.adF:∀{D:List (List Int)} {i:Nat} {x:ah},(∀s∈D,s.length=64)->i<D.length->Sc.flat (D.set i x)=(Sc.flat D).take (i*64)++Sc.eF x++(Sc.flat D).drop (i*64+64)
 | [],i,x,_,h=>Q4b
 |c::D,0,x,hs,_=>by
  have h2:(Sc.eF c).length=64:=Q5d;unfold Sc.flat;simp[h2]
 |c::D,i+1,x,hs,h=>by
  have h2:(Sc.eF c).length=64:=Q5d;have:=Sc.adF (D:=D) (i:=i) (x:=x) (λy hy=>hs y Q53) Q32;unfold Sc.flat at this⊢;rw[dE,rz,this,rz,List.take_append,List.drop_append,h2,List.take_of_length_le (show(Sc.eF c).length<=(i+1)*64 by omega),List.drop_of_length_le (show(Sc.eF c).length<=(i+1)*64+64 by omega),show(i+1)*64-64=i*64 by omega,show(i+1)*64+64-64=i*64+64 by omega];simp
structure lz (b:Nat) (w:H) (D:List (List Int)):Prop where
 bC:w.heap[b]? =A (ag (Sc.flat D).toArray 213 (0,0))
 len:∀s∈D,s.length=64
 byte:∀s∈D,∀x∈s,0<=x/\x<=255
theorem lz.range {D:List (List Int)} (h:lz b w D) (hs:D[i]? =A s):w.rangeAt b (i*64) (Sc.eF s):=by
 intro j v hv;have hl:=h.len s (nB hs);have hj:j<64:=by
  have:=(fX.1 hv).1;rwa[Sc.eF,ib,hl]at this
 refine bh h.bC (i*64+j) ?_;rw[List.getElem?_toArray,Sc.flat_get h.len hs hj];exact hv
theorem lz.kept {B:Nat} {S:Nat->Prop} {D:List (List Int)} (h:lz b w D) (kp:ar B S w w') (hb:b<B) (hS:¬S b):lz b w' D:=⟨kp.bC hb hS h.bC,h.len,h.byte⟩
theorem lz.below {D:List (List Int)} (h:lz b w D) (hb:ay w w w'):lz b w' D:=⟨bV h.bC hb,h.len,h.byte⟩
theorem QV:∀v∈Sc.eF s,v.oneCell'=true:=by
 intro v hv;obtain⟨x,_,rfl⟩:=List.mem_map.1 hv;rfl
theorem amV {D:List (List Int)}:∀v∈Sc.flat D,v.oneCell'=true:=by
 intro v hv;obtain⟨s,_,hs⟩:=List.mem_flatMap.1 hv;exact QV v hs
theorem lz.run_store {P:Program} {D:List (List Int)} (h:lz b w D) (hi:i<D.length) {x:ah} (hx:x.length=64) (ty:dy) (hty:(P.info? ty).map (·.size)=A 64):
 (Instr.storeAt ty (aP (A ⟨b,i*64,G⟩)) (aF (Sc.eF x).toArray)).run P w= .ok () (w.setRow b (Sc.flat (D.set i x)).toArray):=by
 have hl:(Sc.eF x).length=64:=by rw[Sc.eF,ib,hx]
 have hd:=Sc.zT h.len;have:=run_storeCells_at P b (i*64) _ (Sc.eF x) 0 _ w h.bC (by rw[List.size_toArray,hd,hl];omega) QV;have hv:(storeVar ty ⟨b,i*64,G⟩ (aF (Sc.eF x).toArray)).run P w= .ok () (w.setRow b (Sc.flat (D.set i x)).toArray):=by
  cases hq:P.info? ty with
  |none=>simp[hq]at hty
  |some n=>
   have hs:n.size=64:=by simpa[hq]using hty
   rw[eL,hl]at this;rw[Sc.adF h.len hi];simp[storeVar,sizeOf,typeInfo,hq,Value.cells,hs,hl,this]
 simp only[Instr.storeAt,Instr.sureAddr,Sem.run_bind,Sem.run_pure,Result.andThen_ok,hv]
theorem lz.stored {D ZU:List (List Int)} (h:lz b w D) (hl:∀s∈ZU,s.length=64) (hb:∀s∈ZU,∀x∈s,0<=x/\x<=255):lz b (w.setRow b (Sc.flat ZU).toArray) ZU:=
 ⟨setRow_heap w b _ _ _ _ h.bC,hl,hb⟩
theorem ar.setRow {B:Nat} {S:Nat->Prop} {a:H} (h:ar B S a w) (hb:S b\/B<=b) (cs:Array aj):ar B S a (w.setRow b cs):=
 ⟨h.os,h.tape,h.output,by rw[size_setRow];exact h.size,λg hg hn=>(setRow_other w b g cs (λe=>by subst e;rcases hb with h|h;exact hn h;omega)).trans (h.block g hg hn)⟩
theorem lz.adG {D:List (List Int)} (h:lz b w D) (hs:D[i]? =A s):s.length=64:=h.len s (nB hs)
theorem lz.adH {P:Program} {c:Nat} {D ZU:List (List Int)} (h:lz b w D) (k:lz c w ZU) (n:Nat) (hD:D.length=n) (hE:ZU.length=n) (dT sT ty elem:dy) (hu:P.underlying dT=A (.slice elem)) (hs:(P.info? elem).map (·.size)=A 64) (m:Nat):
 (Builtin.copy_ #[dT,sT] ty #[O b n m,O c n m]).run P w= .ok (goInt n) (w.setRow b (Sc.flat ZU).toArray):=by
 subst hD;have hn:=hE.symm;have e1:=Sc.zT h.len;have e2:=Sc.zT k.len;have hl:=run_loadCells_list (P:=P) w ⟨c,0,G⟩ (Sc.flat ZU) (λj v hv=>by
  rw[Addr.add_mid,nF];exact bh k.bC j (by simpa using hv))
 have fE:=run_storeCells_at P b 0 _ (Sc.flat ZU) 0 _ w h.bC (by rw[List.size_toArray,e1,e2,hn];omega) amV;rw[e2,<-hn]at hl;have hd:(Sc.flat D).drop (0+0+(Sc.flat ZU).length)=[]:=List.drop_of_length_le (by rw[e1,e2,hn];omega);have e0:(List.take (0+0) (Sc.flat D).toArray.toList++Sc.flat ZU++List.drop (0+0+(Sc.flat ZU).length) (Sc.flat D).toArray.toList).toArray=(Sc.flat ZU).toArray:=by
  rw[show(Sc.flat D).toArray.toList=Sc.flat D from rfl,hd];simp
 rw[e0]at fE
 cases hq:P.info? elem with
 |none=>simp[hq]at hs
 |some i=>
  have hi:i.size=64:=by simpa[hq]using hs
  simp[Builtin.copy_,run_underlying hu,Builtin.lenOf,Builtin.firstCells,sizeOf,typeInfo,hq,hi,hl,fE]
theorem GK:(aq.info? 213).map (·.size)=A 64:=Q2Q
theorem QW:aq.underlying 213=A (.array 64 5):=Q2Q
theorem Sc.XO (s:ah) (h:s.length=64):(Sc.eF s).toArray.size=64:=by rw[List.size_toArray,Sc.eF,ib,h]
theorem adI {P:Program} {ops:Array Oper} {ty:dy} (ld:op.guard=G) (x y:Operand) (ho:op.op= .store ty x y)
 (c':Array aj) (hx:a.eval x=aP w) (hy:a.eval y=aF c') (hi:(P.info? ty).map (·.size)=A c'.size) (hs:c.size=c'.size) (h1:c'.all (·.oneCell')=true)
 (h:wpList P ops Q rest (a.put op.dst undef) (li w (ag c' ty))):wpList P ops Q (op::rest) a (li w (ag c ty)):=
 wpList_plain ld λK hK=>by
  unfold Oper.wp execOp;simp only[ho,hx,hy,Instr.storeAt,Instr.sureAddr,Sem.run_bind,Sem.run_pure,Result.andThen_ok,run_storeVar_new (P:=P) w ty c c' hi hs h1];exact hK _ _ h
theorem adJ:∀(vs:List aj) (k off:Nat) (cs:List aj),off+k+vs.length<=cs.length->(vs.zipIdx k).foldl (λ(cs:Array aj) (p:aj×Nat)=>cs.setIfInBounds (off+p.2) p.1) cs.toArray=(cs.take (off+k)++vs++cs.drop (off+k+vs.length)).toArray
 | [],k,off,cs,_=>Q2W
 |v::vs,k,off,cs,h=>by
  rw[List.zipIdx_cons,List.foldl_cons];have:=adJ vs (k+1) off (cs.set (off+k) v) (by rw[List.length_set];simp at h;omega);simp only[dC];rw[this,show off+(k+1)=off+k+1 by omega,list_seg_step cs (off+k) v vs (by simp at h;omega)];simp
theorem XP (place:Nat->Option (Nat×Nat)) (cs:List aj) (i off n:Nat) (v:aj) (rest:List (Nat×aj)) (hp:place i=A (off,n)) (hn:v.cells.size=n) (hl:off+n<=cs.length):
 Instr.fill place cs.toArray ((i,v)::rest)=Instr.fill place (cs.take off++v.cells.toList++cs.drop (off+n)).toArray rest:=by
 subst hn;have h:=adJ v.cells.toList 0 off cs Q4l;have e:Array.foldl (λ(cs:Array aj) (x:aj×Nat)=>cs.setIfInBounds (off+x.snd) x.fst) cs.toArray v.cells.zipIdx=(cs.take off++v.cells.toList++cs.drop (off+v.cells.size)).toArray:=by
  rw[<-Array.foldl_toList,Array.toList_zipIdx];simpa using h
 rw[Instr.fill,hp];simp only[ne_eq,not_true_eq_false,decide_false,Bool.false_or];rw[aI Q2R];exact congrArg (λx=>Instr.fill place x rest) e
theorem amW {P:Program} {ops:Array Oper} (hg:o.guard=G) (t:dy) (parts:Array (Nat×Operand)) (ho:o.op= .build t parts) (cells:Array aj)
 (hf:P.built t (parts.map λ(i,x)=>(i,a.eval x)).toList=A cells) (h:wpList P ops Q rest (a.put o.dst (aF cells)) w):wpList P ops Q (o::rest) a w:=
 wpList_plain hg λK hK=>by
  unfold Oper.wp execOp;simp only[ho,Sem.run_bind,run_build w t _ cells hf,Result.andThen_ok];exact hK _ _ h
theorem amX {P:Program} {ops:Array Oper} (ld:o.guard=G) (ty:dy) (x y:Operand) (ho:o.op= .store ty x y) (vx vy:aj) (hx:a.eval x=vx) (hy:a.eval y=vy) (w1:H)
 (hr:(Instr.storeAt ty vx vy).run P w= .ok () w1) (h:K (a.put o.dst undef) w1):if n9 o (yielded ops a.tmps)=true then Oper.wp P o a w K Q else ZU:=by
 have hw:n9 o (yielded ops a.tmps)=true:=by simp[n9,ld]
 rw[aR hw];unfold Oper.wp execOp;simp only[ho,hx,hy,Sem.run_bind,hr,Result.andThen_ok];exact h
theorem amY {P:Program} {ops:Array Oper} (ld:o.guard=G) (t e:dy) (x:Operand) (ho:o.op= .buildSlice t 1 #[(0,x)]) (cs:Array aj) (hx:a.eval x=aF cs)
 (hu:P.underlying t=A (.slice e)) (n:Nat) (hi:(P.info? e).map (λi=>(i.zero.isSome,i.size))=A (true,n)) (hs:cs.size=n) (h0:0<n) (h1:n<=1000) (h:K (a.put o.dst (O w 1 1)) (li w (ag cs e))):
 if n9 o (yielded ops a.tmps)=true then Oper.wp P o a w K Q else ZU:=by
 have hw:n9 o (yielded ops a.tmps)=true:=by simp[n9,ld]
 rw[aR hw]
 cases hq:P.info? e with
 |none=>simp[hq]at hi
 |some ie=>
  simp only[hq,Option.map_some,Option.some.injEq,Prod.mk.injEq]at hi;obtain⟨z,hz⟩:=Option.isSome_iff_exists.1 hi.1;refine wp_buildSlice t e 1 _ ho cs ie z hu hq hz (by rw[hi.2];omega) (by rw[hi.2];omega) ?_ h;have hv:(aF cs).cells=cs:=rfl;have:=XP (λi=>A (i*ie.size,ie.size)) ((Array.range (1*ie.size)).map (z.cells[· %z.cells.size]!)).toList 0 (0*ie.size) ie.size (aF cs) [] rfl (by rw[hv,hs,hi.2]) bK;simp only[List.map_toArray,List.map_cons,List.map_nil,hx]at this⊢;rw[Array.toArray_toList]at this;rw[this,hv];unfold Instr.fill
  congr 1
  rw[List.drop_of_length_le bK];simp
theorem adK {P:Program} (ty:dy) (x:Operand) (ho:o.op= .load ty x) (b off:Nat) (hx:a.eval x=aP (A ⟨b,off,G⟩)) (cs:List aj) (d:TypeDesc) (hc:w.rangeAt b off cs)
 (hu:P.underlying ty=A d) (hd:d.isRow=true) (hi:(P.info? ty).map (·.size)=A cs.length):(execOp a.eval o).run P w= .ok (.value (aF cs.toArray)) w:=by
 unfold execOp;simp only[ho,hx,Instr.loadAt,Instr.sureAddr,Sem.run_bind,Sem.run_pure,Result.andThen_ok,run_loadVar_mid w b off ty cs d hc hu hd hi]
section
attribute [local go_sem ↓] wp_at_zero wp_at_succ
structure DA where
 db:Nat
 nb:Nat
 sb:Nat
 N:Nat
 B:Nat
abbrev DA.S (q:DA):Nat->Prop:=λb=>b=q.db\/b=q.nb\/b=q.sb
abbrev DA.cells (q:DA) (lv:aj) (ops:Int):Array aj:=#[O (A ⟨q.nb,0,G⟩) q.N q.N,O (A ⟨q.sb,0,G⟩) q.N q.N,lv,Y Z ops,Y Z 0,aK ae]
structure fA (q:DA) (lv:aj) (xs:List aj) (w:H) (d:fd):Prop where
 bC:w.heap[q.db]? =A (ag (q.cells lv d.ops) 135 (0,0))
 aN:lz q.nb w d.aN
 sure:lz q.sb w d.sure
 nl:d.aN.length=q.N
 sl:d.sure.length=q.N
 own:w.ownsRow q.B 215 65 lv d.n xs
 lt:q.db<q.B/\q.nb<q.B/\q.sb<q.B/\q.B<=w
 ne:q.db≠q.nb/\q.db≠q.sb/\q.nb≠q.sb
theorem fA.move {q:DA} {S:Nat->Prop} (h:fA q lv xs w d) (kp:ar w S w w') (h1:¬S q.db) (h2:¬S q.nb) (h3:¬S q.sb) (h4:∀b,lv.ownBlock=A b->¬S b):fA q lv xs w' d:=by
 have hl:=h.lt;exact⟨kp.bC U h1 h.bC,h.aN.kept kp U h2,h.sure.kept kp U h3,h.nl,h.sl,Own.kept h.own kp λb e=>⟨(h.own.lt b e).2,h4 b e⟩,⟨hl.1,hl.2.1,hl.2.2.1,eH hl.2.2.2 kp.size⟩,h.ne⟩
theorem fA.below {q:DA} (h:fA q lv xs w d) (hb:ay w w w'):fA q lv xs w' d:=h.move (ar.cZ (S:=λ_=>False) hb) id id id λ_ _=>id
theorem fA.bt {q:DA} (h:fA q lv xs w d):aE w λw=>fA q lv xs w d:=λ_ hb=>h.below hb
theorem fA.ops {q:DA} (h:fA q lv xs w d) (n:Int):fA q lv xs (ss w ⟨q.db,3,G⟩ (Y Z n)) ⟨d.aN,d.sure,d.n,n⟩:=by
 have hl:=h.lt;have kp:=(ar.cP w (λb=>b=q.db) w).set (g:=q.db) (aM rfl) 3 (Y Z n);exact⟨by simpa using dF (f:=3) h.bC (Y Z n),h.aN.kept kp U (λe=>h.ne.1 e.symm),h.sure.kept kp U (λe=>h.ne.2.1 e.symm),h.nl,h.sl,Own.kept h.own kp λb e=>⟨(h.own.lt b e).2,λe2=>E ((h.own.lt b e).1)⟩,by rw[jR];exact hl,h.ne⟩
theorem adO (db:Nat) (a:aC) (n c:Nat) (w:H) (h:w db=A (O a n c)):aA aq 55 #[aP db] w λe w'=>e=bG (Y Z (n:Int))/\w=w':=by
 go_enter func55,ntmps55;exact Q0d
theorem adP (db:Nat) (a:aC) (n c:Nat) (i:Int) (w:H) (h:w db=A (O a n c)):aA aq 181 #[aP db,Y Z i] w λe w'=>e=bG (aK (decide (0<=i)&&decide (i<n)))/\w=w':=by
 have DL:=V (adO db a n c w h);by_cases h0:0<=i
 .have e0:decide (0<=i)=true:=dI h0;go_enter func181,ntmps181;go_wp2_with fail;refine cq DL.I ?_;go_wp2_with fail;go_ret;exact⟨by rw[e0,Bool.true_and];rfl,rfl⟩
 .have e0:decide (0<=i)=ae:=eP h0;go_enter func181,ntmps181;exact Q0S
theorem adQ (q:DA) (lv:aj) (ops:Int) (w:H) (h:w.heap[q.db]? =A (ag (q.cells lv ops) 135 (0,0))) (h0:0<=ops) (h1:ops<=1000000000):
 aA aq 125 #[aP (A ⟨q.db,0,G⟩)] w λe w'=>e=bG (aK true)/\w'=(ss w ⟨q.db,3,G⟩ (Y Z (ops+1))).drew:=by
 have f0:=df h;have q3:=cE h 3;have i1:∀[Inhabited Nat],cM (ops+1)=ops+1:=λ[_]=>iZ _ ⟨U,U⟩;have e0:(ops+1==0)=ae:=Q2R;have h2:(ss w ⟨q.db,3,G⟩ (Y Z (ops+1))).heap[q.db]? =A (ag (q.cells lv (ops+1)) 135 (0,0)):=by simpa using dF (f:=3) h (Y Z (ops+1))
 have H2:=V h2;clear h h2;go_enter func125,ntmps125;go_upto_region 2 with fail;clear i1;have eI:=H2.I;clear H2;have H2:=V eI;clear eI;obtain⟨w1,eI⟩:∃u,ss w ⟨q.db,3,G⟩ (Y Z (ops+1))=u:=⟨_,rfl⟩;rw[eI]at H2⊢;have HW:=V eI;clear eI;refine cS (λw':H=>w'.heap[q.db]? =A (ag (q.cells lv (ops+1)) 135 (0,0))) ?_;have hS:w1.drew.heap[q.db]? =A (ag (q.cells lv (ops+1)) 135 (0,0)):=H2.I;refine bR hS [0,4,1,5,2,6,3,7,8] (λ_ h=>df h) (bW ?_);have f0:=df hS;clear hS;go_wp2_with fail;go_ret;exact⟨rfl,by rw[HW.I]⟩
theorem adR (q:DA) (lv:aj) (xs:List aj) (d:fd) (i:Nat) (s:ah) (w:H) (h:fA q lv xs w d) (hs:d.aN[i]? =A s):
 aA aq 120 #[aP (A ⟨q.db,0,G⟩),Y Z (i:Int)] w λe w'=>∃g,e=bG (aL #[O (A ⟨g,0,G⟩) 64 64,Y Z 0])/\ai .u8 w' (A ⟨g,0,G⟩) 64 s/\w.heap.size<=g/\ay w w w':=by
 obtain⟨f0,f1,f2,f3,f4,f5⟩:=df h.bC;have HA:=V (adP q.db _ _ _ (i:Int) w f0);have hi:i<q.N:=by rw[<-h.nl];exact(fX.1 hs).1
 have e1:(decide ((0:Int)<=(i:Int))&&decide ((i:Int)<(q.N:Int)))=true:=Q2R;have HR:=V (h.aN.range hs);have xR:=V (h.aN.adG hs);have HWf:=V (λz hz=>O9 (h.aN.byte s (nB hs) z hz).1 (h.aN.byte s (nB hs) z hz).2);rw[e1]at HA;have i1:(i:Int)<(q.N:Int):=Int.ofNat_lt.2 hi;have dQ:i*64=i*64:=rfl;clear h hs e1;go_enter func120,ntmps120;go_wp2_with fail;refine cq HA.I ?_;go_upto_region 5 with fail;go_wp2_with first|refine wpList_load_mid rfl 213 _ rfl q.nb (i*64) rfl (Sc.eF s) _ HR.I QW rfl (by rw[GK,Sc.eF,ib,xR.I]) ?_ |refine adI rfl _ _ rfl (Sc.eF s).toArray rfl rfl (by rw[GK,Sc.XO s xR.I]) (by rw[Sc.XO s xR.I];rfl) (all_oneCell_toArray QV) ?_
 refine aZ (v:=aL #[O w 64 64,Y Z 0]) (by simp[aW,results120]) rfl ⟨_,rfl,?_,bu _,aD w _⟩;have:=ai.new w .u8 213 (0,0) s HWf.I (by rw[xR.I];omega);rwa[xR.I]at this
theorem XS:aq.underlying 132=A (.slice 213):=Q2Q
theorem adS {P:Program} {ops:Array Oper} (ld:o.guard=G) (d s:Operand) (dT sT:dy)
 (ho:o.op= .call {callee:= .builtin .copy,args:=#[d,s],argTypes:=#[dT,sT]}) (vd vs:aj) (hd:a.eval d=vd) (hs:a.eval s=vs) (n:Nat) (w1:H)
 (hr:(Builtin.copy_ #[dT,sT] o.type #[vd,vs]).run P w= .ok (goInt n) w1) (h:K (a.put o.dst (goInt n)) w1):if n9 o (yielded ops a.tmps)=true then Oper.wp P o a w K Q else ZU:=by
 have hw:n9 o (yielded ops a.tmps)=true:=by simp[n9,ld]
 rw[aR hw];unfold Oper.wp;simp[execOp,ho,resolve,invoke,builtin,hd,hs,hr,Result.andThen];exact h
theorem fA.an1 {q:DA} (h:fA q lv xs w d):fA q (O G 0 0) [] ((w.setRow q.sb (Sc.flat d.aN).toArray).setCell ⟨q.db,2,G⟩ (O G 0 0)) ⟨d.aN,d.aN,0,d.ops⟩:=by
 have hl:=h.lt;have hn:=h.ne;have kp:=(ar.cP w (λb=>b=q.sb) w).setRow (b:=q.sb) (aM rfl) (Sc.flat d.aN).toArray;have h1:=kp.bC U hn.2.1 h.bC;have h2:=h.aN.kept kp U hn.2.2;have h3:=h.sure.stored h.aN.len h.aN.byte;have k2:=(ar.cP w (λb=>b=q.db) (w.setRow q.sb (Sc.flat d.aN).toArray)).set (g:=q.db) (aM rfl) 2 (O G 0 0);exact⟨by simpa using dF (f:=2) h1 (O G 0 0),h2.kept k2 U (λe=>hn.1 e.symm),h3.kept k2 U (λe=>hn.2.1 e.symm),h.nl,h.nl,gP _ _ _ _,by rw[jR,size_setRow];exact hl,hn⟩
theorem fA.crashed {q:DA} (h:fA q lv xs w d):fA q (O G 0 0) [] ((w.setRow q.nb (Sc.flat d.sure).toArray).setCell ⟨q.db,2,G⟩ (O G 0 0)) ⟨d.sure,d.sure,0,d.ops⟩:=by
 have hl:=h.lt;have hn:=h.ne;have kp:=(ar.cP w (λb=>b=q.nb) w).setRow (b:=q.nb) (aM rfl) (Sc.flat d.sure).toArray;have h1:=kp.bC U hn.1 h.bC;have h2:=h.sure.kept kp U (λe=>hn.2.2 e.symm);have h3:=h.aN.stored h.sure.len h.sure.byte;have k2:=(ar.cP w (λb=>b=q.db) (w.setRow q.nb (Sc.flat d.sure).toArray)).set (g:=q.db) (aM rfl) 2 (O G 0 0);exact⟨by simpa using dF (f:=2) h1 (O G 0 0),h3.kept k2 U (λe=>hn.1 e.symm),h2.kept k2 U (λe=>hn.2.1 e.symm),h.sl,h.sl,gP _ _ _ _,by rw[jR,size_setRow];exact hl,hn⟩
theorem fA.reset {q:DA} (h:fA q lv xs w d):fA q lv xs (ss (ss w ⟨q.db,5,G⟩ (aK ae)) ⟨q.db,4,G⟩ (Y Z 0)) d:=by
 have hl:=h.lt;have hn:=h.ne;have kp:=((ar.cP w (λb=>b=q.db) w).set (g:=q.db) (aM rfl) 5 (aK ae)).set (g:=q.db) (aM rfl) 4 (Y Z 0);exact⟨by simpa using dF (f:=4) (dF (f:=5) h.bC (aK ae)) (Y Z 0),h.aN.kept kp U (λe=>hn.1 e.symm),h.sure.kept kp U (λe=>hn.2.1 e.symm),h.nl,h.sl,Own.kept h.own kp λb e=>⟨(h.own.lt b e).2,λe2=>E ((h.own.lt b e).1)⟩,by rw[jR,jR];exact hl,hn⟩
def XT (q:DA) (v:aj) (d:fd) (w:H) (e:dN) (w':H):Prop:=e=bG v/\fA q (O G 0 0) [] w' d/\ar w q.S w w'
theorem XU (q:DA) (lv:aj) (xs:List aj) (d:fd) (w:H) (h:fA q lv xs w d) (h0:0<=d.ops) (h1:d.ops<=1000000000):
 aA aq 57 #[aP (A ⟨q.db,0,G⟩)] w (XT q (Y Z 0) d.flush w):=by
 have OP:=V (adQ q lv d.ops w h.bC h0 h1);have hD:=(h.ops (d.ops+1)).below (below_drewN _ 1);have kp:=((ar.cP w q.S w).set (g:=q.db) (aM (aM rfl)) 3 (Y Z (d.ops+1))).bI 1;unfold fd.flush;clear h;go_enter func57,ntmps57;go_wp2_with fail;refine OP.I.mono ?_;rintro e' w' ⟨rfl,hw⟩;have hD:fA q lv xs w' ⟨d.aN,d.sure,d.n,d.ops+1⟩:=by rw[hw];exact hD
 have kp:ar w q.S w w':=by rw[hw];exact kp
 have HD:=V hD;have HK:=V kp;clear hw hD kp;go_upto_region 5 with fail;have hl:=HD.I.lt;have hn:=HD.I.ne;refine cS (λw':H=>w'.heap[q.db]? =A (ag (q.cells lv (d.ops+1)) 135 (0,0))) ?_;have hS:w'.drew.heap[q.db]? =A (ag (q.cells lv (d.ops+1)) 135 (0,0)):=HD.I.bC;have pQ:fA q lv xs w'.drew _:=HD.I.below (below_drewN w' 1);refine bR hS [0,4,1,5,2,6,3,7] (λ_ h=>df h) ?_;have AI:=λty=>pQ.sure.adH pQ.aN q.N pQ.sl pQ.nl 132 132 ty _ XS GK q.N;have Cu:(w'.drew.setRow q.sb (Sc.flat d.aN).toArray).heap[q.db]? =A (ag (q.cells lv (d.ops+1)) 135 (0,0)):=(setRow_other _ _ _ _ hn.2.1).trans hS;refine bL 8 λK hK=> ?_;refine adS rfl _ _ _ _ rfl _ _ rfl rfl q.N _ (AI _) ?_;refine bB hK Cu ?_;refine bW ?_;have HF:=V pQ.an1;have uV:=V (((HK.I.bI 1).setRow (b:=q.sb) (aM (bJ (bJ rfl))) (Sc.flat d.aN).toArray).set (g:=q.db) (aM (aM rfl)) 2 (O G 0 0));clear AI hS;have f0:=df Cu;have q2:=cE Cu 2;go_wp2_with fail;go_ret;exact⟨rfl,HF.I,uV.I⟩
theorem an2 (q:DA) (a:aC) (l c:Nat) (d:fd) (w:H) (h:fA q (O G 0 0) [] w d):
 aA aq 67 #[aP (A ⟨q.db,0,G⟩),O a l c] w (XT q (aL #[]) d.u9 w):=by
 have HD:=V h;unfold fd.u9;have f0:=df h.bC;clear h;go_enter func67,ntmps67;go_upto_region 2 with fail;go_loopw [14] (λi wr=>i=Y Z 0/\wr=w) (λ_ _=>0)
 case atStart=>exact⟨rfl,rfl⟩
 case round=>
  obtain⟨rfl,rfl⟩:=hrel;have hl:=HD.I.lt;have hn:=HD.I.ne;go_upto_region 13 with fail;refine cS (λw':H=>w'.heap[q.db]? =A (ag (q.cells (O G 0 0) d.ops) 135 (0,0))) ?_;have hS:wr.drew.heap[q.db]? =A (ag (q.cells (O G 0 0) d.ops) 135 (0,0)):=HD.I.bC;have pQ:fA q (O G 0 0) [] wr.drew _:=HD.I.below (below_drewN wr 1);refine bR hS [0,4,1,5,2,6,3,7] (λ_ h=>df h) ?_;have AI:=λty=>pQ.aN.adH pQ.sure q.N pQ.nl pQ.sl 132 132 ty _ XS GK q.N;have Cu:(wr.drew.setRow q.nb (Sc.flat d.sure).toArray).heap[q.db]? =A (ag (q.cells (O G 0 0) d.ops) 135 (0,0)):=(setRow_other _ _ _ _ hn.1).trans hS;refine bL 8 λK hK=> ?_;refine adS rfl _ _ _ _ rfl _ _ rfl rfl q.N _ (AI _) ?_;refine bB hK Cu ?_;refine bW ?_;have HF:=V pQ.crashed.reset;have uV:=V ((((((ar.cP wr q.S wr).bI 1).setRow (b:=q.nb) (aM (bJ (aM rfl))) (Sc.flat d.sure).toArray).set (g:=q.db) (aM (aM rfl)) 2 (O G 0 0)).set (g:=q.db) (aM (aM rfl)) 5 (aK ae)).set (g:=q.db) (aM (aM rfl)) 4 (Y Z 0));clear AI hS;have f0:=df Cu;have q2:=cE Cu 2;have q4:=cE Cu 4;have q5:=cE Cu 5;go_wp2_with fail;exact bodyPost_end (v:=aL #[]) (by simp[aW,results67]) rfl ⟨rfl,HF.I,uV.I⟩
theorem an3 (K:Nat) (v:aj) (hK:0<K) (n:Nat):(jz (dz K v).toArray n).toList=dz n v:=by
 apply List.ext_getElem?;intro j;rw[Array.getElem?_toList];by_cases hj:j<n
 .rw[XE _ _ _ hj,List.getElem?_replicate,aR hj];have:j%K<K:=Nat.mod_lt _ hK;simp[this]
 .rw[List.getElem?_replicate,aI hj];exact Array.getElem?_eq_none (by rw[size_madeCells];omega)
theorem an4 (n:Nat):(jz (dz 64 (Y .u8 0)).toArray n).toList=dz n (Y .u8 0):=an3 64 _ U n
theorem Sc.adT:∀n,Sc.flat (dz n (dz 64 0))=dz (n*64) (Y .u8 0)
 |0=>rfl
 |n+1=>by
  have:=Sc.adT n;unfold Sc.flat at this⊢;rw[List.replicate_succ,rz,this,Sc.eF,List.map_replicate,List.replicate_append_replicate]
  congr 1
  omega
theorem lz.made (h:w.heap[b]? =A (ag (jz (dz 64 (Y .u8 0)).toArray (n*64)) 213 (0,0))):lz b w (dz n (dz 64 0)):=by
 refine⟨?_,λs hs=> ?_,λs hs x hx=> ?_⟩
 .rw[Sc.adT,<-an4];exact h
 .rw[(List.mem_replicate.1 hs).2,sw]
 .rw[(List.mem_replicate.1 hs).2]at hx;rw[(List.mem_replicate.1 hx).2];omega
theorem an5:(aq.info? 213).map (λi=>(i.zero,i.size,i.bytes))=A (A (aF (dz 64 (Y .u8 0)).toArray),64,64):=Q2Q
def GQ (n:Nat) (w:H) (e:dN) (w':H):Prop:=∃q:DA,q.N=n/\e=bG (aP (A ⟨q.db,0,G⟩))/\fA q (O G 0 0) [] w' (fd.new n)/\(∀b,q.S b->w.heap.size<=b)/\ay w w w'
theorem fA.fresh {x y:Nat} (h1:lz x w1 (dz n (dz 64 0))) (h2:lz y w1 (dz n (dz 64 0))) (hx:w.heap.size<=x) (hy:w.heap.size<=y) (hn:x≠y) (hb:ay w w w1):
 GQ n w (bG (aP w1)) (li w1 (ag #[O x n n,O y n n,O G 0 0,Y Z 0,Y Z 0,aK ae] 135)):=by
 have fP:=bH h1.bC;have hyl:=bH h2.bC;have gX:=aD w1 (ag #[O x n n,O y n n,O G 0 0,Y Z 0,Y Z 0,aK ae] 135);refine⟨⟨w1.heap.size,x,y,n,w1.heap.size+1⟩,rfl,rfl,⟨bZ w1 _,h1.below gX,h2.below gX,sw,sw,gP _ _ _ _,?_,?_⟩,?_,hb.step gX⟩
 .rw[bF];dsimp only;omega
 .dsimp only;omega
 .have:=hb.size;intro b e;rcases e with e|e|e<;>(dsimp only at e;omega)
theorem GQ.drew {e:dN} (h:GQ n w e w'):GQ n w e w'.drew:=by
 obtain⟨q,h1,h2,h3,h4,h5⟩:=h;exact⟨q,h1,h2,h3.below (below_drewN _ 1),h4,h5.bI 1⟩
theorem an6 (n:Nat) (hn:n<=4096) (w:H):aA aq 20 #[Y Z (n:Int)] w (GQ n w):=by
 have ur:=λw:H=>XD (P:=aq) 132 213 (aF (dz 64 (Y .u8 0)).toArray) 64 64 XS an5 Z Z n U U w;have e1:max (0:Int) (min (n:Int) 4096)=(n:Int):=U;go_enter func20,ntmps20;go_upto_region 2 with fail;refine cS (λ_=>True) ?_;refine cQ trivial [0,2] ?_;refine lI 1 3 (λK hK=> ?_) (λK hK=> ?_)
 .go_simp;refine cY hK trivial 3 λK hK=> ?_;go_simp;refine bB hK trivial ?_;refine cQ trivial [4] (bL 5 λK hK=> ?_);go_simp;refine bB hK trivial ?_;refine cQ trivial [6] (bW ?_);go_wp2_with fail;go_ret;have KZ:=(aE.fG w (ag (jz (dz 64 (Y .u8 0)).toArray (n*64)) 213) (ag (jz (dz 64 (Y .u8 0)).toArray (n*64)) 213)).aN;have:=GQ.drew (fA.fresh (lz.made KZ.1) (lz.made KZ.2.1) U U U KZ.2.2);simp only[bF]at this;exact this
 .go_simp;refine cY hK trivial 1 λK hK=> ?_;go_simp;refine bB hK trivial ?_;refine cQ trivial [4] (bL 5 λK hK=> ?_);go_simp;refine bB hK trivial ?_;refine cQ trivial [6] (bW ?_);go_wp2_with fail;go_ret;have KZ:=(aE.fG w (ag (jz (dz 64 (Y .u8 0)).toArray (n*64)) 213) (ag (jz (dz 64 (Y .u8 0)).toArray (n*64)) 213)).aN;have:=GQ.drew (fA.fresh (lz.made KZ.2.1) (lz.made KZ.1) U U U KZ.2.2);simp only[bF]at this;exact this
theorem an7:aq.underlying 133=A (.slice 215):=Q2Q
theorem tWr:(aq.info? 215).map (λi=>(i.zero,i.size,i.bytes))=A (A (aF (Y Z 0::dz 64 (Y .u8 0)).toArray),65,72):=Q2Q
theorem an8:∃fs,aq.underlying 215=A (.struct fs)/\(fs.toList.mapM λf=>(aq.info? f.type).map λi=>(f.offset,i.size))=A [(0,1),(1,64)]:=⟨_,underlying215,Q2Q⟩
theorem an9 (i:Int) (z:ah) (hz:z.length=64):aq.built 215 [(0,Y Z i),(1,aF (Sc.eF z).toArray)]=A (Y Z i::Sc.eF z).toArray:=by
 obtain⟨i0,hi,cF,cG,cB⟩:=fB tWr;obtain⟨fs,hu,hp⟩:=an8;have hl:(Sc.eF z).toArray.size=64:=Sc.XO z hz;have j8:(Sc.eF z).length=64:=hl;unfold Program.built;simp only[hi,hu,cF,hp];obtain⟨L,hL⟩:=J (dz 64 (Y .u8 0));have hr:L.length=64:=by rw[<-hL,sw]
 rw[hL];have hv:(aF (Y Z 0::L).toArray).cells=(Y Z 0::L).toArray:=rfl;rw[hv,XP _ _ 0 0 1 (Y Z i) _ rfl rfl (by rw[n8];omega),XP _ _ 1 1 64 (aF (Sc.eF z).toArray) _ rfl hl (by simp[Value.cells];omega)];rw[Instr.fill];simp[Value.cells,hr]
theorem ai.range {o:Nat} (h:ai .u8 w (A ⟨b,o,G⟩) n z):w.rangeAt b o (Sc.eF z):=by
 intro j v hv;have:=h.news j v hv;rwa[Addr.add_mid]at this
theorem ana (b o c:Nat) (w:H):(Instr.arrayAt 213 (O (A ⟨b,o,G⟩) 64 c)).run aq w= .ok (aP (A ⟨b,o,G⟩)) w:=by
 unfold Instr.arrayAt;simp[run_underlying QW]
theorem fA.written {q:DA} (h:fA q lv xs w d) (i:Nat) (hz:z.length=64) (hw:∀x∈z,0<=x/\x<=255):fA q lv xs (w.setRow q.nb (Sc.flat (d.aN.set i z)).toArray) ⟨d.aN.set i z,d.sure,d.n,d.ops⟩:=by
 have hl:=h.lt;have hn:=h.ne;have kp:=(ar.cP w (λb=>b=q.nb) w).setRow (b:=q.nb) (aM rfl) (Sc.flat (d.aN.set i z)).toArray;refine⟨kp.bC U hn.1 h.bC,h.aN.stored (λs hs=> ?_) (λs hs=> ?_),h.sure.kept kp U (λe=>hn.2.2 e.symm),(List.length_set).trans h.nl,h.sl,Own.kept h.own kp λb e=>⟨(h.own.lt b e).2,λe2=>E ((h.own.lt b e).1)⟩,by rw[size_setRow];exact hl,hn⟩
 .rcases List.mem_or_eq_of_mem_set hs with h1|rfl
  .exact h.aN.len s h1
  .exact hz
 .rcases List.mem_or_eq_of_mem_set hs with h1|rfl
  .exact h.aN.byte s h1
  .exact hw
theorem fA.anb {q:DA} {ys:List aj} {o:Obj} {g c:Nat} (h:fA q lv xs w d) (aV:w1.ownsRow q.B 215 65 (O g (d.n+1) c) (d.n+1) ys) (hg:(li w o).grownBy w1 lv.ownBlock):
 fA q (O g (d.n+1) c) ys (ss w1 ⟨q.db,2,G⟩ (O g (d.n+1) c)) ⟨d.aN,d.sure,d.n+1,d.ops⟩:=by
 have hl:=h.lt;have hn:=h.ne;have kp:ar w (λb=>lv.ownBlock=A b) w w1:=(ar.cZ (aD w o)).trans' (ar.Jk hg) Q2Y;have lK:∀b,b<q.B->¬lv.ownBlock=A b:=λb hb e=>E ((h.own.lt b e).1);have h1:=kp.bC U (lK _ hl.1) h.bC;have hs:=kp.size;have k2:=(ar.cP w1 (λb=>b=q.db) w1).set (g:=q.db) (aM rfl) 2 (O g (d.n+1) c);exact⟨by simpa using dF (f:=2) h1 (O g (d.n+1) c),(h.aN.kept kp U (lK _ hl.2.1)).kept k2 U (λe=>hn.1 e.symm),(h.sure.kept kp U (lK _ hl.2.2.1)).kept k2 U (λe=>hn.2.1 e.symm),h.nl,h.sl,Own.kept aV k2 λb e=>⟨(aV.lt b e).2,λe2=>E ((aV.lt b e).1)⟩,Q4G,hn⟩
theorem fA.anc {q:DA} {o:Obj} (h:fA q lv xs w d) (hg:(li w o).grownBy w1 lv.ownBlock) (v:aj):ar q.B q.S w (ss w1 ⟨q.db,2,G⟩ v):=by
 have kp:ar w (λb=>lv.ownBlock=A b) w w1:=(ar.cZ (aD w o)).trans' (ar.Jk hg) Q2Y;exact(kp.mono (C:=q.B) h.lt.2.2.2 (λb hb e=>absurd (h.own.lt b e).1 U)).set (aM (aM rfl)) 2 v
def ane (q:DA) (d:fd) (w:H) (e:dN) (w':H):Prop:=∃lv xs,e=bG (Y Z 0)/\fA q lv xs w' d/\ar q.B q.S w w'
theorem adU (q:DA) (lv:aj) (xs:List aj) (d:fd) (i:Nat) (bb bo c:Nat) (z:ah) (w:H) (h:fA q lv xs w d) (h0:0<=d.ops) (h1:d.ops<=1000000000) (hn:d.n<=1000000) (hi:i<q.N) (hN:q.N<=4096) (hz:ai .u8 w (A ⟨bb,bo,G⟩) 64 z) (gN:¬q.S bb):
 aA aq 192 #[aP (A ⟨q.db,0,G⟩),Y Z (i:Int),O (A ⟨bb,bo,G⟩) 64 c] w (ane q (d.write i z) w):=by
 obtain⟨f0,f1,f2,f3,f4,f5⟩:=df h.bC;have HA:=V (adP q.db _ _ _ (i:Int) w f0);have e1:(decide ((0:Int)<=(i:Int))&&decide ((i:Int)<(q.N:Int)))=true:=Q2R;rw[e1]at HA;have OP:=V (adQ q lv d.ops w h.bC h0 h1);have hD:=(h.ops (d.ops+1)).below (below_drewN _ 1);have kp:=((ar.cP w q.S w).set (g:=q.db) (aM (aM rfl)) 3 (Y Z (d.ops+1))).bI 1;have xH:=V hz.bA;have HZw:=V (λx hx=>ab3 (hz.wf x hx));have HZ:=V hz;have i1:(i:Int)<(q.N:Int):=Int.ofNat_lt.2 hi;have uP:=V hn;have zg:=h.lt.2.2.2;clear h e1 hz;go_enter func192,ntmps192;go_wp2_with fail;refine cq HA.I ?_;go_wp2_with fail;refine OP.I.mono ?_;rintro e' w1 ⟨rfl,hw⟩;have hD:fA q lv xs w1 ⟨d.aN,d.sure,d.n,d.ops+1⟩:=by rw[hw];exact hD
 have kp:ar w q.S w w1:=by rw[hw];exact kp
 have HD:=V hD;have HK:=V kp;have HZ1:=V (kp.gH HZ.I (λx hx _=>by cases hx;exact⟨HZ.I.lt U,gN⟩));clear hw hD kp HA;go_upto_region 5 with fail;have HBu:=V (an9 (i:Int) z xH.I);have anf:(Y Z (i:Int)::Sc.eF z).toArray.size=65:=by rw[List.size_toArray,n8,Sc.eF,ib,xH.I]
 have Na:=V anf;have adV:=V (all_oneCell_toArray (cs:=Y Z (i:Int)::Sc.eF z) (λv hv=>by
  rcases List.mem_cons.1 hv with rfl|hv
  .rfl
  .exact QV v hv))
 have HT:=V (show(aq.info? 215).map (·.size)=A 65 by kernel_rfl);have HAt:=λw=>ana bb bo c w;go_upto_region 6 with first|refine wpList_load_mid rfl 213 _ rfl bb bo rfl (Sc.eF z) _ HZ1.I.range QW rfl (by rw[GK,Sc.eF,ib,xH.I]) ?_ |refine amW rfl 215 _ rfl (Y Z (i:Int)::Sc.eF z).toArray (by simp only[List.map_toArray,List.map_cons,List.map_nil];exact HBu.I) ?_ |refine adI rfl _ _ rfl (Y Z (i:Int)::Sc.eF z).toArray rfl rfl (by rw[HT.I,Na.I]) (by rw[Na.I];rfl) adV.I ?_
 have uH:=bZ w1 (ag (Y Z (i:Int)::Sc.eF z).toArray 215);have cW:=aD w1 (ag (Y Z (i:Int)::Sc.eF z).toArray 215);have vr:=V (HD.I.below cW);have jF:=V (HK.I.trans' (ar.cZ (S:=q.S) cW) HK.I.size);obtain⟨wb,Bj⟩:∃u,w1.heap.size=u:=⟨_,rfl⟩;have HVw:=V (λb (e:lv.ownBlock=A b)=>(show b<wb by have:=(HD.I.own.lt b e).2;omega));have LD:q.B<=wb:=E HD.I.lt.2.2.2;rw[Bj]at uH⊢;have xw:=V uH;clear uH cW Bj HAt;generalize li w1 (ag (Y Z (i:Int)::Sc.eF z).toArray 215)=w2 at*;have hl:=vr.I.lt;have cI:=vr.I.ne;have hlw:=bH xw.I;refine cS (λw':H=>w'.heap[q.db]? =A (ag (q.cells lv (d.ops+1)) 135 (0,0))/\w'.heap[wb]? =A (ag (Y Z (i:Int)::Sc.eF z).toArray 215 (0,0))) ?_;have hS:w2.drew.heap[q.db]? =A (ag (q.cells lv (d.ops+1)) 135 (0,0))/\w2.drew.heap[wb]? =A (ag (Y Z (i:Int)::Sc.eF z).toArray 215 (0,0)):=⟨vr.I.bC,xw.I⟩;refine cQ hS [0,4,5,1] ?_;refine Lt.takes Q2U hS [6] kr rfl ?_;refine Lt.more (v:=aF (Sc.eF z).toArray) rfl (aM ⟨Q3u,λw' hw'=>adK 213 _ rfl wb 1 rfl (Sc.eF z) _ (λj v hv=>bh hw'.2 (1+j) (by rw[List.getElem?_toArray,Nat.add_comm 1 j,List.getElem?_cons_succ];exact hv)) QW rfl (by rw[GK,Sc.eF,ib,xH.I])⟩) ?_;try simp only[Act.put,dC,dD,dE]
 refine Lt.done ?_;refine bR hS [2,3,7] (λ_ h=>df h.1) ?_;have xA:=V (@id (fA q lv xs w2.drew ⟨d.aN,d.sure,d.n,d.ops+1⟩) (vr.I.below (below_drewN w2 1)));have cA:=(ar.cP w2.drew.heap.size (λb=>b=q.nb) w2.drew).setRow (b:=q.nb) (aM rfl) (Sc.flat (d.aN.set i z)).toArray;have bX:(w2.drew.setRow q.nb (Sc.flat (d.aN.set i z)).toArray).heap[q.db]? =A (ag (q.cells lv (d.ops+1)) 135 (0,0))/\(w2.drew.setRow q.nb (Sc.flat (d.aN.set i z)).toArray).heap[wb]? =A (ag (Y Z (i:Int)::Sc.eF z).toArray 215 (0,0)):=⟨(setRow_other _ _ _ _ cI.1).trans hS.1,(setRow_other _ _ _ _ (show wb≠q.nb by omega)).trans hS.2⟩;refine bL 8 λK hK=> ?_;refine amX rfl _ _ _ rfl _ _ rfl rfl _ (xA.I.aN.run_store (i:=i) (x:=z) (show i<d.aN.length by have:=xA.I.nl;dsimp only at this;omega) xH.I 213 GK) ?_;refine bB hK bX ?_;refine bW ?_;have I3:=V (@id (fA q lv xs (w2.drew.setRow q.nb (Sc.flat (d.aN.set i z)).toArray) ⟨d.aN.set i z,d.sure,d.n,d.ops+1⟩) (xA.I.written i xH.I HZw.I));have wO:=V bX.2;have lu:=V ((jF.I.bI 1).setRow (b:=q.nb) (aM (bJ (aM rfl))) (Sc.flat (d.aN.set i z)).toArray);clear hS bX cA hl cI;go_upto_region 7 with fail;obtain⟨w4,yK⟩:∃u,w2.drew.setRow q.nb (Sc.flat (d.aN.set i z)).toArray=u:=⟨_,rfl⟩;have lu:=V (@id (ar w q.S w (w2.drew.setRow q.nb (Sc.flat (d.aN.set i z)).toArray)) lu.I);rw[yK]at I3 wO lu⊢;clear yK;have JB:fA q lv xs w4.drew ⟨d.aN.set i z,d.sure,d.n,d.ops+1⟩:=I3.I.below (below_drewN w4 1);refine Lt.begins (λw':H=>w'.heap[q.db]? =A (ag (q.cells lv (d.ops+1)) 135 (0,0))/\w'.heap[wb]? =A (ag (Y Z (i:Int)::Sc.eF z).toArray 215 (0,0))) (λj=>j==10) kr ?_;have hS:w4.drew.heap[q.db]? =A (ag (q.cells lv (d.ops+1)) 135 (0,0))/\w4.drew.heap[wb]? =A (ag (Y Z (i:Int)::Sc.eF z).toArray 215 (0,0)):=⟨I3.I.bC,wO.I⟩;refine Lt.takes Q2U hS [5] kr rfl ?_;refine Lt.more (v:=aF (Y Z (i:Int)::Sc.eF z).toArray) rfl (aM ⟨Q3u,λw' hw'=>adK 215 _ rfl wb 0 rfl (Y Z (i:Int)::Sc.eF z) _ (λj v hv=>bh hw'.2 (0+j) (by rw[List.getElem?_toArray,nF];exact hv)) underlying215 rfl (by rw[HT.I];exact congrArg A Na.I.symm)⟩) ?_;try simp only[Act.put,dC,dD,dE]
 refine Lt.done ?_;refine bR hS [0,1,2,3,4] (λ_ h=>df h.1) ?_;have gX:=aD w4.drew (ag (Y Z (i:Int)::Sc.eF z).toArray 215);have dp:(li w4.drew (ag (Y Z (i:Int)::Sc.eF z).toArray 215)).heap[q.db]? =A (ag (q.cells lv (d.ops+1)) 135 (0,0))/\(li w4.drew (ag (Y Z (i:Int)::Sc.eF z).toArray 215)).heap[wb]? =A (ag (Y Z (i:Int)::Sc.eF z).toArray 215 (0,0)):=⟨bV hS.1 gX,bV hS.2 gX⟩;refine bL 6 λK hK=> ?_;refine amY rfl _ 215 _ rfl (Y Z (i:Int)::Sc.eF z).toArray rfl an7 65 kr Na.I U U ?_;refine bB hK dp ?_;obtain⟨i0,AZ,cF,cG,cB⟩:=fB tWr;have hmx:=uP.I;refine bL 7 λK hK=> ?_;refine step_append_lies _ cJ _ _ _ cJ q.B 215 i0 _ 65 72 underlying133 AZ cF cG cB cJ U lv d.n xs cJ (JB.below gX).own ⟨w4.drew.heap.size,0,G⟩ 1 1 (Y Z (i:Int)::Sc.eF z) cJ Na.I (xy w4.drew _ _) (λu hu=>(Array.all_eq_true_iff_forall_mem.1 adV.I) u (by simpa using hu)) U Q2V U (JB.below gX).lt.2.2.2 _ rfl ?_;intro g1 c1 w5 aV eD lR aT;have hl:=JB.lt;have bX:w5.heap[q.db]? =A (ag (q.cells lv (d.ops+1)) 135 (0,0))/\w5.heap[wb]? =A (ag (Y Z (i:Int)::Sc.eF z).toArray 215 (0,0)):=⟨gI eD dp.1 (λe=>E ((JB.own.lt _ e).1)),gI eD dp.2 (λe=>E (HVw.I _ e))⟩;have HP:=V (JB.anb (ys:=_) aV eD);have HKP:=V ((lu.I.mono zg (λ_ _ h=>h)).trans' (JB.anc eD (O g1 (d.n+1) c1)).vP (bu _));clear gX I3 wO lu aV eD lR aT;refine bB hK bX ?_;refine cQ bX [8,9] ?_;have f0:=df bX.1;have q2:=cE bX.1 2;refine bL 10 λK hK=> ?_;go_simp;refine jg hK ?_;refine bW ?_;clear hS bX;go_wp2_with fail;go_ret;exact⟨_,_,rfl,HP.I,HKP.I⟩
end
theorem adW (m:Nat):(Builtin.zeroCells (Y .u8 0).cells m).toList=dz m (Y .u8 0):=by
 apply List.ext_getElem?;intro j;by_cases h:j<m<;>simp[Builtin.zeroCells,Value.cells,h,Nat.mod_one]
theorem adX {P:Program} (w:H) (t tn ty e:dy) (i:TypeInfo) (kn k:IntKind) (ht:P.underlying t=A (.slice e)) (r9:P.underlying tn=A (.int kn)) (hi:P.info? e=A i) (hz:i.zero=A (Y .u8 0)) (hs:i.size=1) (hb:i.bytes=1)
 (base g n cap:Nat) (xs:List aj) (aV:w.ownsRow base e 1 (O g n cap) n xs) (m:Nat) (hm:n+m<=100000000) (JU:base<=w):
 ∃g' c' w',(Builtin.append_ #[t,tn] ty #[O g n cap,Y k (m:Int)]).run P w= .ok (O (A ⟨g',0,G⟩) (n+m) c') w'/\w'.ownsRow base e 1 (O (A ⟨g',0,G⟩) (n+m) c') (n+m) (xs++dz m (Y .u8 0))/\w.grownBy w' (A g):=by
 have Hw:Z.wrap (m:Int)=m:=by rw[IntKind.wrap_i64];omega
 have Sl:¬((m:Int)<0):=U;have adY:¬(281474976710656<(m:Int)):=U;have iQ:xs.length=n:=by simpa using aV.1
 rcases aV.2 with⟨h,_⟩|⟨g2,Te,cur,h,VC,hg,QZ,Mx,hcs,adZ⟩
 .cases h
 cases h;rw[lA]at hcs adZ;by_cases Bm:n+m<=cap
 .have fE:=run_storeCells_at P g n e (dz m (Y .u8 0)) 0 cur w hg (by rw[sw];omega) (λv hv=>by rw[(List.mem_replicate.1 hv).2];rfl);simp only[eL,sw]at fE;have hr:(Builtin.append_ #[t,tn] ty #[O g n cap,Y k (m:Int)]).run P w= .ok (O g (n+m) cap) (w.setRow g (cur.toList.take n++dz m (Y .u8 0)++cur.toList.drop (n+m)).toArray):=by
   simp[Builtin.append_,run_underlying ht,run_underlying r9,sizeOf,typeInfo,zeroValue,hi,hz,hs,hb,asInt,asIntOf,Hw,Sl,adY,Bm,Addr.add_lit];by_cases h0:m=0
   .subst h0;simp only[List.replicate_zero]at fE;simp[fE]
   .simp[h0,adW,fE]
  refine⟨g,cap,_,hr,⟨by simp[iQ],.inr ⟨g,cap,_,rfl,VC,setRow_heap w g cur _ e _ hg,Bm,Mx,?_,?_⟩⟩,⟨rfl,rfl,rfl,Q2W,λk _ hk=>setRow_other w g k _ (λe=>hk (by rw[e]))⟩⟩
  .simp only[List.size_toArray,dG,List.length_take,List.length_drop,Array.length_toList,sw];omega
  .rw[lA,adZ];exact List.take_left' (by simp[iQ])
 .have holds:∀j u,xs[j]? =A u->w.cell? ((⟨g,0,G⟩:Addr).add j)=A u:=aV.cells (g:=g) rfl;have hn:¬(n+m<=cap):=Bm;have hfo:=run_firstCells_some (P:=P) w.drew 1 n ⟨g,0,G⟩ n cap xs (by simpa using aV.1) (by simpa using holds);have h48:Builtin.nextslicecap (n+m) cap*1<=281474976710656:=growslice_fits U U;have ang:¬(281474976710656<Builtin.nextslicecap (n+m) cap):=U;have anh:¬(9223372036854775807<((n:Int)+(m:Int))):=U;have lG:=grownCap_ge w (n+m) cap e;have ani:=grownCap_le_maxLen w (n+m) cap e Q2V;have hr:(Builtin.append_ #[t,tn] ty #[O g n cap,Y k (m:Int)]).run P w= .ok (O w (n+m) (grownCap w (n+m) cap e)) (li w.drew (ag (xs.toArray++(dz m (Y .u8 0)).toArray++Builtin.zeroCells (Y .u8 0).cells (grownCap w (n+m) cap e-(n+m))) e)):=by
   simp[Builtin.append_,run_underlying ht,run_underlying r9,sizeOf,typeInfo,zeroValue,hi,hz,hs,hb,asInt,asIntOf,Hw,Sl,adY,hn,anh,ang,Question.forced,hfo,newRow,grownCap];have hzc:Builtin.zeroCells (Y .u8 0).cells m=Array.replicate m (Y .u8 0):=Array.ext' (by rw[adW];simp);by_cases h0:m=0
   .subst h0;simp
   .simp[h0,hzc]
  refine⟨w.heap.size,_,_,hr,⟨by simp[iQ],.inr ⟨w.heap.size,_,_,rfl,JU,bZ w.drew _,lG,ani,?_,?_⟩⟩,⟨rfl,rfl,rfl,Q2W,λk hk _=>(aD w.drew _).block k hk⟩⟩
  .simp only[Array.size_append,List.size_toArray,size_zeroCells,sw,iQ,Value.cells];simp;omega
  .simp only[Array.toList_append,lL,lA];rw[<-lL];exact List.take_left' (by simp[iQ])
section
attribute [local go_sem ↓] wp_at_zero wp_at_succ
theorem ae0 (n:Nat) (hn:n<=1000000000000) (w:H):aA aq 122 #[Y Z (n:Int)] w λe w'=>e=bG (Y Z (Jr.ro n:Int))/\w=w':=by
 have i1:∀[Inhabited Nat],cM ((n:Int)+64)=(n:Int)+64:=λ[_]=>iZ _ ⟨U,U⟩;have i2:∀[Inhabited Nat],cM ((n:Int)+64-1)=(n:Int)+64-1:=λ[_]=>iZ _ ⟨U,U⟩;have i3:((n:Int)+64-1).tdiv 64=(Jr.ro n:Int):=by rw[Int.tdiv_eq_ediv_of_nonneg U];unfold Jr.ro;omega
 have i4:∀[Inhabited Nat],cM (Jr.ro n:Int)=(Jr.ro n:Int):=λ[_]=>iZ _ ⟨U,by unfold Jr.ro;omega⟩;go_enter func122,ntmps122;go_wp2;go_ret;exact⟨jS i4,rfl⟩
theorem ae1 (jb half:Nat) (w:H) (h:w ⟨jb,1,G⟩=A (Y Z (half:Int))) (h1:1<=half) (h2:half<=100000):aA aq 121 #[aP jb] w λe w'=>e=bG (Y Z (((half-1:Nat):Int)*64))/\w=w':=by
 have i1:∀[Inhabited Nat],cM ((half:Int)-1)=((half-1:Nat):Int):=λ[_]=>by rw[show(half:Int)-1=((half-1:Nat):Int) by omega];exact iZ _ ⟨U,U⟩
 have i2:∀[Inhabited Nat],cM (((half-1:Nat):Int)*64)=((half-1:Nat):Int)*64:=λ[_]=>iZ _ ⟨U,U⟩;go_enter func121,ntmps121;go_wp2;go_ret;exact⟨jS (show((half:Int)-1)*64=((half-1:Nat):Int)*64 by omega),rfl⟩
theorem anj (B p:Nat) (vd:aj) (xs:ah) (w:H) (h:kv B p vd xs w) (hx:∀x∈xs,0<=x/\x<=255) (hl:xs.length<=100000000):
 aA aq 66 #[aP p] w (qL .u8 5 xs.length xs w):=by
 obtain⟨a,c,rfl,hr⟩:=h.row hx hl;have c0:=bh h.1 0 (v:=O a xs.length c) rfl;have CL:=V (Fd a xs.length c xs w hr U);obtain⟨n,hn⟩:=J xs.length;rw[hn]at CL c0⊢;clear h hr hn hx hl;go_enter func66,ntmps66;go_wp2_with fail;refine CL.I.mono ?_;rintro e w1 ⟨v,rfl,hr⟩;have HR:=V hr;clear hr c0;go_wp2_with fail;go_ret;exact⟨v,rfl,HR.I⟩
theorem lm.nO {p:Nat} {vd ke:aj} {xs:ah} {B:Nat} {w0:H} (h:lm p vd ke w w') (hw:kv B p vd xs w) (hp:w0.heap.size<=p) (hb:ay w0 w0 w):ay w0 w0 w':=
 ar.nO hb h.kept hb.size (λb e=>by
  rcases e with rfl|e
  .exact hp
  .have:=(hw.2.1.lt b e).1;have:=hw.2.2.1;omega)
theorem Jr.XV (g:Int) (b:ah):(Jr.xW g b).length=16:=by simp[Jr.xW,ZY.fI]
theorem Jr.XW {g:Int} {b:ah}:∀x∈Jr.xW g b,0<=x/\x<=255:=by
 intro x hx;unfold Jr.xW at hx;simp only[kE]at hx;rcases hx with hx|hx|hx|hx
 .simp at hx;omega
 all_goals exact ZY.Uv hx
theorem Jr.ae2 {g:Int} {b:ah}:∀x∈Jr.head g b,0<=x/\x<=255:=by
 intro x hx;unfold Jr.head at hx;simp only[kE]at hx;rcases hx with(hx|hx)|hx
 .exact Jr.XW x hx
 .exact ZY.Uv hx
 .rw[(List.mem_replicate.1 hx).2];omega
def ank (n:Nat) (z:ah) (w:H) (e:dN) (w':H):Prop:=∃g c,e=bG (O (A ⟨g,0,G⟩) n c)/\ai .u8 w' (A ⟨g,0,G⟩) n z/\n<=c/\w.heap.size<=g/\ay w w w'
theorem ae3 (gen:Int) (a:aC) (l c:Nat) (b:ah) (w:H) (h:ai .u8 w a l b) (hg:0<=gen/\gen<=4294967295) (hl:l<=1000000):aA aq 124 #[Y .u32 gen,O a l c] w (ank 64 (Jr.head gen b) w):=by
 have HR:=V h.bt;have HL:=V h.bA;have HG:=V hg;have KC:=λ(C:Array aj) (n c:Nat)=>Uw (P:=aq) (li w (ag #[O G 0 0] 145)) 42 5 C n c (w.heap.size+1) bK underlying42 underlying5;clear h hg;go_enter func124,ntmps124;go_wp2_with fail;clear KC;have KZ:=(aE.fG w (ag #[O G 0 0] 145) (ag #[Y .u8 112,Y .u8 100,Y .u8 103,Y .u8 113] 5 (4,5))).aN;have dQ:(li (li w (ag #[O G 0 0] 145)) (ag #[Y .u8 112,Y .u8 100,Y .u8 103,Y .u8 113] 5 (4,5))).heap.size=w.heap.size+1+1:=Q4u;have S3:=V (aw (show kv (w.heap.size+1) w.heap.size (O G 0 0) [] _ from⟨KZ.1,gP _ _ _ _,U,U⟩) KZ.2.2);have R4:=V (ai.new (li w (ag #[O G 0 0] 145)) .u8 5 (4,5) [112,100,103,113] Q4q bK);have RW:=V (Uu _ _ _ _ _ (li w (ag #[O G 0 0] 145)).heap.size 0 4 4 _ S3.I.1 R4.I U U bK);rw[bF]at RW;clear KZ dQ;have Pe:=V (show l=b.length from HL.I.symm);have i5:∀[Inhabited Nat],IntKind.u32.wrap (l:Int)=(l:Int):=λ[_]=>by rw[IntKind.wrap_u32];omega
 refine RW.I.mono ?_;rintro e w4 ⟨rfl,v4,hw,hr⟩;have S4:=V (aw hw (hr.nO S3.I.1 (bu _) S3.I.2));clear hw hr RW;go_wp2_with fail;refine(Ie _ _ _ _ gen w4 S4.I.1 HG.I Q4M).mono ?_;rintro e w5 ⟨rfl,v5,hw,hr⟩;have S5:=V (aw hw (hr.nO S4.I.1 (bu _) S4.I.2));clear hw hr;go_wp2_with fail;refine(Ie _ _ _ _ (l:Int) w5 S5.I.1 ⟨U,U⟩ Q4M).mono ?_;rintro e w6 ⟨rfl,v6,hw,hr⟩;have S6:=V (aw hw (hr.nO S5.I.1 (bu _) S5.I.2));clear hw hr;go_wp2_with fail;refine cq (ZE a l c b w6 (HR.I.jD S6.I.2)) ?_;go_wp2_with fail;refine(Ie _ _ _ _ ((jt.of b).toNat:Int) w6 S6.I.1 ⟨U,by have:=(jt.of b).isLt;omega⟩ Q4M).mono ?_;rintro e w7 ⟨rfl,v7,hw,hr⟩;have S7:=V (aw hw (hr.nO S6.I.1 (bu _) S6.I.2));clear hw hr;go_wp2_with fail;have XY:=V (show kv _ _ v7 (Jr.xW gen b) w7/\_ from by
  have:=S7.I;rw[Pe.I]at this;simpa[Jr.xW]using this)
 refine(Pg _ _ _ _ w7 XY.I.1 Jr.XW (by rw[Jr.XV];omega)).mono ?_;rintro e w8 ⟨xa,xc,rfl,hx,-,-,ej⟩;have H8:=V (aw (XY.I.1.below ej) (aw (XY.I.2.step ej) hx));clear hx;go_wp2_with fail;refine cq (ZE xa _ xc _ w8 H8.I.2.2) ?_;go_wp2_with fail;refine(Ie _ _ _ _ ((jt.of (Jr.xW gen b)).toNat:Int) w8 H8.I.1 ⟨U,by have:=(jt.of (Jr.xW gen b)).isLt;omega⟩ (by rw[Jr.XV];omega)).mono ?_;rintro e w9 ⟨rfl,v9,hw,hr⟩;have S9:=V (aw hw (hr.nO H8.I.1 (bu _) H8.I.2.1));clear hw hr;obtain⟨ys,rL⟩:=J (Jr.xW gen b++ZY.put ((jt.of (Jr.xW gen b)).toNat:Int) 4);have Q0:=V (show ys.length=20 by rw[<-rL];simp[Jr.XV,ZY.fI]);have HYb:=V (show ∀x∈ys,0<=x/\x<=255 by
  intro x hx;rw[<-rL,kE]at hx;rcases hx with hx|hx
  .exact Jr.XW x hx
  .exact ZY.Uv hx)
 have HY:=V (show Jr.head gen b=ys++dz 44 0 by rw[<-rL];rfl);rw[rL]at S9;clear rL;go_wp2_with fail;refine(anj _ _ _ _ w9 S9.I.1 HYb.I (by rw[Q0.I];omega)).mono ?_;rintro e fU ⟨va,rfl,ho,hb⟩;rw[Q0.I]at ho;obtain⟨ga,ca,rfl⟩:∃ga ca,va=O (A ⟨ga,0,G⟩) 20 ca:=by
  rcases ho.2 with⟨h,h0⟩|⟨g,c,cur,h,_⟩
  .omega
  .exact⟨g,c,h⟩
 have XZ:=V (aw ho (aw (S9.I.1.below hb) (S9.I.2.step hb)));have wK:=V (show w.heap.size<=ga from eH S9.I.2.size (ho.lt _ rfl).1);have Eu:=V S9.I.2.size;clear ho S9;go_wp2_with fail;refine(Pg _ _ _ _ fU XZ.I.2.1 HYb.I (by rw[Q0.I];omega)).mono ?_;rintro e BV ⟨xb,xd,rfl,-,-,-,hb⟩;have Q5:=V (aw (oh XZ.I.1 hb) (XZ.I.2.2.step hb));rw[Q0.I];obtain⟨i0,AZ,cF,cG,cB⟩:=fB KH;obtain⟨g2,c2,sR,zi,aV,wP⟩:=adX (P:=aq) BV 42 3 42 5 i0 Z Z underlying42 underlying3 AZ cF cG cB _ ga 20 ca _ Q5.I.1 44 U (E (Q5.I.1.lt ga rfl));have Nb:=V zi;have HO:=V aV;have Gi:=V wP;clear zi aV wP;go_wp2_with (at_builtin;refine Lib.wpList_append_run _ rfl _ _ 42 3 rfl _ _ rfl rfl _ _ Nb.I ?_)
 go_ret;have X0:sR.ownsRow w9.heap.size 5 1 (O g2 64 c2) 64 ((ys++dz 44 0).map (Y .u8)):=by
  have:=HO.I;simpa using this
 refine⟨g2,c2,rfl,?_,Hy X0,eH ?_ (X0.lt _ rfl).1,?_⟩
 .rw[HY.I];exact ai.owned X0 (λz hz=>by rw[<-HY.I]at hz;exact O9 (Jr.ae2 z hz).1 (Jr.ae2 z hz).2) U
 .exact Eu.I
 .exact ar.nO Q5.I.2 (ar.Jk Gi.I) Q5.I.2.size (λb e=>by injection e with e;rw[<-e];exact wK.I)
abbrev wQ (db:Nat) (half slot gen:Int) (last:aj):Array aj:=#[aP db,Y Z half,Y Z slot,Y .u32 gen,last,aK ae]
def anl (r:List Int×Int) (w:H) (e:dN) (w':H):Prop:=∃a n c,e=bG (aL #[O a n c,Y .u32 r.2,Y Z 0])/\ai .u8 w' a n r.1 /\n<=c/\(∀x,a=A x->0<n->w.heap.size<=x.block)/\ay w w w'
theorem Jr.anm (h:ah):0<=Jr.GM h/\Jr.GM h<=4294967295:=⟨wrap_u32_nonneg _,Lb _⟩
theorem Jr.ae4 (h:ah):0<=Jr.lenOf h/\Jr.lenOf h<=4294967295:=⟨wrap_u32_nonneg _,Lb _⟩
theorem ano {D:List (List Int)} {ZX k:Nat} (h:D[ZX+k]? =A s):((D.drop ZX).take (k+1)).flatten=((D.drop ZX).take k).flatten++s:=by
 have h2:(D.drop ZX)[k]? =A s:=by rw[List.getElem?_drop];exact h
 have hk:=(fX.1 h2).1;rw[List.take_succ_eq_append_getElem hk,List.flatten_append];simp[(fX.1 h2).2]
theorem anp (q:DA) (lv:aj) (xs:List aj) (d:fd) (jb half slot:Nat) (sl gn:Int) (la:aj) (w:H) (h:fA q lv xs w d) (hj:w.heap[jb]? =A (ag (wQ q.db (half:Int) sl gn la) 139 (0,0))) (hs:slot<=1) (h1:1<=half) (h2:2*half<=q.N) (hN:q.N<=4096):
 aA aq 56 #[aP jb,Y Z (slot:Int)] w (anl (Jr.read d.aN half slot) w):=by
 have f0:=df hj;have K0:=V (h.bt.and (aE.block hj));obtain⟨ZX,hF⟩:=J (slot*half);have hF2:ZX<=half:=by
  exact Q2p
 have i1:∀[Inhabited Nat],cM ((slot:Int)*(half:Int))=(ZX:Int):=λ[_]=>by
  rw[<-gQ,hF];exact iZ _ ⟨U,U⟩
 obtain⟨s,Q6⟩:∃s,d.aN[ZX]? =A s:=⟨d.aN[ZX]'(by rw[h.nl];omega),Q2W⟩;obtain⟨R,hR⟩:=J (Jr.read d.aN half slot);rw[hR];unfold Jr.read at hR;rw[hF,List.getD_eq_getElem?_getD,Q6,Option.getD_some]at hR;unfold Jr.adL at hR;rw[hF]at hR;have HR:=V hR;have X3:=V (aw h.aN.len (aw h.aN.byte h.nl));have RD:=V (adR q lv xs d ZX s w h Q6);have xR:=V (h.aN.adG Q6);clear hR h hj Q6 hF;go_enter func56,ntmps56;go_wp2_with fail;refine RD.I.mono ?_;rintro e' w1 ⟨g1,rfl,gZ,-,gR⟩;have K1:=V ((K0.I.step gR).and (gZ.bt.and ((aE.base w).step gR)));clear gZ gR RD f0 K0;go_wp2_with fail;refine(Ur _ 64 64 s w1 K1.F.2.1 U).mono ?_;rintro e' w2 ⟨g2,rfl,fO,qI,hb⟩;have Ak:=qI;have il:=V fO;have dA:=V hb;have Q7:∀b,b=g2->w1.heap.size<=b:=λb e=>by rw[e];exact Ak
 clear fO hb qI;go_wp2_with fail;refine(KI g2 ⟨s,0⟩ 4 w2 il.I (by show s.length<=_;rw[xR.I];omega)).mono ?_;rintro e' w3 ⟨ra,rl,rc,rfl,-,-,-,fO,ho⟩;have X4:=V fO;have gV:=V (ar.nO dA.I ho dA.I.size Q7);clear fO ho il dA;obtain⟨r1,gZ⟩:=J (((⟨s,0⟩:dH).take 4).2);have ae5:r1.b.length<=64:=by
  rw[<-gZ,dH.Up rfl U (by show(4:Int)<=(s.length:Int);rw[xR.I];omega)];show(s.drop _).length<=64
  rw[List.length_drop,xR.I];omega
 have ae6:=V (show Jr.GM s=r1.u32.1 by rw[<-gZ];rfl);have oN:=V (show Jr.lenOf s=r1.u32.2.u32.1 by rw[<-gZ];rfl);rw[gZ]at X4;clear gZ;go_wp2_with fail;refine(Pf g2 r1 w3 X4.I U).mono ?_;rintro e' w4 ⟨rfl,fO,ho⟩;have ae7:=V fO;have gT:=V (ar.nO gV.I ho gV.I.size Q7);have anq:r1.u32.2.b.length<=64:=by
  show(r1.take 4).2.b.length<=64
  unfold dH.take
  repeat' split
  .exact ae5
  .simp
  .simp;omega
 rw[<-ae6.I];clear fO ho X4 gV;go_wp2_with fail;refine(Pf g2 r1.u32.2 w4 ae7.I U).mono ?_;rintro e' w5 ⟨rfl,fO,ho⟩;have dO:=V (ar.nO gT.I ho gT.I.size Q7);rw[<-oN.I];clear fO ho ae7 gT ae6 oN ae5 anq Q7 Ak;have K5:=V (K1.I.step dO.I);clear dO K1;have HGb:=V (Jr.anm s);obtain⟨gen,X5⟩:=J (Jr.GM s);obtain⟨n,hn⟩:∃n:Nat,Jr.lenOf s=(n:Int):=⟨(Jr.lenOf s).toNat,by have:=(Jr.ae4 s).1;omega⟩;have lU:n<=4294967295:=E ((Jr.ae4 s).2);rw[X5,hn]at HR⊢;rw[X5]at HGb;rw[Int.toNat_natCast]at HR;clear X5 hn;have i2:∀[Inhabited Nat],cM (n:Int)=(n:Int):=λ[_]=>iZ _ ⟨U,U⟩;have RM:=V (λw' hc=>ae1 jb half w' hc h1 U);by_cases Nc:gen=0
 .have e1:(gen==0)=true:=by simpa using Nc
  obtain rfl:([],0)=R:=by rw[<-HR.I,aR Nc]
  exact Q1i
 have e1:(gen==0)=ae:=by simpa using Nc
 obtain⟨j0,j1,j2,j3,j4,j5⟩:=df K5.F.1.2;go_wp2_with fail;refine cq (RM.I w5 j1) ?_;clear RM e1;by_cases sQ:((half-1:Nat):Int)*64<(n:Int)
 .have e1:decide (((half-1:Nat):Int)*64<(n:Int))=true:=dI sQ;obtain rfl:([],0)=R:=by rw[<-HR.I,aI Nc,aR sQ]
  exact Q1i
 have e1:decide (((half-1:Nat):Int)*64<(n:Int))=ae:=eP sQ;have pD:=HR.I;rw[aI Nc,aI sQ]at pD;have cU:=V pD;clear pD HR;go_wp2_with fail;refine cq (ae0 n U w5) ?_;obtain⟨K,hK⟩:=J (Jr.ro n);have hKn:n<=K*64/\K<=half-1:=by rw[<-hK];unfold Jr.ro;omega
 rw[hK]at cU⊢;clear hK j0 j1 j2 j3 j4 j5 e1;go_upto_region 10 with fail;obtain⟨i0,hi,cF,cG,cB⟩:=fB KH;go_loopw [56,13,14,15,16] (λi b _ _ _ wr=>∃(k:Nat) (zs:ah),k<=K/\i=Y Z k/\zs=((d.aN.drop (ZX+1)).take k).flatten/\wr.ownsRow w5.heap.size 5 1 b (k*64) (zs.map (Y .u8))/\(k=0->b=O G 0 0)/\ay w5 w5 wr) (λi _ _ _ _ _=>K-(aX i).toNat)
 case atStart=>exact⟨0,[],cK _,rfl,rfl,gP _ _ _ _,λ_=>rfl,Below.refl _ _⟩
 case round=>
  obtain⟨k,zs,hk,rfl,ud,kK,hz,cW⟩:=hrel;have Il:=V ud;clear ud;have HO:=V kK;have HZ:=V hz;have HB:=V cW;have K6:=K5.bU cW;clear kK hz cW;by_cases aT:k<K
  .obtain⟨t,ht⟩:∃t,d.aN[ZX+1+k]? =A t:=⟨d.aN[ZX+1+k]'(by rw[X3.I.2.2];omega),Q2W⟩;have RD:=V (adR q lv xs d (ZX+1+k) t wr K6.F.1.1 ht);have pP:=V (X3.I.1 t (nB ht));have HFl:=V (ano ht);have j0:=df K6.F.1.2;have fC:(k:Int)<(K:Int):=Int.ofNat_lt.2 aT;have i3:∀[Inhabited Nat],cM ((ZX:Int)+1)=(ZX:Int)+1:=λ[_]=>iZ _ ⟨U,U⟩;have i4:∀[Inhabited Nat],cM ((ZX:Int)+1+(k:Int))=((ZX+1+k:Nat):Int):=λ[_]=>by rw[show(ZX:Int)+1+(k:Int)=((ZX+1+k:Nat):Int) by omega];exact iZ _ ⟨U,U⟩
   have i5:∀[Inhabited Nat],cM ((k:Int)+1)=((k+1:Nat):Int):=λ[_]=>Q4h;clear ht;go_wp2_with fail;refine RD.I.mono ?_;rintro e' w6 ⟨g,rfl,hr,-,hb⟩;have La:=V hr;have iT:=V (oh HO.I hb);have eW:=V (HB.I.step hb);have dQ:=eW.I.size;clear hr hb j0 HO HB K6 RD i3 i4;go_wp2_with (at_builtin;refine ko _ rfl _ _ 42 rfl w5.heap.size 5 i0 (Y .u8 0) 1 1 underlying42 hi cF cG cB rfl eM _ _ _ rfl iT.I ⟨g,0,G⟩ 64 64 (t.map (Y .u8)) rfl (by rw[ib,pP.I]) La.I.news (Hb .u8 t) Q2V U dQ U ?_)
   intro g1 fh w7 cC bM cN ei An;have mO:=V (show w7.ownsRow w5.heap.size 5 1 (O g1 (k*64+64) fh) ((k+1)*64) ((zs++t).map (Y .u8))from by
    rw[kF,Nat.succ_mul];exact cC)
   have kP:=V (ar.nO eW.I (ar.Jk bM) dQ (λb e=>(iT.I.lt b e).1));clear cC bM cN ei An iT eW;go_wp2_with fail;go_roundw
   case rel=>exact⟨k+1,zs++t,U,rfl,by rw[HFl.I,Il.I],mO.I,λh=>U,kP.I⟩
   case measure=>exact Q5q
  .obtain rfl:k=K:=U;have Jh:∀z∈zs,0<=z/\z<=255:=λz hz=>by
    rw[Il.I]at hz;obtain⟨u,hu,hzu⟩:=List.mem_flatten.1 hz;exact X3.I.2.1 u (List.mem_of_mem_drop (List.mem_of_mem_take hu)) z hzu
   have X6:=V Jh;clear Jh;go_upto_region 17 with fail;go_cut [13] (λb wx=>(∃a c,b=O a n c/\ai .u8 wr a n (zs.take n)/\n<=c/\∀x,a=A x->w5.heap.size<=x.block)/\wx=wr)
   case first=>
    by_cases Gy:k=0
    .obtain rfl:=HZ.I Gy;have qh:=V (show n=0 by omega);have Kf:(n:Int)<=((0:Nat):Int):=U;clear Gy;go_wp2_with fail;go_meet
     exact⟨⟨G,0,rfl,by rw[qh.I,List.take_zero];exact ai.zero _ _ _,by rw[qh.I];exact bu _,λx hx=>Q3t⟩,rfl⟩
    .have kK:=HO.I;rcases kK.2 with⟨rfl,h0⟩|⟨g,c,cur,rfl,_⟩
     .omega
     have ip:=Hy kK;have dY:=ai.owned kK (λz hz=>O9 (X6.I z hz).1 (X6.I z hz).2) U;have mU:=V (dY.take n U);have sJ:=V ((kK.lt g rfl).1);have QZ:(n:Int)<=(c:Int):=U;have kU:¬c=0:=U;have anr:n<=c:=U;clear kK dY ip;go_wp2_with fail;go_meet
     exact⟨⟨_,c,rfl,mU.I,anr,λx hx=>by cases hx;exact sJ.I⟩,rfl⟩
   case rest=>
    obtain⟨⟨a,c,rfl,tJ,QZ,kL⟩,jm⟩:=hcut;rw[jm];clear jm;have uW:zs.take n=(((d.aN.drop (ZX+1)).take k).flatten).take n:=by rw[Il.I]
    rw[<-uW]at cU;have hn6:n<=1000000:=U;generalize zs.take n=z at*;have HW:=V (aw tJ (aw QZ kL));have HH:=V (ae3 gen a n c z wr tJ HGb.I hn6);clear uW tJ QZ kL Il X6 HO HZ;go_wp2_with fail;refine HH.I.mono ?_;rintro e' w6 ⟨g3,c3,rfl,hh,-,-,hb⟩;have eW:=V (HB.I.step hb);have Le:=V (HW.I.1.below hb);have EQ:=V (ahH g1 64 64 s g3 64 c3 (Jr.head gen z) w6 ((K6.aQ hb).2.1) hh);have Q8:=V (K5.F.2.2.step eW.I);have pZ:=K5.F.2.2.size;clear hb hh HH;go_wp2_with fail;refine EQ.I.mono ?_;rintro e' w7 ⟨rfl,nd,hw⟩;have dR:ay w6 w6 w7:=by rw[hw];exact below_drewN w6 nd
    have jW:=V (Q8.I.step dR);have HWs:=V (Le.I.below dR);clear EQ hw dR Q8 Le;by_cases hq:s=Jr.head gen z
    .have e1:decide (s=Jr.head gen z)=true:=dI hq;obtain rfl:(z,gen)=R:=by rw[<-cU.I,aR hq]
     clear hq;go_wp2_with fail;refine aZ (v:=aL #[O a n c,Y .u32 gen,Y Z 0]) (by simp[aW,results56]) rfl ⟨a,n,c,rfl,HWs.I,HW.I.2.1,λx hx _=>eH pZ (HW.I.2.2 x hx),jW.I⟩
    .have e1:decide (s=Jr.head gen z)=ae:=eP hq;obtain rfl:([],0)=R:=by rw[<-cU.I,aI hq]
     clear hq;go_wp2_with fail;refine aZ (v:=aL #[O G 0 0,Y .u32 0,Y Z 0]) (by simp[aW,results56]) rfl ⟨_,_,_,rfl,ai.zero _ _ _,bu _,(λx hx=>Q3t),jW.I⟩
def Jr.Nd (D:List (List Int)) (half:Nat):Nat->Jn
 |0=>⟨half,1,0,[]⟩
 |k+1=>Jr.pick (Jr.Nd D half k) k (Jr.read D half k)
theorem Jr.ans (D:List (List Int)):Jr.Nd D (D.length/2) 2=Jr.opened D:=rfl
theorem Jr.X7 (D:List (List Int)) (half:Nat):∀k,(Jr.Nd D half k).half=half
 |0=>rfl
 |k+1=>by
  show(Jr.pick _ _ _).half=half
  unfold Jr.pick;split
  .exact Jr.X7 D half k
  .exact Jr.X7 D half k
def rr (db jb:Nat) (ok:Nat->Prop) (w:H) (j:Jn):Prop:=∃a n c,w.heap[jb]? =A (ag (wQ db (j.half:Int) (j.slot:Int) j.gen (O a n c)) 139 (0,0))/\fR ok .u8 w a n j.last
theorem rr.move {db B:Nat} {ok fJ S:Nat->Prop} (h:rr db jb ok w j) (kp:ar B S w w') (hj:jb<B/\¬S jb) (hk:∀b,b<w.heap.size->ok b->b<B/\¬S b/\fJ b):rr db jb fJ w' j:=by
 obtain⟨a,n,c,h1,h2⟩:=h;exact⟨a,n,c,kp.bC hj.1 hj.2 h1,h2.move kp hk⟩
theorem rr.below {db:Nat} {ok:Nat->Prop} (h:rr db jb ok w j) (hb:ay w w w'):rr db jb ok w' j:=
 h.move (ar.cZ (S:=λ_=>False) hb) ⟨by obtain⟨_,_,_,h1,_⟩:=h;exact bH h1,id⟩ (λb hb ho=>⟨hb,id,ho⟩)
theorem DA.X8 {q:DA} (h:fA q lv xs w d):∀b,q.S b->b<q.B:=λb e=>by
 have:=h.lt;rcases e with rfl|rfl|rfl<;>omega
def ant (q:DA) (d:fd) (w:H) (e:dN) (w':H):Prop:=∃jb,e=bG (aL #[aP (A ⟨jb,0,G⟩),Y Z 0])/\w.heap.size<=jb/\jb<w'.heap.size/\fA q (O G 0 0) [] w' d.flush/\rr q.db jb (λb=>w.heap.size<=b/\b≠jb) w' (Jr.opened d.aN)/\ar w q.S w w'
theorem ae8 (q:DA) (d:fd) (w:H) (h:fA q (O G 0 0) [] w d) (h4:4<=q.N) (hN:q.N<=4096) (h0:0<=d.ops) (h1:d.ops<=1000000000):
 aA aq 21 #[aP (A ⟨q.db,0,G⟩)] w (ant q d w):=by
 obtain⟨f0,f1,f2,f3,f4,f5⟩:=df h.bC;have LN:=V (adO q.db _ _ _ w f0);obtain⟨half,hh⟩:=J (q.N/2);have i1:(q.N:Int).tdiv 2=(half:Int):=by rw[Int.tdiv_eq_ediv_of_nonneg U];omega
 have i2:∀[Inhabited Nat],cM (half:Int)=(half:Int):=λ[_]=>iZ _ ⟨U,U⟩;have e4:decide ((q.N:Int)<4)=ae:=eP U;have HD:=V h;have A5:=h.nl;have GU:=V (DA.X8 h);have X9:=h.lt.2.2.2;clear h;go_enter func21,ntmps21;go_wp2_with fail;refine cq LN.I ?_;go_wp2_with fail;refine cq LN.I ?_;go_upto_region 5 with fail;have Ya:=bZ w (ag #[aP (A ⟨q.db,0,G⟩),Y Z (half:Int),Y Z 1,Y .u32 0,O G 0 0,aK ae] 139);have Q9:=aD w (ag #[aP (A ⟨q.db,0,G⟩),Y Z (half:Int),Y Z 1,Y .u32 0,O G 0 0,aK ae] 139);have pQ:=V (HD.I.below Q9);obtain⟨jb,rx⟩:∃u,w.heap.size=u:=⟨_,rfl⟩;have uY:=V (ar.cZ (S:=q.S) Q9);have Ra:=V Ya;have Yb:=bH Ya;clear Ya Q9;rw[rx]at Ra Yb uY X9⊢;generalize li w (ag #[aP (A ⟨q.db,0,G⟩),Y Z (half:Int),Y Z 1,Y .u32 0,O G 0 0,aK ae] 139)=w1 at*;have hhl:1<=half/\2*half<=q.N:=U;go_loopw [19,5,6,7,8] (λi _ _ _ _ wr=>∃(k:Nat) (j:Jn),k<=2/\i=Y Z k/\j=Jr.Nd d.aN half k/\rr q.db jb (λb=>jb<b) wr j/\ar w1 (λb=>b=jb) w1 wr) (λi _ _ _ _ _=>2-(aX i).toNat)
 case atStart=>exact⟨0,_,cK _,rfl,rfl,⟨G,0,0,Ra.I,fR.nil _ _ _⟩,ar.cP _ _ _⟩
 case round=>
  obtain⟨k,j,hk,rfl,Yc,hja,cA⟩:=hrel;have Rb:=V Yc;have hjh:j.half=half:=by rw[Yc];exact Jr.X7 _ _ _
  have HK:=V cA;have hl:=pQ.I.lt;have HD:=V (pQ.I.move cA U U U (λb e=>Q4Q));obtain⟨a,n,c,rx,dY⟩:=hja;have oZ:=V dY;have hjs:=bH rx;clear Yc cA dY hl;by_cases aT:k<2
  .have JR:=V (anp q (O G 0 0) [] d jb half k (j.slot:Int) j.gen (O a n c) wr HD.I (by rw[<-hjh];exact rx) U hhl.1 hhl.2 hN);have Rc:=V (show Jr.Nd d.aN half (k+1)=Jr.pick j k (Jr.read d.aN half k) by rw[Rb.I];rfl);generalize Jr.read d.aN half k=r at*;obtain⟨rb,rg⟩:=r;have fC:(k:Int)<2:=U;have i5:∀[Inhabited Nat],cM ((k:Int)+1)=((k+1:Nat):Int):=λ[_]=>Q4h;go_wp2_with fail;refine JR.I.mono ?_;rintro e' w2 ⟨a2,n2,c2,rfl,hr,-,kL,hb⟩;have du:=bV rx hb;have jF:=V (HK.I.trans' (ar.cZ (S:=λb=>b=jb) hb) HK.I.size);have cU:=V (show fR (λb=>jb<b) .u8 w2 a2 n2 rb from⟨hr,λx hx h0=>E (kL x hx h0)⟩);have jP:=V (show fR (λb=>jb<b) .u8 w2 a n j.last from oZ.I.below hb);have f0:=df du;have dA:=V du;clear hr kL hb Rb oZ HD HK;by_cases qj:j.gen<rg
   .have e1:decide (j.gen<rg)=true:=dI qj;have q2:=cE du 2;have q3:=cE du 3;have q4:=cE du 4;go_wp2_with fail;go_roundw
    case rel=>
     refine⟨k+1,⟨j.half,k,rg,rb⟩,U,rfl,?_,⟨a2,n2,c2,by simpa using dF (f:=4) (dF (f:=3) (dF (f:=2) dA.I (Y Z (k:Int))) (Y .u32 rg)) (O a2 n2 c2),?_⟩,((jF.I.set (g:=jb) (aM rfl) 2 (Y Z (k:Int))).set (g:=jb) (aM rfl) 3 (Y .u32 rg)).set (g:=jb) (aM rfl) 4 (O a2 n2 c2)⟩
     .rw[Rc.I];unfold Jr.pick;rw[aR qj]
     .exact cU.I.move ((((ar.cP w2 (λb=>b=jb) w2).set (g:=jb) (aM rfl) 2 (Y Z (k:Int))).set (g:=jb) (aM rfl) 3 (Y .u32 rg)).set (g:=jb) (aM rfl) 4 (O a2 n2 c2)) (λb hb h=>⟨hb,U,h⟩)
    case measure=>exact Q5q
   .have e1:decide (j.gen<rg)=ae:=eP qj;have HGt:=V qj;go_wp2_with fail;go_roundw
    case rel=>exact⟨k+1,j,U,rfl,by rw[Rc.I];unfold Jr.pick;exact(aI (Int.not_lt.2 HGt.I)).symm,⟨a,n,c,dA.I,jP.I⟩,jF.I⟩
    case measure=>exact Q5q
  .obtain rfl:k=2:=U;have FL:=V (XU q (O G 0 0) [] d wr HD.I h0 h1);have HJ:=V (show rr q.db jb (λb=>jb<b) wr (Jr.opened d.aN)from by
    rw[<-Jr.ans,A5,hh,<-Rb.I];exact⟨a,n,c,rx,oZ.I⟩)
   clear rx Rb;go_wp2_with fail;refine FL.I.mono ?_;rintro e' w3 ⟨rfl,hd,cA⟩;have xA:=V hd;have hSn:∀b,q.S b->b<jb:=λb e=>E (GU.I b e);have HJ3:=V (HJ.I.move cA ⟨hjs,λe=>E (hSn _ e)⟩ (fJ:=λb=>jb<=b/\b≠jb) (λb hb ho=>⟨hb,λe=>E (hSn _ e),U,U⟩));have nz:=V (uY.I.trans' ((HK.I.mono (C:=jb) (S':=q.S) U (λb hb e=>U)).trans' cA U) (bu _));have nK:=cA.size;clear hd cA;go_wp2_with fail;refine aZ (v:=aL #[aP jb,Y Z 0]) (by simp[aW,results21]) rfl ⟨jb,rfl,Nat.le_of_eq rx,U,xA.I,by rw[rx];exact HJ3.I,by rw[rx];exact nz.I⟩
theorem anu (db jb:Nat) (ok:Nat->Prop) (j:Jn) (w:H) (h:rr db jb ok w j) (hl:j.last.length<=1000000000):
 aA aq 68 #[aP jb] w λe w'=>∃a n c,e=bG (aL #[O a n c,aK (j.gen != 0)])/\ai .u8 w' a n (if j.gen=0 then[]else j.last)/\ay w w w':=by
 obtain⟨a,n,c,hj,hr⟩:=h;have f0:=df hj;have CL:=V ((ahy a n c j.last w hr.1 (by rw[<-hr.1.bA];exact hl)));clear hj hr;by_cases hg:j.gen=0
 .have e1:(j.gen==0)=true:=by simpa using hg
  have e2:(j.gen != 0)=ae:=by simpa using hg
  rw[aR hg,e2];go_enter func68,ntmps68;go_wp2_with fail;refine aZ (v:=aL #[O G 0 0,aK ae]) (by simp[aW,results68]) rfl ⟨_,_,_,rfl,ai.zero _ _ _,Below.refl _ _⟩
 .have e1:(j.gen==0)=ae:=by simpa using hg
  have e2:(j.gen != 0)=true:=by simpa using hg
  rw[aI hg,e2];go_enter func68,ntmps68;go_wp2_with fail;refine CL.I.mono ?_;rintro e' w2 ⟨va,vc,rfl,hr,hb⟩;have HR:=V (aw hr hb);clear hr;go_wp2_with fail;refine aZ (v:=aL #[O va n vc,aK true]) (by simp[aW,results68]) rfl ⟨_,_,_,rfl,HR.I.1,HR.I.2⟩
theorem fA.base {q:DA} (h:fA q (O G 0 0) [] w d) {B:Nat} (hl:∀b,q.S b->b<B) (hB:B<=w):fA {q with B:=B} (O G 0 0) [] w d:=by
 have hn:d.n=0:=by
  have:=h.own.1;simp at this;omega
 have ho:w.ownsRow B 215 65 (O G 0 0) d.n []:=by
  rw[hn];exact gP _ _ _ _
 exact⟨h.bC,h.aN,h.sure,h.nl,h.sl,ho,⟨hl _ (aM rfl),hl _ (bJ (aM rfl)),hl _ (bJ (bJ rfl)),hB⟩,h.ne⟩
theorem Jr.Yd (b:ah) (ZX:Nat) (d:fd):∀k,(Jr.writes b ZX k d).ops=d.ops+k/\(Jr.writes b ZX k d).n=d.n+k
 |0=>by simp[Jr.writes]
 |k+1=>by
  have:=Jr.Yd b ZX d k;show(Jr.writes b ZX k d).ops+1=_/\(Jr.writes b ZX k d).n+1=_
  omega
theorem fA.n0 {q:DA} (h:fA q (O G 0 0) [] w d):d.n=0:=by
 have:=h.own.1;simp at this;omega
theorem anv (q:DA) (d:fd) (jb half slot bb bo l c:Nat) (sl gn gen:Int) (la:aj) (b:ah) (w:H) (h:fA q (O G 0 0) [] w d) (hj:w.heap[jb]? =A (ag (wQ q.db (half:Int) sl gn la) 139 (0,0))) (wR:¬q.S jb) (hs:slot<=1) (h1:1<=half) (h2:2*half<=q.N) (hN:q.N<=4096)
 (hb:ai .u8 w (A ⟨bb,bo,G⟩) l b) (xZ:¬q.S bb) (kM:1<=l) (j8:l<=(half-1)*64) (hg:0<=gen/\gen<=4294967295) (h0:0<=d.ops) (ho:d.ops<=900000000):
 aA aq 136 #[aP jb,Y Z (slot:Int),Y .u32 gen,O (A ⟨bb,bo,G⟩) l c] w (XT q (Y Z 0) (Jr.write half slot gen b d) w):=by
 have f0:=df hj;obtain⟨ZX,hF⟩:=J (slot*half);have hF2:ZX<=half:=by
  exact Q2p
 have i1:∀[Inhabited Nat],cM ((slot:Int)*(half:Int))=(ZX:Int):=λ[_]=>by
  rw[<-gQ,hF];exact iZ _ ⟨U,U⟩
 obtain⟨K,hK⟩:=J (Jr.ro l);have hKl:l<=K*64/\K<=half-1/\1<=K:=by rw[<-hK];unfold Jr.ro;omega
 obtain⟨m,hm⟩:=J (K*64-l);have HM:=V (show l+m=K*64 by omega);have sK:=V (show Jr.all b=b++dz m 0 by unfold Jr.all;rw[hb.bA,hK,hm]);obtain⟨R,hR⟩:=J (Jr.write half slot gen b d);rw[hR];unfold Jr.write at hR;rw[hF,hb.bA,hK]at hR;have HR:=V hR;have HD:=V h;have HJ:=V hj;have HB:=V hb;have HG:=V hg;have SK:=V (ae0 l U);rw[hK]at SK;have CL:=V (Fd (A ⟨bb,bo,G⟩) l c b w hb U);have i2:∀[Inhabited Nat],cM ((K:Int)*64)=(K:Int)*64:=λ[_]=>iZ _ ⟨U,U⟩;have i3:∀[Inhabited Nat],cM ((K:Int)*64-(l:Int))=(m:Int):=λ[_]=>by rw[show(K:Int)*64-(l:Int)=(m:Int) by have:=HM.I;omega];exact iZ _ ⟨U,U⟩
 have GU:=V (DA.X8 h);have X9:=h.lt.2.2.2;have Re:=V (show ∀b,q.S b->b<w.heap.size from λb e=>E (DA.X8 h b e));have gS:=bH hj;have Xn:=V (hb.lt U);clear h hj hb hR hF hK hm hg;go_enter func136,ntmps136;go_wp2_with fail;refine CL.I.mono ?_;rintro e' w1 ⟨va,rfl,MZ,gR⟩;obtain⟨ga,ca,rfl⟩:∃ga ca,va=O (A ⟨ga,0,G⟩) l ca:=by
  rcases MZ.2 with⟨h,h0⟩|⟨g,c,cur,h,_⟩
  .omega
  .exact⟨g,c,h⟩
 have Bh:=V MZ;have jW:=V gR;have iK:=gR.size;go_wp2_with fail;refine cq (SK.I w1) ?_;obtain⟨i0,AZ,cF,cG,cB⟩:=fB KH;obtain⟨g2,c2,w2,zi,aV,wP⟩:=adX (P:=aq) w1 42 3 42 5 i0 Z Z underlying42 underlying3 AZ cF cG cB _ ga l ca _ Bh.I m (E HM.I) iK;rw[show(m:Int)=(K:Int)*64-(l:Int) by have:=HM.I;omega,HM.I]at zi;have Nb:=V zi;rw[HM.I]at aV;have jP:=V (show w2.ownsRow w.heap.size 5 1 (O g2 (K*64) c2) (K*64) ((Jr.all b).map (Y .u8))from by
  rw[sK.I,kF,List.map_replicate];exact aV)
 have dA:=V (ar.nO jW.I (ar.Jk wP) iK (λb e=>by injection e with e;rw[<-e];exact(Bh.I.lt ga rfl).1));clear zi aV wP;go_wp2_with (at_builtin;refine Lib.wpList_append_run _ rfl _ _ 42 3 rfl _ _ rfl rfl _ _ Nb.I ?_)
 refine cq (SK.I w2) ?_;clear SK;go_upto_region 4 with fail;have ja:=dA.I.size;have hD2:=HD.I.below dA.I;have vr:=V (hD2.base (B:=w2) (λb e=>E (Re.I b e)) (bu _));have xJ:=V HD.I.n0;obtain⟨q2,pI⟩:=J ({q with B:=w2.heap.size}:DA);have Rf:q2.db=q.db:=by rw[<-pI]
 have hqB:q2.B=w2.heap.size:=by rw[<-pI]
 have JC:q2.N=q.N:=by rw[<-pI]
 have wU:∀b,q2.S b↔q.S b:=λb=>by rw[<-pI]
 have I5:=V pI;rw[pI]at vr;have Cv:=V (bV HJ.I dA.I);have mU:=V (ai.owned jP.I (λz hz=>by
  rw[sK.I,kE]at hz;rcases hz with hz|hz
  .exact HB.I.wf z hz
  .rw[(List.mem_replicate.1 hz).2];rfl) U)
 have qI:=jP.I.lt g2 rfl;have jH:=Hy jP.I;clear pI sK;go_loopw [34,11,12] (λi _ _ wr=>∃(k:Nat) (lv:aj) (xs:List aj),k<=K/\i=Y Z k/\fA q2 lv xs wr (Jr.writes b ZX k d)/\ar w2 q2.S w2 wr) (λi _ _ _=>K-(aX i).toNat)
 case atStart=>exact⟨0,_,_,cK _,rfl,vr.I,ar.cP _ _ _⟩
 case round=>
  obtain⟨k,lv,xs,hk,rfl,Nf,cA⟩:=hrel;have JD:=V Nf;have HK:=V cA;have Ye:=V (cA.bC U (λe=>wR ((wU jb).1 e)) Cv.I);have Rg:=V (Jr.Yd b ZX d k);have iW:=V (cA.rows mU.I (λx hx=>by cases hx;exact⟨qI.2,λe=>E (Re.I g2 ((wU g2).1 e))⟩));clear Nf cA vr;by_cases aT:k<K
  .obtain⟨A0,Ad⟩:=J (k*64);have qW:A0+64<=K*64:=U;obtain⟨A1,xV⟩:=J (A0+64);have Cq:A1-A0=64:=U;have M0:A0<=A1:=U;have EA:=V (iW.I.sub A0 64 qW);have Rc:=V (show Jr.writes b ZX (k+1) d=(Jr.writes b ZX k d).write (ZX+1+k) (((Jr.all b).drop A0).take 64) by rw[<-Ad];rfl);have fC:(k:Int)<(K:Int):=Int.ofNat_lt.2 aT;have i4:∀[Inhabited Nat],Z.wrap ((k:Int)*64)=(A0:Int):=λ[_]=>by rw[show(k:Int)*64=(A0:Int) by omega];exact dv _ U
   have i5:∀[Inhabited Nat],Z.wrap (((k:Int)+1)*64)=(A1:Int):=λ[_]=>by rw[show((k:Int)+1)*64=(A1:Int) by omega];exact dv _ U
   have i6:∀[Inhabited Nat],Z.wrap ((ZX:Int)+1)=(ZX:Int)+1:=λ[_]=>dv _ U;have i7:∀[Inhabited Nat],Z.wrap ((ZX:Int)+1+(k:Int))=((ZX+1+k:Nat):Int):=λ[_]=>by rw[show(ZX:Int)+1+(k:Int)=((ZX+1+k:Nat):Int) by omega];exact dv _ U
   have i8:∀[Inhabited Nat],Z.wrap ((k:Int)+1)=(k:Int)+1:=λ[_]=>dv _ U;have hcA:¬c2=A0:=U;have hcB:(A1:Int)<=(c2:Int):=U;go_upto_region 6 with fail;refine cS (λw':H=>w'.heap[jb]? =A (ag (wQ q.db (half:Int) sl gn la) 139 (0,0))) ?_;have hS:wr.drew.heap[jb]? =A (ag (wQ q.db (half:Int) sl gn la) 139 (0,0)):=Ye.I;refine bR hS [0,4,6,8,9,11,1,5,10,12,2,7,13,3,14] (λ_ h=>df h) ?_;have WR:=V (adU q2 lv xs (Jr.writes b ZX k d) (ZX+1+k) g2 A0 (c2-A0) (((Jr.all b).drop A0).take 64) wr.drew (JD.I.below (below_drewN wr 1)) (E Rg.I.1) (E Rg.I.1) (by have:=Rg.I.2;have:=xJ.I;omega) U U (by have:=EA.I.Ba;rwa[nF]at this) (λe=>E (Re.I g2 ((wU g2).1 e))));rw[Rf]at WR;refine bL 15 λK hK=> ?_;go_simp;refine WR.I.mono ?_;rintro e' w3 ⟨Yf,xs',rfl,hd3,cA⟩;have xA:=V hd3;have nz:=V (HK.I.trans' ((cA.vP).mono (C:=w2) U (λ_ _ h=>h)) (bu _));have fM:=nz.I.bC (bH Cv.I) (λe=>wR ((wU jb).1 e)) Cv.I;clear cA WR JD HK hS Ye;refine bB hK fM ?_;clear hK K;refine cQ fM [16] (bW ?_);go_wp2_with fail;go_roundw
   case rel=>exact⟨k+1,Yf,xs',U,rfl,by rw[Rc.I];exact xA.I,nz.I⟩
   case measure=>exact Q5q
  .obtain rfl:k=K:=U;have Ng:=Rg.I.1;have FL:=V (XU q2 lv xs (Jr.writes b ZX k d) wr JD.I U U);rw[Rf]at FL;have f0:=df Ye.I;go_wp2_with fail;refine FL.I.mono ?_;rintro e' w3 ⟨rfl,hd,cA⟩;have xA:=V hd;have nz:=V (HK.I.trans' cA HK.I.size);clear hd cA FL;go_upto_region 13 with fail;have Br:=HB.I.below dA.I;have Br:=nz.I.rows Br (λx hx=>by cases hx;exact⟨show bb<w2 by have:=Xn.I;omega,λe=>xZ ((wU bb).1 e)⟩);have tL:=V (nz.I.bC (bH Cv.I) (λe=>wR ((wU jb).1 e)) Cv.I);have nK:=nz.I.size;have HH:=V (ae3 gen (A ⟨bb,bo,G⟩) l c b w3.drew Br.Ba HG.I U);refine cS (λw':H=>w'.heap[jb]? =A (ag (wQ q.db (half:Int) sl gn la) 139 (0,0))) ?_;have hS:w3.drew.heap[jb]? =A (ag (wQ q.db (half:Int) sl gn la) 139 (0,0)):=tL.I;refine bR hS [0,4,5,6,1,2,3] (λ_ h=>df h) (bL 7 λK hK=> ?_);go_simp;refine HH.I.mono ?_;rintro e' w4 ⟨g3,c3,rfl,hh,-,Yg,oH⟩;have hD4:=xA.I.below ((below_drewN w3 1).step oH);have iU:=bV hS oH;have Ak:w3.heap.size<=g3:=Yg;have WR:=V (adU q2 (O G 0 0) [] (Jr.writes b ZX k d).flush ZX g3 0 c3 (Jr.head gen b) w4 hD4 (by show 0<=(Jr.writes b ZX k d).ops+1;omega) (by show(Jr.writes b ZX k d).ops+1<=_;omega) (by show(0:Nat)<=_;omega) U U hh (λe=>E (Re.I g3 ((wU g3).1 e))));rw[Rf]at WR;have lu:=V (nz.I.trans' (ar.vP (ar.cZ (S:=q2.S) oH)) nK);clear hh hS;refine bB hK iU ?_;clear hK K;refine bL 8 λK hK=> ?_;go_simp;refine WR.I.mono ?_;rintro e' w5 ⟨Yf,xs',rfl,hd5,cA⟩;have Da:=V hd5;have rP:=V (lu.I.trans' (cA.mono (C:=w2) U (λ_ _ h=>h)) (bu _));have qF:=rP.I.bC (bH Cv.I) (λe=>wR ((wU jb).1 e)) Cv.I;clear cA WR;refine bB hK qF ?_;clear hK K;refine cQ qF [9] (bW ?_);have FL:=V (XU q2 Yf xs' _ w5 Da.I (by show 0<=(Jr.writes b ZX k d).ops+1+1;omega) (by show(Jr.writes b ZX k d).ops+1+1<=_;omega));rw[Rf]at FL;have f0:=df qF;go_wp2_with fail;refine FL.I.mono ?_;rintro e' w6 ⟨rfl,hd6,cA⟩;have HD6:=V hd6;have lH:=V (rP.I.trans' cA rP.I.size);clear cA FL;go_wp2_with fail;go_ret;refine⟨rfl,?_,?_⟩
   .have h:=HD6.I.base (B:=q.B) (λb e=>GU.I b ((wU b).1 e)) (E lH.I.size);rw[<-HR.I];rw[<-I5.I]at h;exact h
   .exact(ar.cZ dA.I).trans' (lH.I.mono (C:=w) U (λb _ h=>(wU b).1 h)) (bu _)
def anw (q:DA) (jb:Nat) (ok:Nat->Prop) (r:Int×Jn×fd) (w:H) (e:dN) (w':H):Prop:=
 e=bG (Y Z r.1)/\fA q (O G 0 0) [] w' r.2.2 /\rr q.db jb (λb=>ok b\/w.heap.size<=b) w' r.2.1 /\ar w (λb=>q.S b\/b=jb) w w'
theorem fA.JE {q:DA} (h:fA q lv xs w d) (hj:¬q.S jb) (GV:jb<q.B) (i:Nat) (v:aj):fA q lv xs (ss w ⟨jb,i,G⟩ v) d:=
 h.move ((ar.cP w (λb=>b=jb) w).set (g:=jb) (aM rfl) i v) (λe=>hj (aM e.symm)) (λe=>hj (bJ (aM e.symm))) (λe=>hj (bJ (bJ e.symm))) (λb e e2=>E ((h.own.lt b e).1))
theorem anx (q:DA) (d:fd) (jb bb bo l c:Nat) (j:Jn) (ok:Nat->Prop) (b:ah) (w:H) (h:fA q (O G 0 0) [] w d) (hj:rr q.db jb ok w j) (wR:¬q.S jb) (GV:jb<q.B) (fY:∀b,ok b->¬q.S b/\b≠jb) (hs:j.slot<=1) (h1:1<=j.half) (h2:2*j.half<=q.N) (hN:q.N<=4096)
 (hb:ai .u8 w (A ⟨bb,bo,G⟩) l b) (xZ:¬q.S bb) (Q9:bb≠jb) (kM:1<=l) (X9:l<=100000000) (hg:0<=j.gen/\j.gen<=4294967295) (h0:0<=d.ops) (ho:d.ops<=900000000):
 aA aq 70 #[aP jb,O (A ⟨bb,bo,G⟩) l c] w (anw q jb ok (Jr.commit j d b) w):=by
 obtain⟨a,n,c',rx,dY⟩:=hj;have RM:=V (λw' hc=>ae1 jb j.half w' hc h1 U);obtain⟨R,hR⟩:=J (Jr.commit j d b);rw[hR];unfold Jr.commit at hR;rw[hb.bA]at hR;have HR:=V hR;have HD:=V h;have HB:=V hb;have oZ:=V dY;have HJ:=V rx;have nP:=h.lt.2.2.2;obtain⟨f0,f1,f2,f3,f4,f5⟩:=df rx;clear h rx dY hb hR fY;go_enter func70,ntmps70;go_wp2_with fail;refine cq (RM.I w f1) ?_;have xX:=V (show rr q.db jb (λb=>ok b\/w.heap.size<=b) w j from⟨a,n,c',HJ.I,oZ.I.1,λx hx h=>aM (oZ.I.2 x hx h)⟩);by_cases ZF:(j.half-1)*64<l
 .have e1:decide (((j.half-1:Nat):Int)*64<(l:Int))=true:=dI U;obtain rfl:(8,j,d)=R:=by rw[<-HR.I,aR (aM ZF)]
  go_wp2_with fail;go_ret;exact⟨rfl,HD.I,xX.I,ar.cP _ _ _⟩
 have e1:decide (((j.half-1:Nat):Int)*64<(l:Int))=ae:=eP U;by_cases hmx:j.gen=4294967295
 .have e2:(j.gen==4294967295)=true:=by simpa using hmx
  obtain rfl:(8,j,d)=R:=by rw[<-HR.I,aR (bJ hmx)]
  go_wp2_with fail;go_ret;exact⟨rfl,HD.I,xX.I,ar.cP _ _ _⟩
 have e2:(j.gen==4294967295)=ae:=by simpa using hmx
 have cU:=V (show(0,(⟨j.half,1-j.slot,j.gen+1,b⟩:Jn),Jr.write j.half (1-j.slot) (j.gen+1) b d)=R by rw[<-HR.I,aI U]);have i2:∀[Inhabited Nat],IntKind.u32.wrap (j.gen+1)=j.gen+1:=λ[_]=>by rw[IntKind.wrap_u32];omega
 have WR:=V (anv q d jb j.half (1-j.slot) bb bo l c (j.slot:Int) j.gen (j.gen+1) (O a n c') b w HD.I HJ.I wR U h1 h2 hN HB.I xZ kM U U h0 ho);clear HR;have HEq:=V (show((1-j.slot:Nat):Int)=1-(j.slot:Int) by omega);rw[HEq.I]at WR;go_wp2_with fail;refine WR.I.mono ?_;rintro e' w1 ⟨rfl,hd,cA⟩;have pQ:=V hd;have uY:=V cA;have gS:=bH HJ.I;have Ra:=V (cA.bC gS wR HJ.I);have jW:=V (cA.rows HB.I (λx hx=>by cases hx;exact⟨HB.I.lt U,xZ⟩));have wh:=cA.size;clear hd cA WR e2;go_upto_region 12 with fail;have CL:=V ((Fd (A ⟨bb,bo,G⟩) l c b w1.drew jW.I.Ba U).mono λ_ _ g=>g.new jW.I.wf U);refine cS (λw':H=>∃x y z,w'.heap[jb]? =A (ag (wQ q.db (j.half:Int) x y z) 139 (0,0))) ?_;have hS:w1.drew.heap[jb]? =A (ag (wQ q.db (j.half:Int) (j.slot:Int) j.gen (O a n c')) 139 (0,0)):=Ra.I;refine cQ (⟨_,_,_,hS⟩) [0,1,2,3,4,9,5,6] ?_;refine lI 7 10 (λK hK=> ?_) (λK hK=> ?_)
 .have f0:=df hS;go_simp;refine bB hK (⟨_,_,_,hS⟩) ?_;refine cQ (⟨_,_,_,hS⟩) [8] (bL 10 λK hK=> ?_);go_simp;refine CL.I.mono ?_;rintro e' w2 ⟨va,vc,rfl,hr,-,kL,du⟩;have bX:=bV hS du;have fL:=V (show fR (λb=>w1.heap.size<=b) .u8 w2 va l b from⟨hr,λx hx _=>(kL x hx).1⟩);have vr:=V (pQ.I.below ((below_drewN w1 1).step du));have jF:=V (uY.I.trans' (ar.vP (ar.cZ (S:=q.S) du)) wh);clear hr kL CL hS pQ uY;refine bB hK (⟨_,_,_,bX⟩) ?_;have f0:=df bX;have q2:=cE bX 2;have q3:=cE bX 3;have q4:=cE bX 4;exact Q08
 .go_simp;refine CL.I.mono ?_;rintro e' w2 ⟨va,vc,rfl,hr,-,kL,du⟩;have bX:=bV hS du;have fL:=V (show fR (λb=>w1.heap.size<=b) .u8 w2 va l b from⟨hr,λx hx _=>(kL x hx).1⟩);have vr:=V (pQ.I.below ((below_drewN w1 1).step du));have jF:=V (uY.I.trans' (ar.vP (ar.cZ (S:=q.S) du)) wh);clear hr kL hS;refine bB hK (⟨_,_,_,bX⟩) ?_;have f0:=df bX;have q2:=cE bX 2;have q3:=cE bX 3;have q4:=cE bX 4;refine bL 7 λK hK=> ?_;go_simp;refine bB hK (⟨_,_,_,bX⟩) ?_;refine cQ (⟨_,_,_,bX⟩) [8] ?_;exact Q08
end
end Go.Proofs.YtcpmhoodeieanaaGreatDoor
