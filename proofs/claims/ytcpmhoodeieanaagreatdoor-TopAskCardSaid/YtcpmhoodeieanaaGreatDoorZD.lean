/-
  Part 4 of the proof that TopAsk answers true: laws of the functions that it calls, on any memory that holds their arguments.
-/
import Derived.Test.YtcpmhoodeieanaaGreatDoorZB
import Derived.Shelf.Strconv.Itoa0
import Derived.Shelf.LaysM
import Derived.Lib.ItoaNum
import Derived.Shelf.Strconv.Itoa4
import Derived.Shelf.Strconv.ParseIntPublic10
import Derived.Shelf.Strings.Split
set_option maxRecDepth 100000
set_option maxHeartbeats 20000000
set_option linter.unusedVariables false
set_option linter.unusedSimpArgs false
open Go.Lib renaming hid→V
open Go.IntKind renaming i64→Z,i8→aO,i32→cr,u64→cD
open Go.Value renaming int→Y,slice→O,agg→aF,bool→aK,tuple→aL,pointer→aP
open Option renaming none→G,some→A
open Go renaming World→H,Value→aj,Calls→aA,results→aW,bodyPost_ret→aZ,lt_of_block→bH,heap_alloc_new→bZ,TypeId→dy,Ending→dN,IntKind→ey,maxLen→eS,info_parts→fB,step_append_lies→lM
open Bool renaming false→ae,and_eq_true→fS
open Go.Obj renaming cells→ag
open Go.Proofs.Tryz renaming prog→aq
open And renaming intro→aw
open Go.RowKit renaming Below→ay,intOf→aX
open Or renaming inl→aM,inr→bJ
open Nat renaming le_refl→bu,zero_le→cK,le_trans→eH,add_zero→eL,lt_of_lt_of_le→iP,zero_add→nF,mul_le_mul_right→nZ
open Go.World renaming size_alloc→bF
open Go.Ending renaming returned→bG
open List renaming getElem?_eq_getElem→cR,setIfInBounds_toArray→dC,set_cons_zero→dD,set_cons_succ→dE,length_append→dG,getD→dV,getElem?_eq_some_iff→fX,getD_eq_getElem?_getD→gB,length_map→ib,mem_append→kE,mem_map→kG,append_assoc→lL,mem_of_getElem?→nB,length_cons→n8,flatMap_cons→rz,take_succ_eq_append_getElem→sV
open Go.Lit renaming int→cX
open Go.RowKit.Below renaming refl→eG
open Go.Value renaming oneCell'→fV
open Go.World renaming ownsRow_nil→gP,size_setCell→jR,block_lt_of_cell?→jY,cell?→kY,setCell→ss,alloc→li
open Array renaming toList→jf
open Go.Calls renaming quiet_of_same→jG
open Go.IntKind renaming signed→nD,bits→nG,wrap_u64→pT
namespace Go.Proofs.YtcpmhoodeieanaaGreatDoor
open Go.RowKit Go.Proofs.Tryz
variable {Bx cs:Array aj} {b u w w' w1 wx:H} {e x:Int} {CS:List (Array aj)} {ys:List aj} {c cc i j l n p q:Nat} {f:Nat->Nat->Int} {S:Nat->Prop} {o:Obj} {α:Type} {a:aC} {d xs z zs:ah} {ke od oe v vd x0 x1 x2 x3 x4 x5 x6:aj} {r:dH} {Z9 ZU t:dy} {k:ey}
section
open Go.Shelf
def Tryz.ahK:Go.Shelf.Ren:=⟨λ |129=>299|n=>n,λ |53=>31|3=>3|4=>4|46=>257|5=>5|9=>9|n=>n,λ |n=>n⟩
theorem Tryz.ahL:Go.Proofs.Lays.n129 aq Tryz.ahK:={
 mixed:=by kernel_rfl
 f129:=func299.trans (congrArg A kr)
 t3:=underlying3
 a3:=Tryz.isAgg3
 z3:=Tryz.sizeOf3
 v3:=Tryz.zeroValue3
 t4:=underlying4
 a4:=Tryz.isAgg4
 z4:=Tryz.sizeOf4
 v4:=Tryz.zeroValue4
 t5:=underlying5
 a5:=Tryz.isAgg5
 z5:=Tryz.sizeOf5
 v5:=Tryz.zeroValue5
 t9:=underlying9
 a9:=Tryz.isAgg9
 z9:=Tryz.sizeOf9
 v9:=Tryz.zeroValue9
 t46:=underlying257
 a46:=Tryz.isAgg257
 z46:=Tryz.sizeOf257
 v46:=Tryz.zeroValue257
 t53:=underlying31
 a53:=Tryz.isAgg31
 z53:=Tryz.sizeOf31
 v53:=Tryz.zeroValue31}
theorem Tryz.bits_Len64 (x:Int) (w:H) (h0:0<=x) (h1:x<=18446744073709551615):
 aA aq 299 #[Y cD x] w λe w'=>e=bG (Y Z (Lib.bitLen x.toNat))/\w'=w:=Any.bits_Len64 Tryz.ahL x w h0 h1
def Rd.bits (v:Int):Nat:=Lib.bitLen (max (Rd.val v) (-Rd.val v)).toNat
theorem ahM (v:Int) (w:H):aA aq 292 #[Y Z v] w λe w'=>e=bG (Y Z (Rd.bits v:Nat))/\w=w':=by
 unfold Rd.bits;obtain⟨Z8,hV⟩:=J (Rd.val v);have v1: -4611686018427387904<=Z8:=hV▸Rd.St v;have v2:Z8<=4611686018427387904:=hV▸Rd.Sv v;have HV:=V (λw=>hV▸Hk v w);rw[hV];clear hV;have m1:0<=max Z8 (-Z8):=U;have m2:max Z8 (-Z8)<=4611686018427387904:=U;have HL:=V (λw=>Tryz.bits_Len64 (max Z8 (-Z8)) w m1 U);go_enter func292,ntmps292;go_wp2_with fail;refine cq (HV.I _) ?_;go_wp2_with fail;refine cq (HL.I _) ?_;exact Q0d
def Tryz.aoj:Go.Shelf.Ren:=⟨λ |171=>95|243=>160|246=>202|283=>248|284=>249|285=>250|286=>251|129=>299|317=>298|318=>300|319=>301|320=>302|337=>320|338=>321|n=>n,λ |3=>3|9=>9|2=>2|4=>4|171=>340|0=>0|53=>31|37=>42|5=>5|173=>343|212=>384|51=>137|20=>20|213=>385|46=>257|232=>411|233=>212|n=>n,λ |17=>1|18=>6|19=>7|n=>n⟩
theorem Tryz.aok:Go.Proofs.Lays.n171 aq Tryz.aoj:=Q2Z
theorem Tryz.strconv_Itoa_small (i:Nat) (hi:i<100) (w:H):
 aA aq 95 #[Y Z i] w λe w'=>e=bG (.string ⟨(Lib.decDigits i).toArray⟩)/\w'=w:=Any.strconv_Itoa_small Tryz.aok i hi w
def Tryz.aol:Go.Shelf.Ren:=⟨λ |173=>170|246=>202|283=>248|284=>249|285=>250|286=>251|129=>299|317=>298|318=>300|319=>301|320=>302|337=>320|338=>321|n=>n,λ |2=>2|3=>3|9=>9|4=>4|171=>340|0=>0|53=>31|37=>42|5=>5|173=>343|212=>384|51=>137|20=>20|213=>385|46=>257|232=>411|233=>212|n=>n,λ |17=>1|18=>6|19=>7|n=>n⟩
theorem Tryz.aom:Go.Proofs.Lays.n173 aq Tryz.aol:=Q2Z
theorem Tryz.strconv_FormatInt_10_small (i:Nat) (hi:i<100) (w:H):
 aA aq 170 #[Y Z i,Y Z 10] w λe w'=>e=bG (.string ⟨(Lib.decDigits i).toArray⟩)/\w'=w:=Any.strconv_FormatInt_10_small Tryz.aom i hi w
def Tryz.aon:Go.Shelf.Ren:=⟨λ |174=>169|247=>210|245=>211|287=>259|279=>260|280=>261|281=>262|282=>263|321=>307|322=>308|316=>309|171=>95|205=>310|243=>160|246=>202|283=>248|284=>249|285=>250|286=>251|129=>299|317=>298|318=>300|319=>301|320=>302|337=>320|338=>321|n=>n,λ |9=>9|3=>3|2=>2|75=>251|85=>252|4=>4|167=>346|5=>5|53=>31|175=>347|46=>257|168=>349|37=>42|0=>0|210=>398|21=>21|127=>345|145=>406|143=>404|171=>340|173=>343|212=>384|51=>137|20=>20|213=>385|232=>411|233=>212|80=>249|n=>n,λ |15=>4|16=>5|17=>1|18=>6|19=>7|n=>n⟩
theorem Tryz.aoo:Go.Proofs.LaysC.n174 aq Tryz.aon:=Q2Z
theorem Tryz.strconv_ParseInt_10_at64_ok (s:ByteArray) (aop:s.size<=9223372036854775806) (v:Int) (h:Lib.parseIntB 64 s.data.toList= .ok v) (w:H):
 aA aq 169 #[.string s,Y Z 10,Y Z 64] w λe w'=>e=bG (aL #[Y Z v,.nilIface])/\(w'=w\/∃t,w'=Lib.bytesWorld w 5 t):=Any.strconv_ParseInt_10_at64_ok Tryz.aoo s aop v h w
def Tryz.aoq:Go.Shelf.Ren:=⟨λ |146=>40|221=>96|268=>161|138=>162|143=>163|195=>203|197=>204|218=>205|219=>206|260=>252|217=>253|225=>254|224=>255|267=>256|266=>303|314=>304|n=>n,λ |9=>9|31=>112|3=>3|4=>4|0=>0|105=>295|21=>21|5=>5|46=>257|119=>387|139=>390|138=>389|146=>391|51=>137|n=>n,λ |1=>0|3=>2|4=>3|n=>n⟩
theorem Tryz.aor:Go.Proofs.Lays.n146 aq Tryz.aoq:=Q2Z
theorem Tryz.strings_Split (s sep:ByteArray) (m:Int) (w:H) (hs:s.size<4294967281) (hm:w ⟨0,0,G⟩=A (Y Z m)) (h1:1<=sep.size):
 aA aq 40 #[.string s,.string sep] w λe w'=>
  e=bG (O w (Lib.countB s sep+1) (Lib.countB s sep+1))/\w'=li w (ag ((Lib.splitB sep 0 (Lib.countB s sep) s).map Value.string).toArray 9):=Any.strings_Split Tryz.aor kr s sep m w hs hm h1
end
section
attribute [local go_sem ↓] wp_at_zero wp_at_succ
structure az where
 d:List Int
 e:Int
 z:List Int
def fu (k:ey) (w:H) (v:aj) (t:az):Prop:=∃a l c b m c',v=aS a l c t.e b m c'/\ai Z w a l t.d/\ai k w b m t.z
theorem fu.below {t:az} (h:fu k w v t) (b:ay w w w'):fu k w' v t:=by
 obtain⟨a,l,c,b',m,c',rfl,h0,h1⟩:=h;exact⟨a,l,c,b',m,c',rfl,h0.below b,h1.below b⟩
def dM (k:ey) (B:Nat) (w:H) (v:aj) (t:az):Prop:=∃a l c b m c',v=aS a l c t.e b m c'/\ai Z w a l t.d/\ai k w b m t.z/\(∀x,a=A x->B<=x.block)/\∀x,b=A x->B<=x.block
theorem dM.ten {B:Nat} {t:az} (h:dM k B w v t):fu k w v t:=by
 obtain⟨a,l,c,b,m,c',h1,h2,h3,_⟩:=h;exact⟨a,l,c,b,m,c',h1,h2,h3⟩
theorem dM.below {B:Nat} {t:az} (h:dM k B w v t) (b:ay w w w'):dM k B w' v t:=by
 obtain⟨a,l,c,b',m,c',rfl,h0,h1,h2⟩:=h;exact⟨a,l,c,b',m,c',rfl,h0.below b,h1.below b,h2⟩
theorem dM.mono {B B':Nat} {t:az} (h:dM k B w v t) (hb:B'<=B):dM k B' w v t:=by
 obtain⟨a,l,c,b',m,c',rfl,h0,h1,h2,h3⟩:=h;exact⟨a,l,c,b',m,c',rfl,h0,h1,λx hx=>eH hb (h2 x hx),λx hx=>eH hb (h3 x hx)⟩
def oY (k:ey) (r:Int×az) (w:H) (e:dN) (w':H):Prop:=∃v,e=bG (aL #[v,Y Z r.1])/\dM k w.heap.size w' v r.2 /\ay w w w'
def az.zero:az:=⟨[],0,[]⟩
theorem dM.zero (k:ey) (B:Nat) (w:H):dM k B w (aS G 0 0 0 G 0 0) az.zero:=⟨_,_,_,_,_,_,rfl,ai.zero _ _ _,ai.zero _ _ _,(λx h=>Q38),(λx h=>Q38)⟩
def nM (v:aj):Prop:=∀a l c e b m k,v=aS a l c e b m k->m<=k
theorem nM.mk {b:aC} {m k:Nat} (h:m<=k):nM (aS a l c e b m k):=by
 intro a' l' c' e' b' m' k' he;unfold aS at he;simp only[Value.agg.injEq,Array.mk.injEq,List.cons.injEq,Value.slice.injEq]at he;obtain⟨_,_,⟨_,rfl,rfl⟩,_⟩:=he;exact h
theorem nM.zero:nM (aS G 0 0 0 G 0 0):=nM.mk (bu 0)
def Dr (k:ey) (r:Int×az) (w:H) (e:dN) (w':H):Prop:=∃v,e=bG (aL #[v,Y Z r.1])/\(dM k w.heap.size w' v r.2 /\nM v)/\ay w w w'
theorem Dr.ten {r:Int×az} {e:dN} (h:Dr k r w e w'):oY k r w e w':=by
 obtain⟨v,h1,h2,h3⟩:=h;exact⟨v,h1,h2.1,h3⟩
theorem aaF {B e m:Nat} {xs:List aj} (h:w.ownsRow B e 1 (O a m c) n xs) (hm:m=n):m<=c:=by
 rcases h.2 with⟨h1,_⟩|⟨g',c',cur,h1,_,_,h2,_⟩
 .cases h1;omega
 .cases h1;omega
namespace T
def oE (d:ah) (e:Int) (z:ah):Prop:=0<Sh.size d/\(z.length:Int)=Sh.size d/\(-128<=e/\e<=128)
instance (d:ah) (e:Int) (z:ah):Decidable (oE d e z):=by unfold oE;infer_instance
def width (d:ah) (e:Int) (z:ah):Int:=if oE d e z then z.foldl (λw n=>max w (Rd.bits n:Int)) 0 else 0
end T
theorem ahN (e:Int) (w:H):aA aq 137 #[Y Z e,Y Z 128] w λr w'=>r=bG (aK (decide (-128<=e/\e<=128)))/\w'=w:=(Sn e 128 w U U).mono λ_ _ ⟨a,b⟩=>⟨a,b.symm⟩
theorem Km (a:aC) (l c:Nat) (d:ah) (e:Int) (b:aC) (m k:Nat) (z:ah) (w:H) (h0:ai Z w a l d) (h1:ai cr w b m z):
 aA aq 236 #[aS a l c e b m k] w (dZ (aK (decide (T.oE d e z))) w):=by
 have hb:=V (aD w (ag #[O a l c,Y Z e,O b m k] 276));have f0:=So w (O a l c) (Y Z e) (O b m k) 276 (0,0);have H0:=V (h0.below hb.I);have pW:=h1.eC;have hL:=h1.bA;have M:=V (λn=>CI a l c d _ (H0.I.bI n));have S:=V (λn=>Hj a l c d _ (H0.I.bI n));have ZU:=V (ahN e);have vA:decide (T.oE d e z)=(decide (0<Sh.size d)&&(((m:Int)==Sh.size d)&&decide (-128<=e/\e<=128))):=by
  rw[Bool.eq_iff_iff];simp only[decide_eq_true_eq,fS,beq_iff_eq];unfold T.oE;rw[hL]
 rw[vA];unfold aS;clear hL h0 h1 vA;generalize decide (0<Sh.size d)=Z3 at*;generalize decide (-128<=e/\e<=128)=X at*;obtain⟨B,hB⟩:=J ((m:Int)==Sh.size d);rw[hB];generalize Sh.size d=sz at*;clear H0
 cases Z3<;>cases B<;>cases X
 all_goals
  go_enter func236,ntmps236;go_wp2;generalize li w (ag #[O a l c,Y Z e,O b m k] 276)=w1 at*;go_quiet ((first
   |(go_at_call 51;exact jG (M.I _))
   |(go_at_call 116;exact jG (S.I _))
   |(go_at_call 137;exact jG (ZU.I _))))
  go_wp2;go_ret;exact⟨rfl,hb.I.bI _⟩
namespace T
def wid (z:ah):Int:=z.foldl (λw n=>max w (Rd.bits n:Int)) 0
theorem ahO (z:ah) (x:Int):wid (z++[x])=max (wid z) (Rd.bits x:Int):=by simp[wid,List.foldl_append]
theorem yz {k:Nat} (h:k<z.length):z.take (k+1)=z.take k++[z.getD k 0]:=by
 rw[sV h];simp[dV,cR h]
theorem ahP (v:Int) (h1: -2147483648<=v) (h2:v<=2147483647):Rd.bits v<=32:=by
 unfold Rd.bits;rw[show Rd.val v=v by unfold Rd.val Rd.iC;omega];refine Decidable.byContradiction λh=> ?_;exact h (Lib.bitLen_le _ 32 eM U)
theorem aaG:∀(z:ah) (s:Int),(∀x∈z,-2147483648<=x/\x<=2147483647)->0<=s->s<=32->0<=z.foldl (λw n=>max w (Rd.bits n:Int)) s/\z.foldl (λw n=>max w (Rd.bits n:Int)) s<=32
 | [],s,_,h1,h2=>⟨h1,h2⟩
 |x::z,s,h,h1,h2=>by
  have hb:=ahP x (h x bK).1 (h x bK).2;exact aaG z (max s (Rd.bits x:Int)) (λy hy=>h y Q53) U U
theorem ahQ (z:ah) (h:∀x∈z,-2147483648<=x/\x<=2147483647):0<=wid z/\wid z<=32:=aaG z 0 h U U
theorem ahR (d:ah) (e:Int) (z:ah) (h:∀x∈z,-2147483648<=x/\x<=2147483647):0<=width d e z/\width d e z<=32:=by
 unfold width;split
 .exact ahQ z h
 .omega
end T
theorem H5 (h:(cX cr x).wf=true): -2147483648<=x/\x<=2147483647:=by
 exact Q1s
theorem ahS (a:aC) (l c:Nat) (d:ah) (e:Int) (b:aC) (m k:Nat) (z:ah) (w:H) (h0:ai Z w a l d) (h1:ai cr w b m z):
 aA aq 237 #[aS a l c e b m k] w (dZ (Y Z (T.width d e z)) w):=by
 have M:=V (Km a l c d e b m k z);have BT:=V ahM;obtain⟨R,hR⟩:=J (T.width d e z);rw[hR];have HR:=V hR;clear hR;have KB:=V ((aE.new w (ag #[O a l c,Y Z e,O b m k] 276)).and ((h1.bt.alloc (ag #[O a l c,Y Z e,O b m k] 276)).and ((h0.bt.alloc (ag #[O a l c,Y Z e,O b m k] 276)).and ((aE.base w).alloc (ag #[O a l c,Y Z e,O b m k] 276)))));have pW:=h1.eC;have HL:=V h1.bA;have HW:=V h1.wf;have f0:=So w (O a l c) (Y Z e) (O b m k) 276 (0,0);obtain⟨B,hB⟩:=J (decide (T.oE d e z));rw[hB]at M;have HB:=V hB;unfold aS;unfold aS at M;clear h0 h1 hB;go_enter func237,ntmps237;go_wp2_with fail;generalize li w (ag #[O a l c,Y Z e,O b m k] 276)=w1 at*;refine bY (M.I _ KB.F.2.2.1 KB.F.2.1) λw2 hb=> ?_;have K2:=KB.bU hb;clear f0 KB hb M;have f0:=aY K2.F.1
 cases B
 .go_wp2;go_ret;exact⟨jS (by rw[<-HR.I];unfold T.width;rw[aI (kH HB.I)]),K2.F.2.2.2⟩
 .go_wp2_with fail;go_loop [3,12] (λs i=>∃j:Nat,j<=m/\i=Y Z j/\s=Y Z (T.wid (z.take j))) (λ_ i=>m-(aX i).toNat)
  case atStart=>exact⟨0,cK _,rfl,rfl⟩
  case round=>
   obtain⟨j,hj,rfl,rfl⟩:=hrel;by_cases aT:j<m
   .obtain⟨p0,o0,rfl,e0⟩:=K2.F.2.1.cells U;have f3:=e0 j aT;have gS:j<z.length:=Q30;have hx:=H5 (HW.I (z.getD j 0) Q3m);have HS:=V (show T.wid (z.take (j+1))=max (T.wid (z.take j)) (Rd.bits (z.getD j 0):Int) by rw[T.yz gS,T.ahO]);clear e0 gS;generalize z.getD j 0=x at*;generalize T.wid (z.take j)=s at*;have BX:=V (BT.I x);generalize(Rd.bits x:Nat)=y at*;obtain⟨x1,x2⟩:=hx;go_wp2_with (go_at_call 292;refine(BX.I _).mono ?_;rintro e w' ⟨rfl,rfl⟩)
    all_goals
     go_round
     case rel=>exact⟨j+1,U,Q2T,Q55⟩
     case measure=>exact Q5q
   .obtain rfl:j=m:=U;have HZ:=V (show z.take j=z by rw[<-HL.I];exact List.take_length);go_wp2;go_ret;exact⟨jS (by rw[<-HR.I,HZ.I];unfold T.width;rw[aR (eZ HB.I)];rfl),K2.F.2.2.2⟩
end
theorem cL {r:Nat} (hb:ay w w wx) (h:w.heap.size<=r) (a b c:aj):ay w w (ss (ss (ss wx r a) ⟨r,1,G⟩ b) ⟨r,2,G⟩ c):=((hb.setCell h _).setCell h _).setCell h _
def oF (T:dy) (d:ah) (l:Nat) (e:Int) (w:H) (v:aj) (wx:H):Prop:=∃bo a c,v=aP (A ⟨bo,0,G⟩)/\wx.heap[bo]? =A (ag #[O a l c,Y Z e,O G 0 0] T (0,0))/\ai Z wx a l d/\ay w w wx/\w.heap.size<=bo/\∀x,a=A x->w.heap.size<=x.block/\x.block≠bo
theorem OH {g t:Nat} (hd:ai Z w a l d) (hg:wx.heap[g]? =A (ag cs t (0,0))) (hcs:∀j,j<l->cs[j]? =A (Y Z (d.getD j 0))):ai Z wx g l d:=by
 exact Q1Y
theorem aaH (w:H) (o p q:Obj):(li (li (li w o) p) q).heap[w.heap.size]? =A o/\(li (li (li w o) p) q).heap[w.heap.size+1]? =A p/\(li (li (li w o) p) q).heap[w.heap.size+1+1]? =A q/\ay w w (li (li (li w o) p) q):=(aE.lj w o p q).aN
theorem oF.Kn {T:dy} (hcs:∀j,j<l->cs[j]? =A (Y Z (d.getD j 0))) (hd:ai Z w a l d):
 oF T d l e w (aP (w+1+1:Nat)) (li (li (li w (ag #[] Z9)) (ag cs Z9)) (ag #[O (w+1:Nat) l cc,Y Z e,O G 0 0] T)).drew.drew:=by
 obtain⟨_,h1,h2,h3⟩:=aaH w (ag #[] Z9) (ag cs Z9) (ag #[O (w+1:Nat) l cc,Y Z e,O G 0 0] T);exact⟨_,_,_,rfl,h2,OH hd h1 hcs,h3.bI 2,U,λx hx=>by cases hx;exact⟨Q2S,by show w.heap.size+1≠_;omega⟩⟩
theorem oF.Fe {T:dy} (hcs:∀j,j<l->cs[j]? =A (Y Z (d.getD j 0))) (hd:ai Z w a l d):
 oF T d l e w (aP w) (li (li (li w (ag #[O (w+1+1:Nat) l cc,Y Z e,O G 0 0] T)) (ag #[] Z9)) (ag cs Z9)).drew.drew:=by
 obtain⟨h1,_,h2,h3⟩:=aaH w (ag #[O (w+1+1:Nat) l cc,Y Z e,O G 0 0] T) (ag #[] Z9) (ag cs Z9);exact⟨_,_,_,rfl,h1,OH hd h2 hcs,h3.bI 2,U,λx hx=>by cases hx;exact⟨by show w.heap.size<=w+1+1;omega,by show w.heap.size+1+1≠_;omega⟩⟩
def tB (T ZU:dy) (k:ey) (B bo:Nat) (od oe:aj) (n:Nat) (xs:ah) (w:H):Prop:=∃vd,w.heap[bo]? =A (ag #[od,oe,vd] T (0,0))/\w.ownsRow B ZU 1 vd n (xs.map (Y k))/\B<=w
theorem tB.bI {T:dy} {B bo:Nat} (h:tB T ZU k B bo od oe n xs w) (q:Nat):tB T ZU k B bo od oe n xs (w.drewN q):=by
 obtain⟨vd,h1,h2,h3⟩:=h;exact⟨vd,h1,oh h2 (below_drewN w q),h3⟩
theorem Ff.step {T:dy} {B bo g:Nat} {w0:H} (ho:w.heap[bo]? =A (ag #[od,oe,vd] T (0,0))) (cy:bo<B) (hB:B<=w) (hv:∀b,vd.ownBlock=A b->B<=b)
 (aV:w1.ownsRow B ZU 1 (O g (n+1) c) (n+1) (xs.map (Y k)++[Y k x])) (eD:(li w (ag #[Y k x] ZU)).grownBy w1 vd.ownBlock) (hk:ar B (λb=>b=bo) w0 w) (hg:B<=g):
 tB T ZU k B bo od oe (n+1) (xs++[x]) (ss w1 ⟨bo,2,G⟩ (O g (n+1) c))/\ar B (λb=>b=bo) w0 (ss w1 ⟨bo,2,G⟩ (O g (n+1) c)):=by
 have O4:=gI eD (dX ho _) (λe=>E (hv _ e));have K4:ar B (λb=>b=bo) w0 w1:=ar.grown (wq:=w0) (W:=li w (ag #[Y k x] ZU)) ⟨hk.os,hk.tape,hk.output,eH hk.size (aD w _).size,λb hb hn=>((aD w _).block b (iP hb hB)).trans (hk.block b hb hn)⟩ eD Q2Y (λb e=>hv b e);have hs:=eD.size;rw[bF]at hs;refine⟨⟨_,Od O4,?_,Q4G⟩,⟨K4.os,K4.tape,K4.output,by rw[jR];exact K4.size,λb hb hn=> ?_⟩⟩
 .rw[List.map_append];exact ownsRow_setCell_other aV (λe=>by
   have e:A g=A bo:=e;injection e with e;omega) _
 .rw[Below.heap_setCell _ _ _ _ (λe=>hn e)];exact K4.block b hb hn
theorem ai.bC (h:ai k w a l zs) (h0:0<l) {x:Addr} (hx:a=A x):x.block<w:=by
 obtain⟨b,off,rfl,hc⟩:=h.cells h0
 cases hx;exact jY w _ (hc 0 h0)
theorem ar.bC {B:Nat} (h:ar B S w w') {g:Nat} (hg:g<B) (hn:¬S g) (hb:w.heap[g]? =A o):w'.heap[g]? =A o:=(h.block g hg hn).trans hb
theorem ar.rows {B:Nat} (h:ar B S w w') (hr:ai k w a l zs) (hg:∀x,a=A x->x.block<B/\¬S x.block):ai k w' a l zs:=by
 obtain⟨h1,h2,h3,h4⟩:=hr;refine⟨h1,h2,h3,h4.imp id ?_⟩;rintro⟨b,off,rfl,hc⟩;obtain⟨g1,g2⟩:=hg _ rfl;refine⟨b,off,rfl,λj hj=> ?_⟩;exact Q2k
theorem ar.bI {B:Nat} (h:ar B S w w') (n:Nat):ar B S w (w'.drewN n):=⟨h.os,h.tape,h.output,h.size,h.block⟩
theorem ar.nO {B:Nat} {w0:H} (hb:ay w0 w0 w) (h:ar B S w w') (hB:w0.heap.size<=B) (hS:∀b,S b->w0.heap.size<=b):ay w0 w0 w':=⟨h.os.trans hb.os,h.tape.trans hb.tape,h.output.trans hb.output,eH hb.size h.size,λb aT=>(h.block b U (λhs=>E (hS b hs))).trans (hb.block b aT)⟩
structure bD where
 w:az
 m:List Int
 b:az
def jL (u:H) (cs:Array aj) (p:bD):Prop:=∃a1 l1 c1 a2 l2 c2 a3 l3 c3 a4 l4 c4 a5 l5 c5,
 cs=#[O a1 l1 c1,Y Z p.w.e,O a2 l2 c2,O a3 l3 c3,O a4 l4 c4,Y Z p.b.e,O a5 l5 c5]/\
 ai Z u a1 l1 p.w.d/\ai aO u a2 l2 p.w.z/\ai cr u a3 l3 p.m/\ai Z u a4 l4 p.b.d/\ai aO u a5 l5 p.b.z
theorem jL.below {u':H} {p:bD} (h:jL u cs p) (b:ay u.heap.size u u'):jL u' cs p:=by
 obtain⟨a1,l1,c1,a2,l2,c2,a3,l3,c3,a4,l4,c4,a5,l5,c5,e,h1,h2,h3,h4,h5⟩:=h;exact⟨a1,l1,c1,a2,l2,c2,a3,l3,c3,a4,l4,c4,a5,l5,c5,e,h1.below b,h2.below b,h3.below b,h4.below b,h5.below b⟩
def bD.nothing (p:bD):Bool:=decide (p.w.d.length+p.w.z.length+p.m.length+p.b.d.length+p.b.z.length=0)&&(decide (p.w.e=0)&&decide (p.b.e=0))
theorem aiz (cs:Array aj) (p:bD) (w:H) (h:jL w cs p):aA aq 72 #[aF cs] w (dZ (aK p.nothing) w):=by
 obtain⟨a1,l1,c1,a2,l2,c2,a3,l3,c3,a4,l4,c4,a5,l5,c5,rfl,h1,h2,h3,h4,h5⟩:=h;have hn:=bZ w (ag #[O a1 l1 c1,Y Z p.w.e,O a2 l2 c2,O a3 l3 c3,O a4 l4 c4,Y Z p.b.e,O a5 l5 c5] 105);have BB:=V (aD w (ag #[O a1 l1 c1,Y Z p.w.e,O a2 l2 c2,O a3 l3 c3,O a4 l4 c4,Y Z p.b.e,O a5 l5 c5] 105));have f0:=bh hn 0 (v:=O a1 l1 c1) rfl;have f1:=bh hn 1 (v:=Y Z p.w.e) rfl;have f2:=bh hn 2 (v:=O a2 l2 c2) rfl;have f3:=bh hn 3 (v:=O a3 l3 c3) rfl;have f4:=bh hn 4 (v:=O a4 l4 c4) rfl;have f5:=bh hn 5 (v:=Y Z p.b.e) rfl;have f6:=bh hn 6 (v:=O a5 l5 c5) rfl;have n1:=h1.eC;have n2:=h2.eC;have n3:=h3.eC;have n4:=h4.eC;have n5:=h5.eC;unfold bD.nothing;rw[h1.bA,h2.bA,h3.bA,h4.bA,h5.bA];have e0:(((l1:Int)+l2+l3+l4+l5)==0)=decide (l1+l2+l3+l4+l5=0):=by
  rw[Bool.eq_iff_iff];simp;omega
 have e1:(p.w.e==0)=decide (p.w.e=0):=by rw[Bool.eq_iff_iff];simp
 have e2:(p.b.e==0)=decide (p.b.e=0):=by rw[Bool.eq_iff_iff];simp
 obtain⟨x0,g0⟩:∃y,decide (l1+l2+l3+l4+l5=0)=y:=⟨_,rfl⟩;obtain⟨x1,g1⟩:∃y,decide (p.w.e=0)=y:=⟨_,rfl⟩;obtain⟨x2,g2⟩:∃y,decide (p.b.e=0)=y:=⟨_,rfl⟩;rw[g0]at e0;rw[g1]at e1;rw[g2]at e2;rw[g0,g1,g2];clear hn h1 h2 h3 h4 h5 g0 g1 g2
 cases x0<;>cases x1
 all_goals
  go_enter func72,ntmps72;go_wp2;go_ret;exact⟨rfl,BB.I⟩
section
attribute [local go_sem ↓] wp_at_zero wp_at_succ
def OM (k:ey) (t:az) (w:H) (e:dN) (w':H):Prop:=∃v,e=bG v/\dM k w.heap.size w' v t/\ay w w w'
def ai2 (k:ey) (t:az) (w:H) (e:dN) (w':H):Prop:=∃v,e=bG v/\(dM k w.heap.size w' v t/\nM v)/\ay w w w'
def dU (f:Nat->Int) (n:Nat):List Int:=(List.range n).map f
theorem yI (f:Nat->Int) (n:Nat):dU f (n+1)=dU f n++[f n]:=by simp[dU,List.range_succ]
theorem aaJ (ZX:Nat) (jh:Array aj) (f:Nat->Int) (t:az) (v:aj) (w:H) (h:fu aO w v t) (yJ:1<=t.d.length) (vC:t.d.length<=4) (hz:t.z.length<=8192) (hf:∀i,-128<=f i/\f i<=127)
 (hc:∀args w,(callFunc ZX args).run aq w= .ok (.enter ZX args) w)
 (hF:∀(i:Nat) wx,i<t.z.length->ay w w wx->aA aq ZX (#[Y Z (i:Int)]++jh) wx λe w'=>e=bG (Y aO (f i))/\wx=w'):
 aA aq 243 #[v,.func (.func ZX) #[] jh] w (ai2 aO ⟨t.d,t.e,dU f t.z.length⟩ w):=by
 obtain⟨a,l,c,b,m,k,rfl,h0,h1⟩:=h;obtain⟨d,e,z⟩:=t;have HC:=V hF;have Bo:=V hf;have KZ:=V (aE.fG w (ag #[O a l c,Y Z e,O b m k] 57) (ag #[O G 0 0,Y Z 0,O G 0 0] 57));have KB:=V (h1.bt.and h0.bt);simp only at yJ vC hz;rw[h0.bA]at yJ vC;rw[h1.bA]at hz HC;have CL:=V (λw h=>Dg a l c d w h yJ U);simp only;rw[h1.bA];unfold aS;clear h0 h1 hF hf;go_enter func243,ntmps243;go_wp2_with fail;generalize fZ:li (li w (ag #[O a l c,Y Z e,O b m k] 57)) (ag #[O G 0 0,Y Z 0,O G 0 0] 57)=w3 at*;have K3:=KZ;obtain⟨f0,f1,f2,_⟩:=aY K3.F.1;go_upto_region 1 with fail;have R3:=V (KB.aQ K3.F.2.2).2;have CW:=V (λwx (b:ay w3 w3 wx)=>CL.I wx (R3.I.below b));go_cut [5] (λv wx=>oF 57 d l e w3 v wx)
 case first=>
  obtain⟨k1,k2,k3⟩:=uy f0;obtain⟨k4,k5,k6⟩:=uy f1;go_region_held3 (λw'=>w'.cell? ⟨w,0,G⟩=A (O a l c)/\w'.cell? ⟨w,1,G⟩=A (Y Z e)) (go_keep)
   (first|(go_at_call 142;refine(CW.I _ Q3e).mono ?_;rintro e3 w4 ⟨cc,cs,rfl,rfl,hcs⟩))
  all_goals
   go_wp2_with fail;go_meet
   first|exact oF.Kn hcs R3.I|exact oF.Fe hcs R3.I
 case rest=>
  obtain⟨bo,av,cv,rfl,ho,fO,cW,OL,nL⟩:=hcut;obtain⟨w5,rfl⟩:∃w5:H,w5=wc:=⟨_,rfl⟩;have HO:=V ho;have il:=V fO;have yF:bo<w5:=bH ho;have K5:=K3.bU cW;have aaI:=bH K3.F.2.1;have fZ:=K3.F.2.2.size;have Kp:=V (λx (hx:av=A x)=>show w.heap.size<=x.block from Q3y);have Kq:=V (λx (hx:av=A x)=>show x.block≠w.heap.size+1 from Q3y);clear ho fO cW;have f0:=aY K5.F.1;go_wp2_with fail;generalize hB:w5.heap.size=B at*;have oG:=V hB;clear hB;go_loopw [16] (λi wr=>∃j:Nat,j<=m/\i=Y Z j/\tB 57 106 aO B bo (O av l cv) (Y Z e) j (dU f j) wr/\ar B (λb=>b=bo) w5 wr) (λi _=>m-(aX i).toNat)
  case atStart=>exact⟨0,cK _,rfl,⟨_,HO.I,gP _ _ _ _,Q3Y⟩,⟨rfl,rfl,rfl,bu _,λ_ _ _=>rfl⟩⟩
  case round=>
   obtain⟨j,hj,rfl,lW,fD⟩:=hrel;have HF:=V lW;have lH:=V fD;clear lW;by_cases aT:j<m
   .obtain⟨vd,cy,aV,yG⟩:=HF.I;have iT:=V cy;have rI:=V aV;have jV:=V (fD.nO K5.F.2.2 U (λb hb=>U));have HS:=V (yI f j);have Kr:=Bo.I j;have CP:=V (λwx b=>HC.I j wx aT b);obtain⟨i0,hi,cF,cG,cB⟩:=fB tA;clear fD cy aV HF;generalize f j=u at*;obtain⟨u1,u2⟩:=Kr;go_wp2_with fail;obtain⟨_,_,c2,_,_,d2⟩:=aY iT.I;refine Lt.begins (λw':H=>w' ⟨bo,2,G⟩=A vd) (λj=>j==8) kr ?_;have hS:(λw':H=>w' ⟨bo,2,G⟩=A vd) wr.drew:=c2;refine qJ hS 0 ?_;refine qJ hS 1 ?_;refine qJ hS 2 ?_;refine qJ hS 3 ?_;refine Lt.all (rs:=[4]) kr bK (λi hq=> ?_);obtain rfl:i=4:=Q2X;clear hq;refine Lt.step rfl (λK hK=> ?_);go_simp;refine cq (CP.I _ (jV.I.bI 1)) ?_;refine bB hK hS ?_;refine Lt.all (rs:=[5]) kr bK (λi hq=> ?_);obtain rfl:i=5:=Q2X;clear hq;refine Lt.step rfl (λK hK=> ?_);go_simp;have bX:(λw':H=>w' ⟨bo,2,G⟩=A vd) (li wr.drew (ag #[Y aO u] 106)):=fq hS _;refine bB hK bX ?_;refine Lt.all (rs:=[6]) kr bK (λi hq=> ?_);obtain rfl:i=6:=Q2X;clear hq;refine Lt.step rfl (λK hK=> ?_);refine lM _ cJ _ _ _ cJ B 106 i0 _ 1 1 underlying52 hi cF cG cB rfl U vd j ((dU f j).map (Y aO)) cJ (rI.I.drew.alloc _) ⟨wr,0,G⟩ 1 1 [Y aO u] cJ cJ (kJ wr.drew _ _) Q35 U Q2V U Q2R _ rfl ?_;intro g1 fh w7 cC bM cN ei;have dh:=λb (h:vd.ownBlock=A b)=>(rI.I.lt b h).1;have iD:=gI bM (dX (show wr.drew.heap[bo]? =_ from iT.I) _) (λh=>E (dh _ h));have yH:B<=g1:=by
     exact Q2P
    have pG:=V (Ff.step (show wr.drew.heap[bo]? =_ from iT.I) yF yG dh cC bM (lH.I.bI 1) yH);obtain⟨_,_,c3,_,_,d3⟩:=aY iD;clear hS cC bM cN ei dh;have hS:(λw':H=>w' ⟨bo,2,G⟩=A vd) w7:=c3;refine bB hK hS ?_;refine qJ hS 7 ?_;refine Lt.all (rs:=[8]) kr bK (λi hq=> ?_);obtain rfl:i=8:=Q2X;clear hq;refine Lt.step rfl (λK hK=> ?_);go_simp;refine jg hK ?_;clear hS;exact Q2F
   .obtain rfl:j=m:=U;obtain⟨vd,cy,aV,nP⟩:=HF.I;obtain⟨pd,cd,rfl,gC⟩:=ai.nJ aV (λy hy=>by
     obtain⟨i,_,rfl⟩:=kG.1 hy;exact yw (Bo.I i).1 (Bo.I i).2) U
    have mN:=V gC;have Bm:=aaF aV rfl;have jJ:=V (λx (hx:pd=A x)=>(aV.lt x.block Q3b).1);have jK:=V (fD.bC U U K5.F.2.1);have qM:=V (fD.rows il.I (λx hx=>⟨by
     have h1:=il.I.bC yJ hx;have h2:=oG.I;omega,(nL x hx).2⟩))
    have jV:=V (fD.nO K5.F.2.2 U (λb hb=>U));have y0:=aY cy;have g0:=aY jK.I;clear fD aV cy gC;go_wp2_with fail;refine aZ (v:=aF #[O av l cv,Y Z e,O pd j cd]) ?_ rfl ⟨_,rfl,⟨⟨_,_,_,_,_,_,rfl,?_,?_,(λx hx=>E (Kp.I x hx)),(λx hx=>E (jJ.I x hx))⟩,nM.mk Bm⟩,cL jV.I U _ _ _⟩
    .simp[aW,results243,go_sem,cT jK.I]
    .exact Q2m
    .exact Q1D
theorem ai3 (ZX:Nat) (jh:Array aj) (f:Nat->Int) (t:az) (v:aj) (w:H) (h:fu aO w v t) (yJ:1<=t.d.length) (vC:t.d.length<=4) (hz:t.z.length<=8192) (hf:∀i,-128<=f i/\f i<=127)
 (hc:∀args w,(callFunc ZX args).run aq w= .ok (.enter ZX args) w)
 (hF:∀(i:Nat) wx,i<t.z.length->ay w w wx->aA aq ZX (#[Y Z (i:Int)]++jh) wx λe w'=>e=bG (Y aO (f i))/\wx=w'):
 aA aq 243 #[v,.func (.func ZX) #[] jh] w (OM aO ⟨t.d,t.e,dU f t.z.length⟩ w):=(aaJ ZX jh f t v w h yJ vC hz hf hc hF).mono λ_ _ ⟨v,h1,h2,h3⟩=>⟨v,h1,h2.1,h3⟩
namespace Z4
def Bp (t:az):Int×az:=if T.aH t.d t.e t.z then(0,⟨t.d,t.e,dU (λi=>max 0 (t.z.getD i 0)) t.z.length⟩)else(1,az.zero)
def zQ (g x:az):Int×az:=
 if ¬(T.aH g.d g.e g.z/\T.aH x.d x.e x.z)then(1,az.zero)else if g.d≠x.d then(2,az.zero)else
 (0,⟨g.d,g.e,dU (λi=>if 0<x.z.getD i 0 then g.z.getD i 0 else 0) g.z.length⟩)
def shape (t:az) (d:ah):Int×az:=
 if ¬(T.aH t.d t.e t.z/\0<Sh.size d)then(1,az.zero)else if Sh.size d≠t.z.length then(2,az.zero)else(0,⟨d,t.e,t.z⟩)
def flat (t:az):Int×az:=if T.aH t.d t.e t.z then shape t [t.d.getD 0 0,Sh.size t.d/t.d.getD 0 0]else(1,az.zero)
end Z4
theorem ai4 (i:Nat) (g:Nat) (a:aC) (m k:Nat) (z:ah) (w:H) (hg:w ⟨g,2,G⟩=A (O a m k)) (hz:ai aO w a m z) (hi:i<m):
 aA aq 244 #[Y Z (i:Int),aP g] w λe w'=>e=bG (Y aO (max 0 (z.getD i 0)))/\w=w':=by
 obtain⟨p0,o0,rfl,e0⟩:=hz.cells U;have f0:=e0 i hi;have hm:=hz.eC;clear e0 hz;generalize z.getD i 0=x at*;go_enter func244,ntmps244;go_wp2;all_goals
  go_ret;exact⟨rfl,rfl⟩
theorem T.sI (h:T.aH d e z):1<=d.length/\d.length<=4/\z.length<=8192/\1<=z.length:=by
 have my:=Sh.iA h.1;have:=my.eq;have:=my.le;have:=my.one;have:=h.2.1;exact⟨my.l1,my.l4,U,U⟩
theorem jv (h:∀x∈z,(cX aO x).wf=true) (i:Nat): -128<=z.getD i 0/\z.getD i 0<=127:=EW h i
theorem ai5 (t:az) (v:aj) (w:H) (h:fu aO w v t):aA aq 196 #[v] w (Dr aO (Z4.Bp t) w):=by
 obtain⟨a,l,c,b,m,k,rfl,h0,h1⟩:=h;have M:=V (jr a l c t.d t.e b m k t.z);have KZ:=V (aE.fG w (ag #[O a l c,Y Z t.e,O b m k] 57) (ag #[O G 0 0,Y Z 0,O G 0 0] 57));have KB:=V (h1.bt.and h0.bt);have HL:=V h1.bA;have H8:=V (jv h1.wf);obtain⟨R,hR⟩:=J (Z4.Bp t);rw[hR];obtain⟨B,hB⟩:=J (decide (T.aH t.d t.e t.z));rw[hB]at M;unfold aS;unfold aS at M;clear h0 h1
 cases B
 .have hb:=kH hB;obtain rfl:(1,az.zero)=R:=by rw[<-hR];unfold Z4.Bp;rw[aI hb]
  clear hR hB hb;go_enter func196,ntmps196;go_wp2_with fail;refine bY (M.I _ (KB.aQ KZ.F.2.2).2 (KB.aQ KZ.F.2.2).1) λw2 hb=> ?_;have K2:=V (KZ.I.step hb).aN;have g0:=aY K2.I.2.1;clear hb;go_wp2_with fail;refine aZ (v:=aL #[aF #[O G 0 0,Y Z 0,O G 0 0],Y Z 1]) ?_ rfl ⟨_,rfl,⟨dM.zero _ _ _,nM.zero⟩,cL K2.I.2.2 U _ _ _⟩;simp[aW,results196,go_sem,cT K2.I.2.1]
 .have hb:=eZ hB;obtain⟨d1,d4,z8,z1⟩:=T.sI hb;have hr:(0,⟨t.d,t.e,dU (λi=>max 0 (t.z.getD i 0)) t.z.length⟩)=R:=by rw[<-hR];unfold Z4.Bp;rw[aR hb]
  clear hR hB hb;go_enter func196,ntmps196;go_wp2_with fail;refine bY (M.I _ (KB.aQ KZ.F.2.2).2 (KB.aQ KZ.F.2.2).1) λw2 hb=> ?_;have K2:=KZ.bU hb;have f0:=aY K2.F.1;have LK:=V (aaJ 244 #[aP (A ⟨w,0,G⟩)] (λi=>max 0 (t.z.getD i 0)) t _ w2 ⟨a,l,c,b,m,k,rfl,(KB.aQ K2.F.2.2).2,(KB.aQ K2.F.2.2).1⟩ d1 d4 z8 (λi=>E (H8.I i)) (λargs w=>Q3J) (λi wx hi b=>ai4 i _ _ _ _ _ wx (aY (K2.aQ b).1).2.2.1 (KB.aQ (K2.aQ b).2.2).1 (by rw[<-HL.I];exact hi)));unfold aS at LK;clear hb;go_wp2_with fail;refine LK.I.mono ?_;rintro e' w3 ⟨v',rfl,⟨⟨a',l',c',b',m',k',rfl,r0,r1,r2,r3⟩,Ks⟩,hb⟩;have T4:=V (Ks _ _ _ _ _ _ _ rfl);clear Ks;have K3:=V (K2.I.step hb).aN;have ja:=bH K2.F.2.1;have T3:=V (show ai Z w3 a' l' t.d/\ai aO w3 b' m' (dU (λi=>max 0 (t.z.getD i 0)) t.z.length)from⟨r0,r1⟩);have N1:=V r2;have N2:=V r3;clear r0 r1 r2 r3 f0 LK hb;have g0:=aY K3.I.2.1;unfold aS;go_wp2_with fail;rw[<-hr];refine aZ (v:=aL #[aF #[O a' l' c',Y Z t.e,O b' m' k'],Y Z 0]) ?_ rfl ⟨_,rfl,⟨⟨_,_,_,_,_,_,rfl,T3.I.1.eJ (λx hx=>E (N1.I x hx)),T3.I.2.eJ (λx hx=>E (N2.I x hx)),(λx hx=>E (N1.I x hx)),(λx hx=>E (N2.I x hx))⟩,nM.mk T4.I⟩,cL K3.I.2.2 U _ _ _⟩;simp[aW,results196,go_sem,cT K3.I.2.1]
theorem ai6 (i:Nat) (g h:Nat) (a:aC) (m k:Nat) (z:ah) (a2:aC) (m2 k2:Nat) (y:ah) (w:H) (hg:w ⟨g,2,G⟩=A (O a m k)) (hz:ai aO w a m z) (hh:w ⟨h,2,G⟩=A (O a2 m2 k2)) (hy:ai aO w a2 m2 y) (hi:i<m) (Kt:i<m2):
 aA aq 313 #[Y Z (i:Int),aP g,aP h] w λe w'=>e=bG (Y aO (if 0<z.getD i 0 then y.getD i 0 else 0))/\w=w':=by
 obtain⟨p0,o0,rfl,e0⟩:=hz.cells U;obtain⟨p1,o1,rfl,e1⟩:=hy.cells U;have f0:=e0 i hi;have f1:=e1 i Kt;have hm:=hz.eC;have m6:=hy.eC;clear e0 e1 hz hy;generalize z.getD i 0=x at*;generalize y.getD i 0=u at*;by_cases hx:0<x
 .rw[aR hx];go_enter func313,ntmps313;exact Q0d
 .rw[aI hx];have lD:x<=0:=U;clear hx;go_enter func313,ntmps313;exact Q0d
theorem Z4.rb1 {g x:az} (h:¬(T.aH g.d g.e g.z/\T.aH x.d x.e x.z)):Z4.zQ g x=(1,az.zero):=by unfold Z4.zQ;rw[aR h]
theorem Z4.rb2 {g x:az} (h:T.aH g.d g.e g.z) (h2:T.aH x.d x.e x.z) (h3:g.d≠x.d):Z4.zQ g x=(2,az.zero):=by unfold Z4.zQ;rw[aI (λc=>c ⟨h,h2⟩),aR h3]
theorem Z4.rb0 {g x:az} (h:T.aH g.d g.e g.z) (h2:T.aH x.d x.e x.z) (h3:g.d=x.d):Z4.zQ g x=(0,⟨g.d,g.e,dU (λi=>if 0<x.z.getD i 0 then g.z.getD i 0 else 0) g.z.length⟩):=by unfold Z4.zQ;rw[aI (λc=>c ⟨h,h2⟩),aI (λc=>c h3)]
theorem ai7 (t y:az) (v u:aj) (w:H) (h:fu aO w v t) (hy:fu aO w u y):aA aq 272 #[v,u] w (oY aO (Z4.zQ t y) w):=by
 obtain⟨a,l,c,b,m,k,rfl,h0,h1⟩:=h;obtain⟨a2,l2,c2,b2,m2,k2,rfl,h2,h3⟩:=hy;have M:=V (jr a l c t.d t.e b m k t.z);have M2:=V (jr a2 l2 c2 y.d y.e b2 m2 k2 y.z);have SM:=V (Hg a l c t.d a2 l2 c2 y.d);have KZ:=V (aE.lj w (ag #[O a l c,Y Z t.e,O b m k] 57) (ag #[O a2 l2 c2,Y Z y.e,O b2 m2 k2] 57) (ag #[O G 0 0,Y Z 0,O G 0 0] 57));have KB:=V (h0.bt.and (h1.bt.and (h2.bt.and h3.bt)));have HL:=V h1.bA;have Fj:=V h3.bA;have H8:=V (jv h1.wf);obtain⟨R,hR⟩:=J (Z4.zQ t y);rw[hR];have HR:=V hR;obtain⟨Z3,hA⟩:=J (decide (T.aH t.d t.e t.z));obtain⟨B,hB⟩:=J (decide (T.aH y.d y.e y.z));obtain⟨D,hD⟩:=J (decide (t.d=y.d));rw[hA]at M;rw[hB]at M2;rw[hD]at SM;have HA:=V hA;have HB:=V hB;have HD:=V hD;unfold aS;unfold aS at M M2;clear h0 h1 h2 h3 hA hB hD hR;go_enter func272,ntmps272;go_wp2_with fail;refine bY (M.I _ (KB.aQ KZ.F.2.2.2).1 (KB.aQ KZ.F.2.2.2).2.1) λw2 hb=> ?_;have K2:=KZ.bU hb;clear KZ hb M;have x0:=aY K2.F.1;have f0:=aY K2.F.2.1;have g0:=aY K2.F.2.2.1
 cases Z3
 .go_wp2_with fail;obtain rfl:=HR.I.symm.trans (Z4.rb1 (λh=>kH HA.I h.1));refine aZ (v:=aL #[aF #[O G 0 0,Y Z 0,O G 0 0],Y Z 1]) ?_ rfl ⟨_,rfl,dM.zero _ _ _,cL K2.F.2.2.2 U _ _ _⟩;simp[aW,results272,go_sem,cT K2.F.2.2.1]
 go_wp2_with fail;refine bY (M2.I _ (KB.aQ K2.F.2.2.2).2.2.1 (KB.aQ K2.F.2.2.2).2.2.2) λw3 hb=> ?_;have K3:=K2.bU hb;clear K2 hb M2 x0 f0 g0;have x0:=aY K3.F.1;have f0:=aY K3.F.2.1;have g0:=aY K3.F.2.2.1
 cases B
 .go_wp2_with fail;obtain rfl:=HR.I.symm.trans (Z4.rb1 (λh=>kH HB.I h.2));refine aZ (v:=aL #[aF #[O G 0 0,Y Z 0,O G 0 0],Y Z 1]) ?_ rfl ⟨_,rfl,dM.zero _ _ _,cL K3.F.2.2.2 U _ _ _⟩;simp[aW,results272,go_sem,cT K3.F.2.2.1]
 go_wp2_with fail;refine(SM.I _ (KB.aQ K3.F.2.2.2).1 (KB.aQ K3.F.2.2.2).2.2.1).mono ?_;rintro e' w4 ⟨rfl,nq,hq⟩;have K4:=V (K3.I.step (hq▸below_drewN w3 nq));clear K3 hq SM x0 f0 g0;have x0:=aY K4.F.1;have g0:=aY K4.F.2.2.1
 cases D
 .go_wp2_with fail;obtain rfl:=HR.I.symm.trans (Z4.rb2 (eZ HA.I) (eZ HB.I) (kH HD.I));refine aZ (v:=aL #[aF #[O G 0 0,Y Z 0,O G 0 0],Y Z 2]) ?_ rfl ⟨_,rfl,dM.zero _ _ _,cL K4.F.2.2.2 U _ _ _⟩;simp[aW,results272,go_sem,cT K4.F.2.2.1]
 have ha:=eZ HA.I;have hb:=eZ HB.I;have hd:=eZ HD.I;obtain⟨d1,d4,z8,z1⟩:=T.sI ha;have hlen:t.z.length=y.z.length:=by
  have h1:=ha.2.1;have h2:=hb.2.1;rw[hd]at h1;omega
 have hr:=(Z4.rb0 ha hb hd).symm.trans HR.I;have LK:=V (ai3 313 #[aP (w+1:Nat),aP (A ⟨w,0,G⟩)] (λi=>if 0<y.z.getD i 0 then t.z.getD i 0 else 0) t _ w4 ⟨a,l,c,b,m,k,rfl,(KB.aQ K4.F.2.2.2).1,(KB.aQ K4.F.2.2.2).2.1⟩ d1 d4 z8 (λi=>by have:=H8.I i;(split<;>omega)) (λargs w=>Q3J) (λi wx hi b=>ai6 i _ _ _ _ _ _ _ _ _ _ wx (aY (K4.aQ b).2.1).2.2.1 (KB.aQ (K4.aQ b).2.2.2).2.2.2 (aY (K4.aQ b).1).2.2.1 (KB.aQ (K4.aQ b).2.2.2).2.1 (by rw[<-Fj.I];omega) (by rw[<-HL.I];exact hi)));unfold aS at LK;clear ha hb hd hlen;go_wp2_with fail;refine LK.I.mono ?_;rintro e' w5 ⟨v',rfl,⟨a',l',c',b',m',k',rfl,r0,r1,r2,r3⟩,hb⟩;have K5:=V (K4.I.step hb).aN;have ja:=bH K4.F.2.2.1;have N1:=V r2;have N2:=V r3;have T0:=V r0;have T1:=V r1;clear r0 r1 r2 r3 x0 g0 LK hb;have g0:=aY K5.I.2.2.1;unfold aS;go_wp2_with fail;rw[<-hr];refine aZ (v:=aL #[aF #[O a' l' c',Y Z t.e,O b' m' k'],Y Z 0]) ?_ rfl ⟨_,rfl,⟨_,_,_,_,_,_,rfl,T0.I.eJ (λx hx=>E (N1.I x hx)),T1.I.eJ (λx hx=>E (N2.I x hx)),(λx hx=>E (N1.I x hx)),(λx hx=>E (N2.I x hx))⟩,cL K5.I.2.2.2 U _ _ _⟩;simp[aW,results272,go_sem,cT K5.I.2.2.1]
namespace T
def same (t u:az):Bool:=decide (t.d=u.d)&&(decide (t.e=u.e)&&decide (t.z=u.z))
end T
theorem Ii (a0:aC) (dW kj:Nat) (xs:ah) (a1:aC) (jA fh:Nat) (ys:ah) (w:H) (h0:ai Z w a0 dW xs) (h1:ai Z w a1 jA ys):
 aA aq 74 #[O a0 dW kj,O a1 jA fh] w (dZ (aK (decide (xs=ys))) w):=(Hg a0 dW kj xs a1 jA fh ys w h0 h1).mono λ_ _ ⟨h,n,e⟩=>⟨h,e▸below_drewN _ _⟩
theorem ab4 (t u:az) (v1 v2:aj) (w:H) (h1:fu aO w v1 t) (h2:fu aO w v2 u):
 aA aq 215 #[v1,v2] w (dZ (aK (T.same t u)) w):=by
 obtain⟨a,l,c,b,m,k,rfl,r0,r1⟩:=h1;obtain⟨a',l',c',b',m',k',rfl,s0,s1⟩:=h2;have KZ:=V (aE.fG w (ag #[O a l c,Y Z t.e,O b m k] 57) (ag #[O a' l' c',Y Z u.e,O b' m' k'] 57));have KB:=V (r0.bt.and (r1.bt.and (s0.bt.and s1.bt)));have SD:=V (Ii a l c t.d a' l' c' u.d);have SZ:=V (ahD b m k t.z b' m' k' u.z);unfold T.same aS;obtain⟨Z3,hA⟩:=J (decide (t.d=u.d));obtain⟨B,hB⟩:=J (decide (t.e=u.e));have eB:(t.e==u.e)=B:=by rw[<-hB];exact(Bool.eq_iff_iff.2 bK)
 obtain⟨C,hC⟩:=J (decide (t.z=u.z));rw[hA]at SD;rw[hC]at SZ;rw[hA,hB,hC];clear r0 r1 s0 s1 hA hB hC;go_enter func215,ntmps215;go_wp2_with fail;obtain⟨q0,q1,q2,q3⟩:=KB.I.jD KZ.I.aN.2.2;refine bY (SD.I _ q0 q2) λw2 hb=> ?_;have K2:=V (KZ.I.step hb);clear KZ hb q0 q1 q2 q3;obtain⟨f0,f1,f2,_⟩:=aY K2.I.aN.1;obtain⟨g0,g1,g2,_⟩:=aY K2.I.aN.2.1
 cases Z3
 .exact Q2b
 cases B
 .exact Q2b
 go_wp2_with fail;obtain⟨q0,q1,q2,q3⟩:=KB.I.jD K2.I.aN.2.2;refine(SZ.I _ q1 q3).mono ?_;rintro e' w3 ⟨rfl,nq,hq⟩;have K3:=V (show ay w w w3 from hq▸K2.I.aN.2.2.bI nq);clear hq q0 q1 q2 q3;go_wp2;go_ret;exact⟨rfl,K3.I⟩
def bD.same (p q:bD):Bool:=T.same p.w q.w&&(decide (p.m=q.m)&&T.same p.b q.b)
theorem bE {g:Nat} {T:dy} (h:w.heap[g]? =A (ag #[x0,x1,x2,x3,x4,x5,x6] T (0,0))):
 w g=A x0/\w ⟨g,1,G⟩=A x1/\w ⟨g,2,G⟩=A x2/\w ⟨g,3,G⟩=A x3/\w ⟨g,4,G⟩=A x4/\w ⟨g,5,G⟩=A x5/\w ⟨g,6,G⟩=A x6:=
 ⟨bh h 0 rfl,bh h 1 rfl,bh h 2 rfl,bh h 3 rfl,bh h 4 rfl,bh h 5 rfl,bh h 6 rfl⟩
theorem jL.bt {p:bD} (h:jL u cs p):aE u λu=>jL u cs p:=λ_ b=>h.below b
theorem jL.wt {a1 l1 c1 a2 l2 c2 a3 l3 c3 a4 l4 c4 a5 l5 c5} {y:Int} {p:bD} (h:jL u #[O a1 l1 c1,Y Z x,O a2 l2 c2,O a3 l3 c3,O a4 l4 c4,Y Z y,O a5 l5 c5] p):
 x=p.w.e/\y=p.b.e/\ai Z u a1 l1 p.w.d/\ai aO u a2 l2 p.w.z/\ai cr u a3 l3 p.m/\ai Z u a4 l4 p.b.d/\ai aO u a5 l5 p.b.z:=by
 obtain⟨a1',l1',c1',a2',l2',c2',a3',l3',Bw,a4',l4',c4',a5',l5',c5',e,h1,h2,h3,h4,h5⟩:=h;simp only[Array.mk.injEq,List.cons.injEq,Value.slice.injEq,Value.int.injEq,true_and,and_true]at e;obtain⟨⟨rfl,rfl,rfl⟩,rfl,⟨rfl,rfl,rfl⟩,⟨rfl,rfl,rfl⟩,⟨rfl,rfl,rfl⟩,rfl,⟨rfl,rfl,rfl⟩⟩:=e;exact⟨rfl,rfl,h1,h2,h3,h4,h5⟩
theorem aiI (cs ds:Array aj) (p q:bD) (w:H) (h1:jL w cs p) (h2:jL w ds q):
 aA aq 185 #[aF cs,aF ds] w (dZ (aK (p.same q)) w):=by
 have KB:=V (h1.bt.and h2.bt);obtain⟨a1,l1,c1,a2,l2,c2,a3,l3,c3,a4,l4,c4,a5,l5,c5,rfl,-⟩:=h1;obtain⟨b1,m1,d1,b2,m2,d2,b3,m3,d3,b4,m4,d4,b5,m5,d5,rfl,-⟩:=h2;have KZ:=V (aE.fG w (ag #[O a1 l1 c1,Y Z p.w.e,O a2 l2 c2,O a3 l3 c3,O a4 l4 c4,Y Z p.b.e,O a5 l5 c5] 105) (ag #[O b1 m1 d1,Y Z q.w.e,O b2 m2 d2,O b3 m3 d3,O b4 m4 d4,Y Z q.b.e,O b5 m5 d5] 105));have TW:=V (ab4 p.w q.w);have TB:=V (ab4 p.b q.b);have SM:=V (ahF a3 l3 c3 p.m b3 m3 d3 q.m);unfold bD.same;obtain⟨Z3,hA⟩:=J (T.same p.w q.w);obtain⟨B,hB⟩:=J (decide (p.m=q.m));obtain⟨C,hC⟩:=J (T.same p.b q.b);rw[hA]at TW;rw[hB]at SM;rw[hC]at TB;rw[hA,hB,hC];clear hA hB hC;go_enter func185,ntmps185;go_wp2_with fail;obtain⟨q0,q1⟩:=KB.I.jD KZ.I.aN.2.2;obtain⟨-,-,p1,p2,p3,p4,p5⟩:=q0.wt;obtain⟨-,-,r1,r2,r3,r4,r5⟩:=q1.wt;refine bY (TW.I _ _ _ ⟨_,_,_,_,_,_,rfl,p1,p2⟩ ⟨_,_,_,_,_,_,rfl,r1,r2⟩) λw2 hb=> ?_;have K2:=V (KZ.I.step hb);clear KZ hb q0 q1 p1 p2 p3 p4 p5 r1 r2 r3 r4 r5;obtain⟨f0,f1,f2,f3,f4,f5,f6⟩:=bE K2.I.aN.1;obtain⟨g0,g1,g2,g3,g4,g5,g6⟩:=bE K2.I.aN.2.1
 cases Z3
 .exact Q2b
 go_wp2_with fail;obtain⟨q0,q1⟩:=KB.I.jD K2.I.aN.2.2;refine(SM.I _ q0.wt.2.2.2.2.1 q1.wt.2.2.2.2.1).mono ?_;rintro e' w3 ⟨rfl,nq,hq⟩;have K3:=V (show aE w3 _ from hq▸K2.I.bI nq);clear hq q0 q1 f0 f1 f2 f3 f4 f5 f6 g0 g1 g2 g3 g4 g5 g6 K2;obtain⟨f0,f1,f2,f3,f4,f5,f6⟩:=bE K3.I.aN.1;obtain⟨g0,g1,g2,g3,g4,g5,g6⟩:=bE K3.I.aN.2.1
 cases B
 .go_wp2;go_ret;exact⟨rfl,K3.I.aN.2.2⟩
 go_wp2_with fail;obtain⟨q0,q1⟩:=KB.I.jD K3.I.aN.2.2;obtain⟨-,-,p1,p2,p3,p4,p5⟩:=q0.wt;obtain⟨-,-,r1,r2,r3,r4,r5⟩:=q1.wt;refine bY (TB.I _ _ _ ⟨_,_,_,_,_,_,rfl,p4,p5⟩ ⟨_,_,_,_,_,_,rfl,r4,r5⟩) λw4 hb=> ?_;have K4:=V (K3.I.aN.2.2.step hb);clear hb q0 q1 p1 p2 p3 p4 p5 r1 r2 r3 r4 r5 f0 f1 f2 f3 f4 f5 f6 g0 g1 g2 g3 g4 g5 g6 K3;go_wp2;go_ret;exact⟨rfl,K4.I⟩
def aiJ (P:Prop) (Z3:Bool):Prop:=P->Z3=true
theorem aiK (cs ds:Array aj) (p q:bD) (t1 t2 k1 k2:Nat) (w:H) (h1:jL w cs p) (h2:jL w ds q) (gR:w.heap[t1]? =A (ag cs 105 (0,0))) (du:w.heap[t2]? =A (ag ds 105 (0,0))):
 aA aq 184 #[O t1 1 k1,O t2 1 k2,.func (.func 185) #[] #[]] w (dZ (aK (p.same q)) w):=by
 have KB:=V ((aE.block gR).and ((aE.block du).and (h1.bt.and h2.bt)));have PS:=V (aiI cs ds p q);obtain⟨a1,l1,c1,a2,l2,c2,a3,l3,c3,a4,l4,c4,a5,l5,c5,rfl,-⟩:=h1;obtain⟨b1,m1,d1,b2,m2,d2,b3,m3,d3,b4,m4,d4,b5,m5,d5,rfl,-⟩:=h2;obtain⟨f0,f1,f2,f3,f4,f5,f6⟩:=bE gR;obtain⟨g0,g1,g2,g3,g4,g5,g6⟩:=bE du;generalize p.same q=Z3 at*;clear gR du f0 f1 f2 f3 f4 f5 f6 g0 g1 g2 g3 g4 g5 g6;go_enter func184,ntmps184;go_wp2_with fail;go_loopw [17] (λi wr=>∃j:Nat,j<=1/\i=Y Z j/\ay w w wr/\aiJ (j=1) Z3) (λi _=>1-(aX i).toNat)
 case atStart=>exact⟨0,cK _,rfl,eG _ _,λh=>Q38⟩
 case round=>
  obtain⟨j,hj,rfl,hb,hA⟩:=hrel;have HB:=V hb;have HA:=V hA;clear hb hA;by_cases aT:j<1
  .obtain rfl:j=0:=U;obtain⟨b1,b2,-,-⟩:=KB.I.jD HB.I;obtain⟨f0,f1,f2,f3,f4,f5,f6⟩:=bE b1;obtain⟨g0,g1,g2,g3,g4,g5,g6⟩:=bE b2;have kM:=bH b1;have j8:=bH b2;clear b1 b2;have K2:=V (HB.I.step (aE.fG wr (ag #[O a1 l1 c1,Y Z p.w.e,O a2 l2 c2,O a3 l3 c3,O a4 l4 c4,Y Z p.b.e,O a5 l5 c5] 105) (ag #[O b1 m1 d1,Y Z q.w.e,O b2 m2 d2,O b3 m3 d3,O b4 m4 d4,Y Z q.b.e,O b5 m5 d5] 105)).aN.2.2);go_wp2_with fail;refine bY (PS.I _ (KB.I.jD K2.I).2.2.1 (KB.I.jD K2.I).2.2.2) λw2 hb=> ?_;have K3:=V (K2.I.step hb);clear hb f0 f1 f2 f3 f4 f5 f6 g0 g1 g2 g3 g4 g5 g6 HA
   cases Z3
   .go_wp2;go_ret;exact⟨rfl,K3.I⟩
   .go_wp2;go_roundw
    case rel=>exact⟨1,bu _,Q2T,K3.I,λ_=>rfl⟩
    case measure=>simp[aX]
  .obtain rfl:j=1:=U;obtain rfl:Z3=true:=HA.I rfl;exact Q1q
theorem aiL (cs ds:Array aj) (p q:bD) (t1 t2 k1 k2:Nat) (w:H) (h1:jL w cs p) (h2:jL w ds q) (gR:w.heap[t1]? =A (ag cs 105 (0,0))) (du:w.heap[t2]? =A (ag ds 105 (0,0))):
 aA aq 130 #[O t1 1 k1,O t2 1 k2] w (dZ (aK (p.same q)) w):=by
 have ZU:=V (aiK cs ds p q t1 t2 k1 k2 w h1 h2 gR du);generalize p.same q=Z3 at*;clear gR du h1 h2;go_enter func130,ntmps130;go_wp2_with fail;refine bY ZU.I λw2 hb=> ?_;have HB:=V hb;clear hb;go_wp2;go_ret;exact⟨rfl,HB.I⟩
def bD.nil:bD:=⟨az.zero,[],az.zero⟩
theorem jL.nil (w:H):jL w #[O G 0 0,Y Z 0,O G 0 0,O G 0 0,O G 0 0,Y Z 0,O G 0 0] bD.nil:=⟨G,0,0,G,0,0,G,0,0,G,0,0,G,0,0,rfl,ai.zero _ _ _,ai.zero _ _ _,ai.zero _ _ _,ai.zero _ _ _,ai.zero _ _ _⟩
def bD.none (p:bD):Bool:=p.same bD.nil
theorem ab5 (cs:Array aj) (p:bD) (w:H) (h:jL w cs p):aA aq 63 #[aF cs] w (dZ (aK p.none) w):=by
 have KB:=V h.bt;obtain⟨a1,l1,c1,a2,l2,c2,a3,l3,c3,a4,l4,c4,a5,l5,c5,rfl,-⟩:=h;obtain⟨f0,f1,f2,f3,f4,f5,f6⟩:=bE (bZ w (ag #[O a1 l1 c1,Y Z p.w.e,O a2 l2 c2,O a3 l3 c3,O a4 l4 c4,Y Z p.b.e,O a5 l5 c5] 105));have K3:=V (aE.lj w (ag #[O a1 l1 c1,Y Z p.w.e,O a2 l2 c2,O a3 l3 c3,O a4 l4 c4,Y Z p.b.e,O a5 l5 c5] 105) (ag #[O a1 l1 c1,Y Z p.w.e,O a2 l2 c2,O a3 l3 c3,O a4 l4 c4,Y Z p.b.e,O a5 l5 c5] 105) (ag #[O G 0 0,Y Z 0,O G 0 0,O G 0 0,O G 0 0,Y Z 0,O G 0 0] 105));have ZU:=V (λw t1 t2 h1 h2 h3 h4=>aiL #[O a1 l1 c1,Y Z p.w.e,O a2 l2 c2,O a3 l3 c3,O a4 l4 c4,Y Z p.b.e,O a5 l5 c5] #[O G 0 0,Y Z 0,O G 0 0,O G 0 0,O G 0 0,Y Z 0,O G 0 0] p bD.nil t1 t2 1 1 w h1 h2 h3 h4);unfold bD.none;generalize p.same bD.nil=Z3 at*;go_enter func63,ntmps63;go_wp2_with fail;refine bY (ZU.I _ _ _ (KB.I.jD K3.I.aN.2.2.2) (jL.nil _) K3.I.aN.2.1 K3.I.aN.2.2.1) λw2 hb=> ?_;have HB:=V (K3.I.aN.2.2.2.step hb);clear hb f0 f1 f2 f3 f4 f5 f6;exact Q1q
def bD.moves (p:bD):Bool:=decide (p.m.length=p.w.z.length)&& !(p.m.any ZX.ni)
theorem ab6 (cs:Array aj) (p:bD) (w:H) (h:jL w cs p):aA aq 152 #[aF cs] w (dZ (aK p.moves) w):=by
 have KB:=V h.bt;obtain⟨a1,l1,c1,a2,l2,c2,a3,l3,c3,a4,l4,c4,a5,l5,c5,rfl,h1,h2,h3,h4,h5⟩:=h;obtain⟨f0,f1,f2,f3,f4,f5,f6⟩:=bE (bZ w (ag #[O a1 l1 c1,Y Z p.w.e,O a2 l2 c2,O a3 l3 c3,O a4 l4 c4,Y Z p.b.e,O a5 l5 c5] 105));have K1:=V (aE.fg w (ag #[O a1 l1 c1,Y Z p.w.e,O a2 l2 c2,O a3 l3 c3,O a4 l4 c4,Y Z p.b.e,O a5 l5 c5] 105));have Z5:=V (aiw a3 l3 c3 p.m);unfold bD.moves;have e1:((l3:Int)==(l2:Int))=decide (p.m.length=p.w.z.length):=by rw[h3.bA,h2.bA,Bool.eq_iff_iff];simp;omega
 generalize decide (p.m.length=p.w.z.length)=Z3 at*;generalize p.m.any ZX.ni=B at*;have n3:=h3.eC;have n2:=h2.eC;clear h1 h2 h3 h4 h5
 cases Z3;all_goals
  go_enter func152,ntmps152;go_wp2_with (go_at_call 75;refine(Z5.I _ (KB.I.jD K1.I.aN.2).wt.2.2.2.2.1).mono ?_;rintro e w' ⟨rfl,rfl⟩)
  go_ret;exact⟨rfl,K1.I.aN.2⟩
end
def ai9 (w:H) (n:Nat) (xs:ah) (e:dN) (w':H):Prop:=
 ∃c cs,e=bG (O (w+1:Nat) n c)/\w'=(li (li w (ag #[] 106)).drew (ag cs 106))/\(∀j,j<n->cs[j]? =A (Y aO (xs.getD j 0)))/\n<=c
theorem aia (a:aC) (len cap:Nat) (xs:ah) (w:H) (h:ai aO w a len xs) (h0:0<len) (h1:len<=8192):
 aA aq 143 #[O a len cap] w (ai9 w len xs):=by
 obtain⟨b,off,rfl,e0⟩:=h.cells h0;obtain⟨i0,hi,cF,cG,cB⟩:=fB tA;have HN:=V (show ∀j u,(xs.map (Y aO))[j]? =A u->(li w (ag #[] 106)).cell? ((⟨b,off,G⟩:Addr).add j)=A u from by
  intro j u hj;have hlen:j<xs.length:=by
   exact Q16
  rw[List.getElem?_map,cR hlen,Option.map_some]at hj;have:=(aD w (ag #[] 106)).cell_of (e0 j (by rw[<-h.bA];exact hlen));have e:(⟨b,off,G⟩:Addr).add j=⟨b,off+j,G⟩:=by
   exact Q1M
  rw[e,this,<-hj];simp[dV,hlen])
 have HL:=V h.bA;have hq:=λw:H=>Lib.run_eql_slice_nil (P:=aq) w 52 106 (A ⟨b,off,G⟩) len cap 0 0 underlying52;clear e0 h;go_enter func143,ntmps143;go_wp2_with (at_builtin;refine aa8 _ rfl _ _ 52 rfl 106 i0 (Y aO 0) 1 underlying52 hi cF cG cB ⟨w,0,G⟩ rfl ⟨b,off,G⟩ len cap (xs.map (Y aO)) rfl (by rw[ib];exact HL.I) HN.I U U h0 ?_)
 intro c hc;go_wp2_with fail;go_ret;refine⟨_,_,rfl,rfl,λj hj=> ?_,by simpa[HL.I]using hc⟩;have hl:j<xs.length:=by rw[HL.I];exact hj
 rw[Array.getElem?_append_left Q4l];simp[hl,dV]
theorem Bq (h:ay w w wx) (o:Obj):ay w w (li wx o):=h.alloc h.size o
theorem OO {p:Addr} (h:w.frozen? p=ae) (hl:p.block<w) (o:Obj):(li w o).frozen? p=ae:=((aD w o).frozen (p:=p) hl).trans h
theorem Ku {p:Addr} (h:w.cell? p=A v):(∀Z3 B C D,(li (li (li (li w Z3) B) C) D).cell? p=A v):=λZ3 B C D=>fq (fq (fq (fq h Z3) B) C) D
theorem T7 {p:Addr} (h:w.frozen? p=ae) (hl:p.block<w):(∀Z3 B C D,(li (li (li (li w Z3) B) C) D).frozen? p=ae):=λZ3 B C D=>by
 have h1:=OO h hl Z3;have h2:=OO h1 Q2Y B;have h3:=OO h2 (by rw[bF,bF];omega) C;exact OO h3 (by rw[bF,bF,bF];omega) D
theorem Z4.sh1 {t:az} (h:¬(T.aH t.d t.e t.z/\0<Sh.size d)):Z4.shape t d=(1,az.zero):=by unfold Z4.shape;rw[aR h]
theorem Z4.sh2 {t:az} (h:T.aH t.d t.e t.z) (h2:0<Sh.size d) (h3:Sh.size d≠t.z.length):Z4.shape t d=(2,az.zero):=by unfold Z4.shape;rw[aI (λc=>c ⟨h,h2⟩),aR h3]
theorem Z4.sh0 {t:az} (h:T.aH t.d t.e t.z) (h2:0<Sh.size d) (h3:Sh.size d=t.z.length):Z4.shape t d=(0,⟨d,t.e,t.z⟩):=by unfold Z4.shape;rw[aI (λc=>c ⟨h,h2⟩),aI (λc=>c h3)]
theorem aib {g t:Nat} (hd:ai aO w a l d) (hg:wx.heap[g]? =A (ag cs t (0,0))) (hcs:∀j,j<l->cs[j]? =A (Y aO (d.getD j 0))):ai aO wx g l d:=by
 exact Q1Y
theorem aaL (t:az) (v:aj) (da:aC) (dl dc:Nat) (ds:ah) (w:H) (h:fu aO w v t) (oX:ai Z w da dl ds):aA aq 245 #[v,O da dl dc] w (Dr aO (Z4.shape t ds) w):=by
 obtain⟨a,l,c,b,m,k,rfl,h0,h1⟩:=h;have M:=V (jr a l c t.d t.e b m k t.z);have SM:=V (Hf da dl dc ds);have SZ:=V (Hj da dl dc ds);have KZ:=V (aE.fG w (ag #[O a l c,Y Z t.e,O b m k] 57) (ag #[O G 0 0,Y Z 0,O G 0 0] 57));have KB:=V (h0.bt.and (h1.bt.and oX.bt));have HL:=V h1.bA;have OQ:=V oX.bA;have pW:=h1.eC;obtain⟨R,hR⟩:=J (Z4.shape t ds);rw[hR];have HR:=V hR;obtain⟨Z3,hA⟩:=J (decide (T.aH t.d t.e t.z));obtain⟨B,hB⟩:=J (decide (0<Sh.size ds));rw[hA]at M;rw[hB]at SM;have HA:=V hA;have HB:=V hB;unfold aS;unfold aS at M;clear h0 h1 oX hA hB hR;go_enter func245,ntmps245;go_wp2_with fail;refine bY (M.I _ (KB.aQ KZ.F.2.2).1 (KB.aQ KZ.F.2.2).2.1) λw2 hb=> ?_;have K2:=KZ.bU hb;clear KZ hb M;obtain⟨f0,f1,f2,_⟩:=aY K2.F.1;obtain⟨g0,g1,g2,g3,g4,g5⟩:=aY K2.F.2.1
 cases Z3
 .go_wp2_with fail;obtain rfl:=HR.I.symm.trans (Z4.sh1 (λh=>kH HA.I h.1));exact Q1e
 go_wp2_with fail;refine cq (SM.I _ (KB.aQ K2.F.2.2).2.2) ?_
 cases B
 .go_wp2_with fail;obtain rfl:=HR.I.symm.trans (Z4.sh1 (λh=>kH HB.I h.2));exact Q1e
 have hd:=eZ HB.I;obtain⟨sd1,sd4,z8,z1⟩:=T.sI (eZ HA.I);have my:=Sh.iA hd;have l1:=my.l1;have l4:=my.l4;rw[OQ.I]at l1 l4;rw[HL.I]at z8 z1;obtain⟨S,hS⟩:=J (Sh.size ds);rw[hS]at SZ;have HS:=V hS;clear hd my hS;have SW:=V (λn=>SZ.I _ (((KB.aQ K2.F.2.2).2.2).bI n));by_cases cI:S=m
 .have lU:(S != (m:Int))=ae:=by simpa using cI
  have HN:=V cI;clear cI SZ SM;go_wp2_with fail;go_quiet ((go_at_call 116;exact jG (SW.I _)))
  go_wp2_with fail;have K4:=V (K2.I.bI nq);generalize w2.drewN nq=w4 at*;clear f0 f1 f2 g0 g1 g2 g3 g4 g5 K2 SW;obtain⟨x0,x1,x2,_⟩:=aY K4.F.1;obtain⟨g0,g1,g2,g3,g4,g5⟩:=aY K4.F.2.1;obtain⟨k1,k2,k3⟩:=uy x1;obtain⟨k4,k5,k6⟩:=uy x2;have k7:=Ku x1;have k8:=Ku x2;have q0:=Ku g0;have q1:=Ku g1;have q2:=Ku g2;have Ds:=bH K4.F.2.1;have q3:=T7 g3 Ds;have q4:=T7 g4 Ds;have q5:=T7 g5 Ds;have R0:=V (KB.aQ K4.F.2.2).2.2;have R1:=V (KB.aQ K4.F.2.2).2.1;have C6:=V (λwx (b:ay w4 w4 wx)=>Dg da dl dc ds wx (R0.I.below b) U U);have C8:=V (λwx (hb:ay w4 w4 wx)=>aia b m k t.z wx (R1.I.below hb) U U);go_region_held3 (λw'=>w'.cell? ⟨w,1,G⟩=A (Y Z t.e)/\w'.cell? ⟨w,2,G⟩=A (O b m k)) (go_keep)
   (first
    |(go_at_call 142;refine(C6.I _ Q4i).mono ?_;rintro e3 w4 ⟨cc,cs,rfl,rfl,hcs⟩)
    |(go_at_call 143;refine(C8.I _ Q4i).mono ?_;rintro e3 w4 ⟨cc8,H6,rfl,rfl,aic,Bm⟩))
  all_goals
   go_wp2_with fail;obtain rfl:=HR.I.symm.trans (Z4.sh0 (eZ HA.I) (eZ HB.I) (by rw[HS.I,HL.I];exact HN.I));have oH:ay w4 w4 (li (li (li (li w4 (ag #[] 3)) (ag cs 3)) (ag #[] 106)) (ag H6 106)):=Bq (Bq (Bq (aD _ _) _) _) _;have gZ:(li (li (li (li w4 (ag #[] 3)) (ag cs 3)) (ag #[] 106)) (ag H6 106)).heap[w4.heap.size+1]? =A (ag cs 3 (0,0)):=by
    have:=bZ (li w4 (ag #[] 3)) (ag cs 3);rw[bF]at this;exact dX (dX this _) _
   have pD:(li (li (li (li w4 (ag #[] 3)) (ag cs 3)) (ag #[] 106)) (ag H6 106)).heap[w4.heap.size+1+1+1]? =A (ag H6 106 (0,0)):=by
    have:=bZ (li (li (li w4 (ag #[] 3)) (ag cs 3)) (ag #[] 106)) (ag H6 106);rw[bF,bF,bF]at this;exact this
   have Fk:=OH R0.I gZ hcs;have hT1:=aib R1.I pD aic;generalize li (li (li (li w4 (ag #[] 3)) (ag cs 3)) (ag #[] 106)) (ag H6 106)=w9 at*;have K9:=(K4.I.step oH).aN;have yK:=K4.F.2.2.size;refine aZ (v:=aL #[aF #[O (w4+1:Nat) dl cc,Y Z t.e,O (w4+1+1+1:Nat) m cc8],Y Z 0]) ?_ rfl ⟨_,rfl,⟨⟨_,_,_,_,_,_,rfl,(Fk.eJ (λx hx=>by cases hx;show w4.heap.size+1≠_;omega)).bI 3,(hT1.eJ (λx hx=>by cases hx;show w4.heap.size+1+1+1≠_;omega)).bI 3,(λx hx=>by cases hx;show _<=w4.heap.size+1;omega),(λx hx=>by cases hx;show _<=w4.heap.size+1+1+1;omega)⟩,nM.mk Bm⟩,(cL K9.2.2 U _ _ _).bI 3⟩;simp[aW,results245,go_sem,cT K9.2.1]
 .have lU:(S != (m:Int))=true:=by simpa using cI
  have HN:=V cI;clear cI SZ SM;go_wp2_with fail;go_quiet ((go_at_call 116;exact jG (SW.I _)))
  have K4:=V (K2.I.bI nq);generalize w2.drewN nq=w4 at*;clear f0 f1 f2 g0 g1 g2 g3 g4 g5;obtain⟨g0,g1,g2,g3,g4,g5⟩:=aY K4.F.2.1;go_wp2_with fail;obtain rfl:=HR.I.symm.trans (Z4.sh2 (eZ HA.I) (eZ HB.I) (by rw[HS.I,HL.I];exact HN.I));refine aZ (v:=aL #[aF #[O G 0 0,Y Z 0,O G 0 0],Y Z 2]) ?_ rfl ⟨_,rfl,⟨dM.zero _ _ _,nM.zero⟩,cL K4.F.2.2 U _ _ _⟩;simp[aW,results245,go_sem,cT K4.F.2.1]
def az.ok (t:az):Bool:=decide (T.aH t.d t.e t.z)
def bD.aH (p:bD):Bool:=p.none||(p.w.ok&&(p.moves&&(p.b.ok&&decide (p.b.d.length=1))))
theorem aiM (cs:Array aj) (p:bD) (w:H) (h:jL w cs p):aA aq 128 #[aF cs] w (dZ (aK p.aH) w):=by
 have KB:=V h.bt;have Z7:=V (ab5 cs p);have M:=V (ab6 cs p);obtain⟨a1,l1,c1,a2,l2,c2,a3,l3,c3,a4,l4,c4,a5,l5,c5,rfl,h1,h2,h3,h4,h5⟩:=h;have K1:=V (aE.fg w (ag #[O a1 l1 c1,Y Z p.w.e,O a2 l2 c2,O a3 l3 c3,O a4 l4 c4,Y Z p.b.e,O a5 l5 c5] 105));have TW:=V (jr a1 l1 c1 p.w.d p.w.e a2 l2 c2 p.w.z);have TB:=V (jr a4 l4 c4 p.b.d p.b.e a5 l5 c5 p.b.z);have e1:((l4:Int)==1)=decide (p.b.d.length=1):=by rw[h4.bA,Bool.eq_iff_iff];simp;omega
 have n4:=h4.eC;unfold bD.aH az.ok;generalize p.none=Z3 at*;generalize decide (T.aH p.w.d p.w.e p.w.z)=B at*;generalize p.moves=C at*;generalize decide (T.aH p.b.d p.b.e p.b.z)=D at*;generalize decide (p.b.d.length=1)=ZU at*;unfold aS at TW TB;clear h4;have f0:=bE (bZ w (ag #[O a1 l1 c1,Y Z p.w.e,O a2 l2 c2,O a3 l3 c3,O a4 l4 c4,Y Z p.b.e,O a5 l5 c5] 105));go_enter func128,ntmps128;go_wp2_with fail;refine bY (Z7.I _ (KB.aQ K1.F.2)) λw2 hb=> ?_;have K2:=K1.bU hb;clear hb;have f0:=bE K2.F.1
 cases Z3
 case true=>
  go_wp2;go_ret;exact⟨rfl,K2.F.2⟩
 go_wp2_with fail;refine bY (TW.I _ (KB.aQ K2.F.2).wt.2.2.1 (KB.aQ K2.F.2).wt.2.2.2.1) λw3 hb=> ?_;have K3:=K2.bU hb;clear hb;have f0:=bE K3.F.1
 cases B
 .go_wp2;go_ret;exact⟨rfl,K3.F.2⟩
 go_wp2_with fail;refine bY (M.I _ (KB.aQ K3.F.2)) λw4 hb=> ?_;have K4:=K3.bU hb;clear hb;have f0:=bE K4.F.1
 cases C
 .go_wp2;go_ret;exact⟨rfl,K4.F.2⟩
 go_wp2_with fail;refine bY (TB.I _ (KB.aQ K4.F.2).wt.2.2.2.2.2.1 (KB.aQ K4.F.2).wt.2.2.2.2.2.2) λw5 hb=> ?_;have K5:=K4.bU hb;have f0:=bE K5.F.1
 cases D;all_goals
  go_wp2;go_ret;exact⟨rfl,K5.F.2⟩
def pH (w:H) (a:aC) (n:Nat) (L:List bD):Prop:=L.length=n/\n<=1000000000/\(n=0\/∃b off,a=A ⟨b,off,G⟩/\∀i,i<n->∃cs,jL w cs (L.getD i bD.nil)/\∀j v,cs[j]? =A v->w ⟨b,off+i*7+j,G⟩=A v)
theorem pH.below {L:List bD} (h:pH w a n L) (hb:ay w w w'):pH w' a n L:=by
 obtain⟨h1,h2,h3⟩:=h;refine⟨h1,h2,h3.imp id ?_⟩;rintro⟨b,off,rfl,hc⟩;refine⟨b,off,rfl,λi hi=> ?_⟩;obtain⟨cs,hp,hv⟩:=hc i hi;exact⟨cs,hp.below hb,λj v hj=>hb.cell_of (hv j v hj)⟩
theorem pH.bt {L:List bD} (h:pH w a n L):aE w λw=>pH w a n L:=λ_ b=>h.below b
theorem pH.get {L:List bD} (h:pH w a n L) (hi:i<n):∃b off a1 l1 c1 a2 l2 c2 a3 l3 c3 a4 l4 c4 a5 l5 c5,a=A ⟨b,off,G⟩/\
 jL w #[O a1 l1 c1,Y Z (L.getD i bD.nil).w.e,O a2 l2 c2,O a3 l3 c3,O a4 l4 c4,Y Z (L.getD i bD.nil).b.e,O a5 l5 c5] (L.getD i bD.nil)/\
 w ⟨b,off+i*7,G⟩=A (O a1 l1 c1)/\w ⟨b,off+i*7+1,G⟩=A (Y Z (L.getD i bD.nil).w.e)/\w ⟨b,off+i*7+2,G⟩=A (O a2 l2 c2)/\
 w ⟨b,off+i*7+3,G⟩=A (O a3 l3 c3)/\w ⟨b,off+i*7+4,G⟩=A (O a4 l4 c4)/\w ⟨b,off+i*7+5,G⟩=A (Y Z (L.getD i bD.nil).b.e)/\w ⟨b,off+i*7+6,G⟩=A (O a5 l5 c5):=by
 rcases h.2.2 with h0|⟨b,off,ea,hc⟩
 .omega
 .obtain⟨cs,hp,hv⟩:=hc i hi;obtain⟨a1,l1,c1,a2,l2,c2,a3,l3,c3,a4,l4,c4,a5,l5,c5,rfl,h1⟩:=id hp;exact⟨b,off,a1,l1,c1,a2,l2,c2,a3,l3,c3,a4,l4,c4,a5,l5,c5,ea,hp,hv 0 _ rfl,hv 1 _ rfl,hv 2 _ rfl,hv 3 _ rfl,hv 4 _ rfl,hv 5 _ rfl,hv 6 _ rfl⟩
def Ph (B:Bool) (w:H) (e:dN) (w':H):Prop:=∃n:Int,e=bG (Y Z n)/\decide (0<=n)=B/\ay w w w'
theorem aiN (ZX:Nat) (p:bD->Bool) (a:aC) (len cap:Nat) (L:List bD) (w:H) (h:pH w a len L)
 (hF:∀cs x w',ay w w w'->jL w' cs x->aA aq ZX #[aF cs] w' (dZ (aK (p x)) w')) (hc:∀args w,(callFunc ZX args).run aq w= .ok (.enter ZX args) w):
 aA aq 183 #[O a len cap,.func (.func ZX) #[] #[]] w (Ph (L.any p) w):=by
 obtain⟨B,hB⟩:=J (L.any p);have HB:=V hB;rw[hB];clear hB;have H0:=V h;have HF:=V hF;have hl:=h.2.1;have L0:=V h.1;clear h hF;go_enter func183,ntmps183;go_wp2;go_loopw [8] (λi wr=>∃k:Nat,k<=len/\i=Y Z k/\(∀j,j<k->p (L.getD j bD.nil)=ae)/\ay w w wr) (λi _=>len-(aX i).toNat)
 case atStart=>exact⟨0,cK _,rfl,(λj hj=>U),eG _ _⟩
 case round=>
  obtain⟨k,hk,rfl,hs,cW⟩:=hrel;have HS:=V hs;have eV:=V cW;clear hs cW;by_cases aT:k<len
  .obtain⟨b,off,a1,l1,c1,a2,l2,c2,a3,l3,c3,a4,l4,c4,a5,l5,c5,rfl,hp,g0,g1,g2,g3,g4,g5,g6⟩:=(H0.I.below eV.I).get aT;have mZ:=V (show L.getD k bD.nil∈L by
    have OG:k<L.length:=Q3O;simp[dV,cR OG])
   generalize hx:L.getD k bD.nil=x at*;have HX:=V hx;have CF:=V (HF.I _ x wr eV.I hp);generalize pF:p x=y at*;have HP:=V pF;clear hx pF hp;go_wp2_with fail;refine bY CF.I λw' hb=> ?_;have yM:=V (eV.I.step hb)
   cases y
   .go_wp2;go_roundw
    case rel=>exact⟨k+1,U,Q2T,(λj hj=>by(by_cases c:j=k);(subst c;rw[HX.I];exact HP.I);exact HS.I j U),yM.I⟩
    case measure=>exact Q5q
   .go_wp2;go_ret;exact⟨_,rfl,by
     rw[<-HB.I,List.any_eq_true.2 ⟨x,mZ.I,HP.I⟩];exact dI U,yM.I⟩
  .go_wp2;go_ret;exact⟨_,rfl,by
    rw[<-HB.I,show L.any p=ae from by
     rw[List.any_eq_false];intro x hx;obtain⟨j,hj,e⟩:=List.getElem_of_mem hx;have:=HS.I j (E L0.I);rw[show L.getD j bD.nil=x by simp[dV,cR hj,e]]at this;rw[this];decide]
    rfl,eV.I⟩
theorem aiO (ZX:Nat) (p:bD->Bool) (a:aC) (len cap:Nat) (L:List bD) (w:H) (h:pH w a len L)
 (hF:∀cs x w',ay w w w'->jL w' cs x->aA aq ZX #[aF cs] w' (dZ (aK (p x)) w')) (hc:∀args w,(callFunc ZX args).run aq w= .ok (.enter ZX args) w):
 aA aq 126 #[O a len cap,.func (.func ZX) #[] #[]] w (dZ (aK (L.any p)) w):=by
 have ZW:=V (aiN ZX p a len cap L w h hF hc);generalize L.any p=B at*;clear h hF hc;go_enter func126,ntmps126;go_wp2_with fail;refine ZW.I.mono ?_;rintro e w' ⟨n,rfl,hn,hb⟩;have HN:=V hn;have HB:=V hb;clear hn;go_wp2;go_ret;exact⟨pC HN.I,HB.I⟩
theorem aiP (cs:Array aj) (p:bD) (w:H) (h:jL w cs p):aA aq 127 #[aF cs] w (dZ (aK (!p.aH)) w):=by
 have KB:=V h.bt;have M:=V (aiM cs p);obtain⟨a1,l1,c1,a2,l2,c2,a3,l3,c3,a4,l4,c4,a5,l5,c5,rfl,-⟩:=h;generalize p.aH=Z3 at*;have f0:=bE (bZ w (ag #[O a1 l1 c1,Y Z p.w.e,O a2 l2 c2,O a3 l3 c3,O a4 l4 c4,Y Z p.b.e,O a5 l5 c5] 105));have K1:=V (aE.fg w (ag #[O a1 l1 c1,Y Z p.w.e,O a2 l2 c2,O a3 l3 c3,O a4 l4 c4,Y Z p.b.e,O a5 l5 c5] 105));go_enter func127,ntmps127;go_wp2_with fail;refine bY (M.I _ (KB.aQ K1.F.2)) λw' hb=> ?_;have HB:=V (K1.F.2.step hb);exact Q1q
structure dJ where
 au:Int
 step:Int
 ps:List bD
def dJ.cells (s:dJ) (a:aC) (n c:Nat):Array aj:=#[Y cD s.au,Y Z s.step,O a n c]
def dJ.aH (s:dJ):Bool:=decide (0<=s.step)&&(decide (s.step<=1000000)&&(decide (s.ps.length<=12)&& !(s.ps.any λp=> !p.aH)))
theorem bP {g:Nat} {T:dy} (h:w.heap[g]? =A (ag #[x0,x1,x2] T (0,0))):
 w g=A x0/\w ⟨g,1,G⟩=A x1/\w ⟨g,2,G⟩=A x2:=⟨bh h 0 rfl,bh h 1 rfl,bh h 2 rfl⟩
theorem ab7 (s:dJ) (a:aC) (n c:Nat) (w:H) (h:pH w a n s.ps):aA aq 58 #[aF (s.cells a n c)] w (dZ (aK s.aH) w):=by
 have K1:=V (aE.fg w (ag #[Y cD s.au,Y Z s.step,O a n c] 48));have f0:=bP (bZ w (ag #[Y cD s.au,Y Z s.step,O a n c] 48));have CT:=V (λw h=>aiO 127 (λp=> !p.aH) a n c s.ps w h (λcs x w' _ hp=>aiP cs x w' hp) (λargs w=>Q3J));have ZW:=V h.bt;have hn:=h.2.1;unfold dJ.aH dJ.cells;have e3:decide ((n:Int)<=12)=decide (s.ps.length<=12):=by rw[h.1,Bool.eq_iff_iff];simp;omega
 obtain⟨Z3,hA⟩:=J (decide (0<=s.step));obtain⟨B,hB⟩:=J (decide (s.step<=1000000));generalize decide (s.ps.length<=12)=C at*;generalize(s.ps.any λp=> !p.aH)=D at*;rw[hA,hB];clear h
 cases Z3
 .exact Q2y
 cases B
 .exact Q2y
 cases C
 .have h12:12<n:=by simp at e3;omega
  clear e3;exact Q2y
 have h12:n<=12:=by simp at e3;omega
 clear e3;go_enter func58,ntmps58;go_wp2_with fail;refine bY (CT.I _ (ZW.I.jD K1.F.2)) λw' hb=> ?_;have HB:=V (K1.F.2.step hb);clear hb f0;exact Q1q
namespace ZY
def nR (t:az):List Int:=put (cD.wrap t.e) 1++t.z.flatMap λn=>put (cD.wrap n) 1
theorem KN {f:Int->List Int} (h:j<z.length):(z.take (j+1)).flatMap f=(z.take j).flatMap f++f (z.getD j 0):=by
 rw[sV h,List.flatMap_append];simp[dV,cR h]
theorem sW {f:Int->List Int} {k:Nat} (hf:∀x,(f x).length=k) (z:ah):(z.flatMap f).length=z.length*k:=by
 induction z with
 |nil=>simp
 |cons x z ih=>rw[rz,dG,ih,hf,n8,Nat.add_mul,Nat.one_mul,Nat.add_comm]
end ZY
def KO (P Q:Prop):Prop:=P->Q
def KU (p:Nat) (vd:aj) (a:aC):Prop:=∀x,a=A x->x.block≠p/\vd.ownBlock≠A x.block
theorem lm.row (h:lm p vd ke w w') (hr:ai k w a l zs) (ho:KO (0<l) (KU p vd a)):ai k w' a l zs/\KO (0<l) (KU p ke a):=by
 constructor
 .obtain⟨h1,h2,h3,h4⟩:=hr;by_cases h0:l=0
  .exact⟨h1,h2,h3,aM h0⟩
  refine⟨h1,h2,h3,h4.imp id ?_⟩;rintro⟨b,off,rfl,hc⟩;obtain⟨g1,g2⟩:=ho U _ rfl;refine⟨b,off,rfl,λj hj=> ?_⟩;have t8:=hc j hj;have aT:=jY w _ t8;unfold kY at t8⊢;rw[h.kept.block b aT (λe=>e.elim g1 g2)];exact t8
 .intro h0 x hx;obtain⟨g1,g2⟩:=ho h0 _ hx;refine⟨g1,λe=> ?_⟩;rcases h.own _ e with e|e
  .exact g2 e
  .obtain⟨b,off,ha,hc⟩:=hr.cells h0;rw[hx]at ha
   cases ha;have h5:b<w:=jY w _ (hc 0 h0);have e:w.heap.size<=b:=e;omega
theorem lm.bC (h:lm p vd ke w w') {g:Nat} (hb:w.heap[g]? =A o) (h1:g≠p) (h2:vd.ownBlock≠A g):w'.heap[g]? =A o/\ke.ownBlock≠A g:=by
 have aT:=bH hb;refine⟨(h.kept.block g aT (λe=>e.elim h1 h2)).trans hb,λe=> ?_⟩;rcases h.own _ e with e|e
 .exact h2 e
 .omega
theorem lm.cZ (h:ay w w w'):lm p vd vd w w':=⟨⟨h.os,h.tape,h.output,h.size,λb hb _=>h.block b hb⟩,λ_ h=>aM h⟩
theorem kv.below {B:Nat} (h:kv B p vd xs w) (hb:ay w w w'):kv B p vd xs w':=⟨bV h.1 hb,oh h.2.1 hb,h.2.2.1,eH h.2.2.2 hb.size⟩
theorem ab8 (B p:Nat) (vd:aj) (xs:ah) (t:az) (a:aC) (l c:Nat) (b:aC) (m k:Nat) (w:H) (h:kv B p vd xs w) (hr:ai aO w b m t.z) (ho:KO (0<m) (KU p vd b)) (hm:m<=100000) (hl:xs.length<=50000000):
 aA aq 65 #[aP p,aS a l c t.e b m k] w (Ft B p vd (xs++ZY.nR t) w):=by
 have K1:=V (aE.fg w (ag #[O a l c,Y Z t.e,O b m k] 57));have f0:=bP (bZ w (ag #[O a l c,Y Z t.e,O b m k] 57));have Dx:=V (h.below K1.F.2);have gG:=V (hr.below K1.F.2);have HO:=V ho;have wX:=bH h.1;have cC:=λg (e:vd.ownBlock=A g)=>(h.2.1.lt g e).2;have U1:=V (Fv B p vd xs t.e _ Dx.I U);have HL:=V hr.bA;unfold aS;clear h hr ho;go_enter func65,ntmps65;go_wp2_with fail;refine U1.I.mono ?_;rintro e w2 ⟨rfl,v2,nQ,pD⟩;obtain⟨dK,cy⟩:=pD.bC K1.F.1 U (λe=>E (cC _ e));have ab9:=V (pD.row gG.I HO.I);have xw:=V nQ;have cU:=V ((lm.cZ (p:=p) (vd:=vd) K1.F.2).trans pD);clear f0 nQ pD cC;have f0:=bP dK;have Ij:=ZY.fI (cD.wrap t.e) 1;clear dK cy wX;go_wp2_with fail;go_loopw [13] (λi wr=>∃(j:Nat) (ke:aj),j<=m/\i=Y Z j/\kv B p ke (xs++(ZY.put (cD.wrap t.e) 1++(t.z.take j).flatMap λn=>ZY.put (cD.wrap n) 1)) wr/\lm p vd ke w wr/\ai aO wr b m t.z/\KO (0<m) (KU p ke b)) (λi _=>m-(aX i).toNat)
 case atStart=>exact⟨0,v2,cK _,rfl,by simpa using xw.I,cU.I,ab9.I.1,ab9.I.2⟩
 case round=>
  clear f0;obtain⟨j,v1,hj,rfl,hw,hr,qp,Ok⟩:=hrel;have HW:=V hw;have HR:=V hr;have La:=V qp;have yN:=V Ok;clear hw hr qp Ok;by_cases aT:j<m
  .obtain⟨p0,o0,rfl,e0⟩:=La.I.cells U;have f3:=e0 j aT;have HS:=V (ZY.KN (f:=λn=>ZY.put (cD.wrap n) 1) (z:=t.z) (j:=j) Q30);have hlen:(xs++(ZY.put (cD.wrap t.e) 1++(t.z.take j).flatMap λn=>ZY.put (cD.wrap n) 1)).length<=100000000:=by
    rw[dG,dG,ZY.fI,ZY.sW (λx=>ZY.fI _ 1),List.length_take];omega
   have Fq:=jv La.I.wf j;generalize t.z.getD j 0=x at*;obtain⟨x1,x2⟩:=Fq;have Z4:=V (Fv B p v1 _ x wr HW.I hlen);clear e0 hlen;go_wp2_with fail;refine Z4.I.mono ?_;rintro e w3 ⟨rfl,v3,fZ,oJ⟩;have aiQ:=V (oJ.row La.I yN.I);have zG:=V fZ;have fL:=V (HR.I.trans oJ);clear fZ oJ f3;go_wp2_with fail;go_roundw
   case rel=>exact⟨j+1,v3,U,Q2T,by have:=zG.I;simpa only[HS.I,lL]using this,fL.I,aiQ.I⟩
   case measure=>exact Q5q
  .obtain rfl:j=m:=U;have HZ:=V (show t.z.take j=t.z by rw[<-HL.I];exact List.take_length);rw[HZ.I]at HW;go_wp2;exact bodyPost_end (v:=aL #[]) (by simp[aW,results65]) rfl ⟨rfl,_,HW.I,HR.I⟩
section
attribute [local go_sem ↓] wp_at_zero wp_at_succ
theorem oF.of4 {T:dy} {x y z:aj} (hcs:∀j,j<l->cs[j]? =A (Y Z (d.getD j 0))) (hd:ai Z w a l d):
 oF T d l e w (aP w) (li (li (ss (ss (ss ((li w (ag #[x,y,z] T)).drewN q) w (O (w+1+1:Nat) l cc)) ⟨w,1,G⟩ (Y Z e)) ⟨w,2,G⟩ (O G 0 0)) (ag #[] Z9)) (ag cs Z9)).drew:=by
 have hz:((li w (ag #[x,y,z] T)).drewN q).heap[w.heap.size]? =A (ag #[x,y,z] T (0,0)):=bZ w _;have h0:=oV (a:=O (w+1+1:Nat) l cc) (b:=Y Z e) (c:=O G 0 0) hz;have hb:=cL (((eG w w).alloc (bu _) (ag #[x,y,z] T)).bI q) (bu _) (O (w+1+1:Nat) l cc) (Y Z e) (O G 0 0);have hs:(ss (ss (ss ((li w (ag #[x,y,z] T)).drewN q) w (O (w+1+1:Nat) l cc)) ⟨w,1,G⟩ (Y Z e)) ⟨w,2,G⟩ (O G 0 0)).heap.size=w.heap.size+1:=by
  rw[jR,jR,jR];exact bF w _
 generalize ss (ss (ss ((li w (ag #[x,y,z] T)).drewN q) w (O (w+1+1:Nat) l cc)) ⟨w,1,G⟩ (Y Z e)) ⟨w,2,G⟩ (O G 0 0)=wS at*;have h2:=bZ (wS.alloc (ag #[] Z9)) (ag cs Z9);rw[bF,hs]at h2;exact⟨_,_,_,rfl,dX (dX h0 _) _,OH hd h2 hcs,(Bq (Bq hb _) _).bI 1,bu _,λu hu=>by cases hu;exact⟨by show _<=w.heap.size+1+1;omega,by show w.heap.size+1+1≠_;omega⟩⟩
namespace Z4
def Fm (g x:az):Int:=max (min g.e x.e) (max g.e x.e-12)
def zR (g x:az) (i:Nat):Int:=Rd.align (g.z.getD i 0) g.e (Fm g x)+Rd.align (x.z.getD i 0) x.e (Fm g x)
def add (g x:az):Int×az:=
 if ¬(T.aH g.d g.e g.z/\T.aH x.d x.e x.z)then(1,az.zero)else if g.d≠x.d then(2,az.zero)else(0,⟨g.d,Fm g x,dU (zR g x) g.z.length⟩)
theorem ad1 {g x:az} (h:¬(T.aH g.d g.e g.z/\T.aH x.d x.e x.z)):add g x=(1,az.zero):=by unfold add;rw[aR h]
theorem ad2 {g x:az} (h:T.aH g.d g.e g.z) (h2:T.aH x.d x.e x.z) (h3:g.d≠x.d):add g x=(2,az.zero):=by unfold add;rw[aI (λc=>c ⟨h,h2⟩),aR h3]
theorem ad0 {g x:az} (h:T.aH g.d g.e g.z) (h2:T.aH x.d x.e x.z) (h3:g.d=x.d):add g x=(0,⟨g.d,Fm g x,dU (zR g x) g.z.length⟩):=by unfold add;rw[aI (λc=>c ⟨h,h2⟩),aI (λc=>c h3)]
theorem OS (v f t:Int) (h1: -128<=v) (h2:v<=127): -1048576<=Rd.align v f t/\Rd.align v f t<=1048576:=by
 unfold Rd.align;rw[show Rd.val v=v by unfold Rd.val Rd.iC;omega];generalize Rd.iC f (-1000) 1000-Rd.iC t (-1000) 1000=D;unfold Rd.ug;split
 .have hp:=Rd.pow_pos (min (-D) 62).toNat;generalize(2:Int) ^ (min (-D) 62).toNat=p at*;have a1: -128<=v/p:=Int.le_ediv_of_mul_le hp U;have a2:v/p<=127:=Int.ediv_le_of_le_mul hp U;omega
 .split
  .split
   .omega
   .split<;>omega
  .unfold Rd.iC;omega
theorem aie {g x:az} (hg:∀y∈g.z,(cX aO y).wf=true) (hx:∀y∈x.z,(cX aO y).wf=true) (i:Nat): -2097152<=zR g x i/\zR g x i<=2097152:=by
 have h1:=jv hg i;have h2:=jv hx i;have h3:=OS (g.z.getD i 0) g.e (Fm g x) h1.1 h1.2;have h4:=OS (x.z.getD i 0) x.e (Fm g x) h2.1 h2.2;unfold zR;omega
end Z4
theorem aaN (t y:az) (v u:aj) (w:H) (h:fu aO w v t) (hy:fu aO w u y):aA aq 235 #[v,u] w (oY cr (Z4.add t y) w):=by
 obtain⟨a,l,c,b,m,k,rfl,h0,h1⟩:=h;obtain⟨a2,l2,c2,b2,m2,k2,rfl,h2,h3⟩:=hy;have M:=V (jr a l c t.d t.e b m k t.z);have M2:=V (jr a2 l2 c2 y.d y.e b2 m2 k2 y.z);have SM:=V (Hg a l c t.d a2 l2 c2 y.d);have KZ:=V (aE.lj w (ag #[O a l c,Y Z t.e,O b m k] 57) (ag #[O a2 l2 c2,Y Z y.e,O b2 m2 k2] 57) (ag #[O G 0 0,Y Z 0,O G 0 0] 276));have KB:=V (h0.bt.and (h1.bt.and (h2.bt.and h3.bt)));have HL:=V h1.bA;have Fj:=V h3.bA;obtain⟨R,hR⟩:=J (Z4.add t y);rw[hR];have HR:=V hR;obtain⟨Z3,hA⟩:=J (decide (T.aH t.d t.e t.z));obtain⟨B,hB⟩:=J (decide (T.aH y.d y.e y.z));obtain⟨D,hD⟩:=J (decide (t.d=y.d));rw[hA]at M;rw[hB]at M2;rw[hD]at SM;have HA:=V hA;have HB:=V hB;have HD:=V hD;unfold aS;unfold aS at M M2;clear h0 h1 h2 h3 hA hB hD hR;go_enter func235,ntmps235;go_wp2_with fail;refine bY (M.I _ (KB.aQ KZ.F.2.2.2).1 (KB.aQ KZ.F.2.2.2).2.1) λw2 hb=> ?_;have K2:=KZ.bU hb;clear KZ hb M;have x0:=aY K2.F.1;have f0:=aY K2.F.2.1;have g0:=aY K2.F.2.2.1
 cases Z3
 .go_wp2_with fail;obtain rfl:=HR.I.symm.trans (Z4.ad1 (λh=>kH HA.I h.1));refine aZ (v:=aL #[aF #[O G 0 0,Y Z 0,O G 0 0],Y Z 1]) ?_ rfl ⟨_,rfl,dM.zero _ _ _,cL K2.F.2.2.2 U _ _ _⟩;simp[aW,results235,go_sem,cT K2.F.2.2.1]
 go_wp2_with fail;refine bY (M2.I _ (KB.aQ K2.F.2.2.2).2.2.1 (KB.aQ K2.F.2.2.2).2.2.2) λw3 hb=> ?_;have K3:=K2.bU hb;clear K2 hb M2 x0 f0 g0;have x0:=aY K3.F.1;have f0:=aY K3.F.2.1;have g0:=aY K3.F.2.2.1
 cases B
 .go_wp2_with fail;obtain rfl:=HR.I.symm.trans (Z4.ad1 (λh=>kH HB.I h.2));refine aZ (v:=aL #[aF #[O G 0 0,Y Z 0,O G 0 0],Y Z 1]) ?_ rfl ⟨_,rfl,dM.zero _ _ _,cL K3.F.2.2.2 U _ _ _⟩;simp[aW,results235,go_sem,cT K3.F.2.2.1]
 go_wp2_with fail;refine(SM.I _ (KB.aQ K3.F.2.2.2).1 (KB.aQ K3.F.2.2.2).2.2.1).mono ?_;rintro e' w4 ⟨rfl,nq,hq⟩;have K4:=V (K3.I.step (hq▸below_drewN w3 nq));clear K3 hq SM x0 f0 g0;have x0:=aY K4.F.1;have g0:=aY K4.F.2.2.1
 cases D
 .go_wp2_with fail;obtain rfl:=HR.I.symm.trans (Z4.ad2 (eZ HA.I) (eZ HB.I) (kH HD.I));refine aZ (v:=aL #[aF #[O G 0 0,Y Z 0,O G 0 0],Y Z 2]) ?_ rfl ⟨_,rfl,dM.zero _ _ _,cL K4.F.2.2.2 U _ _ _⟩;simp[aW,results235,go_sem,cT K4.F.2.2.1]
 have ha:=eZ HA.I;have hb:=eZ HB.I;have hd:=eZ HD.I;obtain⟨d1,d4,z8,z1⟩:=T.sI ha;have hlen:t.z.length=y.z.length:=by
  have h1:=ha.2.1;have h2:=hb.2.1;rw[hd]at h1;omega
 obtain rfl:=HR.I.symm.trans (Z4.ad0 ha hb hd);have e1:=ha.2.2.1;have e2:=hb.2.2.1;have RZ0:=(KB.aQ K4.F.2.2.2).2.1;have RY0:=(KB.aQ K4.F.2.2.2).2.2.2;have Ub:=(KB.aQ K4.F.2.2.2).1;rw[Ub.bA]at d1 d4;rw[HL.I]at z8 z1 hlen;rw[Fj.I]at hlen;obtain rfl:m=m2:=hlen;have Bo:=V (Z4.aie RZ0.wf RY0.wf);obtain⟨EE,hEE⟩:=J (max (min t.e y.e) (max t.e y.e-12));have hE1: -1000<=EE/\EE<=1000:=U;have HEE:=V (show Z4.Fm t y=EE from hEE);have CL:=V (λw h=>Dg a l c t.d w h d1 U);have R3:=V Ub;have CW:=V (λwx (b:ay w4 w4 wx)=>CL.I wx (R3.I.below b));clear ha hb hd RZ0 RY0 Ub CL x0 g0;obtain⟨x0,x1,x2,_⟩:=aY K4.F.1;obtain⟨f0,f1,f2,_⟩:=aY K4.F.2.1;go_upto_region 5 with fail;go_cut [6] (λv wx=>oF 276 t.d l EE w4 v wx)
 case first=>
  have Uc:Z.wrap (max t.e y.e-12)=max t.e y.e-12:=IntWalk.i64_in _ U;refine Lt.begins (λw':H=>w' w=A (O a l c)/\w' ⟨w,1,G⟩=A (Y Z t.e)/\w' ⟨w+1,1,G⟩=A (Y Z y.e)) (λj=>j==17) kr ?_;have hS:(λw':H=>w' w=A (O a l c)/\w' ⟨w,1,G⟩=A (Y Z t.e)/\w' ⟨w+1,1,G⟩=A (Y Z y.e)) w4.drew:=⟨x0,x1,f1⟩;refine kq hS 0 (λ_ h=>aw h.1 (aw h.2.1 h.2.2)) ?_;refine kq hS 1 (λ_ h=>aw h.1 (aw h.2.1 h.2.2)) ?_;refine kq hS 3 (λ_ h=>aw h.1 (aw h.2.1 h.2.2)) ?_;refine kq hS 4 (λ_ h=>aw h.1 (aw h.2.1 h.2.2)) ?_;refine kq hS 5 (λ_ h=>aw h.1 (aw h.2.1 h.2.2)) ?_;refine kq hS 6 (λ_ h=>aw h.1 (aw h.2.1 h.2.2)) ?_;refine kq hS 7 (λ_ h=>aw h.1 (aw h.2.1 h.2.2)) ?_;refine kq hS 8 (λ_ h=>aw h.1 (aw h.2.1 h.2.2)) ?_;refine kq hS 9 (λ_ h=>aw h.1 (aw h.2.1 h.2.2)) ?_;refine kq hS 10 (λ_ h=>aw h.1 (aw h.2.1 h.2.2)) ?_;refine kq hS 11 (λ_ h=>aw h.1 (aw h.2.1 h.2.2)) ?_;refine kq hS 12 (λ_ h=>aw h.1 (aw h.2.1 h.2.2)) ?_;refine kq hS 13 (λ_ h=>aw h.1 (aw h.2.1 h.2.2)) ?_;refine kq hS 14 (λ_ h=>aw h.1 (aw h.2.1 h.2.2)) ?_;refine Lt.all (rs:=[2,16]) kr bK (λi hq=> ?_);have hi:i=2\/i=16:=Q2X;clear hq
  cases hi
  .rename_i hi;subst hi;refine Lt.step rfl (λK hK=> ?_);go_simp;refine(CW.I _ ((eG _ _).bI 1)).mono ?_;rintro e3 w5 ⟨cc,cs,rfl,rfl,hcs⟩;have bX:(λw':H=>w' w=A (O a l c)/\w' ⟨w,1,G⟩=A (Y Z t.e)/\w' ⟨w+1,1,G⟩=A (Y Z y.e)) ((li (li w4.drew (ag #[] 3)).drew (ag cs 3))):=⟨fq (fq hS.1 _) _,fq (fq hS.2.1 _) _,fq (fq hS.2.2 _) _⟩;refine bB hK bX ?_;refine kq bX 15 (λ_ h=>aw h.1 (aw h.2.1 h.2.2)) ?_;refine Lt.all (rs:=[16]) kr bK (λi hq=> ?_);obtain rfl:i=16:=Q2X;clear hq;refine Lt.step rfl (λK hK=> ?_);go_simp;refine bB hK (⟨fq bX.1 _,fq bX.2.1 _,fq bX.2.2 _⟩) ?_;refine Lt.all (rs:=[17]) kr bK (λi hq=> ?_);obtain rfl:i=17:=Q2X;clear hq;refine Lt.step rfl (λK hK=> ?_);go_simp;refine jg hK ?_;refine Lt.over kr ?_ _;go_wp2_with fail;go_meet
   first|exact oF.Kn hcs R3.I|exact oF.Fe hcs R3.I
  .rename_i hi;subst hi;refine Lt.step rfl (λK hK=> ?_);go_simp;have Fn:(λw':H=>w' w=A (O a l c)/\w' ⟨w,1,G⟩=A (Y Z t.e)/\w' ⟨w+1,1,G⟩=A (Y Z y.e)) ((li w4 (cV G 0 0 0 G 0 0)).drew):=⟨fq (w:=w4) x0 _,fq (w:=w4) x1 _,fq (w:=w4) f1 _⟩;refine bB hK Fn ?_;refine Lt.all (rs:=[2]) kr bK (λi hq=> ?_);obtain rfl:i=2:=Q2X;clear hq;refine Lt.step rfl (λK hK=> ?_);go_simp;refine(CW.I _ ((Bq (eG _ _) _).bI 1)).mono ?_;rintro e3 w5 ⟨cc,cs,rfl,rfl,hcs⟩;have bX:(λw':H=>w' w=A (O a l c)/\w' ⟨w,1,G⟩=A (Y Z t.e)/\w' ⟨w+1,1,G⟩=A (Y Z y.e)) ((li (li ((li w4 (cV G 0 0 0 G 0 0)).drew) (ag #[] 3)).drew (ag cs 3))):=⟨fq (fq Fn.1 _) _,fq (fq Fn.2.1 _) _,fq (fq Fn.2.2 _) _⟩;refine bB hK bX ?_;refine kq bX 15 (λ_ h=>aw h.1 (aw h.2.1 h.2.2)) ?_;refine Lt.all (rs:=[17]) kr bK (λi hq=> ?_);obtain rfl:i=17:=Q2X;clear hq;refine Lt.step rfl (λK hK=> ?_);go_simp;refine jg hK ?_;refine Lt.over kr ?_ _;go_wp2_with fail;go_meet
   exact oF.of4 hcs R3.I
 case rest=>
  obtain⟨bo,av,cv,rfl,ho,fO,cW,OL,nL⟩:=hcut;obtain⟨w5,rfl⟩:∃w5:H,w5=wc:=⟨_,rfl⟩;have HO:=V ho;have il:=V fO;have yF:bo<w5:=bH ho;have K5:=K4.bU cW;have aaI:=bH K4.F.2.2.1;have fZ:=K4.F.2.2.2.size;have Kp:=V (λx (hx:av=A x)=>show w.heap.size<=x.block from Q3y);have Kq:=V (λx (hx:av=A x)=>show x.block≠w.heap.size+1+1 from Q3y);clear x0 x1 x2 f0 f1 f2 K4 R3 CW ho fO cW hEE;have f0:=aY K5.F.1;go_wp2_with fail;have RZ:=V (KB.aQ K5.F.2.2.2).2.1;have RY:=V (KB.aQ K5.F.2.2.2).2.2.2;have KB2:=V (λx (hx:b=A x)=>show x.block<w.heap.size from(KB.F.2.1).bC z1 hx);have KB3:=V (λx (hx:b2=A x)=>show x.block<w.heap.size from(KB.F.2.2.2).bC z1 hx);clear f0;generalize hB:w5.heap.size=B at*;have oG:=V hB;clear hB;go_loopw [46] (λi wr=>∃j:Nat,j<=m/\i=Y Z j/\tB 276 21 cr B bo (O av l cv) (Y Z EE) j (dU (Z4.zR t y) j) wr/\ar B (λb=>b=bo) w5 wr) (λi _=>m-(aX i).toNat)
  case atStart=>exact⟨0,cK _,rfl,⟨_,HO.I,gP _ _ _ _,Q3Y⟩,⟨rfl,rfl,rfl,bu _,λ_ _ _=>rfl⟩⟩
  case round=>
   obtain⟨j,hj,rfl,lW,fD⟩:=hrel;have HF:=V lW;have HK:=V fD;clear lW;by_cases aT:j<m
   .obtain⟨vd,cy,aV,yG⟩:=HF.I;have iT:=V cy;have rI:=V aV;have HX0:=V (fD.bC U U K5.F.1);have HX1:=V (fD.bC U U K5.F.2.1);have jl:=fD.rows RZ.I (λx hx=>by have:=KB2.I x hx;exact⟨U,U⟩);have gZ:=fD.rows RY.I (λx hx=>by have:=KB3.I x hx;exact⟨U,U⟩);obtain⟨p0,o0,rfl,e0⟩:=jl.cells U;obtain⟨p1,o1,rfl,e1⟩:=gZ.cells U;have c0:=e0 j aT;have c1:=e1 j aT;have h80:=jv jl.wf j;have Ht:=jv gZ.wf j;have HS:=V (yI (Z4.zR t y) j);have Kr:=Bo.I j;have qN:Z4.zR t y j=Rd.align (t.z.getD j 0) t.e EE+Rd.align (y.z.getD j 0) y.e EE:=by unfold Z4.zR;rw[HEE.I]
    have AL:=V (λv f t w=>(Sx v f t w).mono λ_ _ ⟨a,b⟩=>(⟨a,b.symm⟩:_/\_=w));clear e0 e1 jl gZ fD cy aV HF;generalize t.z.getD j 0=x at*;generalize y.z.getD j 0=x' at*;rw[qN]at Kr;have HF0:=V qN;clear qN;have Kw:Z.wrap (Rd.align x t.e EE+Rd.align x' y.e EE)=Rd.align x t.e EE+Rd.align x' y.e EE:=IntWalk.i64_in _ U;have aqN:cr.wrap (Rd.align x t.e EE+Rd.align x' y.e EE)=Rd.align x t.e EE+Rd.align x' y.e EE:=IntWalk.i32_in _ U;have g0:=aY HX0.I;have h0:=aY HX1.I;have r0:=aY iT.I;have i1:(0:Int)<=(j:Int):=U;have i2:(j:Int)<(m:Int):=U;go_wp2_with fail;go_quiet ((go_at_call 285;exact jG (AL.I _ _ _ _)))
    have mO:=V (show(wr.drewN nq).heap[bo]? =A (ag #[O av l cv,Y Z EE,vd] 276 (0,0))from iT.I);have aaO:=V (oh rI.I (below_drewN wr nq));have nh:=V (HK.I.bI nq);have Ud:B<=(wr.drewN nq).heap.size:=yG;obtain⟨i0,hi,cF,cG,cB⟩:=fB Dq;generalize wr.drewN nq=w6 at*;clear g0 h0 r0 c0 c1 HX0 HX1 iT rI HK;have r0:=aY mO.I;go_wp2_with (at_builtin;refine ko _ rfl _ _ 103 rfl B 21 i0 (Y cr 0) 1 4 underlying103 hi cF cG cB rfl eM vd j ((dU (Z4.zR t y) j).map (Y cr)) rfl (aaO.I.alloc _) ⟨w6,0,G⟩ 1 1 [Y cr (Rd.align x t.e EE+Rd.align x' y.e EE)] rfl rfl ?c1 ?c2 ?c3 ?c4 ?c5 ?c6 ?_)
    case c1=>exact kJ w6 _ _
    case c2=>simp[fV]
    case c3=>unfold eS;omega
    case c4=>omega
    case c5=>rw[bF];omega
    case c6=>omega
    intro g1 c1 w7 cC bM cN ei fC;have dh:=λb (h:vd.ownBlock=A b)=>(aaO.I.lt b h).1;have vM:=V (gI bM (dX mO.I _) (λh=>E (dh _ h)));have pG:=V (Ff.step mO.I yF Ud dh cC bM nh.I ei);clear r0 cC bM cN dh;have r0:=aY vM.I;go_wp2_with fail;go_roundw
    case rel=>exact⟨j+1,U,Q2T,by rw[HS.I,HF0.I];exact pG.I.1,pG.I.2⟩
    case measure=>exact Q5q
   .obtain rfl:j=m:=U;obtain⟨vd,cy,aV,nP⟩:=HF.I;obtain⟨pd,cd,rfl,gC⟩:=ai.nJ aV (λy hy=>by
     obtain⟨i,_,rfl⟩:=kG.1 hy;have:=Bo.I i;exact Fa U U) U
    have mN:=V gC;have jJ:=V (λx (hx:pd=A x)=>(aV.lt x.block Q3b).1);have jK:=V (fD.bC U U K5.F.2.2.1);have qM:=V (fD.rows il.I (λx hx=>⟨by
     have h1:=il.I.bC d1 hx;have h2:=oG.I;omega,(nL x hx).2⟩))
    have jV:=V (fD.nO K5.F.2.2.2 U (λb hb=>U));have y0:=aY cy;have g0:=aY jK.I;clear fD aV cy gC HF HK;go_wp2_with fail;rw[HEE.I,HL.I];refine aZ (v:=aL #[aF #[O av l cv,Y Z EE,O pd j cd],Y Z 0]) ?_ rfl ⟨_,rfl,⟨_,_,_,_,_,_,rfl,?_,?_,(λx hx=>E (Kp.I x hx)),(λx hx=>E (jJ.I x hx))⟩,cL jV.I U _ _ _⟩
    .simp[aW,results235,go_sem,cT jK.I]
    .exact Q2m
    .exact Q1D
namespace D
def fits (n:Int):Bool:=decide (0<=n)&&(decide (n<=1023)&&decide (n*16384+1048576<16777216))
def ok (t:az):Bool:=decide (T.aH t.d t.e t.z)
def aH (ln:Int) (L:List az):Int:=if L.all ok then(if L.all (λt=>decide ((t.d.length:Int)=ln))then 0 else 2)else 1
end D
def rJ (w:H) (g:Nat) (L:List az):Prop:=∀i,i<L.length->∃a l c b m c',w ⟨g,3*i,G⟩=A (O a l c)/\w ⟨g,3*i+1,G⟩=A (Y Z (L.getD i az.zero).e)/\w ⟨g,3*i+2,G⟩=A (O b m c')/\ai Z w a l (L.getD i az.zero).d/\ai aO w b m (L.getD i az.zero).z
theorem rJ.below {g:Nat} {L:List az} (h:rJ w g L) (b:ay w w w'):rJ w' g L:=λi hi=>by
 obtain⟨a,l,c,b',m,c',h0,h1,h2,h3,h4⟩:=h i hi;exact⟨a,l,c,b',m,c',b.cell_of h0,b.cell_of h1,b.cell_of h2,h3.below b,h4.below b⟩
theorem OT (n:Int) (w:H):aA aq 174 #[Y Z n] w λe w'=>e=bG (aK (D.fits n))/\w=w':=by
 have cs:n<0\/(0<=n/\1023<n)\/(0<=n/\n<=1023):=U;rcases cs with h|⟨h,h2⟩|⟨h,h2⟩
 .rw[show D.fits n=ae by unfold D.fits;rw[eP U];rfl];have h3:decide (0<=n)=ae:=eP U;exact Q2K
 .rw[show D.fits n=ae by unfold D.fits;rw[eP (show ¬n<=1023 by omega)];simp];have h3:decide (n<=1023)=ae:=eP U;exact Q2K
 .rw[show D.fits n=decide (n*16384+1048576<16777216) by unfold D.fits;rw[dI h,dI h2];rfl];exact Q2K
theorem D.OU {p:az->Bool} {L:List az} {k:Nat} (h:∀j,j<k->p (L.getD j az.zero)=true) (hk:L.length<=k):L.all p=true:=by
 rw[List.all_eq_true];intro t ht;obtain⟨j,hj,e⟩:=List.getElem_of_mem ht;have:=h j U;rwa[show L.getD j az.zero=t by simp[dV,cR hj,e]]at this
theorem D.OW {p:az->Bool} {L:List az} {k:Nat} (hk:k<L.length) (h:p (L.getD k az.zero)=ae):L.all p=ae:=by
 rw[List.all_eq_false];exact⟨L.getD k az.zero,by simp[dV,cR hk],by rw[h];decide⟩
theorem OX (ln:Int) (L:List az) (g n:Nat) (w:H) (hn:L.length=n) (hn4:n<=4) (h:rJ w g L):
 aA aq 282 #[Y Z ln,O g n n] w (dZ (Y Z (D.aH ln L)) w):=by
 obtain⟨R,hR⟩:=J (D.aH ln L);rw[hR];have HR:=V hR;have HN:=V hn;have H0:=V h;have TM:=V jr;clear hR hn h;go_enter func282,ntmps282;go_wp2_with fail;go_loopw [11] (λi wr=>∃k:Nat,k<=n/\i=Y Z k/\(∀j,j<k->D.ok (L.getD j az.zero)=true)/\ay w w wr) (λi _=>n-(aX i).toNat)
 case atStart=>exact⟨0,cK _,rfl,λj hj=>U,eG _ _⟩
 case round=>
  obtain⟨k,hk,rfl,fY,hb⟩:=hrel;have rK:=V fY;have HB:=V hb;clear fY;by_cases aT:k<n
  .exact Q0f
  .have Fo:=V (show L.all D.ok=true from D.OU rK.I (E HN.I));clear hb rK;go_wp2_with fail;obtain⟨w1,rfl⟩:∃w1:H,w1=wr:=⟨_,rfl⟩;go_loopw [21] (λi wr=>∃k:Nat,k<=n/\i=Y Z k/\(∀j,j<k->decide (((L.getD j az.zero).d.length:Int)=ln)=true)/\ay w w wr) (λi _=>n-(aX i).toNat)
   case atStart=>exact⟨0,cK _,rfl,λj hj=>U,HB.I⟩
   case round=>
    obtain⟨k,hk,rfl,fY,hb⟩:=hrel;have rK:=V fY;have HB:=V hb;clear fY;by_cases aT:k<n
    .obtain⟨a,l,c,b,m,c',c0,c1,c2,r0,r1⟩:=(H0.I.below hb) k (E HN.I);have hl:=r0.eC;obtain⟨B,hB⟩:=J (decide (((L.getD k az.zero).d.length:Int)=ln));have mJ:=V hB;rw[r0.bA]at hB;rw[Nat.mul_comm 3 k]at c0 c1 c2;have dA:=V (HB.I.step (aD wr (ag #[O a l c,Y Z (L.getD k az.zero).e,O b m c'] 57)));have bb:((l:Int) != ln)= !B:=by rw[<-hB];by_cases h:(l:Int)=ln<;>simp[h]
     clear r0 hB hb;generalize qj:L.getD k az.zero=t at*;have HG:=V qj;clear qj
     cases B
     .have bb2:((l:Int) != ln)=true:=bb;exact Q19
     .have bb2:((l:Int) != ln)=ae:=bb;exact Q17
    .exact Q2z
namespace D
def cell (f:Nat->Nat->Int) (C k:Nat):Int:=f (k/C) (k%C)
def made (R C:Nat) (n e:Int) (f:Nat->Nat->Int):Int×az:=
 if ¬(fits n=true/\ -128<=e/\e<=128)then(3,az.zero)else if ¬0<Sh.size [(R:Int),(C:Int)]then(1,az.zero)else(0,⟨[(R:Int),(C:Int)],e,dU (cell f C) (R*C)⟩)
theorem Ue {R C:Nat} {n:Int} (h:¬(fits n=true/\ -128<=e/\e<=128)):made R C n e f=(3,az.zero):=by unfold made;rw[aR h]
theorem aih {R C:Nat} {n:Int} (h:fits n=true/\ -128<=e/\e<=128) (h2:¬0<Sh.size [(R:Int),(C:Int)]):made R C n e f=(1,az.zero):=by unfold made;rw[aI (λc=>c h),aR h2]
theorem aii {R C:Nat} {n:Int} (h:fits n=true/\ -128<=e/\e<=128) (h2:0<Sh.size [(R:Int),(C:Int)]):made R C n e f=(0,⟨[(R:Int),(C:Int)],e,dU (cell f C) (R*C)⟩):=by unfold made;rw[aI (λc=>c h),aI (λc=>c h2)]
theorem aij {C r:Nat} (h:c<C):cell f C (r*C+c)=f r c:=by
 unfold cell;rw[Nat.mul_comm r C,Nat.mul_add_div U,Nat.mul_add_mod,Nat.div_eq_of_lt h,Nat.mod_eq_of_lt h,eL]
theorem aik {R C:Nat} (h:0<Sh.size [(R:Int),(C:Int)]):1<=R/\R<=4096/\1<=C/\C<=4096/\R*C<=8192:=by
 have my:=Sh.iA h;have e:=my.eq;have l:=my.le;have h0:=my.get (k:=0) bK;have h1:=my.get (k:=1) bK;simp at h0 h1;rw[show Sh.prod [(R:Int),(C:Int)]=(R:Int)*((C:Int)*1)from rfl,Int.mul_one]at l;have:((R*C:Nat):Int)<=8192:=by rw[Int.natCast_mul];exact l
 omega
end D
theorem OY (ZX:Nat) (jh:Array aj) (f:Nat->Nat->Int) (R C:Nat) (n e:Int) (w:H) (he: -1000<=e/\e<=1000) (hR:R<=4096) (hC:C<=4096)
 (hc:∀args w,(callFunc ZX args).run aq w= .ok (.enter ZX args) w)
 (hf:D.fits n=true->∀r c,r<R->c<C-> -2147483648<=f r c/\f r c<=2147483647)
 (hF:∀(r c:Nat) wx,D.fits n=true-> -128<=e->e<=128->r<R->c<C->ay w w wx->aA aq ZX (#[Y Z (r:Int),Y Z (c:Int)]++jh) wx (oa (Y Z (f r c)) wx)):
 aA aq 283 #[Y Z R,Y Z C,Y Z n,Y Z e,.func (.func ZX) #[] jh] w (oY cr (D.made R C n e f) w):=by
 obtain⟨Z7,hZ⟩:=J (D.made R C n e f);rw[hZ];have HZ:=V hZ;have HC:=V hF;have Bo:=V hf;have KZ:=V (aE.lj w (ag #[O G 0 0,Y Z 0,O G 0 0] 276) (ag #[Y Z R,Y Z C] 3) (ag #[O (w+1:Nat) 2 2,Y Z e,O G 0 0] 276));have RN:=V (show ai Z (li (li w (ag #[O G 0 0,Y Z 0,O G 0 0] 276)) (ag #[Y Z R,Y Z C] 3)) (A ⟨(li w (ag #[O G 0 0,Y Z 0,O G 0 0] 276)).heap.size,0,G⟩) 2 [(R:Int),(C:Int)]from ai.new (li w (ag #[O G 0 0,Y Z 0,O G 0 0] 276)) Z 3 (0,0) [(R:Int),(C:Int)] (λz hz=>by
  rcases List.mem_cons.1 hz with rfl|hz
  .exact gF U U
  .obtain rfl:z=(C:Int):=by simpa using hz
   exact gF U U) bK)
 have FT:=V (OT n);obtain⟨Fi,Uf⟩:=J (D.fits n);rw[Uf]at FT;have H9:=V Uf;obtain⟨e1,e2⟩:=he;clear hZ hF hf Uf;go_enter func283,ntmps283;go_wp2_with fail;have Ug:=V (RN.I.bt.alloc (ag #[O (w+1:Nat) 2 2,Y Z e,O G 0 0] 276));rw[bF]at Ug;generalize fZ:li (li (li w (ag #[O G 0 0,Y Z 0,O G 0 0] 276)) (ag #[Y Z R,Y Z C] 3)) (ag #[O (w+1:Nat) 2 2,Y Z e,O G 0 0] 276)=w5 at*;have Br:w5.heap.size=w.heap.size+1+1+1:=by rw[<-fZ,bF,bF,bF]
 have gV:=V Br;have K3:=KZ;clear fZ KZ Br;refine cq (FT.I _) ?_;have g0:=aY K3.F.1;have cs:Fi=ae\/(Fi=true/\128<e)\/(Fi=true/\e<=128/\e< -128)\/(Fi=true/\e<=128/\ -128<=e):=by cases Fi<;>simp<;>omega
 rcases cs with rfl|⟨rfl,h1⟩|⟨rfl,h1,h2⟩|⟨rfl,h1,h2⟩
 .obtain rfl:=HZ.I.symm.trans (D.Ue (λh=>by rw[H9.I]at h;cases h.1));exact Q0F
 .obtain rfl:=HZ.I.symm.trans (D.Ue (λh=>U));exact Q0F
 .obtain rfl:=HZ.I.symm.trans (D.Ue (λh=>U));exact Q0F
 .have SM:=V (Hf (w+1:Nat) 2 2 [(R:Int),(C:Int)] w5 Ug.I.aN);obtain⟨S,hS⟩:=J (decide (0<Sh.size [(R:Int),(C:Int)]));rw[hS]at SM;have HS:=V hS;clear hS;have y0:=aY K3.F.2.2.1;go_wp2_with fail;refine cq SM.I ?_
  cases S
  .obtain rfl:=HZ.I.symm.trans (D.aih ⟨H9.I,h2,h1⟩ (kH HS.I));go_wp2_with fail;refine aZ (v:=aL #[aF #[O G 0 0,Y Z 0,O G 0 0],Y Z 1]) ?_ rfl ⟨_,rfl,dM.zero _ _ _,cL K3.F.2.2.2 U _ _ _⟩;simp[aW,results283,go_sem,cT K3.F.1]
  .obtain⟨r1,r2,c1,c2,rc⟩:=D.aik (eZ HS.I);obtain rfl:=HZ.I.symm.trans (D.aii ⟨H9.I,h2,h1⟩ (eZ HS.I));have HO:=V K3.F.2.2.1;have yF:w.heap.size+1+1<w5.heap.size:=bH HO.I;have MC:=V (λr c (hr:r<R) (hc:c<C)=>D.aij (f:=f) (r:=r) hc);have LE:=V (λr (hr:r<R)=>show r*C+C<=R*C from by rw[<-Nat.succ_mul];exact nZ C hr);clear y0 g0 SM FT RN;go_wp2_with fail;generalize hB:w5.heap.size=B at*;have oG:=V hB;clear hB;go_loopw [40] (λi wr=>∃r:Nat,r<=R/\i=Y Z r/\tB 276 21 cr B (w.heap.size+1+1) (O (w+1:Nat) 2 2) (Y Z e) (r*C) (dU (D.cell f C) (r*C)) wr/\ar B (λb=>b=w.heap.size+1+1) w5 wr) (λi _=>R-(aX i).toNat)
   case atStart=>exact⟨0,cK _,rfl,by rw[Nat.zero_mul];exact⟨_,HO.I,gP _ _ _ _,Q3Y⟩,⟨rfl,rfl,rfl,bu _,λ_ _ _=>rfl⟩⟩
   case round=>
    obtain⟨r,hr,rfl,lW,fD⟩:=hrel;have HF:=V lW;have HK:=V fD;clear lW fD;obtain⟨wo,rfl⟩:∃wo:H,wo=wr:=⟨_,rfl⟩;by_cases Ds:r<R
    .have hle:=LE.I r Ds;go_wp2_with fail;go_loopw [44] (λi wr=>∃c:Nat,c<=C/\i=Y Z c/\tB 276 21 cr B (w.heap.size+1+1) (O (w+1:Nat) 2 2) (Y Z e) (r*C+c) (dU (D.cell f C) (r*C+c)) wr/\ar B (λb=>b=w.heap.size+1+1) w5 wr) (λi _=>C-(aX i).toNat)
     case atStart=>exact⟨0,cK _,rfl,HF.I,HK.I⟩
     case round=>
      clear HF HK;obtain⟨c,OZ,rfl,lW,fD⟩:=hrel;have HF:=V lW;have lH:=V fD;clear lW;obtain⟨N,hN⟩:=J (r*C+c);by_cases aT:c<C
      .obtain⟨vd,cy,aV,yG⟩:=HF.I;rw[hN]at aV;have iT:=V cy;have rI:=V aV;have jV:=V (fD.nO K3.F.2.2.2 U (λb hb=>U));have hcell:=MC.I r c Ds aT;rw[hN]at hcell;have HS:=V (yI (D.cell f C) N);rw[hcell]at HS;have Kr:=Bo.I H9.I r c Ds aT;have CP:=V (λwx b=>HC.I r c wx H9.I h2 h1 Ds aT b);have Ky:N<=8192:=U;have HN:=V hN;obtain⟨i0,hi,cF,cG,cB⟩:=fB Dq;clear fD cy aV HF hcell hN;generalize f r c=u at*;obtain⟨u1,u2⟩:=Kr;have hu:cr.wrap u=u:=IntWalk.i32_in _ U;go_wp2_with fail;obtain⟨_,_,c2,_,_,d2⟩:=aY iT.I;refine Lt.begins (λw':H=>w' ⟨(w.heap.size+1+1),2,G⟩=A vd) (λj=>j==10) kr ?_;have hS:(λw':H=>w' ⟨(w.heap.size+1+1),2,G⟩=A vd) wr.drew:=c2;refine qJ hS 0 ?_;refine qJ hS 1 ?_;refine qJ hS 2 ?_;refine qJ hS 3 ?_;refine qJ hS 4 ?_;refine Lt.all (rs:=[5]) kr bK (λi hq=> ?_);obtain rfl:i=5:=Q2X;clear hq;refine Lt.step rfl (λK hK=> ?_);go_simp;refine(CP.I _ (jV.I.bI 1)).mono ?_;rintro e' w9 ⟨rfl,nq,hq⟩;have Bu:=V (show w9.heap[(w.heap.size+1+1)]? =A (ag #[(O (w+1:Nat) 2 2),(Y Z e),vd] 276 (0,0))from hq▸iT.I);have aaP:=V (show w9.ownsRow B 21 1 vd N ((dU (D.cell f C) N).map (Y cr))from hq▸oh (oh rI.I (below_drewN wr 1)) (below_drewN _ nq));have Du:=V (show ar B (λb=>b=(w.heap.size+1+1)) w5 w9 from hq▸(lH.I.bI 1).bI nq);have hB9:B<=w9:=by rw[hq];exact yG
       have zS:(λw':H=>w' ⟨(w.heap.size+1+1),2,G⟩=A vd) w9:=(aY Bu.I).2.2.1;refine hK.I _ _ ⟨λ_=>zS,?_⟩;clear hq hS c2 d2;have hS:=zS;clear zS;clear hK K;try simp only[Act.put,dC,dD,dE]
       refine qJ hS 6 ?_;refine Lt.all (rs:=[7]) kr bK (λi hq=> ?_);obtain rfl:i=7:=Q2X;clear hq;refine Lt.step rfl (λK hK=> ?_);go_simp;have bX:(λw':H=>w' ⟨(w.heap.size+1+1),2,G⟩=A vd) (li w9 (ag #[Y cr u] 21)):=fq hS _;refine bB hK bX ?_;refine Lt.all (rs:=[8]) kr bK (λi hq=> ?_);obtain rfl:i=8:=Q2X;clear hq;refine Lt.step rfl (λK hK=> ?_);refine lM _ cJ _ _ _ cJ B 21 i0 _ 1 4 underlying103 hi cF cG cB rfl U vd N ((dU (D.cell f C) N).map (Y cr)) cJ (aaP.I.alloc _) ⟨w9,0,G⟩ 1 1 [Y cr u] cJ cJ (kJ w9 _ _) Q35 U Q2V U Q2R _ rfl ?_;intro g1 fh w7 cC bM cN ei;have dh:=λb (h:vd.ownBlock=A b)=>(aaP.I.lt b h).1;have iD:=gI bM (dX Bu.I _) (λh=>E (dh _ h));have yH:B<=g1:=by
        rcases cN with h|h
        .exact dh _ h
        .have:g1=w9.heap.size+1:=by simpa using h
         omega
       have pG:=V (Ff.step Bu.I yF hB9 dh cC bM Du.I yH);obtain⟨_,_,c3,_,_,d3⟩:=aY iD;clear hS bX cC bM cN ei dh iD;have hS:(λw':H=>w' ⟨(w.heap.size+1+1),2,G⟩=A vd) w7:=c3;refine bB hK hS ?_;refine qJ hS 9 ?_;refine Lt.all (rs:=[10]) kr bK (λi hq=> ?_);obtain rfl:i=10:=Q2X;clear hq;refine Lt.step rfl (λK hK=> ?_);go_simp;refine jg hK ?_;clear hS c3 d3;generalize ss w7 ⟨(w.heap.size+1+1),2,G⟩ (O g1 (N+1) fh)=w8 at*;refine Lt.over kr ?_ _;go_wp2_with fail;go_roundw
       case rel=>exact⟨c+1,U,Q2T,by rw[<-Nat.add_assoc,HN.I,HS.I];exact pG.I.1,pG.I.2⟩
       case measure=>exact Q5q
      .obtain rfl:c=C:=U;clear hN;have vN:=V (show tB 276 21 cr B (w.heap.size+1+1) (O (w+1:Nat) 2 2) (Y Z e) ((r+1)*c) (dU (D.cell f c) ((r+1)*c)) wr from by rw[Nat.succ_mul];exact HF.I);clear fD HF;go_wp2_with fail;go_roundw
       case rel=>exact⟨r+1,U,Q2T,vN.I,lH.I⟩
       case measure=>exact Q5q
    .obtain rfl:r=R:=U;obtain⟨vd,cy,aV,nP⟩:=HF.I;obtain⟨pd,cd,rfl,gC⟩:=ai.nJ aV (λy hy=>by
      obtain⟨k,hk,rfl⟩:=kG.1 hy;rw[List.mem_range]at hk;have ot:k/C<r:=Nat.div_lt_of_lt_mul (by rw[Nat.mul_comm];exact hk);have:=Bo.I H9.I (k/C) (k%C) ot (Nat.mod_lt _ U);exact Fa this.1 this.2) U
     have fD:=HK.I;have mN:=V gC;have jJ:=V (λx (hx:pd=A x)=>(aV.lt x.block Q3b).1);have jK:=V (fD.bC U U K3.F.1);have qM:=V (fD.rows Ug.I.aN (λx hx=>by cases hx;exact⟨by show w.heap.size+1<B;omega,by show ¬w.heap.size+1=_;omega⟩));have jV:=V (fD.nO K3.F.2.2.2 U (λb hb=>U));have hB9:=gV.I;have y0:=aY cy;have g0:=aY jK.I;clear fD aV cy gC HF HK;go_wp2_with fail;refine aZ (v:=aL #[aF #[O (w+1:Nat) 2 2,Y Z e,O pd (r*C) cd],Y Z 0]) ?_ rfl ⟨_,rfl,⟨_,_,_,_,_,_,rfl,?_,?_,(λx hx=>by cases hx;show w.heap.size<=w+1;omega),(λx hx=>E (jJ.I x hx))⟩,cL jV.I U _ _ _⟩
     .simp[aW,results283,go_sem,cT jK.I]
     .exact qM.I.eJ (λx hx=>by cases hx;show w.heap.size+1≠_;omega)
     .exact Q1D
namespace ZY
def iu (p:bD):List Int:=put (cD.wrap (p.w.d.length:Int)) 1++if p.none=true then[]else(p.w.d.flatMap λn=>put (cD.wrap n) 2)++(nR p.w++((p.m.flatMap λn=>put (IntKind.u32.wrap n) 4)++(put (cD.wrap (p.b.d.getD 0 0)) 2++nR p.b)))
def enc (s:dJ):List Int:=[112,100,115,116]++(put s.au 8++(put (IntKind.u32.wrap s.step) 4++(put (cD.wrap (s.ps.length:Int)) 1++s.ps.flatMap iu)))
def encode (s:dJ):Int×List Int:=if s.aH=true then(0,enc s)else(1,[])
theorem Pj (t:az):(nR t).length=1+t.z.length:=by
 unfold nR;rw[dG,fI,sW (λx=>fI _ 1)];omega
theorem Ik {t:az} (h:t.ok=true):t.d.length<=4/\1<=t.d.length/\t.z.length<=8192:=by
 have h1:=T.sI (eZ h);exact⟨h1.2.1,h1.1,h1.2.2.1⟩
theorem abb {p:bD} (h:p.aH=true):(iu p).length<=60000:=by
 unfold iu;rw[dG,fI];by_cases c:p.none=true
 .rw[aR c];simp
 .rw[aI c];unfold bD.aH at h;simp only[c,Bool.false_or,fS,Bool.false_eq_true,decide_eq_true_eq]at h;obtain⟨h1,h2,h3,h4⟩:=h;have b1:=Ik h1;have b3:=Ik h3;unfold bD.moves at h2;simp only[fS,decide_eq_true_eq]at h2;simp only[dG,Pj,fI,sW (λx=>fI _ 2),sW (λx=>fI _ 4)];omega
theorem zT {L:List bD} (h:∀p∈L,p.aH=true):(L.flatMap iu).length<=L.length*60000:=by
 induction L with
 |nil=>simp
 |cons x L ih=>
  have h1:=abb (h x bK);have h2:=ih (λp hp=>h p (by simp[hp]));rw[rz,dG,n8,Nat.add_mul];omega
theorem Uv {n:Int} {k:Nat} (h:x∈put n k):0<=x/\x<=255:=uA h
theorem abd {t:az} (h:x∈nR t):0<=x/\x<=255:=by
 unfold nR at h;rcases kE.1 h with h|h
 .exact uA h
 .obtain⟨y,_,h⟩:=List.mem_flatMap.1 h;exact uA h
theorem aiS {p:bD} (h:x∈iu p):0<=x/\x<=255:=by
 unfold iu at h;rcases kE.1 h with h|h
 .exact uA h
 .split at h
  .cases h
  .rcases kE.1 h with h|h
   .obtain⟨y,_,h⟩:=List.mem_flatMap.1 h;exact uA h
   rcases kE.1 h with h|h
   .exact abd h
   rcases kE.1 h with h|h
   .obtain⟨y,_,h⟩:=List.mem_flatMap.1 h;exact uA h
   rcases kE.1 h with h|h
   .exact uA h
   .exact abd h
theorem aiT {s:dJ} (h:x∈enc s):0<=x/\x<=255:=by
 unfold enc at h;rcases kE.1 h with h|h
 .simp at h;omega
 rcases kE.1 h with h|h
 .exact uA h
 rcases kE.1 h with h|h
 .exact uA h
 rcases kE.1 h with h|h
 .exact uA h
 .obtain⟨y,_,h⟩:=List.mem_flatMap.1 h;exact aiS h
theorem aiU {f:bD->List Int} {z:List bD} (h:j<z.length):(z.take (j+1)).flatMap f=(z.take j).flatMap f++f (z.getD j bD.nil):=by
 rw[sV h,List.flatMap_append];simp[dV,cR h]
end ZY
structure qq (T:dy) (B p q:Nat) (cs:Array aj) (w0:H) (xs:ah) (vd:aj) (w:H):Prop where
 wr:kv B p vd xs w
 kO:ay w0 w0 w
 box:w.heap[q]? =A (ag cs T (0,0))
 off:vd.ownBlock≠A q
 ne:q≠p
 ge:w0.heap.size<=p
theorem qq.write {T:dy} {B:Nat} {w0:H} {ys:ah} (h:qq T B p q cs w0 xs vd w) (hw:kv B p ke ys w') (hr:lm p vd ke w w'):qq T B p q cs w0 ys ke w':=by
 obtain⟨h1,h2⟩:=hr.bC h.box h.ne h.off;have hs:=h.kO.size;have Un:=h.wr.2.2.1;have lG:=h.ge;refine⟨hw,⟨hr.kept.os.trans h.kO.os,hr.kept.tape.trans h.kO.tape,hr.kept.output.trans h.kO.output,eH h.kO.size hr.kept.size,λb hb=>(hr.kept.block b U λe=> ?_).trans (h.kO.block b hb)⟩,h1,h2,h.ne,h.ge⟩;rcases e with e|e
 .omega
 .have:=(h.wr.2.1.lt b e).1;omega
theorem qq.step {T:dy} {B:Nat} {w0:H} (h:qq T B p q cs w0 xs vd w) (hb:ay w w w'):qq T B p q cs w0 xs vd w':=
 ⟨h.wr.below hb,h.kO.step hb,bV h.box hb,h.off,h.ne,h.ge⟩
theorem qq.abe {T:dy} {B:Nat} {w0:H} (h:qq T B p q cs w0 xs vd w) (hr:ai k w0 a l zs):KO (0<l) (KU p vd a):=by
 intro h0 x hx;obtain⟨b,off,rfl,hc⟩:=hr.cells h0
 cases hx;have h5:b<w0:=jY w0 _ (hc 0 h0);have lG:=h.ge;refine⟨by show b≠p;omega,λe=> ?_⟩;have:=(h.wr.2.1.lt b e).1;have:=h.wr.2.2.1;omega
theorem qq.new {T':dy} {B:Nat} {w0:H} (hw:kv B p vd xs w) (hb:ay w0 w0 w) (lG:w0.heap.size<=p):qq T' B p w.heap.size Bx w0 xs vd (li w (ag Bx T')):=by
 have h1:=bH hw.1;refine⟨hw.below (aD _ _),hb.step (aD _ _),bZ _ _,λe=> ?_,U,lG⟩;have:=(hw.2.1.lt _ e).2;omega
theorem Lb (x:Int):IntKind.u32.wrap x<=4294967295:=Q33
theorem wrap_u32_nonneg (x:Int):0<=IntKind.u32.wrap x:=Q33
theorem Uw {P:Program} (w:H) (t e:dy) (C:Array aj) (n c g:Nat) (hg:g=w.heap.size) (ht:P.underlying t=A (.slice e)) (he:P.underlying e=A (.int .u8)):
 (convert t t (O g n c)).run P (li w (ag C e))= .ok (O g n c) (li w (ag C e (C.size,C.size+1))):=by
 subst hg;exact Lib.run_convert_bytes_const w t e C n c ht he
def abf (r:Int×List Int) (w:H) (e:dN) (w':H):Prop:=∃a c,e=bG (aL #[O a r.2.length c,Y Z r.1])/\ai .u8 w' a r.2.length r.2 /\r.2.length<=c/\(∀x,a=A x->w.heap.size<=x.block/\x.block<w'.heap.size)/\ay w w w'
theorem Ux (s:dJ) (a:aC) (n c:Nat) (w:H) (h:pH w a n s.ps) (hm:s.aH=true) (gD:0<=s.au/\s.au<=18446744073709551615):aA aq 22 #[aF (s.cells a n c)] w (abf (0,ZY.enc s) w):=by
 have K1:=V (aE.fg w (ag #[Y cD s.au,Y Z s.step,O a n c] 48));have f0:=bP (bZ w (ag #[Y cD s.au,Y Z s.step,O a n c] 48));have M:=V (hm▸ab7 s a n c _ (h.below K1.F.2));have ZW:=V h;have iw:=V gD;have HL:=V h.1;have hn:=h.2.1;have o7:=V (show 0<=s.step/\s.step<=1000000/\s.ps.length<=12/\∀p∈s.ps,p.aH=true by
  unfold dJ.aH at hm;simp only[fS,decide_eq_true_eq,Bool.not_eq_true',List.any_eq_false,Bool.not_eq_false']at hm;exact⟨hm.1,hm.2.1,hm.2.2.1,λp hp=>by have:=hm.2.2.2 p hp;simpa using this⟩)
 have aiV:n<=12:=by have:=o7.I.2.2.1;have:=HL.I;omega
 unfold dJ.cells at M⊢;clear h hm gD;go_enter func22,ntmps22;go_wp2_with fail;refine bY M.I λw2 hb=> ?_;have K2:=K1.bU hb;have nQ:w.heap.size<=w2:=K2.F.2.size;have xu:=bH K2.F.1;clear hb;have KC:=λ(C:Array aj) (n c:Nat)=>Uw (P:=aq) (li w2 (ag #[O G 0 0] 145)) 42 5 C n c (w2.heap.size+1) bK underlying42 underlying5;go_wp2_with fail;clear KC;have S3:=V (show qq 48 (w2.heap.size+1) w2.heap.size w.heap.size #[Y cD s.au,Y Z s.step,O a n c] w [] (O G 0 0) (li (li w2 (ag #[O G 0 0] 145)) (ag #[Y .u8 112,Y .u8 100,Y .u8 115,Y .u8 116] 5 (4,5)))from
  ⟨⟨(aE.fG w2 _ _).aN.1,gP _ _ _ _,U,by rw[bF,bF];omega⟩,K2.F.2.step (aE.fG w2 _ _).aN.2.2,bV K2.F.1 (aE.fG w2 _ _).aN.2.2,(by intro e;cases e),U,nQ⟩)
 have R4:=V (ai.new (li w2 (ag #[O G 0 0] 145)) .u8 5 (4,5) [112,100,115,116] Q4q bK);have RW:=V (Uu _ _ _ _ _ (li w2 (ag #[O G 0 0] 145)).heap.size 0 4 4 _ S3.I.wr R4.I U U bK);rw[bF]at RW;refine RW.I.mono ?_;rintro e w4 ⟨rfl,v4,yK,Dy⟩;have S4:=V (S3.I.write yK Dy);have f0:=bP S4.I.box;go_wp2_with fail;refine(aiC _ _ _ _ s.au w4 S4.I.wr iw.I bK).mono ?_;rintro e w5 ⟨rfl,v5,By,Uy⟩;have S5:=V (S4.I.write By Uy);have f0:=bP S5.I.box;go_wp2_with fail;refine(Ie _ _ _ _ (IntKind.u32.wrap s.step) w5 S5.I.wr ⟨wrap_u32_nonneg _,Lb _⟩ Q4M).mono ?_;rintro e w6 ⟨rfl,v6,hw6,yr⟩;have S6:=V (S5.I.write hw6 yr);have f0:=bP S6.I.box;go_wp2_with fail;refine(Fv _ _ _ _ (n:Int) w6 S6.I.wr Q4M).mono ?_;rintro e w7 ⟨rfl,v7,Lc,Bg⟩;have S7:=V (S6.I.write Lc Bg);clear RW;have f0:=bP S7.I.box;obtain⟨pre,yO⟩:=J ([]++[112,100,115,116]++ZY.put s.au 8++ZY.put (IntKind.u32.wrap s.step) 4++ZY.put (cD.wrap (n:Int)) 1);rw[yO]at S7;have aiW:pre.length=17:=by rw[<-yO];simp[ZY.fI]
 have Uz:=V yO;clear yO;generalize hp:w2.heap.size=p at*;clear hp;generalize hB:p+1=B at*;clear hB;generalize hq:w.heap.size=q0 at*;have HQ0:=V hq;clear hq;go_wp2_with fail;have Fy:=V (show w.heap.size<=p by have:=HQ0.I;omega);go_loopw [37] (λi wr=>∃(j:Nat) (v:aj),j<=n/\i=Y Z j/\kv B p v (pre++(s.ps.take j).flatMap ZY.iu) wr/\ay w w wr) (λi _=>n-(aX i).toNat)
 case atStart=>exact⟨0,v7,cK _,rfl,by simpa using S7.I.wr,S7.I.kO⟩
 case round=>
  obtain⟨j,v0,hj,rfl,fE,cW⟩:=hrel;have ST:=V fE;have SB:=V cW;clear fE cW S7;by_cases aT:j<n
  .obtain⟨bb,off,a1,l1,c1,a2,l2,c2,a3,l3,c3,a4,l4,c4,a5,l5,c5,rfl,hp,g0,g1,g2,g3,g4,g5,g6⟩:=ZW.I.get aT;have g0:=SB.I.cell_of g0;have g1:=SB.I.cell_of g1;have g2:=SB.I.cell_of g2;have g3:=SB.I.cell_of g3;have g4:=SB.I.cell_of g4;have g5:=SB.I.cell_of g5;have g6:=SB.I.cell_of g6;have gS:j<s.ps.length:=Q30;have HS:=V (ZY.aiU (f:=ZY.iu) gS);have HM:=V (o7.I.2.2.2 (s.ps.getD j bD.nil) Q3m);have hlen:(pre++(s.ps.take j).flatMap ZY.iu).length<=1000000:=by
    have:=ZY.zT (L:=s.ps.take j) (λp hp=>o7.I.2.2.2 p (List.mem_of_mem_take hp));rw[dG];rw[List.length_take]at this;omega
   generalize s.ps.getD j bD.nil=x at*;obtain⟨ys,rL⟩:=J (pre++(s.ps.take j).flatMap ZY.iu);rw[rL]at ST hlen;have Pk:=V rL;obtain⟨-,-,p1,p2,p3,p4,p5⟩:=hp.wt;have HP:=V hp;have n1:=p1.eC;have n2:=p2.eC;have n3:=p3.eC;have n4:=p4.eC;have n5:=p5.eC;have Fx:=V p1.bA;have ei:=bH ST.I.1;clear rL;have T1:=V (qq.new (T':=105) (Bx:=#[O a1 l1 c1,Y Z x.w.e,O a2 l2 c2,O a3 l3 c3,O a4 l4 c4,Y Z x.b.e,O a5 l5 c5]) ST.I SB.I Fy.I);go_wp2_with fail;refine(Fv _ _ _ _ (l1:Int) _ T1.I.wr U).mono ?_;rintro e w8 ⟨rfl,v8,yL,yP⟩;have T8:=V (T1.I.write yL yP);clear g0 g1 g2 g3 g4 g5 g6;have g0:=bE T8.I.box;have CZ:=V (ab5 _ x w8 (HP.I.below T8.I.kO));go_wp2_with fail;refine bY CZ.I λw9 hb=> ?_;have T9:=V (T8.I.step hb);clear g0;obtain⟨g0,g1,g2,g3,g4,g5,g6⟩:=bE T9.I.box;generalize lF:x.none=no at*;have Fz:=V lF;clear lF
   cases no
   case true=>
    have HE:=V (show ZY.iu x=ZY.put (cD.wrap (l1:Int)) 1 by unfold ZY.iu;rw[Fz.I,Fx.I];simp);go_wp2_with fail;go_roundw
    case rel=>exact⟨j+1,v8,U,Q2T,by rw[HS.I,<-lL,Pk.I,HE.I];exact T9.I.wr,T9.I.kO⟩
    case measure=>exact Q5q
   have yQ:=V (show x.w.ok=true/\x.moves=true/\x.b.ok=true/\x.b.d.length=1 by
    have h:=HM.I;unfold bD.aH at h;simpa only[Fz.I,Bool.false_or,fS,decide_eq_true_eq]using h)
   have b1:=ZY.Ik yQ.I.1;have b3:=ZY.Ik yQ.I.2.2.1;have b2:x.m.length=x.w.z.length:=by
    have h:=yQ.I.2.1;unfold bD.moves at h;simp only[fS,decide_eq_true_eq]at h;exact h.1
   obtain⟨-,-,r1,r2,r3,r4,r5⟩:=HP.I.wt;have gG:=V r1;have cU:=V r2;have fL:=V r3;have gU:=V r4;have jk:=V r5;have kM:l1<=4:=E r1.bA;have j8:l2<=8192:=E r2.bA;have zN:l3=l2:=by have:=r2.bA;have:=r3.bA;omega
   have Fg:l4=1:=by have:=r4.bA;have:=yQ.I.2.2.2;omega
   have hl5:l5<=8192:=E r5.bA;subst zN Fg;have HE:=V (show ZY.iu x=ZY.put (cD.wrap (l1:Int)) 1++((x.w.d.flatMap λn=>ZY.put (cD.wrap n) 2)++(ZY.nR x.w++((x.m.flatMap λn=>ZY.put (IntKind.u32.wrap n) 4)++(ZY.put (cD.wrap (x.b.d.getD 0 0)) 2++ZY.nR x.b)))) by unfold ZY.iu;rw[Fz.I,Fx.I];simp);obtain⟨q,Pl⟩:=J wr.heap.size;rw[Pl]at T9 g0 g1 g2 g3 g4 g5 g6;clear b2;go_wp2_with fail;clear g0 g1 g2 g3 g4 g5 g6;go_loopw [53] (λi wx=>∃(k:Nat) (v:aj),k<=l1/\i=Y Z k/\qq 105 B p q #[O a1 l1 c1,Y Z x.w.e,O a2 l3 c2,O a3 l3 c3,O a4 1 c4,Y Z x.b.e,O a5 l5 c5] w (ys++ZY.put (cD.wrap (l1:Int)) 1++(x.w.d.take k).flatMap λn=>ZY.put (cD.wrap n) 2) v wx) (λi _=>l1-(aX i).toNat)
   case atStart=>exact⟨0,v8,cK _,rfl,by simpa using T9.I⟩
   case round=>
    obtain⟨k,v1,hk,rfl,fE⟩:=hrel;have TA:=V fE;clear fE T9;by_cases o8:k<l1
    .obtain⟨p0,o0,rfl,e0⟩:=gG.I.cells U;have f3:=TA.I.kO.cell_of (e0 k o8);have yR:=V (ZY.KN (f:=λn=>ZY.put (cD.wrap n) 2) (z:=x.w.d) (j:=k) (by rw[gG.I.bA];exact o8));have hle:(ys++ZY.put (cD.wrap (l1:Int)) 1++(x.w.d.take k).flatMap λn=>ZY.put (cD.wrap n) 2).length<=2000000:=by
      rw[dG,dG,ZY.fI,ZY.sW (λx=>ZY.fI _ 2),List.length_take];omega
     generalize x.w.d.getD k 0=y at*;have Z4:=V (Uo _ _ _ _ y wr TA.I.wr U);clear hle;go_wp2_with fail;refine Z4.I.mono ?_;rintro e wy ⟨rfl,v3,fZ,oJ⟩;have T3:=V (TA.I.write fZ oJ);clear f3;exact Q1u
    .obtain rfl:k=l1:=U;have Bf:=V (show x.w.d.take k=x.w.d by rw[<-gG.I.bA];exact List.take_length);rw[Bf.I]at TA;have hle:(ys++ZY.put (cD.wrap (k:Int)) 1++x.w.d.flatMap λn=>ZY.put (cD.wrap n) 2).length<=2000000:=by
      rw[dG,dG,ZY.fI,ZY.sW (λx=>ZY.fI _ 2),gG.I.bA];omega
     obtain⟨zs,ud⟩:=J (ys++ZY.put (cD.wrap (k:Int)) 1++(x.w.d.flatMap λn=>ZY.put (cD.wrap n) 2));rw[ud]at TA hle;have Il:=V ud;clear ud;have g0:=bE TA.I.box;have NU:=V (ab8 B p v1 zs x.w a1 k c1 a2 l3 c2 wr TA.I.wr (cU.I.below TA.I.kO) (TA.I.abe cU.I) U U);unfold aS at NU;go_wp2_with fail;refine NU.I.mono ?_;rintro e wy ⟨rfl,v3,fZ,oJ⟩;have T3:=V (TA.I.write fZ oJ);clear g0 TA;have g0:=bE T3.I.box;have A5:=ZY.Pj x.w;rw[cU.I.bA]at A5;go_wp2_with fail;clear g0;go_loopw [68] (λi wz=>∃(t:Nat) (v:aj),t<=l3/\i=Y Z t/\qq 105 B p q #[O a1 k c1,Y Z x.w.e,O a2 l3 c2,O a3 l3 c3,O a4 1 c4,Y Z x.b.e,O a5 l5 c5] w (zs++ZY.nR x.w++(x.m.take t).flatMap λn=>ZY.put (IntKind.u32.wrap n) 4) v wz) (λi _=>l3-(aX i).toNat)
     case atStart=>exact⟨0,v3,cK _,rfl,by simpa using T3.I⟩
     case round=>
      obtain⟨t,v4,ht,rfl,fE⟩:=hrel;have TB:=V fE;clear fE;by_cases vR:t<l3
      .obtain⟨p0,o0,rfl,e0⟩:=fL.I.cells U;have f3:=TB.I.kO.cell_of (e0 t vR);have yR:=V (ZY.KN (f:=λn=>ZY.put (IntKind.u32.wrap n) 4) (z:=x.m) (j:=t) (by rw[fL.I.bA];exact vR));have H4:(zs++ZY.nR x.w++(x.m.take t).flatMap λn=>ZY.put (IntKind.u32.wrap n) 4).length<=3000000:=by
        rw[dG,dG,A5,ZY.sW (λx=>ZY.fI _ 4),List.length_take];omega
       generalize x.m.getD t 0=y at*;have Z4:=V (Ie _ _ _ _ (IntKind.u32.wrap y) wr TB.I.wr ⟨wrap_u32_nonneg _,Lb _⟩ U);clear H4;go_wp2_with fail;refine Z4.I.mono ?_;rintro e wv ⟨rfl,v5,fZ,oJ⟩;have T5:=V (TB.I.write fZ oJ);clear f3;go_wp2_with fail;go_roundw
       case rel=>exact⟨t+1,v5,U,Q2T,by have:=T5.I;simpa only[yR.I,lL]using this⟩
       case measure=>exact Q5q
      .obtain rfl:t=l3:=U;have Bf:=V (show x.m.take t=x.m by rw[<-fL.I.bA];exact List.take_length);rw[Bf.I]at TB;have H4:(zs++ZY.nR x.w++x.m.flatMap λn=>ZY.put (IntKind.u32.wrap n) 4).length<=3000000:=by
        rw[dG,dG,A5,ZY.sW (λx=>ZY.fI _ 4),fL.I.bA];omega
       obtain⟨us,Im⟩:=J (zs++ZY.nR x.w++(x.m.flatMap λn=>ZY.put (IntKind.u32.wrap n) 4));rw[Im]at TB H4;have HUs:=V Im;clear Im;have g0:=bE TB.I.box;obtain⟨p0,o0,rfl,e0⟩:=gU.I.cells U;have f3:=TB.I.kO.cell_of (e0 0 U);have Z4:=V (Uo _ _ _ _ (x.b.d.getD 0 0) wr TB.I.wr U);generalize x.b.d.getD 0 0=b0 at*;rw[eL]at f3;go_wp2_with fail;refine Z4.I.mono ?_;rintro e wv ⟨rfl,v5,fZ,oJ⟩;have T5:=V (TB.I.write fZ oJ);clear g0 TB f3;have g0:=bE T5.I.box;have NU:=V (ab8 B p v5 _ x.b (A ⟨p0,o0,G⟩) 1 c4 a5 l5 c5 wv T5.I.wr (jk.I.below T5.I.kO) (T5.I.abe jk.I) U (by rw[dG,ZY.fI];omega));unfold aS at NU;go_wp2_with fail;refine NU.I.mono ?_;rintro e wu ⟨rfl,v6',fZ,oJ⟩;have T6:=V (T5.I.write fZ oJ);clear g0;go_wp2_with fail;go_roundw
       case rel=>exact⟨j+1,v6',U,Q2T,by have:=T6.I.wr;rw[<-HUs.I,<-Il.I,<-Pk.I]at this;rw[HS.I,HE.I];simpa only[lL]using this,T6.I.kO⟩
       case measure=>exact Q5q
  .obtain rfl:j=n:=U;have HT:=V (show s.ps.take j=s.ps by rw[<-HL.I];exact List.take_length);rw[HT.I]at ST;have FA:ZY.enc s=pre++s.ps.flatMap ZY.iu:=by rw[<-Uz.I];unfold ZY.enc;rw[HL.I];simp only[List.nil_append,lL]
   have hlen:(pre++s.ps.flatMap ZY.iu).length<=1000000:=by
    have:=ZY.zT (L:=s.ps) (λp hp=>o7.I.2.2.2 p hp);rw[dG];have:=HL.I;omega
   have WB:=V (Pg B p v0 _ wr ST.I (λx hx=>ZY.aiT (s:=s) (by rw[FA];exact hx)) U);have HE:=V FA;generalize pre++s.ps.flatMap ZY.iu=ys at*;clear FA;go_wp2_with fail;refine WB.I.mono ?_;rintro e w8 ⟨va,vc,rfl,hr,uB,hf,hb⟩;have HR:=V hr;have UA:=V uB;have HF:=V (λx hx=>(⟨eH SB.I.size (hf x hx).1,(hf x hx).2⟩:w.heap.size<=x.block/\x.block<w8.heap.size));have HB:=V (SB.I.step hb);clear hr uB hf;go_wp2_with fail;go_ret2
   rw[HE.I];exact⟨va,vc,rfl,HR.I,UA.I,HF.I,HB.I⟩
theorem ar.cP (B:Nat) (S:Nat->Prop) (w:H):ar B S w w:=⟨rfl,rfl,rfl,bu _,λ_ _ _=>rfl⟩
theorem ar.trans' {B C:Nat} {S:Nat->Prop} {a c:H} (h:ar B S a b) (k:ar C S b c) (hB:B<=C):ar B S a c:=
 ⟨k.os.trans h.os,k.tape.trans h.tape,k.output.trans h.output,eH h.size k.size,λg hg hn=>(k.block g U hn).trans (h.block g hg hn)⟩
theorem ar.mono {B C:Nat} {S S':Nat->Prop} {a:H} (h:ar B S a b) (hB:C<=B) (hS:∀g,g<C->S g->S' g):ar C S' a b:=
 ⟨h.os,h.tape,h.output,h.size,λg hg hn=>h.block g U (λhs=>hn (hS g hg hs))⟩
theorem ar.cZ {S:Nat->Prop} {w:H} (h:ay w w w'):ar w S w w':=⟨h.os,h.tape,h.output,h.size,λb hb _=>h.block b hb⟩
theorem ar.vP {B:Nat} {S:Nat->Prop} {a:H} (h:ar B S a.drew b):ar B S a b:=⟨h.os,h.tape,h.output,h.size,h.block⟩
theorem Below.gh {B:Nat} {S:Nat->Prop} {w0 w:H} (hb:ay w0 w0 w) (h:ar B S w w') (hS:∀b,b<w0.heap.size->b<B/\¬S b):ay w0 w0 w':=
 ⟨h.os.trans hb.os,h.tape.trans hb.tape,h.output.trans hb.output,eH hb.size h.size,λb aT=>(h.block b (hS b aT).1 (hS b aT).2).trans (hb.block b aT)⟩
def di (S:Nat->Prop) (w:H) (ZX:H->Prop):Prop:=∀w',ar w S w w'->ZX w'
namespace di
variable {S:Nat->Prop} {w:H} {ZX Z5:H->Prop}
theorem aN (h:di S w ZX):ZX w:=h w (ar.cP _ _ _)
theorem step (h:di S w ZX) (k:ar w S w w1):di S w1 ZX:=λw' k'=>h w' (k.trans' k' k.size)
theorem below (h:di S w ZX) (k:ay w w w1):di S w1 ZX:=h.step (ar.cZ k)
theorem alloc (h:di S w ZX) (o:Obj):di S (li w o) ZX:=h.below (aD w o)
theorem bI (h:di S w ZX) (n:Nat):di S (w.drewN n) ZX:=h.below (below_drewN w n)
theorem and (h:di S w ZX) (k:di S w Z5):di S w λw=>ZX w/\Z5 w:=λw' b=>⟨h w' b,k w' b⟩
theorem mono (h:di S w ZX) (k:∀w,ZX w->Z5 w):di S w Z5:=λw' b=>k w' (h w' b)
theorem block {g:Nat} (hb:w.heap[g]? =A o) (hn:¬S g):di S w λw=>w.heap[g]? =A o:=λw' k=>(k.block g (bH hb) hn).trans hb
theorem new (o:Obj) (hn:¬S w.heap.size):di S (li w o) λw'=>w'.heap[w.heap.size]? =A o:=block (bZ w o) hn
theorem row (hr:ai k w a l zs) (hn:∀x,a=A x->¬S x.block):di S w λw=>ai k w a l zs:=λw' kp=>by
 obtain⟨h1,h2,h3,h4⟩:=hr;refine⟨h1,h2,h3,h4.imp id ?_⟩;rintro⟨b,off,rfl,hc⟩;refine⟨b,off,rfl,λj hj=> ?_⟩;have t8:=hc j hj;have aT:=jY w _ t8;unfold kY at t8⊢;rw[kp.block b aT (hn _ rfl)];exact t8
theorem kept (w:H):di S w λw'=>ar w S w w':=λ_ k=>k
end di
theorem ar.set {B g:Nat} {S:Nat->Prop} {a w:H} (h:ar B S a w) (hg:S g\/B<=g) (j:Nat) (v:aj):ar B S a (ss w ⟨g,j,G⟩ v):=
 ⟨h.os,h.tape,h.output,by rw[jR];exact h.size,λb hb hn=>(gj v (λe=>by subst e;rcases hg with hg|hg;exact hn hg;omega)).trans (h.block b hb hn)⟩
theorem ar.eJ {B g:Nat} {S:Nat->Prop} {a w:H} (h:ar B S a w) (hg:S g\/B<=g) (x y z:aj):ar B S a (ss (ss (ss w g x) ⟨g,1,G⟩ y) ⟨g,2,G⟩ z):=((h.set hg 0 x).set hg 1 y).set hg 2 z
theorem iE.below {g:Nat} {w:H} (h:iE g r w) (hb:ay w w w'):iE g r w':=by
 obtain⟨a,l,c,h1,h2,h3,h4⟩:=h;exact⟨a,l,c,bV h1 hb,h2.below hb,h3,h4⟩
theorem ar.gH {B:Nat} {S:Nat->Prop} {w:H} (h:ar B S w w') (hr:ai k w a l zs) (hg:∀x,a=A x->0<l->x.block<B/\¬S x.block):ai k w' a l zs:=by
 obtain⟨h1,h2,h3,h4⟩:=hr;refine⟨h1,h2,h3,?_⟩;rcases h4 with h4|⟨b,off,rfl,hc⟩
 .exact aM h4
 rcases Nat.eq_zero_or_pos l with h0|h0
 .exact aM h0
 obtain⟨g1,g2⟩:=hg _ rfl h0;refine bJ ⟨b,off,rfl,λj hj=> ?_⟩;exact Q2k
theorem iE.kept {g B:Nat} {w:H} {S:Nat->Prop} (h:iE g r w) (k:ar B S w w') (hB:g<B) (hS:∀b,b<=g->¬S b):iE g r w':=by
 obtain⟨a,l,c,h1,h2,h3,h4⟩:=h;exact⟨a,l,c,(k.block g hB (hS _ (bu _))).trans h1,k.gH h2 λx hx _=>by have:=h4 x hx;exact⟨U,hS _ U⟩,h3,h4⟩
theorem Own.kept {w:H} {B e sz C:Nat} {S:Nat->Prop} {xs:List aj} (h:w.ownsRow B e sz v n xs) (k:ar C S w w') (hS:∀b,v.ownBlock=A b->b<C/\¬S b):w'.ownsRow B e sz v n xs:=by
 refine⟨h.1,?_⟩;rcases h.2 with hn|⟨g,cap,cur,rfl,hb,hgg,rest⟩
 .exact .inl hn
 .exact .inr ⟨g,cap,cur,rfl,hb,(k.block g (hS g rfl).1 (hS g rfl).2).trans hgg,rest⟩
theorem App.field {T:dy} {B bo g sz:Nat} (f:Nat) {w:H} (ho:w.heap[bo]? =A (ag cs T (0,0))) (cy:bo<B) (hB:B<=w) (hv:∀b,vd.ownBlock=A b->B<=b)
 (aV:w1.ownsRow B ZU sz (O g n c) n ys) (eD:(li w o).grownBy w1 vd.ownBlock) (hg:B<=g):
 (ss w1 ⟨bo,f,G⟩ (O g n c)).heap[bo]? =A (ag (cs.setIfInBounds f (O g n c)) T (0,0))/\
 (ss w1 ⟨bo,f,G⟩ (O g n c)).ownsRow B ZU sz (O g n c) n ys/\ar B (λb=>b=bo) w (ss w1 ⟨bo,f,G⟩ (O g n c))/\B<=(ss w1 ⟨bo,f,G⟩ (O g n c)).heap.size:=by
 have hs:=eD.size;rw[bF]at hs;have hk:ar B (λb=>b=bo) w w1:=ar.grown (wq:=w) (W:=li w o) ((ar.cZ (aD w o)).mono hB (λ_ _ h=>h)) eD Q2Y hv;refine⟨dF (gI eD (dX ho _) (λe=>E (hv _ e))) _,ownsRow_setCell_other aV (λe=>by
  have e:A g=A bo:=e;injection e with e;omega) _,hk.set (aM rfl) _ _,Q4G⟩
theorem App.slot {B:Nat} {w:H} (hB:B<=w) (hv:∀b,vd.ownBlock=A b->B<=b) (eD:(li w o).grownBy w1 vd.ownBlock) (S:Nat->Prop):ar B S w w1:=
 ar.grown (wq:=w) (W:=li w o) ((ar.cZ (aD w o)).mono hB (λ_ _ h=>h)) eD Q2Y hv
theorem App.at' {B g ZW:Nat} (hv:∀b,vd.ownBlock=A b->B<=b) (lR:vd.ownBlock=A g\/g=ZW) (hH:B<=ZW):B<=g:=lR.elim (hv g) λh=>U
theorem Pn (q g:Nat) (b:ah) (w:H) (hq:w.heap[q]? =A (ag #[aP g,Y Z 0] 174 (0,0))) (hr:iE g ⟨b,0⟩ w):
 aA aq 82 #[aP q,aK true] w λe w'=>e=bG (aK true)/\w=w':=by
 have ZU:=V (KJ g ⟨b,0⟩ w hr);have c0:=bh hq 0 (v:=aP g) rfl;have c1:=bh hq 1 (v:=Y Z 0) rfl;have cI:(dH.fin ⟨b,0⟩==(4:Int))=ae:=by unfold dH.fin;split<;>rfl
 generalize dH.fin ⟨b,0⟩=z at*;clear hq hr;go_enter func82,ntmps82;go_wp2_with fail;refine cq ZU.I ?_;go_wp2_with fail;go_ret;exact⟨rfl,rfl⟩
namespace ZY
def eF (n:Int):Int:=cD.wrap n%256
theorem UF (z:ah):(z.flatMap λn=>put (cD.wrap n) 1)=z.map eF:=by
 induction z with
 |nil=>rfl
 |cons x z ih=>rw[rz,ih,List.map_cons];simp[put,eF]
theorem Po {n:Int} (h1: -128<=n) (h2:n<=127):aO.wrap (eF n)=n:=by
 unfold eF;rw[pT];simp[IntKind.wrap,nG,nD];omega
end ZY
theorem abk (z:ah) (h:j<z.length):(z.map ZY.eF).getD j 0=ZY.eF (z.getD j 0):=by
 simp[dV,h]
def aj1 (g:Nat) (t:az) (rest:ah) (a:aC) (l c:Nat) (w:H) (e:dN) (w':H):Prop:=
 ∃b m k,e=bG (aS a l c t.e b m k)/\ai aO w' b m t.z/\(∀x,b=A x->w.heap.size<=x.block)/\iE g ⟨rest,0⟩ w'/\jE g w w'
theorem abl (q g:Nat) (t:az) (rest:ah) (a:aC) (l c:Nat) (w:H) (hq:w.heap[q]? =A (ag #[aP g,Y Z 0] 174 (0,0))) (hr:iE g ⟨ZY.nR t++rest,0⟩ w) (cI:q≠g)
 (hd:ai Z w a l t.d) (ha:∀x,a=A x->x.block≠g) (hm:t.ok=true) (hz:∀x∈t.z,-128<=x/\x<=127) (hl:(ZY.nR t++rest).length<=1000000000):
 aA aq 151 #[aP q,O a l c] w (aj1 g t rest a l c w):=by
 have hg:g<w:=Q40;have aj2:q<w:=bH hq;have Pp:=V (λx (hx:a=A x)=>(⟨hd.bC (by have:=hd.bA;have:=(T.sI (by simpa[az.ok]using hm:T.aH t.d t.e t.z)).1;omega) hx,ha x hx⟩:x.block<w.heap.size/\x.block≠g));have KR:=V ((di.block (S:=λb=>b=g) hq cI).and ((di.row (S:=λb=>b=g) hd ha).and (di.kept w))|>.alloc (bj G 0 0 0 G 0 0)|>.and (di.new _ U));have gG:=V (hr.below (aD w (bj G 0 0 0 G 0 0)));have gJ:T.aH t.d t.e t.z:=by simpa[az.ok]using hm
 have eU:(⟨ZY.nR t++rest,0⟩:dH).u8=(ZY.eF t.e,⟨t.z.map ZY.eF++rest,0⟩):=by
  unfold ZY.nR;rw[ZY.UF,lL,dH.Io];rfl
 have cG:=T.sI gJ;have U1:=V (eU▸Ih g ⟨ZY.nR t++rest,0⟩ (li w (bj G 0 0 0 G 0 0)) gG.I hl);have eT:(⟨t.z.map ZY.eF++rest,0⟩:dH).take (Sh.size t.d)=(t.z.map ZY.eF,⟨rest,0⟩):=dH.Ld _ _ _ (by rw[ib];exact gJ.2.1.symm) gJ.1;have j8:(t.z.map ZY.eF++rest).length<=1000000000:=by
  unfold ZY.nR at hl;simp only[ZY.UF,dG,ib]at hl⊢;omega
 have SZ:=V (Hj a l c t.d);have TK:=V (λw h=>(eT▸KI g ⟨t.z.map ZY.eF++rest,0⟩ (Sh.size t.d) w h j8:aA _ _ _ w (Ig g (t.z.map ZY.eF,⟨rest,0⟩) w)));have TM:=V (λb m k w h0 h1=>(show decide (T.aH t.d t.e t.z)=true by simpa using gJ)▸jr a l c t.d t.e b m k t.z w h0 h1);have e2:wrap64 t.e=t.e:=by have:=gJ.2.2.1;exact IntWalk.wrap64_in _ ⟨U,U⟩
 have e1:aO.wrap (ZY.eF t.e)=t.e:=by have:=gJ.2.2.1;exact ZY.Po U U
 clear hq hr hd ha hm hl j8 eU eT gJ;go_enter func151,ntmps151;obtain⟨c0,-⟩:=(show _/\True from⟨bh KR.I.aN.1.1 0 (v:=aP g) rfl,trivial⟩);go_wp2_with fail;refine U1.I.mono ?_;rintro e w1 ⟨rfl,h1,h2⟩;have K1:=V (KR.I.step h2);have gG:=V h1;clear KR U1 h1 h2 c0;go_wp2_with fail;have K2:=V (K1.I.alloc (bj a l c t.e G 0 0)|>.and (di.new _ (E K1.I.aN.1.2.2.size)));have cU:=V (gG.I.below (aD w1 (bj a l c t.e G 0 0)));have cy:w.heap.size<w1:=by have:=K1.I.aN.2;exact bH this
 generalize hW:li w1 (bj a l c t.e G 0 0)=W at*;have UG:w1.heap.size<W:=by rw[<-hW,bF];omega
 clear hW gG K1;have c0:=bh K2.I.aN.1.1.1 0 (v:=aP g) rfl;refine cS (λw':H=>w' q=A (aP g)) ?_;refine cQ (w:=W.drew) c0 [0,1,2,3,4,8] (bL 5 λK hK=> ?_);go_simp;refine cq (SZ.I _ (K2.I.bI 1).aN.1.1.2.1) ?_;refine cY hK c0 6 λK hK=> ?_;go_simp;refine(TK.I _ (cU.I.below (below_drewN W 1))).mono ?_;rintro e' w2 ⟨a2,l2,c2,rfl,t1,t2,t3,t4,t5⟩;have K3:=V ((K2.I.bI 1).step t5);have HT:=V t1;have UH:=V (λx hx=>(t3 x hx:W.heap.size<=x.block));have fL:=V t4;have j8:=t1.bA;rw[ib]at j8;have ja:W.heap.size<=w2:=t5.size;clear t1 t2 t3 t4 t5 cU TK SZ;refine cY hK (bh K3.I.aN.1.1.1 0 rfl) 7 λK hK=> ?_;go_simp;refine bB hK (bh K3.I.aN.1.1.1 0 rfl) ?_;refine bW ?_;clear c0;have HB:=V (show w2.heap.size=w2.heap.size from rfl);obtain⟨B,hB⟩:=J w2.heap.size;rw[hB]at HB;obtain⟨bo,hbq⟩:=J w1.heap.size;rw[hbq]at K3 cy UG⊢;have yF:bo<B:=U;have oG:=V hB;have Ip:W.heap.size<=B:=U;clear hbq hB;go_wp2_with fail;go_loopw [25,7] (λi d wr=>∃j:Nat,j<=l2/\i=Y Z j/\tB 57 106 aO B bo (O a l c) (Y Z t.e) j (t.z.take j) wr/\ar B (λb=>b=bo) w2 wr) (λi d _=>l2-(aX i).toNat)
 case atStart=>exact⟨0,cK _,rfl,⟨_,K3.I.aN.2,gP _ _ _ _,Q3Y⟩,ar.cP _ _ _⟩
 case round=>
  obtain⟨j,hj,rfl,lW,fD⟩:=hrel;have HF:=V lW;have HK:=V fD;clear lW;by_cases aT:j<l2
  .obtain⟨vd,cy,aV,yG⟩:=HF.I;have iT:=V cy;have rI:=V aV;have jl:=fD.rows HT.I (λx hx=>by have:=HT.I.bC U hx;rw[oG.I]at this;have:=UH.I x hx;exact⟨U,U⟩);obtain⟨p0,o0,rfl,e0⟩:=jl.cells U;have c0:=e0 j aT;rw[abk _ U]at c0;have HS:=V (T.yz (z:=t.z) (k:=j) U);have hx: -128<=t.z.getD j 0/\t.z.getD j 0<=127:=hz _ (by rw[gB,cR (show j<t.z.length by omega)];exact List.getElem_mem _);have e3:=ZY.Po hx.1 hx.2;clear e0 jl cy aV fD HF hx;generalize t.z.getD j 0=x at*;obtain⟨zt,Dz⟩:=J (t.z.take j);rw[Dz]at rI HS;clear Dz;obtain⟨i0,hi,cF,cG,cB⟩:=fB tA;have r0:=aY iT.I;have i1:(0:Int)<=(j:Int):=U;have i2:(j:Int)<(l2:Int):=U;go_wp2_with (at_builtin;refine ko _ rfl _ _ 52 rfl B 106 i0 (Y aO 0) 1 1 underlying52 hi cF cG cB rfl eM vd j (zt.map (Y aO)) rfl (rI.I.alloc _) ⟨wr,0,G⟩ 1 1 [Y aO x] rfl rfl ?c1 ?c2 ?c3 ?c4 ?c5 ?c6 ?_)
   try(case c1=>exact kJ wr _ _)
   try(case c2=>simp[fV])
   try(case c3=>unfold eS;omega)
   try(case c4=>omega)
   try(case c5=>(try simp only[bF]);omega)
   try(case c6=>omega)
   intro g1 c1 w7 cC bM cN ei fC;have dh:=λb (h:vd.ownBlock=A b)=>(rI.I.lt b h).1;have vM:=V (gI bM (dX iT.I _) (λh=>E (dh _ h)));have pG:=V (Ff.step iT.I yF yG dh cC bM HK.I ei);clear r0 cC bM cN dh;have r0:=aY vM.I;exact Q0s
  .obtain rfl:j=l2:=U;obtain⟨vd,cy,aV,nP⟩:=HF.I;rw[show t.z.take j=t.z by rw[<-j8];exact List.take_length]at aV;obtain⟨pd,cd,rfl,gC⟩:=ai.nJ aV (λy hy=>yw (hz y hy).1 (hz y hy).2) U;have mN:=V gC;have jJ:=V (λx (hx:pd=A x)=>(aV.lt x.block Q3b).1);have K4:=V (fD.mono (C:=B) (S':=λb=>b=g\/b=bo) (bu _) (λb _ h=>bJ h));have gU:=V (fL.I.kept fD U (λb h1 h2=>U));have HQ4:=V (fD.bC (g:=q) U U K3.I.aN.1.1.1);have jK:=V (fD.bC (g:=w) U U K3.I.aN.1.2);have il:=V (fD.rows K3.I.aN.1.1.2.1 (λx hx=>by have:=(Pp.I x hx).1;exact⟨U,U⟩));have Le:=V fD.size;have lp:=V (K3.I.aN.1.1.2.2);have y0:=aY cy;have g0:=aY jK.I;have Lf:=V (TM.I pd j cd wr il.I mN.I);have CK:=V (Pn q g rest);rw[oG.I]at Le;have abm:=cy;clear aV cy gC HF HK fD nP TM;go_wp2_with fail;refine bY Lf.I λw5 hb=> ?_;have CK5:=V (CK.I w5 (bV HQ4.I hb) (gU.I.below hb));have jk:=V (gU.I.below hb);have UI:=V (mN.I.below hb);have abn:=V (bV jK.I hb);have lT:=V ((lp.I.trans' (K4.I.mono (C:=w) (S':=λb=>b=g) U (λb h1 h2=>U)) (bu _)).trans' (ar.cZ hb) (E Le.I));have y0:=aY (bV abm hb);have g0:=aY abn.I;clear Lf CK HQ4 gU mN jK K4 lp hb abm;go_wp2_with fail;refine cq CK5.I ?_;go_wp2_with fail;refine aZ (v:=aS a l c t.e pd j cd) ?_ rfl ⟨_,_,_,rfl,UI.I.eJ (λx hx=>E (jJ.I x hx)),λx hx=>E (jJ.I x hx),jk.I.kept ((ar.cP w (λb=>b=w.heap.size) _).eJ (aM rfl) _ _ _) hg (λb h1 h2=>U),lT.I.eJ (bJ (bu _)) _ _ _⟩;have t0:=aY (oV (a:=O a l c) (b:=Y Z t.e) (c:=O pd j cd) abn.I);simp[aW,results151,aS,go_sem,t0]
end
def fR (ok:Nat->Prop) (k:ey) (w:H) (a:aC) (l:Nat) (zs:ah):Prop:=ai k w a l zs/\∀x,a=A x->0<l->ok x.block
theorem fR.move {ok fJ:Nat->Prop} {B:Nat} (h:fR ok k w a l zs) (kp:ar B S w w') (hk:∀b,b<w.heap.size->ok b->b<B/\¬S b/\fJ b):fR fJ k w' a l zs:=
 ⟨kp.gH h.1 λx hx h0=>⟨(hk _ (h.1.bC h0 hx) (h.2 x hx h0)).1,(hk _ (h.1.bC h0 hx) (h.2 x hx h0)).2.1⟩,λx hx h0=>(hk _ (h.1.bC h0 hx) (h.2 x hx h0)).2.2⟩
theorem fR.nil (ok:Nat->Prop) (k:ey) (w:H):fR ok k w G 0 []:=⟨ai.zero _ _ _,λ_ h=>Q38⟩
theorem fR.lt (h:ai k w a l zs):fR (λb=>b<w.heap.size) k w a l zs:=⟨h,λ_ hx h0=>h.bC h0 hx⟩
structure Carry {α:Type} (ZU:(Nat->Prop)->H->Array aj->α->Prop) (sz:Nat):Prop where
 size:∀{ok w cs x},ZU ok w cs x->cs.size=sz
 one:∀{ok w cs x},ZU ok w cs x->∀v∈cs.toList,v.oneCell'=true
 move:∀{ok fJ:Nat->Prop} {w w':H} {cs x B} {S:Nat->Prop},ZU ok w cs x->ar B S w w'->(∀b,b<w.heap.size->ok b->b<B/\¬S b/\fJ b)->ZU fJ w' cs x
def cH (ZU:(Nat->Prop)->H->Array aj->α->Prop) (sz:Nat) (ok:Nat->Prop) (w:H) (a:aC) (n:Nat) (L:List α):Prop:=
 L.length=n/\n<=1000000000/\(n=0\/∃b off,a=A ⟨b,off,G⟩/\ok b/\∀(i:Nat) (x:α),L[i]? =A x->∃cs,ZU ok w cs x/\∀j v,cs[j]? =A v->w ⟨b,off+i*sz+j,G⟩=A v)
theorem cH.nil (ZU:(Nat->Prop)->H->Array aj->α->Prop) (sz:Nat) (ok:Nat->Prop) (w:H) (a:aC):cH ZU sz ok w a 0 []:=⟨rfl,U,aM rfl⟩
theorem cH.move {ZU:(Nat->Prop)->H->Array aj->α->Prop} {sz:Nat} (C:Carry ZU sz) (h0:0<sz) {ok fJ:Nat->Prop} {B:Nat} {L:List α} (h:cH ZU sz ok w a n L)
 (kp:ar B S w w') (hk:∀b,b<w.heap.size->ok b->b<B/\¬S b/\fJ b):cH ZU sz fJ w' a n L:=by
 obtain⟨h1,h2,h3⟩:=h;refine⟨h1,h2,?_⟩;rcases h3 with h3|⟨b,off,rfl,hb,hc⟩
 .exact aM h3
 by_cases hn:n=0
 .exact aM hn
 have aT:b<w:=by
  obtain⟨cs,he,hcs⟩:=hc 0 (L[0]'U) bK;have hs:=C.size he;exact jY w _ (hcs 0 (cs[0]'U) bK)
 have jX:=hk b aT hb;refine bJ ⟨b,off,rfl,jX.2.2,λi x hx=> ?_⟩;obtain⟨cs,he,hcs⟩:=hc i x hx;refine⟨cs,C.move he kp hk,λj v hv=> ?_⟩;have:=hcs j v hv;unfold kY at this⊢;rw[kp.block b jX.1 jX.2.1];exact this
theorem cH.get {ZU:(Nat->Prop)->H->Array aj->α->Prop} {sz:Nat} {ok:Nat->Prop} {L:List α} (h:cH ZU sz ok w a n L) {x:α} (hx:L[i]? =A x):
 ∃b off cs,a=A ⟨b,off,G⟩/\ok b/\ZU ok w cs x/\∀j v,cs[j]? =A v->w ⟨b,off+i*sz+j,G⟩=A v:=by
 obtain⟨h1,h2,h3⟩:=h;have hi:i<L.length:=(fX.1 hx).1;rcases h3 with h3|⟨b,off,rfl,hb,hc⟩
 .omega
 obtain⟨cs,he,hcs⟩:=hc i x hx;exact⟨b,off,cs,rfl,hb,he,hcs⟩
def qt (P:Nat->Prop) (v:aj):Nat->Prop:=λb=>v.ownBlock≠A b/\P b
def gy (ZU:(Nat->Prop)->H->Array aj->α->Prop) (sz:Nat) (T:dy) (B:Nat) (P:Nat->Prop) (w:H) (v:aj) (L:List α) (CS:List (Array aj)):Prop:=
 CS.length=L.length/\(∀(i:Nat) (x:α),L[i]? =A x->∃cs,CS[i]? =A cs/\ZU (qt P v) w cs x)/\w.ownsRow B T sz v L.length (CS.flatMap jf)
theorem gy.nil (ZU:(Nat->Prop)->H->Array aj->α->Prop) (sz:Nat) (T:dy) (B:Nat) (P:Nat->Prop) (w:H):gy ZU sz T B P w (O G 0 0) [] []:=⟨rfl,λi x h=>Q4b,gP _ _ _ _⟩
theorem gy.slice {ZU:(Nat->Prop)->H->Array aj->α->Prop} {sz:Nat} {T:dy} {B:Nat} {P:Nat->Prop} {L:List α} (h:gy ZU sz T B P w v L CS):∃a l c,v=O a l c:=by
 rcases h.2.2.2 with⟨h,_⟩|⟨g,c,cur,h,_⟩
 .exact⟨_,_,_,h⟩
 .exact⟨_,_,_,h⟩
theorem gy.move {ZU:(Nat->Prop)->H->Array aj->α->Prop} {sz:Nat} (C:Carry ZU sz) {T:dy} {B D:Nat} {P P':Nat->Prop} {L:List α} (h:gy ZU sz T B P w v L CS)
 (kp:ar D S w w') (hv:∀b,v.ownBlock=A b->b<D/\¬S b) (hk:∀b,b<w.heap.size->v.ownBlock≠A b->P b->b<D/\¬S b/\P' b):gy ZU sz T B P' w' v L CS:=
 ⟨h.1,λi x hx=>by
   obtain⟨cs,h1,h2⟩:=h.2.1 i x hx;exact⟨cs,h1,C.move h2 kp λb hb ho=>⟨(hk b hb ho.1 ho.2).1,(hk b hb ho.1 ho.2).2.1,ho.1,(hk b hb ho.1 ho.2).2.2⟩⟩,Own.kept h.2.2 kp hv⟩
theorem gy.app {ZU:(Nat->Prop)->H->Array aj->α->Prop} {sz:Nat} (C:Carry ZU sz) {T:dy} {B g:Nat} {P:Nat->Prop} {L:List α} {x:α}
 (h:gy ZU sz T B P w v L CS) (hx:ZU (qt P v) w cs x) (hn:n=L.length+1) (aV:w1.ownsRow B T sz (O g n c) n (CS.flatMap jf++cs.toList))
 (eD:(li w o).grownBy w1 v.ownBlock) (lR:v.ownBlock=A g\/g=(li w o).heap.size):gy ZU sz T B P w1 (O g n c) (L++[x]) (CS++[cs]):=by
 subst hn;have kp:ar w (λb=>v.ownBlock=A b) w w1:=
  ⟨eD.os.trans (aD w o).os,eD.tape.trans (aD w o).tape,eD.output.trans (aD w o).output,eH (aD w o).size eD.size,λb hb hn=>(eD.block b (iP hb (aD w o).size) (λe=>hn e.symm)).trans ((aD w o).block b hb)⟩
 have hk:∀b,b<w.heap.size->qt P v b->b<w.heap.size/\¬v.ownBlock=A b/\qt P (O g (L.length+1) c) b:=λb hb ho=>⟨hb,ho.1,λe=>by
  have e:A g=A b:=e;injection e with e;subst e;rcases lR with h|h
  .exact ho.1 h
  .rw[bF]at h;omega,ho.2⟩
 refine⟨by rw[dG,dG,h.1];rfl,λi y hy=> ?_,?_⟩
 .exact Q0q
 .rw[List.flatMap_append,dG];simpa using aV
theorem flat_get {sz:Nat}:∀(CS:List (Array aj)) (i j:Nat) (cs:Array aj) (v:aj),(∀c∈CS,c.size=sz)->CS[i]? =A cs->cs[j]? =A v->(CS.flatMap jf)[i*sz+j]? =A v
 | [],i,j,cs,v,_,h,_=>Q4b
 |c::CS,0,j,cs,v,hs,h,hv=>by
  obtain rfl:c=cs:=Q32;have hj:j<c.size:=(Array.getElem?_eq_some_iff.1 hv).1;rw[rz,Nat.zero_mul,nF,List.getElem?_append_left Q4m];simpa using hv
 |c::CS,i+1,j,cs,v,hs,h,hv=>by
  have hc:=hs c bK;have h1:CS[i]? =A cs:=Q32;rw[rz,List.getElem?_append_right (by simp[hc,Nat.add_mul];omega)];have:=flat_get CS i j cs v (λd hd=>hs d (by simp[hd])) h1 hv;rwa[show(i+1)*sz+j-c.toList.length=i*sz+j by simp[hc,Nat.add_mul];omega]
theorem gy.on {ZU:(Nat->Prop)->H->Array aj->α->Prop} {sz:Nat} (C:Carry ZU sz) (h0:0<sz) {T:dy} {B:Nat} {P ok:Nat->Prop} {L:List α} (h:gy ZU sz T B P w v L CS) (hn:L.length=n) (hl:n<=1000000000)
 (hP:∀b,b<w.heap.size->P b->ok b) (hB:∀b,b<w.heap.size->B<=b->ok b):∃a c,v=O a n c/\n<=c/\cH ZU sz ok w a n L/\∀x,a=A x->B<=x.block/\x.block<w.heap.size:=by
 obtain⟨h1,h2,h3⟩:=h;subst hn;have hCS:∀c∈CS,c.size=sz:=λc hc=>by
  obtain⟨i,hi,rfl⟩:=List.mem_iff_getElem.1 hc;obtain⟨cs,e1,e2⟩:=h2 i (L[i]'U) bK;rw[cR hi]at e1;injection e1 with e1;rw[e1];exact C.size e2
 rcases h3.2 with⟨rfl,hz⟩|⟨g,cap,cur,rfl,hb,hg,iJ,jH,kf,oK⟩
 .exact⟨G,0,by rw[hz],U,⟨rfl,hl,aM hz⟩,λx hx=>Q3t⟩
 .have aT:=bH hg;refine⟨A ⟨g,0,G⟩,cap,rfl,iJ,⟨rfl,hl,bJ ⟨g,0,rfl,hB g aT hb,λi x hx=> ?_⟩⟩,λx hx=>by cases hx;exact⟨hb,aT⟩⟩;obtain⟨cs,e1,e2⟩:=h2 i x hx;refine⟨cs,C.move e2 (ar.cP w (λ_=>False) w) λb hb ho=>⟨hb,id,hP b hb ho.2⟩,λj u hu=> ?_⟩;have hf:=flat_get CS i j cs u hCS e1 hu;have hi:i<L.length:=(fX.1 hx).1;have hj:j<sz:=by rw[<-C.size e2];exact(Array.getElem?_eq_some_iff.1 hu).1
  have hij:i*sz+j<L.length*sz:=by
   have:(i+1)*sz<=L.length*sz:=nZ _ U;exact Q1t
  rw[<-oK,List.getElem?_take_of_lt hij]at hf;refine bh hg (0+i*sz+j) (v:=u) ?_;rw[nF];simpa using hf
theorem xy (w:H) (cs:Array aj) (t:dy):∀j u,cs.toList[j]? =A u->(li w (ag cs t)).cell? ((⟨w,0,G⟩:Addr).add j)=A u:=by
 intro j u hj;have h:=bh (bZ w (ag cs t)) j (v:=u) Q4m;have e:(⟨w,0,G⟩:Addr).add j=⟨w,j,G⟩:=by
  unfold Addr.add;split<;>simp_all
 rw[e];exact h
section
attribute [local go_sem ↓] wp_at_zero wp_at_succ
def lq (ok:Nat->Prop) (u:H) (cs:Array aj) (p:bD):Prop:=∃a1 l1 c1 a2 l2 c2 a3 l3 c3 a4 l4 c4 a5 l5 c5,
 cs=#[O a1 l1 c1,Y Z p.w.e,O a2 l2 c2,O a3 l3 c3,O a4 l4 c4,Y Z p.b.e,O a5 l5 c5]/\
 fR ok Z u a1 l1 p.w.d/\fR ok aO u a2 l2 p.w.z/\fR ok cr u a3 l3 p.m/\fR ok Z u a4 l4 p.b.d/\fR ok aO u a5 l5 p.b.z
theorem lq.par {ok:Nat->Prop} {p:bD} (h:lq ok u cs p):jL u cs p:=by
 obtain⟨a1,l1,c1,a2,l2,c2,a3,l3,c3,a4,l4,c4,a5,l5,c5,h,r1,r2,r3,r4,r5⟩:=h;exact⟨a1,l1,c1,a2,l2,c2,a3,l3,c3,a4,l4,c4,a5,l5,c5,h,r1.1,r2.1,r3.1,r4.1,r5.1⟩
theorem iF:Carry lq 7 where
 size:=by rintro ok w cs x ⟨_,_,_,_,_,_,_,_,_,_,_,_,_,_,_,rfl,_⟩;rfl
 one:=by
  rintro ok w cs x ⟨_,_,_,_,_,_,_,_,_,_,_,_,_,_,_,rfl,_⟩;simp[fV]
 move:=by
  rintro ok fJ w w' cs x B S ⟨a1,l1,c1,a2,l2,c2,a3,l3,c3,a4,l4,c4,a5,l5,c5,h,r1,r2,r3,r4,r5⟩ kp hk;exact⟨a1,l1,c1,a2,l2,c2,a3,l3,c3,a4,l4,c4,a5,l5,c5,h,r1.move kp hk,r2.move kp hk,r3.move kp hk,r4.move kp hk,r5.move kp hk⟩
theorem lq.nil (ok:Nat->Prop) (u:H):lq ok u #[O G 0 0,Y Z 0,O G 0 0,O G 0 0,O G 0 0,Y Z 0,O G 0 0] bD.nil:=⟨G,0,0,G,0,0,G,0,0,G,0,0,G,0,0,rfl,fR.nil _ _ _,fR.nil _ _ _,fR.nil _ _ _,fR.nil _ _ _,fR.nil _ _ _⟩
abbrev rM:=cH lq 7
theorem cH.Bz {ok:Nat->Prop} {L:List bD} (h:rM ok w a n L):pH w a n L:=by
 obtain⟨h1,h2,h3⟩:=h;refine⟨h1,h2,h3.imp id ?_⟩;rintro⟨b,off,rfl,hb,hc⟩;refine⟨b,off,rfl,λi hi=> ?_⟩;have hx:L[i]? =A (L.getD i bD.nil):=by rw[gB,cR U];rfl
 obtain⟨cs,e1,e2⟩:=hc i _ hx;exact⟨cs,e1.par,e2⟩
def UJ (g:Nat) (p:bD) (rest:ah) (w:H) (e:dN) (w':H):Prop:=
 ∃cs,e=bG (aF cs)/\lq (λb=>w.heap.size<=b) w' cs p/\iE g ⟨rest,0⟩ w'/\jE g w w'
theorem FC {g:Nat} {y0 y1 y2 y3 y4 y5 y6:aj} (h:w.heap[g]? =A (ag #[x0,x1,x2,x3,x4,x5,x6] t (0,0))):
 (ss (ss (ss (ss (ss (ss (ss w g y0) ⟨g,1,G⟩ y1) ⟨g,2,G⟩ y2) ⟨g,3,G⟩ y3) ⟨g,4,G⟩ y4) ⟨g,5,G⟩ y5) ⟨g,6,G⟩ y6).heap[g]? =A (ag #[y0,y1,y2,y3,y4,y5,y6] t (0,0)):=
 by
 have h:=dF (f:=6) (dF (f:=5) (dF (f:=4) (dF (f:=3) (dF (f:=2) (dF (f:=1) (dF (f:=0) h y0) y1) y2) y3) y4) y5) y6;simp only[dC,dD,dE]at h;exact h
theorem oL {g:Nat} (h:w.heap[g]? =A (ag #[x0,x1,x2,x3,x4,x5,x6] t (0,0))) (y0 y1 y2 y3 y4 y5 y6:aj):
 (ss (ss (ss (ss (ss (ss (ss w g y0) ⟨g,1,G⟩ y1) ⟨g,2,G⟩ y2) ⟨g,3,G⟩ y3) ⟨g,4,G⟩ y4) ⟨g,5,G⟩ y5) ⟨g,6,G⟩ y6) g=A y0/\(ss (ss (ss (ss (ss (ss (ss w g y0) ⟨g,1,G⟩ y1) ⟨g,2,G⟩ y2) ⟨g,3,G⟩ y3) ⟨g,4,G⟩ y4) ⟨g,5,G⟩ y5) ⟨g,6,G⟩ y6) ⟨g,1,G⟩=A y1/\(ss (ss (ss (ss (ss (ss (ss w g y0) ⟨g,1,G⟩ y1) ⟨g,2,G⟩ y2) ⟨g,3,G⟩ y3) ⟨g,4,G⟩ y4) ⟨g,5,G⟩ y5) ⟨g,6,G⟩ y6) ⟨g,2,G⟩=A y2/\(ss (ss (ss (ss (ss (ss (ss w g y0) ⟨g,1,G⟩ y1) ⟨g,2,G⟩ y2) ⟨g,3,G⟩ y3) ⟨g,4,G⟩ y4) ⟨g,5,G⟩ y5) ⟨g,6,G⟩ y6) ⟨g,3,G⟩=A y3/\(ss (ss (ss (ss (ss (ss (ss w g y0) ⟨g,1,G⟩ y1) ⟨g,2,G⟩ y2) ⟨g,3,G⟩ y3) ⟨g,4,G⟩ y4) ⟨g,5,G⟩ y5) ⟨g,6,G⟩ y6) ⟨g,4,G⟩=A y4/\(ss (ss (ss (ss (ss (ss (ss w g y0) ⟨g,1,G⟩ y1) ⟨g,2,G⟩ y2) ⟨g,3,G⟩ y3) ⟨g,4,G⟩ y4) ⟨g,5,G⟩ y5) ⟨g,6,G⟩ y6) ⟨g,5,G⟩=A y5/\(ss (ss (ss (ss (ss (ss (ss w g y0) ⟨g,1,G⟩ y1) ⟨g,2,G⟩ y2) ⟨g,3,G⟩ y3) ⟨g,4,G⟩ y4) ⟨g,5,G⟩ y5) ⟨g,6,G⟩ y6) ⟨g,6,G⟩=A y6:=
 bE (FC h)
theorem ar.vS {B g:Nat} {a:H} (h:ar B S a w) (hg:S g\/B<=g) (y0 y1 y2 y3 y4 y5 y6:aj):
 ar B S a (ss (ss (ss (ss (ss (ss (ss w g y0) ⟨g,1,G⟩ y1) ⟨g,2,G⟩ y2) ⟨g,3,G⟩ y3) ⟨g,4,G⟩ y4) ⟨g,5,G⟩ y5) ⟨g,6,G⟩ y6):=
 (((((((h.set hg _ _).set hg _ _).set hg _ _).set hg _ _).set hg _ _).set hg _ _).set hg _ _)
theorem bD.UK {p:bD} (h:p.none=true):p=bD.nil:=by
 obtain⟨⟨d,e,z⟩,m,⟨d',e',z'⟩⟩:=p;simp only[bD.none,bD.same,T.same,bD.nil,az.zero,fS,decide_eq_true_eq]at h⊢;obtain⟨⟨h1,h2,h3⟩,h4,h5,h6,h7⟩:=h;obtain rfl:=eZ h1;obtain rfl:=eZ h3;obtain rfl:=eZ h4;obtain rfl:=eZ h5;obtain rfl:=eZ h7;obtain rfl:=eZ h2;obtain rfl:=eZ h6;rfl
abbrev yS:Array aj:=#[O G 0 0,Y Z 0,O G 0 0,O G 0 0,O G 0 0,Y Z 0,O G 0 0]
theorem aj3 (q g:Nat) (p:bD) (rest:ah) (w:H) (hq:w.heap[q]? =A (ag #[aP g,Y Z 0] 174 (0,0))) (hr:iE g ⟨ZY.iu p++rest,0⟩ w) (cI:q≠g)
 (hm:p.none=true) (hl:(ZY.iu p++rest).length<=1000000000):
 aA aq 87 #[aP q] w (UJ g p rest w):=by
 have hg:g<w:=Q40;obtain rfl:=bD.UK hm;have eU:(⟨ZY.iu bD.nil++rest,0⟩:dH).u8=(0,⟨rest,0⟩):=by
  unfold ZY.iu;rw[aR hm,lL,dH.Io];rfl
 have KR:=V ((di.block (S:=λb=>b=g) hq cI).and (di.kept w)|>.alloc (ag yS 105)|>.and (di.new _ U)|>.alloc (ag yS 105)|>.and (di.new _ Q2Y));have gG:=V ((hr.below (aD w (ag yS 105))).below (aD _ (ag yS 105)));have U1:=V (eU▸Ih g _ _ gG.I hl);have CK:=V (Pn q g);have c0:=bh KR.I.aN.1.1.1 0 (v:=aP g) rfl;clear hq hr hm hl eU;go_enter func87,ntmps87;go_wp2_with fail;refine U1.I.mono ?_;rintro e w1 ⟨rfl,h1,h2⟩;have K1:=V (KR.I.step h2);have cU:=V h1;clear h1 h2;go_wp2_with fail;refine cq (CK.I _ _ K1.I.aN.1.1.1 cU.I) ?_;obtain⟨f0,f1,f2,f3,f4,f5,f6⟩:=bE K1.I.aN.2;have g0:=bE K1.I.aN.1.2;have z0:=λj=>cE K1.I.aN.1.2 j;simp only[bF]at f0 f1 f2 f3 f4 f5 f6;go_wp2_with fail;refine aZ (v:=aF yS) ?_ rfl ⟨_,rfl,lq.nil _ _,cU.I.kept ((ar.cP w (λb=>b=w.heap.size) _).vS (aM rfl) _ _ _ _ _ _ _) hg (λb h1 h2=>U),K1.I.aN.1.1.2.vS (bJ (bu _)) _ _ _ _ _ _ _⟩;simp[aW,results87,go_sem,oL K1.I.aN.1.2]
end
theorem nj {g:Nat} {T:dy} (h:w.heap[g]? =A (ag #[x0,x1] T (0,0))):w g=A x0/\w ⟨g,1,G⟩=A x1:=⟨bh h 0 rfl,bh h 1 rfl⟩
theorem eQ {g:Nat} {T:dy} (h:w.heap[g]? =A (ag #[x0,x1,x2,x3] T (0,0))):
 w g=A x0/\w ⟨g,1,G⟩=A x1/\w ⟨g,2,G⟩=A x2/\w ⟨g,3,G⟩=A x3:=⟨bh h 0 rfl,bh h 1 rfl,bh h 2 rfl,bh h 3 rfl⟩
theorem df {g:Nat} {T:dy} (h:w.heap[g]? =A (ag #[x0,x1,x2,x3,x4,x5] T (0,0))):
 w g=A x0/\w ⟨g,1,G⟩=A x1/\w ⟨g,2,G⟩=A x2/\w ⟨g,3,G⟩=A x3/\w ⟨g,4,G⟩=A x4/\w ⟨g,5,G⟩=A x5:=
 ⟨bh h 0 rfl,bh h 1 rfl,bh h 2 rfl,bh h 3 rfl,bh h 4 rfl,bh h 5 rfl⟩
structure ky where
 z:List Int
 y:Int
def kz (ok:Nat->Prop) (u:H) (cs:Array aj) (x:ky):Prop:=∃a1 l1 c1,cs=#[O a1 l1 c1,Y Z x.y]/\fR ok aO u a1 l1 x.z
theorem iG:Carry kz 2 where
 size:=by rintro ok w cs x ⟨_,_,_,rfl,_⟩;rfl
 one:=by rintro ok w cs x ⟨_,_,_,rfl,_⟩;simp[fV]
 move:=by
  rintro ok fJ w w' cs x B S ⟨a1,l1,c1,h,r1⟩ kp hk;exact⟨a1,l1,c1,h,r1.move kp hk⟩
def vV (ok:Nat->Prop) (u:H) (cs:Array aj) (x:az):Prop:=∃a1 l1 c1 a2 l2 c2,cs=#[O a1 l1 c1,Y Z x.e,O a2 l2 c2]/\fR ok Z u a1 l1 x.d/\fR ok aO u a2 l2 x.z
theorem FF:Carry vV 3 where
 size:=by rintro ok w cs x ⟨_,_,_,_,_,_,rfl,_⟩;rfl
 one:=by rintro ok w cs x ⟨_,_,_,_,_,_,rfl,_⟩;simp[fV]
 move:=by
  rintro ok fJ w w' cs x B S ⟨a1,l1,c1,a2,l2,c2,h,r1,r2⟩ kp hk;exact⟨a1,l1,c1,a2,l2,c2,h,r1.move kp hk,r2.move kp hk⟩
theorem vV.at' {ok:Nat->Prop} {x:az} (h:vV ok u cs x):fu aO u (aF cs) x:=by
 obtain⟨a1,l1,c1,a2,l2,c2,rfl,r1,r2⟩:=h;exact⟨a1,l1,c1,a2,l2,c2,rfl,r1.1,r2.1⟩
theorem dM.on {B:Nat} {x:az} (h:dM aO B u v x):∃cs,v=aF cs/\vV (λb=>B<=b/\b<u.heap.size) u cs x:=by
 obtain⟨a,l,c,b,m,k,rfl,h1,h2,h3,h4⟩:=h;exact⟨_,rfl,a,l,c,b,m,k,rfl,⟨h1,λy hy h0=>⟨h3 y hy,h1.bC h0 hy⟩⟩,⟨h2,λy hy h0=>⟨h4 y hy,h2.bC h0 hy⟩⟩⟩
def iM (ok:Nat->Prop) (u:H) (cs:Array aj) (x:Lay):Prop:=cs=x.cells
theorem gL:Carry iM 7 where
 size:=by rintro ok w cs x rfl;rfl
 one:=by rintro ok w cs x rfl;simp[fV,Lay.cells]
 move:=by rintro ok fJ w w' cs x B S h kp hk;exact h
def rO (ok:Nat->Prop) (u:H) (cs:Array aj) (x:ah):Prop:=∃a l c,cs=#[O a l c]/\fR ok Z u a l x
theorem lX:Carry rO 1 where
 size:=by rintro ok w cs x ⟨_,_,_,rfl,_⟩;rfl
 one:=by rintro ok w cs x ⟨_,_,_,rfl,_⟩;simp[fV]
 move:=by
  rintro ok fJ w w' cs x B S ⟨a1,l1,c1,h,r1⟩ kp hk;exact⟨a1,l1,c1,h,r1.move kp hk⟩
theorem cH.below {ZU:(Nat->Prop)->H->Array aj->α->Prop} {sz:Nat} (C:Carry ZU sz) (h0:0<sz) {ok:Nat->Prop} {L:List α} (h:cH ZU sz ok w a n L) (hb:ay w w w'):cH ZU sz ok w' a n L:=
 h.move C h0 (ar.cZ (S:=λ_=>False) hb) λb hb h=>⟨hb,id,h⟩
theorem cH.bt {ZU:(Nat->Prop)->H->Array aj->α->Prop} {sz:Nat} (C:Carry ZU sz) (h0:0<sz) {ok:Nat->Prop} {L:List α} (h:cH ZU sz ok w a n L):aE w λw=>cH ZU sz ok w a n L:=λ_ hb=>h.below C h0 hb
structure dL where
 a:Int
 b:Int
 c:Int
 e:Int
 k:Int
 xs:List ky
abbrev dL.cells (d:dL) (x:aC) (l m:Nat):Array aj:=#[Y Z d.a,Y Z d.b,Y Z d.c,Y Z d.e,Y Z d.k,O x l m]
def dL.sz (d:dL):Int:=d.a*d.b*d.c
def dL.one (d:dL) (x:ky):Bool:=decide ((x.z.length:Int)=d.sz)&&(!decide ((-128:Int)∈x.z)&&ZX.within x.y 0 (d.k-1))
def dL.head (d:dL) (n:Int):Bool:=ZX.within d.a 1 8&&(ZX.within d.b 1 16&&(ZX.within d.c 1 16&&(ZX.within d.e (-64) 64&&(ZX.within d.k 2 10&&ZX.within n 1 64))))
def dL.aH (d:dL):Bool:=d.head (d.xs.length:Int)&& !(d.xs.any λx=> !d.one x)
section
attribute [local go_sem ↓] wp_at_zero wp_at_succ
theorem ajk (ZX:Nat) (jh:Array aj) (p:ky->Bool) (ok:Nat->Prop) (a:aC) (len cap:Nat) (L:List ky) (w:H) (h:cH kz 2 ok w a len L)
 (hF:∀cs x w',ay w w w'->kz ok w' cs x->aA aq ZX (#[aF cs]++jh) w' (dZ (aK (p x)) w')) (hc:∀args w,(callFunc ZX args).run aq w= .ok (.enter ZX args) w):
 aA aq 109 #[O a len cap,.func (.func ZX) #[] jh] w (Ph (L.any p) w):=by
 obtain⟨B,hB⟩:=J (L.any p);have HB:=V hB;rw[hB];clear hB;have H0:=V h;have HF:=V hF;have hl:=h.2.1;have L0:=V h.1;clear h hF;go_enter func109,ntmps109;go_wp2;go_loopw [8] (λi wr=>∃k:Nat,k<=len/\i=Y Z k/\(∀(j:Nat) (x:ky),j<k->L[j]? =A x->p x=ae)/\ay w w wr) (λi _=>len-(aX i).toNat)
 case atStart=>exact⟨0,cK _,rfl,(λj x hj=>U),eG _ _⟩
 case round=>
  obtain⟨k,hk,rfl,hs,cW⟩:=hrel;have HS:=V hs;have eV:=V cW;clear hs cW;by_cases aT:k<len
  .obtain⟨x,hx⟩:∃x,L[k]? =A x:=⟨L[k]' Q3O,Q2W⟩;have HX:=V hx;obtain⟨b,off,cs,rfl,_,hE,hcs⟩:=(H0.I.move iG U (ar.cZ (S:=λ_=>False) eV.I) (λb hb h=>⟨hb,id,h⟩)).get hx;have HE:=V hE;obtain⟨a1,l1,c1,rfl,-⟩:=hE;have g0:=hcs 0 _ rfl;have g1:=hcs 1 _ rfl;exact Q0e
  .exact Q0x
theorem ajl (ZX:Nat) (jh:Array aj) (p:ky->Bool) (ok:Nat->Prop) (a:aC) (len cap:Nat) (L:List ky) (w:H) (h:cH kz 2 ok w a len L)
 (hF:∀cs x w',ay w w w'->kz ok w' cs x->aA aq ZX (#[aF cs]++jh) w' (dZ (aK (p x)) w')) (hc:∀args w,(callFunc ZX args).run aq w= .ok (.enter ZX args) w):
 aA aq 44 #[O a len cap,.func (.func ZX) #[] jh] w (dZ (aK (L.any p)) w):=by
 have ZW:=V (ajk ZX jh p ok a len cap L w h hF hc);generalize L.any p=B at*;clear h hF hc;go_enter func44,ntmps44;go_wp2_with fail;refine ZW.I.mono ?_;rintro e w' ⟨n,rfl,hn,hb⟩;have HN:=V hn;have HB:=V hb;clear hn;go_wp2;go_ret;exact⟨pC HN.I,HB.I⟩
theorem ajm (ZX:Nat) (jh:Array aj) (p:az->Bool) (ok:Nat->Prop) (a:aC) (len cap:Nat) (L:List az) (w:H) (h:cH vV 3 ok w a len L)
 (hF:∀cs x w',ay w w w'->vV ok w' cs x->aA aq ZX (#[aF cs]++jh) w' (dZ (aK (p x)) w')) (hc:∀args w,(callFunc ZX args).run aq w= .ok (.enter ZX args) w):
 aA aq 266 #[O a len cap,.func (.func ZX) #[] jh] w (Ph (L.any p) w):=by
 obtain⟨B,hB⟩:=J (L.any p);have HB:=V hB;rw[hB];clear hB;have H0:=V h;have HF:=V hF;have hl:=h.2.1;have L0:=V h.1;clear h hF;go_enter func266,ntmps266;go_wp2;go_loopw [8] (λi wr=>∃k:Nat,k<=len/\i=Y Z k/\(∀(j:Nat) (x:az),j<k->L[j]? =A x->p x=ae)/\ay w w wr) (λi _=>len-(aX i).toNat)
 case atStart=>exact⟨0,cK _,rfl,(λj x hj=>U),eG _ _⟩
 case round=>
  obtain⟨k,hk,rfl,hs,cW⟩:=hrel;have HS:=V hs;have eV:=V cW;clear hs cW;by_cases aT:k<len
  .obtain⟨x,hx⟩:∃x,L[k]? =A x:=⟨L[k]' Q3O,Q2W⟩;have HX:=V hx;obtain⟨b,off,cs,rfl,_,hE,hcs⟩:=(H0.I.move FF U (ar.cZ (S:=λ_=>False) eV.I) (λb hb h=>⟨hb,id,h⟩)).get hx;have HE:=V hE;obtain⟨a1,l1,c1,a2,l2,c2,rfl,-⟩:=hE;have g0:=hcs 0 _ rfl;have g1:=hcs 1 _ rfl;have g2:=hcs 2 _ rfl;exact Q0e
  .exact Q0x
theorem ajn (ZX:Nat) (jh:Array aj) (p:az->Bool) (ok:Nat->Prop) (a:aC) (len cap:Nat) (L:List az) (w:H) (h:cH vV 3 ok w a len L)
 (hF:∀cs x w',ay w w w'->vV ok w' cs x->aA aq ZX (#[aF cs]++jh) w' (dZ (aK (p x)) w')) (hc:∀args w,(callFunc ZX args).run aq w= .ok (.enter ZX args) w):
 aA aq 218 #[O a len cap,.func (.func ZX) #[] jh] w (dZ (aK (L.any p)) w):=by
 have ZW:=V (ajm ZX jh p ok a len cap L w h hF hc);generalize L.any p=B at*;clear h hF hc;go_enter func218,ntmps218;go_wp2_with fail;refine ZW.I.mono ?_;rintro e w' ⟨n,rfl,hn,hb⟩;have HN:=V hn;have HB:=V hb;clear hn;go_wp2;go_ret;exact⟨pC HN.I,HB.I⟩
theorem ajo (ZX:Nat) (jh:Array aj) (p:Lay->Bool) (ok:Nat->Prop) (a:aC) (len cap:Nat) (L:List Lay) (w:H) (h:cH iM 7 ok w a len L)
 (hF:∀cs x w',ay w w w'->iM ok w' cs x->aA aq ZX (#[aF cs]++jh) w' (dZ (aK (p x)) w')) (hc:∀args w,(callFunc ZX args).run aq w= .ok (.enter ZX args) w):
 aA aq 267 #[O a len cap,.func (.func ZX) #[] jh] w (Ph (L.any p) w):=by
 obtain⟨B,hB⟩:=J (L.any p);have HB:=V hB;rw[hB];clear hB;have H0:=V h;have HF:=V hF;have hl:=h.2.1;have L0:=V h.1;clear h hF;go_enter func267,ntmps267;go_wp2;go_loopw [8] (λi wr=>∃k:Nat,k<=len/\i=Y Z k/\(∀(j:Nat) (x:Lay),j<k->L[j]? =A x->p x=ae)/\ay w w wr) (λi _=>len-(aX i).toNat)
 case atStart=>exact⟨0,cK _,rfl,(λj x hj=>U),eG _ _⟩
 case round=>
  obtain⟨k,hk,rfl,hs,cW⟩:=hrel;have HS:=V hs;have eV:=V cW;clear hs cW;by_cases aT:k<len
  .obtain⟨x,hx⟩:∃x,L[k]? =A x:=⟨L[k]' Q3O,Q2W⟩;have HX:=V hx;obtain⟨b,off,cs,rfl,_,hE,hcs⟩:=(H0.I.move gL U (ar.cZ (S:=λ_=>False) eV.I) (λb hb h=>⟨hb,id,h⟩)).get hx;have HE:=V hE;obtain⟨rfl⟩:=hE;have g0:=hcs 0 _ rfl;have g1:=hcs 1 _ rfl;have g2:=hcs 2 _ rfl;have g3:=hcs 3 _ rfl;have g4:=hcs 4 _ rfl;have g5:=hcs 5 _ rfl;have g6:=hcs 6 _ rfl;exact Q0e
  .exact Q0x
theorem ajp (ZX:Nat) (jh:Array aj) (p:Lay->Bool) (ok:Nat->Prop) (a:aC) (len cap:Nat) (L:List Lay) (w:H) (h:cH iM 7 ok w a len L)
 (hF:∀cs x w',ay w w w'->iM ok w' cs x->aA aq ZX (#[aF cs]++jh) w' (dZ (aK (p x)) w')) (hc:∀args w,(callFunc ZX args).run aq w= .ok (.enter ZX args) w):
 aA aq 220 #[O a len cap,.func (.func ZX) #[] jh] w (dZ (aK (L.any p)) w):=by
 have ZW:=V (ajo ZX jh p ok a len cap L w h hF hc);generalize L.any p=B at*;clear h hF hc;go_enter func220,ntmps220;go_wp2_with fail;refine ZW.I.mono ?_;rintro e w' ⟨n,rfl,hn,hb⟩;have HN:=V hn;have HB:=V hb;clear hn;go_wp2;go_ret;exact⟨pC HN.I,HB.I⟩
end
end Go.Proofs.YtcpmhoodeieanaaGreatDoor
