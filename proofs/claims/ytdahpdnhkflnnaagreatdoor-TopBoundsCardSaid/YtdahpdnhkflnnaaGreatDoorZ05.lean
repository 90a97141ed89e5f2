/-
  Contracts and laws for the law TopBounds, part 5 of 12; made small by a program of mine out of longer texts.
-/
import Derived.Test.YtdahpdnhkflnnaaGreatDoorZ04
set_option linter.unusedVariables false
set_option linter.unusedSimpArgs false
set_option linter.unusedSectionVars false
set_option linter.defProp false
set_option maxRecDepth 100000
set_option maxHeartbeats 64000000
namespace Go.Proofs.YtdahpdnhkflnnaaGreatDoor
open Value renaming int → zI, slice → zU, string → zV, bool → zW, agg → zX, tuple → zY
open IntKind renaming i64 → zi
open Ending renaming returned → zE
open Obj renaming cells → zC
open List renaming length → zN, getD → zG
open Or renaming inl → zQ, inr → zO
open Go.Proofs.Tryz
section
open Go.RowKit Go.Maps
section
variable {a bs:List (List Nat)} {x:List Nat} {b k o t:Nat} {w w':World}
def WL (w:World) (b o:Nat) (a:List (List Nat)):Prop:=b<w.heap.size/\∀j,j<zN a->w.rangeAt b (o+j*16) (wv (zG a j [])).toList
def wI {cs:List Value} (h:w.rangeAt b o cs) (hk:w'.heap[b]? =w.heap[b]?):w'.rangeAt b o cs:=λj v a=>(fN hk).trans (h j v a)
def WL.keep (h:WL w b o bs) (c:w.heap.size<=w'.heap.size) (hk:w'.heap[b]? =w.heap[b]?):WL w' b o bs:=⟨DU h.1 c,λj a=>wI (h.2 j a) hk⟩
def WL.Q (h:WL w b o bs) (a:zL w w'):WL w' b o bs:=h.keep a.size (a.block b h.1)
instance {w w':World} {b o:Nat} {bs:List (List Nat)}:Zm w w' (WL w b o bs) (WL w' b o bs):=⟨λhb h=>WL.Q h hb⟩
def WL.grown {b o g:Nat} (h:WL w b o bs) (c:w.grownBy w' (some g)) (a:b≠g):WL w' b o bs:=h.keep c.size (c.block b h.1 (by simpa using a))
def dX {ops:Array Oper} {S:World->Prop} {op:Oper} {a:Act} {x:Operand} (b o:Nat) {c:Array Value} (d:∀W,S W->W.rangeAt b o c.toList) (f:Hid (c.size=16)) (g:Region.wanted op (yielded ops a.tmps)=true:=by rfl) (e:op.op= .load 146 x:=by rfl) (h:a.eval x= .pointer (some ⟨b,o,none⟩):=by rfl):YieldsIf zz ops S op (zX c) a:=by have:=yieldsIf_load_mid g 146 x e b o h c.toList _ d underlying146 rfl (by rw[p7];simp[f.out]);simpa using this
def uL (hk:k+1<zN a):eA x (a.drop k) t=(ltB x (zG a k []) 0).bind λu=>(gI u).bind λb=>(ltB (zG a (k+1) []) x 0).bind λv=>(gI v).bind λq=>(et b q).bind λz=>(orB t z).bind λc=>eA x (a.drop (k+2)) c:=by
 have e1:a.drop k=zG a k []::zG a (k+1) []::a.drop (k+2):=by rw[Eq (by omega),Eq hk,DC,DC,DD (by omega),DD hk];rfl
 rw[e1];rfl
def xp (hk:¬k+1<zN a):eA x (a.drop k) t=Bm.ret t:=by
 by_cases h:k<zN a
 .have e1:a.drop k=[a[k]]:=by rw[Eq h,EA (by omega)]
  rw[e1];rfl
 rw[EA (by omega)];rfl
def SWM (a:Nat) (X:Array Value) (b p:Nat) (Y:Array Value) (W:World):Prop:=Box W a X 146/\W.rangeAt b p Y.toList
def RR (w:World) (g:Nat) (C:BC) (d:List Nd) (I:BB w g C d) (xs:List Nat) (hx:okW d xs) (b o m c:Nat) (A:List (List Nat)) (P:WL w b o A) (hm:zN A=m) (ar:m<=c) (ao:m<=40) (ab:∀ws∈A,okW d ws) (E:b≠g):Calls zz 131 #[zP g,zX (wv xs),zU (some ⟨b,o,none⟩) m c] w (fD bM okN w g C d (eA xs A 0 d)):=by
 have aq:=zl I;have ap:=P.1;have⟨a,HX,l,HM⟩:=zk4 I hx P hm;have T:Hid (∀k,k<m->okW d (zG A k [])):=zh λk hk=>by rw[<-hm] at hk;rw[DC,DD hk];exact ab _ (EE hk)
 have ag:Hid (eA xs A 0 d=eA xs (A.drop 0) 0 d):=zh (by rw[D5]);clear I hx P ab hm;go_enter func131,ntmps131;generalize am:eA xs A 0 d=PQ at*;clear am;have⟨Q,H⟩:=zvh (wv xs);rw[<-H];have U:Hid (Q.size=16):=zh (by rw[H,aw,HX.1]);go_upto_region 1 with fail;generalize af:w.alloc _=w1 at*;have⟨HB,p⟩:=zB1 af;clear af;replace a:=zh (a.Q HB);replace l:=zh (l.Q HB);go_wp2;go_loopw [7,8] (λs i wr=>∃(k t:Nat) (M:List Nd),k<=m+1/\i=zI zi k/\s=zI zi t/\BB wr g C M/\Ext d M/\okN M t/\Box wr w.heap.size Q 146/\WL wr b o A/\w.grownBy wr (some g)/\PQ=eA xs (A.drop k) t M) (λ_ i _=>m+1-(intOf i).toNat)
 .exact⟨0,0,d,DH _,rfl,rfl,a,Ext.refl d,by have:=a.2.two;show 0<_;omega,p,l,aH HB,ag⟩
 obtain⟨k,t,M,hk,rfl,rfl,I,r,ht,ad,hl,n,hq⟩:=hrel;have⟨a,x,F,p,l,f⟩:=zk6 I r ht ad hl n;have y:=zh hq;clear I r ht ad hl n hq;by_cases Z:k+1<m
 .have aa:(k:Int)+1<m:=by omega
  have an:(k:Int)<m:=by omega
  have k0:=zn0 k;have k1:(0:Int)<=(k:Int)+1:=by omega
  have kn:((k:Int)+1).toNat=k+1:=by omega
  have kw:IntKind.i64.wrap ((k:Int)+1)=(k:Int)+1:=Fi _ (by omega);have R:=zh (T k (by omega));have S:=zh (T (k+1) (by omega));replace y:=zh (show PQ=_ by rw[y,uL (by rw[HM];exact Z)]);have V:∀W,WL W b o A->W.rangeAt b (o+k*16) (wv (zG A k [])).toList:=λW h=>h.2 k (by rw[HM];omega);have X:∀W,WL W b o A->W.rangeAt b (o+(k+1)*16) (wv (zG A (k+1) [])).toList:=λW h=>h.2 (k+1) (by rw[HM];omega);generalize zG A k []=lo,zG A (k+1) []=hi at*;have⟨CL,L⟩:=zvh (wv lo);have⟨CH,K⟩:=zvh (wv hi);have ak:Hid (CL.size=16):=zh (by rw[L,aw,R.1]);have aj:Hid (CH.size=16):=zh (by rw[K,aw,S.1]);rw[<-L] at V;rw[<-K] at X;have⟨R1,R2⟩:=zk2 V X;go_upto_region 5 with fail;refine zhd (SWM w.heap.size Q b (o+k*16) CL) ⟨p,R1 _ l⟩ (λhS=> ?_);have B:zL wr wr.drew:=ae _;replace⟨p,l,a⟩:=zb3 p l a B;replace f:=zh (au f B);clear B;generalize wr.drew=w2 at*;refine zta 0 (zP g) rfl ?_;refine zta 1 (zP g) rfl ?_;simp only[zp];refine zt 2 (zX Q) rfl (oQ w.heap.size (λW N=>N.1) U) ?_;refine zta 3 (zU (some ⟨b,o,none⟩) m c) rfl ?_;refine zta 4 (zI zi k) rfl ?_;refine zta 5 (.pointer (some ⟨b,o+k*16,none⟩)) rfl ?_;simp only[zp];refine zt 6 (zX CL) rfl (dX b (o+k*16) (λW N=>N.2) ak) ?_;simp only[zp];clear hS;refine aC 7 rfl ?_;go_wp2;have D:=zh (tp w2 g C M a xs lo (HX.ext x) (R.ext x));rw[<-H,<-L] at D;refine zoC D y x f (λ_ J=>⟨rfl,zn J⟩) λw3 u d3 y a r HU n x f=> ?_;replace p:=zg p n;replace F:=zh (F.ext r);have j:=zh n;clear r n;replace l:=zh (l.grown j E);clear j;unfold bM;go_wp2;refine⟨⟨p,R1 _ l⟩, ?_⟩;refine aC 8 rfl ?_;go_wp2;have D:=zh (lp w3 g C d3 a u HU);refine zoC D y x f (λ_ J=>⟨rfl,zn J⟩) λw4 nn d4 y a r G n x f=> ?_;replace p:=zg p n;replace F:=zh (F.ext r);have j:=zh n;clear r n;replace l:=zh (l.grown j E);clear j;unfold bM;go_wp2;refine⟨⟨p,R1 _ l⟩, ?_⟩;refine aC 9 rfl ?_;go_wp2;refine⟨⟨p,R1 _ l⟩,zdn ?_⟩;go_upto_region 6 with fail;refine zhd (SWM w.heap.size Q b (o+(k+1)*16) CH) ⟨p,R2 _ l⟩ (λhS=> ?_);have B:zL w4 w4.drew:=ae _;replace⟨p,l,a⟩:=zb3 p l a B;replace f:=zh (au f B);clear B;generalize w4.drew=w5 at*;refine zta 0 (zP g) rfl ?_;refine zta 1 (zP g) rfl ?_;refine zta 2 (zU (some ⟨b,o,none⟩) m c) rfl ?_;refine zta 3 (zI zi k) rfl ?_;refine zta 4 (zI zi ((k:Int)+1)) rfl ?_;refine zta 5 (.pointer (some ⟨b,o+(k+1)*16,none⟩)) rfl ?_;simp only[zp];refine zt 6 (zX CH) rfl (dX b (o+(k+1)*16) (λW N=>N.2) aj) ?_;simp only[zp];refine zt 7 (zX Q) rfl (oQ w.heap.size (λW N=>N.1) U) ?_;simp only[zp];clear hS;refine aC 8 rfl ?_;go_wp2;have D:=zh (tp w5 g C d4 a hi xs (S.ext x) (HX.ext x));rw[<-H,<-K] at D;refine zoC D y x f (λ_ J=>⟨rfl,zn J⟩) λw6 v d6 y a r HV n x f=> ?_;replace p:=zg p n;replace F:=zh (F.ext r);replace G:=zh (G.ext r);have j:=zh n;clear r n;replace l:=zh (l.grown j E);clear j;unfold bM;go_wp2;refine⟨⟨p,R2 _ l⟩, ?_⟩;refine aC 9 rfl ?_;go_wp2;have D:=zh (lp w6 g C d6 a v HV);refine zoC D y x f (λ_ J=>⟨rfl,zn J⟩) λw7 q d7 y a r ai n x f=> ?_;replace p:=zg p n;replace F:=zh (F.ext r);replace G:=zh (G.ext r);have j:=zh n;clear r n;replace l:=zh (l.grown j E);clear j;unfold bM;go_wp2;refine⟨⟨p,R2 _ l⟩, ?_⟩;refine aC 10 rfl ?_;go_wp2;refine⟨⟨p,R2 _ l⟩,zdn ?_⟩;clear kn kw k1;have D:=zh (kg w7 g C d7 a nn q G ai);go_wp2;refine zoC D y x f (λ_ J=>⟨rfl,zn J⟩) λw8 z d8 y a r HZ n x f=> ?_;replace p:=zg p n;replace F:=zh (F.ext r);have j:=zh n;clear r n;replace l:=zh (l.grown j E);clear j;unfold bM;have D:=zh (tm w8 g C d8 a t z F HZ);go_wp2;refine D.mono ?_;intro e w9 Y;rcases Y.cases with⟨t',d9,hr,rfl,I,r,ht,n⟩|⟨hr,rfl,n⟩
  rotate_left
  .refine⟨rfl, ?_⟩;rw[y,cm hr];exact⟨aA f n,rfl⟩
  have ac:=y.trans (bind_some hr);replace y:=zh ac;have al:=zh ht;replace a:=zh I;replace p:=zg p n;replace x:=zh (x.trans r);replace f:=zh (aA f n);have j:=zh n;clear ac hr I r ht n Y;replace l:=zh (l.grown j E);clear j;unfold bM;go_wp2;go_roundw
  .exact⟨k+2,t',d9,by omega,by go_num,rfl,a,x,al,p,l,f,y⟩
  simp[intOf];omega
 have aa:¬(k:Int)+1<m:=by omega
 have ah:Hid (PQ=some (t,M)):=zh (by rw[y,xp (by rw[HM];exact Z)];rfl);go_wp2;go_ret;rw[ah];exact⟨f,rfl,a,x,F⟩
end
def SXZ (a ix b c x y:Nat) (W:World):Prop:=W.cell? ⟨a,ix,none⟩=some (zI zi x)/\W.cell? ⟨b,c,none⟩=some (zI zi y)
def sxz {W:World} {b ix c a x y:Nat} {X Y:Array Value} {T T':TypeId} (f:Box W b X T) (g:Box W c Y T') (d:X[ix]? =some (zI zi x)) (e:Y[a]? =some (zI zi y)):SXZ b ix c a x y W:=⟨f.A ix _ d,g.A a _ e⟩
def Ce {xs:List Nat} {y k j:Nat} {p:List Nat} {F:List Nat->Bm (List Nat)} (d:zN xs=16) (b:k+j<16):(aR (mf ((xs.take (16-k)).drop j) y) p).bind F=(et (zG xs j 0) y).bind λz=>(aR (mf ((xs.take (16-k)).drop (j+1)) y) (p++[z])).bind F:=by
 have c:(xs.take (16-k)).length=16-k:=by rw[D3];omega
 have e1:(xs.take (16-k)).getD j 0=zG xs j 0:=by rw[DC,DC,EY (by omega)]
 conv=>lhs;rw[bP (ws:=xs.take (16-k)) (k:=j) (by omega),e1]
 show(aR ((et _ y).bind λz=>(mf _ y).bind λa=>Bm.ret (z::a)) p).bind F=_;rw[fb,eq];congr 1;funext z;rw[i4]
def B7 {xs ys:List Nat} {k:Nat} {s:List Nat} (b:zN ys=16) (hk:k<16):iX xs (ys.drop k) k s=(aR (mf ((xs.take (16-k)).drop 0) (zG ys k 0)) (List.replicate k 0)).bind λp=>(fS s p 0).bind λa=>iX xs (ys.drop (k+1)) (k+1) a:=by
 conv=>lhs;rw[bP (ws:=ys) (k:=k) (by omega)]
 show(mf (xs.take (16-k)) _).bind _=_;unfold aR;rw[eq,D5];rfl
def Dr (w:World) (g:Nat) (C:BC) (d:List Nd) (q:BB w g C d) (xs ys:List Nat) (hx:okW d xs) (hy:okW d ys):Calls zz 209 #[zP g,zX (wv xs),zX (wv ys)] w (fD cU okW w g C d (iX xs ys 0 (aB 0 16) d)):=by
 have a5:=zl q;have⟨a,HX,HY⟩:=zk3 q hx hy;have aS:Hid ((wv z16).size=16):=zh (by rw[aw];rfl);have T:=zh (dS q.2 0);have ah:Hid (iX xs ys 0 (aB 0 16) d=iX xs (ys.drop 0) 0 (aB 0 16) d):=zh (by rw[D5]);generalize a3:iX xs ys 0 (aB 0 16) d=PQ at*;clear q hx hy a3;go_enter func209,ntmps209;have⟨CX,ac⟩:=zvh (wv xs);have⟨CY,ad⟩:=zvh (wv ys);rw[<-ac,<-ad];go_upto_region 1 with fail;rw[<-dU];generalize N:w.alloc _=zw1 at*;generalize aM:zw1.alloc _=zw2 at*;generalize aN:zw2.alloc _=w1 at*;have⟨Y,f,h,l⟩:=zB3 N aM aN;clear N aM aN;replace a:=zh (a.Q Y);have aV:=zh l.lt;go_wp2;refine zK (dP w1 0 (by decide)) λw2 q=> ?_;have aU:=zh q.size;replace⟨a,f,h,l,Y⟩:=zb5 a f h l Y q;clear q;unfold cU;have⟨K0,av⟩:=zv (aB 0 16);rw[<-av] at T ah⊢;have ak:Hid ((wv K0).size=16):=zh (by rw[aw,T.1]);have Z:Hid ((wv K0).all (·.oneCell')=true):=zh (bz _);have⟨KS,ag⟩:=zvh (wv K0);rw[<-ag] at ak Z⊢;clear av;have aq:Hid (Box (w2.alloc (zC F0 146)) w2.heap.size F0 146):=zh (Box.new w2 _ _);have al:Hid ((F0:Array Value).size=16):=zh rfl;have E:=ab w2 (zC F0 146);replace⟨a,f,h,l,Y⟩:=zb5 a f h l Y E;clear E;go_upto_region 2 with(refine aP rfl _ _ rfl w2.heap.size KS (by rfl) (by rfl) aq al ak Z ?_;intro w3 m n);have D:Hid (w.heap.size+1+1<w2.heap.size):=zh (by have:=aV.out;have:=aU.out;omega);replace a:=zh (a.grownBox aq (by decide) (by have:=D.out;omega) n);replace f:=zh (ap f n (by have:=D.out;omega));replace h:=zh (ap h n (by have:=D.out;omega));replace l:=zh (ap l n (by have:=D.out;omega));have c:Hid (w.grownBy w3 (some g)):=zh (aJ (aH Y) n (by have:=D.out;omega));rw[ag] at m;rw[ac] at f;rw[ad] at h;generalize w2.heap.size=gs at*;go_wp2;go_loopw [12] (λi wr=>∃(k:Nat) (s:List Nat) (U:List Nd),k<=16/\i=zI zi k/\BB wr g C U/\Ext d U/\okW U s/\Box wr w.heap.size (wv xs) 146/\Box wr (w.heap.size+1) (wv ys) 146/\Box wr (w.heap.size+1+1) (wv z16) 146/\Box wr gs (wv s) 146/\w.grownBy wr (some g)/\PQ=iX xs (ys.drop k) k s U) (λi _=>16-(intOf i).toNat)
 .exact⟨0,K0,d,DH _,rfl,a,Ext.refl d,T,f,h,l,m,c,ah⟩
 obtain⟨k,s,U,hk,rfl,q,F,hs,L,M,J,K,A,hq⟩:=hrel;have⟨a,G,o,f,h,l⟩:=zk6 q F hs L M J;have⟨m,c,r⟩:=zk3 K A hq;have a7:=D.out;have ay:=c.size;clear q F hs L M J K A hq;have I:Hid ((wv s).size=16):=zh (by rw[aw,o.1]);have H1:Hid ((wv s).all (·.oneCell')=true):=zh (bz _);by_cases V:k<16
 .have aG:(k:Int)<16:=by omega
  have B:=zh ((HY.ext G).at V);have GY:=zh (cG (ws:=ys) (k:=k) (by rw[HY.1];exact V));replace r:=zh (show PQ=_ by rw[r,B7 HY.1 V]);generalize zG ys k 0=y at*;go_upto_region 6 with fail;rw[<-dU];generalize N:wr.alloc _=w4 at*;have⟨E,t⟩:=zA1 N;clear N;have a6:gs<wr.heap.size:=m.lt;replace⟨a,f,h,l,m⟩:=zb5 a f h l m E;replace c:=zh (au c E);clear E;have a8:w.heap.size<=wr.heap.size:=ay;generalize wr.heap.size=gp at*;go_wp2;have⟨wo,aK⟩:=zv (w4:World);rw[<-aK] at a f h l m t c⊢;clear aK;go_loopw [10] (λi X=>∃(j:Nat) (cur:List Nat) (d2:List Nd),k+j<=16/\i=zI zi ((k+j:Nat):Int)/\BB X g C d2/\Ext d d2/\okW d2 s/\okW d2 cur/\okN d2 y/\Box X w.heap.size (wv xs) 146/\Box X (w.heap.size+1) (wv ys) 146/\Box X (w.heap.size+1+1) (wv z16) 146/\Box X gs (wv s) 146/\Box X gp (wv cur) 146/\w.grownBy X (some g)/\PQ=((aR (mf ((xs.take (16-k)).drop j) y) (cur.take (k+j))).bind λp=>(fS s p 0).bind λS=>iX xs (ys.drop (k+1)) (k+1) S) d2) (λi _=>16-(intOf i).toNat)
  .exact⟨0,z16,U,by omega,rfl,a,G,o,sO a.2,B,f,h,l,m,t,c,by
   have e:z16.take (k+0)=List.replicate k 0:=by unfold z16;rw[List.take_replicate];congr 1;omega
   rw[e];exact r⟩
  obtain⟨j,cur,d2,hj,rfl,q,F,hs,R,hy,L,M,J,K,aL,A,hq⟩:=hrel;have⟨a,G,o,P,B,f⟩:=zk6 q F hs R hy L;have⟨h,l,m,t,c,r⟩:=zk6 M J K aL A hq;clear q F hs R hy L M J K aL A hq;by_cases aD:k+j<16
  .have aE:(k:Int)+(j:Int)<16:=by omega
   have j0:=zn0 j;have k0:=zn0 k;have ba:(0:Int)<=(k:Int)+(j:Int):=by omega
   have a9:(j:Int)<16:=by omega
   have aO:=zh ((HX.ext G).at (k:=j) (by omega));have GX:=zh (cG (ws:=xs) (k:=j) (by rw[HX.1];omega));have GC:=zh (cG (ws:=cur) (k:=k+j) (by rw[P.1];exact aD));replace r:=zh (show PQ=_ by rw[r,Ce HX.1 aD]);generalize zG xs j 0=x,zG cur (k+j) 0=f0 at*;have bb:((k:Int)+(j:Int)).toNat=k+j:=by omega
   have kw:IntKind.i64.wrap ((k:Int)+(j:Int)-(k:Int))=(j:Int):=by rw[show(k:Int)+(j:Int)-(k:Int)=(j:Int) by omega];exact Fi _ (by omega)
   go_upto_region 9 with fail;refine zhd (SXZ w.heap.size j (w.heap.size+1) k x y) (sxz f h GX GY) (λhS=> ?_);have Q:zL wr wr.drew:=ae _;replace⟨f,h,l,m,t⟩:=zb5 f h l m t Q;replace a:=zb a Q;replace c:=zh (au c Q);clear Q;generalize wr.drew=w5 at*;refine zta 0 (zI zi ((k:Int)+(j:Int))) rfl ?_;refine zta 1 (zP g) rfl ?_;refine zta 2 (zI zi ((k:Int)+(j:Int))) rfl ?_;refine zta 3 (zI zi k) rfl ?_;refine zta 4 (zI zi j) rfl ?_;refine zta 5 (.pointer (some ⟨w.heap.size,j,none⟩)) rfl ?_;simp only[zp];refine zt 6 (zI zi x) rfl (zQ ⟨by rfl,λW hW=>by obtain⟨s1,s2⟩:=hW;go_simp⟩) ?_;refine zta 7 (zI zi k) rfl ?_;refine zta 8 (.pointer (some ⟨w.heap.size+1,k,none⟩)) rfl ?_;simp only[zp];refine zt 9 (zI zi y) rfl (zQ ⟨by rfl,λW hW=>by obtain⟨s1,s2⟩:=hW;go_simp⟩) ?_;simp only[zp];clear hS kw;refine aC 10 rfl ?_;go_wp2;have CO:=zh (kg w5 g C d2 a x y aO B);refine zoC CO r G c (λ_ hn=>⟨rfl,zn hn⟩) λw6 z d3 r a F HZ A G c=> ?_;replace⟨f,h,l,m,t⟩:=zg5 f h l m t A;replace o:=zh (o.ext F);replace P:=zh (P.ext F);replace B:=zh (B.ext F);clear F A;unfold bM;go_wp2;refine⟨sxz f h GX GY, ?_⟩;refine aC 11 rfl ?_;go_wp2;refine⟨sxz f h GX GY, ?_⟩;have xz:=t.frozen (k+j);have xl:=t.lt;have x1:=t.A (k+j) _ GC;refine aC 12 rfl ?_;go_wp2;have aa:=zh (a.setBox t (by decide) (by omega) (k+j) (zI zi z));have a1:=zh (f.setNe ⟨gp,(k+j),none⟩ (zI zi z));have a2:=zh (h.setNe ⟨gp,(k+j),none⟩ (zI zi z));have aZ:=zh (l.setNe ⟨gp,(k+j),none⟩ (zI zi z));have a0:=zh (m.setNe ⟨gp,(k+j),none⟩ (zI zi z));have ao:=zh (t.set_ (k+j) (zI zi z));have af:=zh (cx (i:=(k+j)) (u:=(zI zi z)) c (b:=gp) (by omega));clear xz xl x1;generalize w6.setCell ⟨gp,(k+j),none⟩ (zI zi z)=w7 at*;rw[jo] at ao;have a:=aa;have c:=af;have t:=ao;have f:=a1;have h:=a2;have l:=aZ;have m:=a0;replace P:=zh (P.set (k+j) HZ);have aX:=zh (fm (x:=z) (show(k+j)<zN cur by have:=P.1;rw[Er] at this;omega));have a4:=zh (iT (cur:=cur) (k:=(k+j)) (x:=z));generalize cur.set (k+j) z=cur' at*;refine⟨sxz f h GX GY,zdn ?_⟩;go_wp2;go_roundw
   .exact⟨j+1,cur',d3,by omega,by go_num,a,G,o,P,B,f,h,l,m,t,c,by have e:cur'.take (k+(j+1))=cur.take (k+j)++[z]:=aX;rw[e];exact r⟩
   simp[intOf];omega
  have aE:¬(k:Int)+(j:Int)<16:=by omega
  have az:k+j=16:=by omega
  have aT:Hid ((wv cur).size=16):=zh (by rw[aw,P.1]);replace r:=zh (show PQ=((fS s cur 0).bind λS=>iX xs (ys.drop (k+1)) (k+1) S) d2 by have e1:cur.take (k+j)=cur:=En (by rw[P.1];omega);have e2:(xs.take (16-k)).drop j=[]:=EA (by rw[D3];omega);rw[r,e1,e2];show(aR (Bm.ret []) cur).bind _ d2=_;rw[iZ];rfl);clear az;go_wp2_with(first|(refine bu rfl _ rfl gs rfl m I ?_)|(refine bu rfl _ rfl gp rfl t aT ?_));have CO:=zh (Bi wr g C d2 a s cur o P 0 (by have:=a.2.two;show 0<_;omega));refine CO.mono ?_;intro e w6 ax;rcases ax.cases with⟨S,d3,hr,rfl,q,F,ht,A⟩|⟨hr,rfl,A⟩
  rotate_left
  .refine⟨rfl, ?_⟩;rw[r,cm hr];exact⟨aA c A,rfl⟩
  have aI:=r.trans (bind_some hr);replace r:=zh aI;have aj:=zh ht;replace a:=zh q;replace⟨f,h,l,m⟩:=zg4 f h l m A;replace G:=zh (G.trans F);replace c:=zh (aA c A);clear aI hr q F ht A ax;unfold cU;have am:Hid ((wv S).size=16):=zh (by rw[aw,aj.1]);have an:Hid ((wv S).all (·.oneCell')=true):=zh (bz _);have⟨RS,ai⟩:=zvh (wv S);rw[<-ai] at am an⊢;go_wp2_with(refine aP rfl _ _ rfl gs RS (by rfl) (by rfl) m I am an ?_;intro w7 ar H);rw[ai] at ar;go_roundw
  .exact⟨k+1,S,d3,by omega,by go_num,a.grownBox m (by decide) (by omega) H,G,aj,ap f H,ap h H,ap l H,ar,aJ c H,r⟩
  simp[intOf];omega
 have aG:¬(k:Int)<16:=by omega
 have aF:k=16:=by omega
 subst aF;have aQ:Hid (PQ=some (s,U)):=zh (by rw[r,EA (by rw[HY.1];exact DE _)];rfl);go_wp2_with(first|(refine bu rfl _ rfl gs rfl m I ?_)|(refine aP rfl _ _ rfl (w.heap.size+1+1) (wv s) (by rfl) (by rfl) l aS I H1 ?_;intro w4 aY n));refine D7 (v:=zX (wv s)) (aW results209 _ rfl aY I) rfl ?_;rw[aQ];exact⟨aJ c n,rfl,a.grownBox l (by decide) (by omega) n,G,o⟩
section
variable {b:Bool} {m:Int} {os:List (Option Nat)} {a p x:List Nat} {F:List Nat->Bm (List Nat)} {f i j k s t:Nat}
def qx {o:Option Nat} (h:os[i]? =some o):os.drop i=o::os.drop (i+1):=by obtain⟨hi,rfl⟩:=D0.1 h;exact Eq hi
def pH (hi:i<zN a) (c:os[i]? =some (some f)):(aR (cK t (a.drop i) (os.drop i)) p).bind F=(et t f).bind λz=>(orB (zG a i 0) z).bind λb=>(aR (cK t (a.drop (i+1)) (os.drop (i+1))) (p++[b])).bind F:=by rw[bP (ws:=a) (k:=i) hi,qx c];show(aR ((et t f).bind λz=>(orB _ z).bind λb=>(cK t _ _).bind λr=>Bm.ret (b::r)) p).bind F=_;simp only[fb,eq];congr 1;funext z;congr 1;funext b;have:=lD (cK t (a.drop (i+1)) (os.drop (i+1))) b p;rw[<-this,eq]
def pI (hi:i<zN a) (b:os[i]? =some none):(aR (cK t (a.drop i) (os.drop i)) p).bind F=(aR (cK t (a.drop (i+1)) (os.drop (i+1))) (p++[zG a i 0])).bind F:=by rw[bP (ws:=a) (k:=i) hi,qx b];show(aR ((cK t _ _).bind λr=>Bm.ret (_::r)) p).bind F=_;rw[i4]
def yw (b:zN x=16) (a:s<16) (hi:i<16):(gN true s x)[i]? =some (if s<=i then some (zG x (i-s) 0) else none):=by
 unfold gN;rw[DP rfl];by_cases h:s<=i
 .rw[DP h,DX (by rw[Es];exact h),Es,Ed,EY (by omega),DD (by omega),DC,DD (by omega)];rfl
 rw[DK h,D6 (by rw[Es];omega),E7,DP (by omega)]
def tS (b:zN x=16) (c:s<16) (hi:i<16):(gN false s x)[i]? =some (if i+s<16 then some (zG x (i+s) 0) else none):=by
 unfold gN;rw[DK (by decide)];have a:((x.drop s).map some).length=16-s:=by rw[DT,ET,b]
 by_cases h:i+s<16
 .rw[DP h,D6 (by rw[a];omega),Ed,Fh,DD (by omega),DC,DD (by omega)];simp only[Nat.add_comm s i,ES,EQ]
 rw[DK h,DX (by rw[a];omega),E7,DP (by rw[a];omega)]
def rC (b:zN a=16):(aR (cK t (a.drop 16) (os.drop 16)) p).bind F=F p:=by rw[EA (Nat.le_of_eq b)];show(aR (Bm.ret []) p).bind F=_;rw[iZ];rfl
def VD (c:zN x=16) (hk:k<16) (a:j<16) (hm:(m=(k:Int)/\b=true)\/(m= -(k:Int)/\b=false)) (e:(j:Int)-m=(f:Int)) (d:f<16):(gN b k x)[j]? =some (some (zG x f 0)):=by
 rcases hm with⟨rfl,rfl⟩|⟨rfl,rfl⟩
 .rw[yw c hk a,DP (by omega),show f=j-k by omega]
 rw[tS c hk a,DP (by omega),show f=j+k by omega]
def XJ (c:zN x=16) (hk:k<16) (a:j<16) (hm:(m=(k:Int)/\b=true)\/(m= -(k:Int)/\b=false)) (d:¬(0<=(j:Int)-m/\(j:Int)-m<16)):(gN b k x)[j]? =some none:=by
 rcases hm with⟨rfl,rfl⟩|⟨rfl,rfl⟩
 .rw[yw c hk a,DK (by omega)]
 rw[tS c hk a,DK (by omega)]
def ri {cur:List Nat} (hk:k<zN cur):cur.take (k+1)=cur.take k++[zG cur k 0]:=by rw[Ep,DD hk,DC,DD hk];rfl
end
def F9 (b:Bool) (dl:Int) (aK:dl=1/\b=true\/dl= -1/\b=false) (w:World) (g:Nat) (C:BC) (d:List Nd) (A:BB w g C d) (xs ys:List Nat) (hx:okW d xs) (hy:okW d ys):Calls zz 211 #[zP g,zX (wv xs),zX (wv ys),zI zi dl] w (fD cU okW w g C d (bV b xs ys 16 0 (aB 0 16) d)):=by
 have bj:=zl A;have a1:=zh aK;clear aK;have⟨a,HX,HY⟩:=zk3 A hx hy;have a5:Hid ((wv z16).size=16):=zh (by rw[aw];rfl);have ad:=zh (dS A.2 0);have af:Hid (bV b xs ys 16 0 (aB 0 16) d=bV b xs ys 16 0 (aB 0 16) d):=zh rfl;have⟨U,ai⟩:=zv (bV b xs ys 16 0 (aB 0 16) d);replace af:Hid (U=bV b xs ys (16-0) 0 (aB 0 16) d):=zh ai;rw[<-ai];clear A hx hy ai;go_enter func211,ntmps211;have⟨CX,aq⟩:=zvh (wv xs);have⟨CY,aa⟩:=zvh (wv ys);rw[<-aq,<-aa];have a7:Hid (CY.size=16):=zh (by rw[aa,aw,HY.1]);go_upto_region 1 with fail;rw[<-dU];generalize aX:w.alloc _=zw1 at*;generalize aY:zw1.alloc _=zw2 at*;generalize aZ:zw2.alloc _=w1 at*;have⟨HB,l,r,h⟩:=zB3 aX aY aZ;clear aX aY aZ;replace a:=zh (a.Q HB);have a8:=zh h.lt;go_wp2;refine zK (dP w1 0 (by decide)) λw2 A=> ?_;have a6:=zh A.size;replace⟨a,l,r,h,HB⟩:=zb5 a l r h HB A;clear A;unfold cU;have⟨K0,aE⟩:=zv (aB 0 16);rw[<-aE] at ad af⊢;have ay:Hid ((wv K0).size=16):=zh (by rw[aw,ad.1]);have am:Hid ((wv K0).all (·.oneCell')=true):=zh (bz _);have⟨KS,ax⟩:=zvh (wv K0);rw[<-ax] at ay am⊢;clear aE;have aC:Hid (Box (w2.alloc (zC F0 146)) w2.heap.size F0 146):=zh (Box.new w2 _ _);have az:Hid ((F0:Array Value).size=16):=zh rfl;have aF:=ab w2 (zC F0 146);replace⟨a,l,r,h,HB⟩:=zb5 a l r h HB aF;clear aF;go_upto_region 2 with(refine aP rfl _ _ rfl w2.heap.size KS (by rfl) (by rfl) aC az ay am ?_;intro w3 n D);have I:Hid (w.heap.size+1+1<w2.heap.size):=zh (by have:=a8.out;have:=a6.out;omega);replace a:=zh (a.grownBox aC (by decide) (by have:=I.out;omega) D);replace l:=zh (ap l D (by have:=I.out;omega));replace r:=zh (ap r D (by have:=I.out;omega));replace h:=zh (ap h D (by have:=I.out;omega));have c:Hid (w.grownBy w3 (some g)):=zh (aJ (aH HB) D (by have:=I.out;omega));rw[ax] at n;rw[aq] at l;generalize w2.heap.size=gs at*;go_wp2;go_loopw [15] (λi wr=>∃(k:Nat) (s:List Nat) (V:List Nd),k<=16/\i=zI zi k/\BB wr g C V/\Ext d V/\okW V s/\Box wr w.heap.size (wv xs) 146/\Box wr (w.heap.size+1) CY 146/\Box wr (w.heap.size+1+1) (wv z16) 146/\Box wr gs (wv s) 146/\w.grownBy wr (some g)/\U=bV b xs ys (16-k) k s V) (λi _=>16-(intOf i).toNat)
 .exact⟨0,K0,d,DH _,rfl,a,Ext.refl d,ad,l,r,h,n,c,af⟩
 obtain⟨k,s,V,hk,rfl,A,B,hs,Q,R,N,P,E,hq⟩:=hrel;have⟨a,H,J,l,r,h⟩:=zk6 A B hs Q R N;have⟨n,c,y⟩:=zk3 P E hq;have bk:=I.out;have bh:=c.size;clear A B hs Q R N P E hq;by_cases aQ:k<16
 .have aS:(k:Int)<16:=by omega
  have k0:=zn0 k;replace y:=zh (show U=((eqB ys (aB k 16) 1).bind λt=>(cK t s (gN b k xs)).bind λm=>bV b xs ys (16-(k+1)) (k+1) m) V by
   have e:16-k=(16-(k+1))+1:=by omega
   rw[y,e];rfl);go_upto_region 5 with fail;have⟨TS,ao⟩:=zvh (wv (aB k 16));have CT:∀p:Lat wr,Calls zz 124 #[zI zi k] p.w λe bg=>e=zE (zX TS)/\∃q:Lat wr,bg=q.w:=λp=>by
   have:=aG (dP p.w k (by omega));unfold cU at this;rwa [<-ao] at this
  refine aj 4 ?_;simp only[Ee,El,Ei,D5]
  go_big_quiet_step (fail)
  refine so rfl _ rfl (w.heap.size+1) rfl r a7 ?_;go_simp
  go_big_quiet_step (fail)
  go_big_quiet_step (with_reducible exact CT _)
  refine D4 ?_;intro w4 A;replace⟨a,l,r,h,n⟩:=zb5 a l r h n A;replace c:=zh (au c A);clear A;have CO:=zh (o6 w4 g C V a ys (aB k 16) (HY.ext H) (dS a.2 k));rw[<-aa,<-ao] at CO;go_wp2;refine zoC CO y H c (λ_ hn=>⟨rfl,zn hn⟩) λw5 t d2 y a B T E H c=> ?_;replace⟨l,r,h,n⟩:=zg4 l r h n E;replace J:=zh (J.ext B);clear B E;unfold bM;replace y:=zh (show U=((aR (cK t (s.drop 0) ((gN b k xs).drop 0)) (s.take 0)).bind λm=>bV b xs ys (16-(k+1)) (k+1) m) d2 by rw[y,D5,D5,El,iY]);go_wp2;have⟨wo,aV⟩:=zv (w5:World);rw[<-aV] at a l r h n c⊢;clear aV;go_loopw [23] (λi wq=>∃(j:Nat) (cur:List Nat) (K:List Nd),j<=16/\i=zI zi j/\BB wq g C K/\Ext d K/\okW K cur/\okN K t/\Box wq w.heap.size (wv xs) 146/\Box wq (w.heap.size+1) CY 146/\Box wq (w.heap.size+1+1) (wv z16) 146/\Box wq gs (wv cur) 146/\cur.drop j=s.drop j/\w.grownBy wq (some g)/\U=((aR (cK t (s.drop j) ((gN b k xs).drop j)) (cur.take j)).bind λm=>bV b xs ys (16-(k+1)) (k+1) m) K) (λi _=>16-(intOf i).toNat)
  .exact⟨0,s,d2,by omega,rfl,a,H,J,T,l,r,h,n,rfl,c,y⟩
  obtain⟨j,cur,K,hj,rfl,A,B,X,ht,Q,R,N,P,aL,E,hq⟩:=hrel;have ah:Hid (zN s=16):=zh J.1;have⟨a,H,G,T,l,r⟩:=zk6 A B X ht Q R;have⟨h,n,ac,c,y⟩:=zk5 N P aL E hq;clear A B X ht Q R N P aL E hq;by_cases F:j<16
  .have aN:(j:Int)<16:=by omega
   have j0:=zn0 j;have Z:=zh (G.at (k:=j) F);have GC:=zh (cG (ws:=cur) (k:=j) (by rw[G.1];exact F));have ar:=zh (gS ac);obtain⟨mu,al⟩:∃mu:Int,dl*(k:Int)=mu:=⟨_,rfl⟩;have aT:(mu=(k:Int)/\b=true)\/(mu= -(k:Int)/\b=false):=by
    rcases a1 with⟨h1,h2⟩|⟨h1,h2⟩
    .exact zQ ⟨by rw[<-al,h1];omega,h2⟩
    exact zO ⟨by rw[<-al,h1];omega,h2⟩
   have be: -16<mu:=by omega
   have bf:mu<16:=by omega
   have HM:=zh aT;clear aT;by_cases hf:0<=(j:Int)-mu/\(j:Int)-mu<16
   .obtain⟨f,aM⟩:∃f:Nat,(j:Int)-mu=(f:Int):=⟨((j:Int)-mu).toNat,by omega⟩;have M:f<16:=by omega
    have a3:=zh aM;have f0:=zn0 f;have bi:(f:Int)<16:=by omega
    replace y:=zh (show U=((et t (zG xs f 0)).bind λz=>(orB (zG cur j 0) z).bind λL=>(aR (cK t (s.drop (j+1)) ((gN b k xs).drop (j+1))) (cur.take j++[L])).bind λm=>bV b xs ys (16-(k+1)) (k+1) m) K by rw[y,pH (f:=zG xs f 0) (by rw[ah];exact F) (VD HX.1 aQ F HM a3 M),ar]);have a0:=zh ((HX.ext H).at (k:=f) M);have GX:=zh (cG (ws:=xs) (k:=f) (by rw[HX.1];exact M));generalize zG xs f 0=x,zG cur j 0=o at*;clear hf;go_upto_region 11 with fail;clear aM al be bf;refine dD (S:=SXZ gs j w.heap.size f o x) 11 (by kernel_rfl) (sxz n l GC GX) (λhS=> ?_);have ak:zL wr wr.drew:=ae _;replace⟨l,r,h,n,a⟩:=zb5 l r h n a ak;replace c:=zh (au c ak);clear ak;generalize wr.drew=w6 at*;refine zup 0 (zI zi j) rfl ?_;refine zup 1 (zP g) rfl ?_;refine zup 2 (zI zi j) rfl ?_;refine zup 3 (.pointer (some ⟨gs,j,none⟩)) rfl ?_;simp only[zp];refine zu 4 (zI zi o) rfl (zQ ⟨by rfl,λW hW=>by obtain⟨s1,s2⟩:=hW;go_simp⟩) ?_;refine zup 5 (zP g) rfl ?_;refine zup 6 (zI zi t) rfl ?_;refine zup 7 (zI zi f) rfl ?_;refine zup 8 (.pointer (some ⟨w.heap.size,f,none⟩)) rfl ?_;simp only[zp];refine zu 9 (zI zi x) rfl (zQ ⟨by rfl,λW hW=>by obtain⟨s1,s2⟩:=hW;go_simp⟩) ?_;simp only[zp];clear hS;refine eP 10 rfl ?_;go_wp2;have CO:=zh (kg w6 g C K a t x T a0);refine zoC CO y H c (λ_ hn=>⟨rfl,zn hn⟩) λw7 z d4 y a B HZ E H c=> ?_;replace⟨l,r,h,n⟩:=zg4 l r h n E;replace G:=zh (G.ext B);replace T:=zh (T.ext B);replace Z:=zh (Z.ext B);clear B E;unfold bM;go_wp2;refine⟨λ_=>sxz n l GC GX, ?_⟩;refine bq 11 rfl ?_;go_wp2;have CO:=zh (tm w7 g C d4 a o z Z HZ);refine CO.mono ?_;intro e w8 aI;rcases aI.cases with⟨L,d5,hr,rfl,A,B,ht,E⟩|⟨hr,rfl,E⟩
    rotate_left
    .refine⟨rfl, ?_⟩;rw[y,cm hr];exact⟨aA c E,rfl⟩
    have aU:=y.trans (bind_some hr);replace y:=zh aU;have HO:=zh ht;replace a:=zh A;replace⟨l,r,h,n⟩:=zg4 l r h n E;replace G:=zh (G.ext B);replace T:=zh (T.ext B);replace H:=zh (H.trans B);replace c:=zh (aA c E);clear aU hr A B ht E aI;unfold bM;go_wp2;show bC _ _ _ _ _ _ _ _ _ _;refine bq 12 rfl ?_;go_wp2;show bC _ _ _ _ _ _ _ _ _ _;have xz:=n.frozen j;have xl:=n.lt;have x1:=n.A j _ GC;refine bq 13 rfl ?_;go_wp2;refine dE (by kernel_rfl) ?_ _;have an:=zh (a.setBox n (by decide) (by omega) j (zI zi L));have bc:=zh (l.setNe ⟨gs,j,none⟩ (zI zi L));have bd:=zh (r.setNe ⟨gs,j,none⟩ (zI zi L));have bb:=zh (h.setNe ⟨gs,j,none⟩ (zI zi L));have aD:=zh (n.set_ j (zI zi L));have av:=zh (cx (i:=j) (u:=(zI zi L)) c (b:=gs) (by omega));clear xz xl x1;generalize w8.setCell ⟨gs,j,none⟩ (zI zi L)=w9 at*;rw[jo] at aD;have a:=an;have c:=av;have n:=aD;have l:=bc;have r:=bd;have h:=bb;replace G:=zh (G.set j HO);have a9:=zh (fm (x:=L) (show j<zN cur by have:=G.1;rw[Er] at this;omega));have a2:=zh (iT (cur:=cur) (k:=j) (x:=L));generalize cur.set j L=cur' at*;go_wp2;go_roundw
    .exact⟨j+1,cur',d5,by omega,by go_num,a,H,G,T,l,r,h,n,by rw[a2];exact fM ac,c,by rw[a9];exact y⟩
    simp[intOf];omega
   replace y:=zh (show U=((aR (cK t (s.drop (j+1)) ((gN b k xs).drop (j+1))) (cur.take (j+1))).bind λm=>bV b xs ys (16-(k+1)) (k+1) m) K by rw[y,pI (by rw[ah];exact F) (XJ HX.1 aQ F HM hf),ri (by rw[G.1];exact F),ar]);rcases(show(j:Int)-mu<0\/(0<=(j:Int)-mu/\16<=(j:Int)-mu) by omega) with n1|⟨n1,n2⟩
   all_goals
    clear hf;go_wp2;go_roundw
    .exact⟨j+1,cur,K,by omega,by go_num,a,H,G,T,l,r,h,n,fM ac,c,y⟩
    simp[intOf];omega
  have aN:¬(j:Int)<16:=by omega
  have Y:j=16:=by omega
  replace y:=zh (show U=bV b xs ys (16-(k+1)) (k+1) cur K by have e1:cur.take j=cur:=En (by rw[G.1];omega);rw[y,e1,Y,rC ah]);clear Y;go_wp2;go_roundw
  .exact⟨k+1,cur,K,by omega,by go_num,a,H,G,l,r,h,n,c,y⟩
  simp[intOf];omega
 have aS:¬(k:Int)<16:=by omega
 have aO:k=16:=by omega
 subst aO;have ag:Hid ((wv s).size=16):=zh (by rw[aw,J.1]);have H1:Hid ((wv s).all (·.oneCell')=true):=zh (bz _);have a4:Hid (U=some (s,V)):=zh (by rw[y];rfl);go_wp2_with(first|(refine bu rfl _ rfl gs rfl n ag ?_)|(refine aP rfl _ _ rfl (w.heap.size+1+1) (wv s) (by rfl) (by rfl) h a5 ag H1 ?_;intro w4 ba D));refine D7 (v:=zX (wv s)) (aW results211 _ rfl ba ag) rfl ?_;rw[a4];exact⟨aJ c D,rfl,a.grownBox h (by decide) (by omega) D,H,J⟩
def RQ (w:World) (g:Nat) (C:BC) (d:List Nd) (a:BB w g C d) (xs ys:List Nat) (b:okW d xs) (c:okW d ys):Calls zz 211 #[zP g,zX (wv xs),zX (wv ys),zI zi 1] w (fD cU okW w g C d (bV true xs ys 16 0 (aB 0 16) d)):=F9 true 1 (zQ ⟨rfl,rfl⟩) w g C d a xs ys b c
def RP (w:World) (g:Nat) (C:BC) (d:List Nd) (a:BB w g C d) (xs ys:List Nat) (b:okW d xs) (c:okW d ys):Calls zz 211 #[zP g,zX (wv xs),zX (wv ys),zI zi (-1)] w (fD cU okW w g C d (bV false xs ys 16 0 (aB 0 16) d)):=F9 false (-1) (zO ⟨rfl,rfl⟩) w g C d a xs ys b c
section
variable {C:BC} {V:ByteArray->Vl} {names:List ByteArray} {vars:List Vr} {g:Nat} {w w1:World}
def φS:eD ByteArray 9 where
 kv:=λs=> .string s
 lit:=λs=> .string s.data.toList
 ok:=λs=>s.size<=maxLen
 key:=λs h=>Go.WideMaps.keyOf_string_mk underlying9 h
 K:=string_keyed underlying9
 inj:=λx y h=>by simpa using h
theorem bR.look1 {κ:Type} {kT:TypeId} [DecidableEq κ] {φ:eD κ kT} {mT:TypeId} (r:zz.underlying mT=some (.map kT 3)) {w:World} {b:Nat} {l:List (κ×Int)} (h:bR φ w b l) {x:κ} (j:φ.ok x):
  (Instr.lookup mT (.map (some b)) (φ.kv x) false).run zz w= .ok (zI zi ((bZ l x).getD 0)) w:=by
 obtain⟨m,n,v,u,f,s,F,A,q⟩:=h;have e:=λz=>tg φ j z l m;rw[q] at e;rcases fit_look false φ.K r (pc w) s F (φ.key x j) with⟨a,_,o⟩|⟨e0,y,_,_,a,p,g,_⟩
 .rw[a];cases hf:bZ l x with
  |none=>rfl
  |some i=>have d:=e .nil;rw[hf,o] at d;cases d
 rw[a];have⟨c,t,k,_⟩:=plainElem_int_inv underlying3 p;cases hf:bZ l x with
 |none=>have d:=e .nil;rw[hf,g,k] at d;cases d
 |some i=>have d:=e .nil;rw[hf,g,k] at d;simp only[DataW.lit.injEq,Lit.int.injEq,true_and] at d;rw[t,d];rfl
def wm (vars:List Vr) (a:List Int) (i:Nat):Vl:=if(zG vars i vr0).m=0 then .val (zG vars i vr0).u.toNat else .bits (zG a i 0).toNat (zG vars i vr0).w.toNat
structure BK (w:World) (g:Nat) (C:BC) (vars:List Vr) (lev:List Int) (V:ByteArray->Vl) (names:List ByteArray):Prop where
 vs:∀W,w.grownBy W (some g)->Rs vrR W C.V vars ah
 ls:∀W,w.grownBy W (some g)->IL W C.L lev
 mp:∃vm,C.M= .map (some vm)/\∀W,w.grownBy W (some g)->∃l,bR φS W vm l/\∀s∈names,∃i:Nat,bZ l s=some (i:Int)/\i<zN vars/\V s=wm vars lev i
 nm:∀s∈names,s.size<=maxLen
 vl:zN vars<=16
 ll:zN lev=zN vars
 vo:∀i,i<zN vars->((zG vars i vr0).m=0->0<=(zG vars i vr0).u/\(zG vars i vr0).u<65536)/\((zG vars i vr0).m≠0->1<=(zG vars i vr0).w/\(zG vars i vr0).w<=8/\0<=zG lev i 0/\zG lev i 0+(zG vars i vr0).w<=20)
def BK.step {b:List Int} (h:BK w g C vars b V names) (c:w.grownBy w1 (some g)):BK w1 g C vars b V names:=
 ⟨λW a=>h.vs W (aA c a),λW a=>h.ls W (aA c a),by have⟨d,e,hm⟩:=h.mp;exact⟨d,e,λW a=>hm W (aA c a)⟩,h.nm,h.vl,h.ll,h.vo⟩
def BK.Q {a:List Int} (h:BK w g C vars a V names) (b:zL w w1):BK w1 g C vars a V names:=h.step (aH b)
def OL {l w k:Nat} {p:List Nat} {F:List Nat->Bm (List Nat)} (hk:k<w):(aR (lV l (w-k)) p).bind F=(qJ (l+(w-1-k))).bind λf=>(aR (lV l (w-(k+1))) (p++[f])).bind F:=by
 have e:w-k=(w-(k+1))+1:=by omega
 have a:w-(k+1)=w-1-k:=by omega
 rw[e];show(aR ((qJ (l+(w-(k+1)))).bind λf=>(lV l (w-(k+1))).bind λr=>Bm.ret (f::r)) p).bind F=_;rw[fb,eq,a];congr 1;funext f;rw[i4]
theorem UQ {d d':List Nd} {l i:Nat} (a:DV d) (b:l<20) (h:mh d l 0 1=some (d',i)):Ext d d'/\DV d'/\i<zN d':=by
 have g:=a.two;have c:=sP (s:=⟨d,false⟩) (l:=l) (lo:=0) (hi:=1) a b (by show 0<zN d;omega) (by show 1<zN d;omega) (by show l<lvA d 0;rw[a.lv0];exact b) (by show l<lvA d 1;rw[a.lv1];exact b);unfold mh at h;generalize cA ⟨d,false⟩ l 0 1=r at*;cases hf:r.1.full with
 |true=>rw[hf] at h;cases h
 |false=>rw[hf] at h;simp only[FW,FN,DN,FH] at h;obtain⟨rfl,rfl⟩:=h;have⟨e,f,_⟩:=c.ok hf;exact⟨c.ext,e,f⟩
def Dt (l:Nat) (d:List Nd):qJ l d=(mh d l 0 1).map λr=>(r.2,r.1):=by unfold qJ mh;split<;>rfl
def SVr (g b e gv:Nat) (a d:Value) (c f:Nat) (W:World):Prop:=W.cell? ⟨g,0,none⟩=some a/\W.cell? ⟨g,6,none⟩=some d/\W.cell? ⟨b,e,none⟩=some (zI zi c)/\W.cell? ⟨gv,1,none⟩=some (zI zi f)
def SVr.Q {g c l gv:Nat} {b k:Value} {j m:Nat} {W W':World} (h:SVr g c l gv b k j m W) (a:zL W W'):SVr g c l gv b k j m W':=by obtain⟨d,e,f,i⟩:=h;exact⟨(a.cell (Fu _ _ d)).trans d,(a.cell (Fu _ _ e)).trans e,(a.cell (Fu _ _ f)).trans f,(a.cell (Fu _ _ i)).trans i⟩
def SJ {wn:Nat} {cur:List Nat} (f:zN cur=16) (d:wn<=8) (a:cur.drop wn=z16.drop wn):cur.take wn++aB 0 (16-wn)=cur:=by
 have e:aB 0 (16-wn)=z16.drop wn:=by
  unfold aB z16;rw[List.drop_replicate];apply Fz
  .simp
  intro i b c;simp[bN]
 rw[e,<-a,List.take_append_drop]
def xO (w:World) (g:Nat) (C:BC) (d:List Nd) (Z:BB w g C d) (vars:List Vr) (ai:List Int) (V:ByteArray->Vl) (names:List ByteArray) (hk:BK w g C vars ai V names) (s:ByteArray) (hs:s∈names):Calls zz 125 #[zP g,zV s] w (fD cU okW w g C d (vlB (V s) d)):=by
 have bK:=zl Z;have⟨vm,hM,aY⟩:=hk.mp;have⟨l,I,aZ⟩:=aY w (bJ _ _);have⟨i,aO,ah,hV⟩:=aZ s hs;have⟨a,HK⟩:=zk2 Z hk;have a9:∀W,zL w W->(Instr.lookup 110 (.map (some vm)) (zV s) false).run zz W= .ok (zI zi i) W:=λW L=>by have:=(I.Q L).look1 (mT:=110) underlying110 (x:=s) (hk.nm s hs);rw[aO] at this;exact this
 have bk:=zh a9;clear a9;have R:=hk.vo i ah;have bx:=hk.vl;obtain⟨A1,c1,e1,bp,a1⟩:=(hk.vs w (bJ _ _)).vrs;have⟨bv,ov,e2,ag,m⟩:=a1 i ah;subst e2;have v0:=m 0 _ rfl;have v1:=m 1 _ rfl;have v2:=m 2 _ rfl;have v3:=m 3 _ rfl;have an:Hid (V s=wm vars ai i):=zh hV;have be:=zh hk.ls;have aa:=zh hk.ll;rw[Eb] at v0;unfold wm at an;generalize zG vars i vr0=vr at*;obtain⟨nm,wd,md,vl⟩:=vr;simp only at R v0 v1 v2 v3 an;have⟨n,HN⟩:=zvh (zN vars);rw[<-HN] at ah bx e1 bp aa;have bN:(i:Int)<(n:Int):=by omega
 have i0:=zn0 i;have⟨bF,bG⟩:=zk2 hM e1;have K:Hid (∃A c,Box w g #[zU A (zN d) c,C.V,C.H,C.S,C.D,C.G,C.L,C.M] 149):=by obtain⟨⟨A,c,hx,_⟩,_⟩:=Z;exact zh ⟨A,c,hx⟩
 have⟨A0,c0,xg⟩:=K.out;rw[hM,e1] at xg;have K:=zh xg;have y:Hid (vlB (V s) d=vlB (V s) d):=zh rfl;have⟨PQ,aq⟩:=zv (vlB (V s) d);replace y:Hid (PQ=vlB (V s) d):=zh aq;rw[an] at y;rw[<-aq];clear Z hk I aZ aY hM e1 a1 m hV aq aO hs xg;go_enter func125,ntmps125;go_upto_region 1 with fail;rw[<-dU];generalize X:w.alloc _=w1 at*;have⟨E,o⟩:=zB1 X;clear X;replace a:=zh (a.Q E);replace K:=zh (K.Q E);have bH:=bk w1 E;obtain⟨bB,g7⟩:=zd2 K 1 7;have u0:=(E.cell (p:=⟨bv,ov+i*4,none⟩) ag).trans v0;have u1:=(E.cell (p:=⟨bv,ov+i*4+1,none⟩) ag).trans v1;have u2:=(E.cell (p:=⟨bv,ov+i*4+2,none⟩) ag).trans v2;have u3:=(E.cell (p:=⟨bv,ov+i*4+3,none⟩) ag).trans v3;go_upto_region 3 with fail;clear g7 u0 u1 u2 u3;have aG:=zh o.lt;generalize X:w1.alloc _=w2 at*;have⟨N,t⟩:=zA1 X;clear X;replace⟨a,K,o,E⟩:=zb4 a K o E N;clear N;have aK:Hid ((wv z16).size=16):=zh (by rw[aw];rfl);by_cases Q:md=0
 .subst Q;rw[DP rfl] at y;have⟨h0,h1⟩:=R.1 rfl;obtain⟨vn,rfl⟩:=FE h0;have bA:vn<65536:=by omega
  rw[Eh] at y;clear R h0 h1;obtain⟨aL,bE⟩:=zd2 t 2 3;go_wp2;refine zK (dP w2 vn bA) λw3 Z=> ?_;replace⟨a,K,o,t,E⟩:=zb5 a K o t E Z;clear Z;unfold cU;have F:Hid ((wv (aB vn 16)).size=16):=zh (by rw[aw];simp[aB]);have H1:Hid ((wv (aB vn 16)).all (·.oneCell')=true):=zh (bz _);have bg:=zh (dS a.2 vn);replace y:=zh (show PQ=some (aB vn 16,d) from y);generalize aB vn 16=cw at*;have⟨CR,aC⟩:=zvh (wv cw);rw[<-aC] at F H1⊢;go_wp2_with(refine aP rfl _ _ rfl w.heap.size CR (by rfl) (by rfl) o aK F H1 ?_;intro w9 ao J);refine D7 (v:=zX CR) (aW results125 _ rfl ao F) rfl ?_;have am:PQ=some (cw,d):=y;rw[am,aC];exact⟨aJ (aH E) J (DE _),rfl,a.grownBox o (by decide) (by omega) J,Ext.refl d,bg⟩
 rw[DK Q] at y;have bo:((md:Int)==0)=false:=by rw[Fb];exact Q
 have⟨h0,h1,h2,h3⟩:=R.2 Q;obtain⟨wn,rfl⟩:=FE (show 0<=wd by omega);have⟨B,av⟩:=FE h2;have bf:Hid (zG ai i 0=(B:Int)):=zh av;rw[av] at h2 h3 y;have w8:wn<=8:=by omega
 have bQ:1<=wn:=by omega
 have bP:B+wn<=20:=by omega
 rw[Eh,Eh] at y;clear R h0 h1 h2 h3 av Q;have aL:=za t 2;go_upto_region 6 with fail;clear bo;rw[<-dU];have D:=zh (Box.new w2 146 (wv z16));have aI:=zh t.lt;have N:=ab w2 (zC (wv z16) 146);replace⟨a,K,o,t,E⟩:=zb5 a K o t E N;clear N;generalize w2.alloc (zC (wv z16) 146)=w3 at*;generalize aQ:w2.heap.size=gw at*;clear aQ;have bD:=za t 1;go_wp2;have aQ:w.heap.size<gw:=by have:=aG.out;have:=aI.out;omega
 have bh:=zh (sO a.2);have h:=zh (aH (row:=some g) E);have bd:Hid (w.heap.size<w1.heap.size/\w1.heap.size<gw):=zh ⟨aG,aI⟩;have bi:Hid (PQ=((aR (lV B (wn-0)) (z16.take 0)).bind λr=>Bm.ret (r++aB 0 (16-wn))) d):=zh (by rw[y,El,iY];rfl);generalize w1.heap.size=gv at*;go_loopw [31] (λi wr=>∃(j:Nat) (cur:List Nat) (q:List Nd),j<=wn/\i=zI zi j/\BB wr g C q/\Ext d q/\okW q cur/\Box wr gw (wv cur) 146/\Box wr w.heap.size (wv z16) 146/\Box wr gv #[zV nm,zI zi wn,zI zi md,zI zi vl] 98/\cur.drop j=z16.drop j/\w.grownBy wr (some g)/\PQ=((aR (lV B (wn-j)) (cur.take j)).bind λr=>Bm.ret (r++aB 0 (16-wn))) q) (λi _=>wn-(intOf i).toNat)
 .exact⟨0,z16,d,DH _,rfl,a,Ext.refl d,bh,D,o,t,rfl,h,bi⟩
 obtain⟨j,cur,q,hj,rfl,Z,he,aj,a4,a2,a3,H,hg,hq⟩:=hrel;have⟨a,HE,Y,D,o,t⟩:=zk6 Z he aj a4 a2 a3;have⟨aD,h,y⟩:=zk3 H hg hq;have bM:=bd.out;clear Z he aj a4 a2 a3 H hg hq;by_cases ax:j<wn
 .have aU:=zlt ax;have bO:(j:Int)<16:=by omega
  have j0:=zn0 j;have a5:j<16:=by omega
  have⟨U,aV⟩:=zv (B+(wn-1-j));have aF:Hid (U<20):=zh (by omega);have GC:=zh (cG (ws:=cur) (k:=j) (by rw[Y.1];exact a5));replace y:=zh (show PQ=((qJ U).bind λf=>(aR (lV B (wn-(j+1))) (cur.take j++[f])).bind λr=>Bm.ret (r++aB 0 (16-wn))) q by rw[y,OL ax,aV]);generalize zG cur j 0=f0 at*;have⟨⟨A1,ac,T,a0,bw⟩,bs⟩:=a.out;have aT:=be wr h;rcases aT.form with⟨_,_,_,h0⟩|⟨bl,ol,cl,hL,br,bt,bI,aS⟩
  .have h1:=aa.out;rw[h0] at h1;simp at h1;omega
  have q1:=aS i (by rw[aa];exact ah);rw[bf] at q1;have⟨ml,I⟩:=zv (zN ai);have aX:ml=n:=by rw[I];exact aa
  have im:(i:Int)<(ml:Int):=by omega
  rw[<-I] at hL;rw[hL] at T;have S0:SVr g bl (ol+i) gv (zU A1 (zN q) ac) (zU (some ⟨bl,ol,none⟩) ml cl) B wn wr:=⟨T.A 0 _ rfl,T.A 6 _ rfl,q1,t.A 1 _ rfl⟩;have CB:=zh fun(W:World) (L:zL wr W)=>WY W (zU A1 (zN q) ac) q bs (a0.Q L) U aF;have bL:=T.lt;have⟨N1,aN⟩:=zv (zN q);rw[<-aN] at S0 CB;have S1:=zh S0;clear T a0 bw aT hL br bt aS q1 I aX aN;have k1:IntKind.i64.wrap ((B:Int)+(wn:Int))=(B:Int)+(wn:Int):=Fi _ (by omega);have k2:IntKind.i64.wrap ((B:Int)+(wn:Int)-1)=(B:Int)+(wn:Int)-1:=Fi _ (by omega);have k3:IntKind.i64.wrap ((B:Int)+(wn:Int)-1-(j:Int))=(U:Int):=by rw[show(B:Int)+(wn:Int)-1-(j:Int)=(U:Int) by omega];exact Fi _ (by omega)
  clear aV;go_upto_region 9 with fail;refine dD (S:=SVr g bl (ol+i) gv (zU A1 N1 ac) (zU (some ⟨bl,ol,none⟩) ml cl) B wn) 23 (by kernel_rfl) (S1.Q (ae _)) (λhS=> ?_);have af:zL wr wr.drew:=ae _;replace⟨D,o,t,a⟩:=zb4 D o t a af;replace h:=zh (au h af);have ba:=zh (CB wr.drew af);clear af;generalize wr.drew=w4 at*;refine zup 0 (zI zi j) rfl ?_;refine zup 1 (zP g) rfl ?_;refine zup 2 (zP g) rfl ?_;refine zup 3 (zP g) rfl ?_;refine zup 4 (zP g) rfl ?_;simp only[zp];refine zu 5 (zX #[zU A1 N1 ac]) rfl (zQ ⟨by rfl,λW L=>by obtain⟨s1,s2,s3,s4⟩:=L;go_simp⟩) ?_;refine zup 6 (zP g) rfl ?_;refine zup 7 (zP g) rfl ?_;refine zup 8 (.pointer (some ⟨g,6,none⟩)) rfl ?_;simp only[zp];refine zu 9 (zU (some ⟨bl,ol,none⟩) ml cl) rfl (zQ ⟨by rfl,λW L=>by obtain⟨s1,s2,s3,s4⟩:=L;go_simp⟩) ?_;refine zup 10 (zI zi i) rfl ?_;refine zup 11 (.pointer (some ⟨bl,ol+i,none⟩)) rfl ?_;simp only[zp];refine zu 12 (zI zi B) rfl (zQ ⟨by rfl,λW L=>by obtain⟨s1,s2,s3,s4⟩:=L;go_simp⟩) ?_;refine zup 13 (.pointer (some ⟨gv,1,none⟩)) rfl ?_;simp only[zp];refine zu 14 (zI zi wn) rfl (zQ ⟨by rfl,λW L=>by obtain⟨s1,s2,s3,s4⟩:=L;go_simp⟩) ?_;refine zup 15 (zI zi ((B:Int)+(wn:Int))) rfl ?_;refine zup 16 (zI zi ((B:Int)+(wn:Int)-1)) rfl ?_;refine zup 17 (zI zi j) rfl ?_;refine zup 18 (zI zi U) rfl ?_;simp only[zp];refine eP 19 rfl ?_;go_wp2;refine ba.mono ?_;intro e w5 H;have az:Hid (qJ U q=(mh q U 0 1).map λr=>(r.2,r.1)):=zh (Dt U q);have bb:=zh a.2;rcases H.cases with⟨d',G,A',c',hr,rfl,h1,h2,z⟩|⟨hr,rfl,z⟩
  .have ak:Hid (qJ U q=some (G,d')):=zh (by rw[az,hr];rfl);obtain⟨a6,a7,a8⟩:Ext q d'/\DV d'/\G<zN d':=by exact UQ bb aF hr
   have S2:=zh (hS.Q z);replace⟨D,o,t,a⟩:=zb4 D o t a z;replace h:=zh (au h z);have CK:=zh (nT w5 g C q d' a _ a7 h1 h2 G);have al:Hid (Ext q d'/\G<zN d'):=zh ⟨a6,a8⟩;have⟨M,hM⟩:=zv (zN d');rw[<-hM] at CK⊢;clear hr h1 h2 z a6 a7 a8 H hM hS k1 k2 k3;go_wp2;refine⟨λ_=>S2, ?_⟩;have hS:=S2.out;refine zup 20 (zX #[zU A' M c']) rfl ?_;refine zup 21 (zI zi G) rfl ?_;refine zup 22 (zI zi 0) rfl ?_;simp only[zp];clear hS;refine bq 23 rfl ?_;go_wp2;refine CK.mono ?_;rintro e w6 ⟨rfl,ad,P⟩;replace a:=zh ad;replace D:=zh (ap D P);replace o:=zh (ap o P);replace t:=zh (ap t P);replace h:=zh (aA h P);replace Y:=zh (Y.ext al.1);replace HE:=zh (HE.trans al.1);have HO:Hid (okN d' G):=zh al.2;replace y:=zh (y.trans (bind_some ak));clear ad P;go_wp2;show bC _ _ _ _ _ _ _ _ _ _;refine bq 24 rfl ?_;go_wp2;show bC _ _ _ _ _ _ _ _ _ _;have xz:=D.frozen j;have xl:=D.lt;have x1:=D.A j _ GC;refine bq 25 rfl ?_;go_wp2;refine dE (by kernel_rfl) ?_ _;have ay:=zh (a.setBox D (by decide) (by omega) j (zI zi G));have bm:=zh (o.setNe ⟨gw,j,none⟩ (zI zi G));have bn:=zh (t.setNe ⟨gw,j,none⟩ (zI zi G));have aM:=zh (D.set_ j (zI zi G));have aE:=zh (cx (i:=j) (u:=(zI zi G)) h (b:=gw) (by omega));clear xz xl x1;generalize w6.setCell ⟨gw,j,none⟩ (zI zi G)=w7 at*;rw[jo] at aM;have a:=ay;have h:=aE;have D:=aM;have o:=bm;have t:=bn;replace Y:=zh (Y.set j HO);have bj:=zh (fm (x:=G) (show j<zN cur by have:=Y.1;rw[Er] at this;omega));have bc:=zh (iT (cur:=cur) (k:=j) (x:=G));generalize cur.set j G=cur' at*;go_wp2;go_roundw
   .exact⟨j+1,cur',d',by omega,by go_num,a,HE,Y,D,o,t,by rw[bc];exact fM aD,h,by rw[bj];exact y⟩
   simp[intOf];omega
  have ak:Hid (qJ U q=none):=zh (by rw[az,hr];rfl);have S2:=zh (hS.Q z);replace h:=zh (au h z);clear hr z H hS k1 k2 k3;go_wp2;refine⟨λ_=>S2, ?_⟩;have hS:=S2.out;refine zup 20 (zX #[zU none 0 0]) rfl ?_;refine zup 21 (zI zi 0) rfl ?_;refine zup 22 (zI zi 2) rfl ?_;simp only[zp];clear hS;refine bq 23 rfl ?_;go_wp2;refine zK (fO w5 _ none 0 0 0 2 (by decide)) λw6 ad=> ?_;refine⟨rfl, ?_⟩;rw[y,cm ak];exact⟨au h ad,rfl⟩
 have aU:=zge ax;have ar:j=wn:=by omega
 have am:Hid (PQ=some (cur,q)):=zh (by rw[y,ar,EB];show(aR (Bm.ret []) _).bind _ q=_;rw[iZ];show some (cur.take wn++aB 0 (16-wn),q)=_;rw[SJ Y.1 w8 (by rw[<-ar];exact aD)]);clear ar;have F:Hid ((wv cur).size=16):=zh (by rw[aw,Y.1]);have H1:Hid ((wv cur).all (·.oneCell')=true):=zh (bz _);go_wp2_with(first|(refine bu rfl _ rfl gw rfl D F ?_)|(refine aP rfl _ _ rfl w.heap.size (wv cur) (by rfl) (by rfl) o aK F H1 ?_;intro w4 ao J));refine D7 (v:=zX (wv cur)) (aW results125 _ rfl ao F) rfl ?_;rw[am];exact⟨aJ h J (DE _),rfl,a.grownBox o (by decide) (by omega) J,HE,Y⟩
end
theorem RX (w:World) (g:Nat) (C:BC) (d:List Nd) (f:BB w g C d) (xs ys:List Nat) (k:okW d xs) (l:okW d ys) (op:Int) (h7:7<=op) (R:op<=21):
  Calls zz 135 #[zP g,zI zi op,zX (wv xs),zX (wv ys)] w (fD cU okW w g C d ((opW op [xs,ys]) d)):=by
 have aa:=zl f;have⟨a,b,c⟩:=zk3 f k l;have u:Hid ((opW op [xs,ys]) d=(opW op [xs,ys]) d):=zh rfl;have M:Hid ((wv z16).size=16):=zh (by rw[aw];rfl);clear f k l;go_enter func135,ntmps135;have⟨Y,q⟩:=zv ((opW op [xs,ys]) d);replace u:Hid (Y=((opW op [xs,ys]).bind λr=>Bm.ret r) d):=zh (by rw[q,ej]);rw[<-q];clear q;have⟨CX,n⟩:=zvh (wv xs);have⟨CY,o⟩:=zvh (wv ys);rw[<-n,<-o];have N:Hid (CX.size=16):=zh (by rw[n,aw,b.1]);have P:Hid (CY.size=16):=zh (by rw[o,aw,c.1]);go_upto_region 1 with fail;rw[<-dU];generalize F:w.alloc _=zw1 at*;generalize G:zw1.alloc _=zw2 at*;generalize H:zw2.alloc _=w1 at*;have⟨X,XX,XY,I⟩:=zB3 F G H;clear F G H;replace a:=zh (a.Q X);have i:=zh (aH (row:=some g) X);have K:=zh (Ext.refl d);have S:=zm;have T:okN d 0:=by have:=a.2.two;show 0<_;omega
 have h:op=7\/op=8\/op=9\/op=10\/op=11\/op=12\/op=13\/op=14\/op=15\/op=16\/op=17\/op=18\/op=19\/op=20\/op=21:=by omega
 clear h7 R;rcases h with rfl|rfl|rfl|rfl|rfl|rfl|rfl|rfl|rfl|rfl|rfl|rfl|rfl|rfl|rfl
 all_goals
  go_wp2_with(first|(refine bu rfl _ rfl w.heap.size rfl XX N ?_)|(refine bu rfl _ rfl (w.heap.size+1) rfl XY P ?_));clear S;refine Calls.mono (by
   rw[n,o];first
    |with_reducible exact mO w1 g C d a.out xs ys b.out c.out
    |with_reducible exact Dr w1 g C d a.out xs ys b.out c.out
    |with_reducible exact RQ w1 g C d a.out xs ys b.out c.out
    |with_reducible exact RP w1 g C d a.out xs ys b.out c.out
    |with_reducible exact Bk w1 g C d a.out xs ys b.out c.out 15 (zQ rfl)
    |with_reducible exact Bk w1 g C d a.out xs ys b.out c.out 16 (zO (zQ rfl))
    |with_reducible exact Bk w1 g C d a.out xs ys b.out c.out 17 (zO (zO (zQ rfl)))
    |with_reducible exact Bk w1 g C d a.out xs ys b.out c.out 18 (zO (zO (zO rfl)))
    |with_reducible exact tn w1 g C d a.out xs ys b.out c.out 19 (zQ rfl)
    |with_reducible exact tn w1 g C d a.out xs ys b.out c.out 20 (zO (zQ rfl))
    |with_reducible exact tn w1 g C d a.out xs ys b.out c.out 21 (zO (zO rfl))
    |((with_reducible show Calls _ 205 _ _ _);have m:=Bi w1 g C d a.out xs ys b.out c.out 0 T;exact m)
    |((with_reducible show Calls _ _ #[_,_,.func (.func 207) _ _] _ _);have m:=mM w1 g C d a.out xs ys b.out c.out 207 #[zP g] #[] et (λx y W=>by kernel_rfl) (λW A x y f D j k l=>kg W g C A f x y k l);exact m)
    |((with_reducible show Calls _ _ #[_,_,.func (.func 123) _ _] _ _);have m:=mM w1 g C d a.out xs ys b.out c.out 123 #[zP g] #[] orB (λx y W=>by kernel_rfl) (λW A x y f D j k l=>tm W g C A f x y k l);exact m)
    |((with_reducible show Calls _ _ #[_,_,.func (.func 210) _ _] _ _);have m:=mM w1 g C d a.out xs ys b.out c.out 210 #[zP g] #[] iB (λx y W=>by kernel_rfl) (λW A x y f D j k l=>qF W g C A f x y k l);exact m)) ?_;intro e w2 B;rcases B.cases with⟨r,d2,J,rfl,f,D,Z,j⟩|⟨J,rfl,j⟩
  rotate_left
  .refine⟨rfl, ?_⟩;rw[u.trans (cm J)];exact⟨aA i j,rfl⟩
  have E:=u.trans (bind_some J);replace u:=zh E;have z:=zh Z;replace a:=zh f;replace I:=zg I j;replace K:=zh (K.trans D);replace i:=zh (aA i j);clear E J f D Z j B;have p:Hid ((wv r).size=16):=zh (by rw[aw,z.1]);have V:Hid ((wv r).all (·.oneCell')=true):=zh (bz _);unfold cU;have⟨U,s⟩:=zvh (wv r);rw[<-s] at p V⊢;go_wp2_with(refine aP rfl _ _ rfl (w.heap.size+1+1) U (by rfl) (by rfl) I M p V ?_;intro w9 Q t);refine D7 (v:=zX U) (aW results135 _ rfl Q p) rfl ?_;have L:Y=some (r,d2):=u;rw[L,s];exact⟨aJ i t,rfl,a.grownBox I (by decide) (by omega) t,K,z⟩
section
variable {b:Nat} {α β γ:Type} {T:TypeId}
def dI (cs:Array Value):Nat->List Value->Array Value
 |_,[]=>cs
 |o,v::r=>dI (cs.setIfInBounds o v) (o+1) r
theorem oq:∀(vs:List Value) (o:Nat) (cs:Array Value),(dI cs o vs).size=cs.size
 |[],_,_=>rfl
 |v::r,o,cs=>by unfold dI;rw[oq r];simp
theorem hO:∀(vs:List Value) (o:Nat) (cs:Array Value) (i:Nat),(i<o\/o+zN vs<=i)->(dI cs o vs)[i]? =cs[i]?
 |[],_,_,_,_=>rfl
 |v::r,o,cs,i,h=>by unfold dI;rw[hO r (o+1) _ i (by simp only[DF] at h;omega),Fx (by simp only[DF] at h;omega)]
theorem kt:∀(vs:List Value) (o:Nat) (cs:Array Value) (i:Nat),o+zN vs<=cs.size->i<zN vs->(dI cs o vs)[o+i]? =vs[i]?
 |[],_,_,i,_,h=>by simp at h
 |v::r,o,cs,0,hs,_=>by unfold dI;simp only[DF] at hs;rw[hO r (o+1) _ (o+0) (by omega),Eb,Array.getElem?_setIfInBounds_self_of_lt (by omega)];rfl
 |v::r,o,cs,i+1,hs,h=>by unfold dI;simp only[DF] at hs h;have:=kt r (o+1) (cs.setIfInBounds o v) i (by simp;omega) (by omega);rw[show o+(i+1)=o+1+i by omega,this];rfl
theorem fC {b:Nat} {T:TypeId}:∀(vs:List Value) (o:Nat) (w:World) (cs:Array Value),Box w b cs T->Box (w.setCells b o vs) b (dI cs o vs) T
 |[],_,_,_,h=>h
 |v::r,o,w,cs,h=>fC r (o+1) _ _ (h.set_ o v)
theorem cM (b:Nat):∀(vs:List Value) (o:Nat) (w:World),w.grownBy (w.setCells b o vs) (some b)
 |[],_,w=>bJ _ w
 |v::r,o,w=>aA (bI (bJ (some b) w)) (cM b r (o+1) _)
def Bz {w:World} {cs:Array Value} (h:Box w b cs T) (o n:Nat) (c:o+n<=cs.size):w.there b o n:=λj a=>⟨by rw[h.cell];rw[Array.getElem?_eq_getElem (by omega)];rfl,h.frozen _⟩
section
variable {ops:Array Oper} {rest:List Oper} {o:Oper} {a:Act} {w:World} {Q:Exit->Act->World->Prop}
def OA (f:o.guard=none) (x y:Operand) (l:o.op= .store 146 x y) (b c:Nat) (d:Array Value) (m:a.eval x= .pointer (some ⟨b,c,none⟩)) (n:a.eval y=zX d) {e:Array Value} (i:Hid (Box w b e T)) (g:Hid (c+16<=e.size)) (j:Hid (d.size=16)) (k:Hid (d.all (·.oneCell')=true)) (h:∀w',Hid (Box w' b (dI e c d.toList) T)->Hid (w.grownBy w' (some b))->wpList zz ops Q rest (a.put o.dst undef) w'):wpList zz ops Q (o::rest) a w:=
 wpList_store_mid f 146 x y l b c d m n (Bz i c _ (by rw[j];exact g)) (by rw[p7,j]) k
  (h _ (zh (fC _ _ _ _ i)) (zh (cM _ _ _ _)))
end
def WA (cs:Array Value) (a:List (List Nat)):Prop:=∀j,j<zN a->(zG a j []).length=16/\∀q,q<16->cs[j*16+q]? =some (zI zi (((zG a j []).getD q 0:Nat):Int))
def WA.snoc {cs:Array Value} {bs:List (List Nat)} {r:List Nat} (h:WA cs bs) (c:zN r=16) (l:zN bs*16+16<=cs.size):WA (dI cs (zN bs*16) (wv r).toList) (bs++[r]):=λj k=>by
 have d:(wv r).toList.length=16:=by rw[Array.length_toList,aw,c]
 by_cases e:j<zN bs
 .have b:(bs++[r]).getD j []=zG bs j []:=by rw[DC,DC,D6 e]
  rw[b];have⟨g,i⟩:=h j e;refine⟨g,λq a=> ?_⟩;rw[hO _ _ _ _ (by left;omega)];exact i q a
 have f:j=zN bs:=by simp at k;omega
 subst f;have b:(bs++[r]).getD (zN bs) []=r:=by simp[DC]
 rw[b];refine⟨c,λq a=> ?_⟩;rw[kt _ _ _ _ (by rw[d];exact l) (by rw[d];exact a),Array.getElem?_toList];exact cG (by rw[c];exact a)
def WA.range {w:World} {cs:Array Value} {a:List (List Nat)} (h:WA cs a) (g:Box w b cs T) {j:Nat} (i:j<zN a):w.rangeAt b (j*16) (wv (zG a j [])).toList:=λq v c=>by
 have⟨d,f⟩:=h j i;have e:q<16:=by have:=(D0.1 c).1;rw[Array.length_toList,aw,d] at this;exact this
 rw[g.cell,f q e];rw[Array.getElem?_toList,cG (by rw[d];exact e)] at c;exact c
theorem WA.wl {w:World} {b:Nat} {cs:Array Value} {T:TypeId} {c:List (List Nat)} (h:WA cs c) (d:Box w b cs T):WL w b (1*16) c.tail:=⟨d.lt,λj f=>by
 rw[List.length_tail] at f;have:=h.range d (j:=j+1) (by omega);rw[Nat.add_mul] at this;have e:zG c.tail j []=zG c (j+1) []:=by
  cases c with
  |nil=>rfl
  |cons a r=>rfl
 rw[e,Nat.add_comm];exact this⟩
def NG (g:Nat) (b:Nat):Prop:=b≠g
def XU {w w':World} {g d:Nat} {x:Value} {l:List Ex} (h:Rs (exR d) w x l (NG g)) (hi:In (NG g) x (zN l)) (c:w.grownBy w' (some g)):Rs (exR d) w' x l (NG g):=iV h c.size (λf b a i=>c.block b a (by have:b≠g:=hi f b i;simpa using this)) (λb a e=>c.block b a (by have:b≠g:=e;simpa using this))
def l8 (m:Bm (List α)) (p:List α):Bm (List α):=m.bind λr=>Bm.ret (p++r)
def Cg {f:α->Bm β} {l:List α} {x0:α} {i:Nat} {p:List β} {F:List β->Bm γ} (hi:i<zN l):(l8 (pQ f (l.drop i)) p).bind F=(f (zG l i x0)).bind λb=>(l8 (pQ f (l.drop (i+1))) (p++[b])).bind F:=by rw[Eq hi,DC,DD hi];show(l8 ((f _).bind λb=>(pQ f _).bind λr=>Bm.ret (b::r)) p).bind F=_;unfold l8;simp only[eq,EQ];congr 1;funext b;congr 1;funext r;show F (p++b::r)=F (p++[b]++r);simp
def Qb {f:α->Bm β} {l:List α} {p:List β} {F:List β->Bm γ}:(l8 (pQ f (l.drop (zN l))) p).bind F=F p:=by rw[List.drop_length];show F (p++[])=F p;simp
def wX {f:α->Bm β} {l:List α} {F:List β->Bm γ}:(pQ f l).bind F=(l8 (pQ f (l.drop 0)) []).bind F:=by unfold l8;rw[D5];simp only[List.nil_append,ej]
def Vc:(zz.info? 146).map (λi=>(i.zero,i.size,i.bytes))=some (some (zX (wv z16)),16,128):=by kernel_rfl
theorem px (n:Nat) (e:n<=1000) (W:World):(Instr.makeSlice 199 (zI zi (n:Int)) (zI zi (n:Int))).run zz W= .ok (zU (some ⟨W.heap.size,0,none⟩) n n) (W.alloc (zC (madeCells (wv z16) (n*16)) 146)):=by
 cases hq:zz.info? 146 with
 |none=>have:=Vc;rw[hq] at this;cases this
 |some i=>have h:=Vc;rw[hq] at h;simp only[ES,DN,FH] at h;obtain⟨b,c,d⟩:=h;have a:=run_make (P:=zz) W 199 146 i (zX (wv z16)) underlying199 hq b .i64 .i64 n n (by omega) (by omega) (by rw[d];omega) (by omega);rw[c] at a;simp only[Eh] at a;exact a
def Bh (w:World) (g:Nat) (C:BC) (d:List Nd) (l:BB w g C d) (gb h t x y:Nat) (j:Box w gb #[zP g] 140) (k:Box w h #[zI zi t] 3) (o:okN d t) (p:okN d x) (r:okN d y):Calls zz 133 #[zI zi x,zI zi y,zP gb,zP h] w (fD bM okN w g C d (fB t x y d)):=by
 have i:=zh (RW w g C d l t x y o p r);generalize fB t x y d=q at*;have s:=j.A 0 _ rfl;have u:=k.A 0 _ rfl;go_enter func133,ntmps133;go_wp2;refine i.mono ?_;intro e w2 c;rcases c.cases with⟨a,d2,rfl,rfl,b,m,n,f⟩|⟨rfl,rfl,f⟩
 .unfold bM;go_wp2;go_ret;exact⟨f,rfl,b,m,n⟩
 exact⟨rfl,f,rfl⟩
end
section
variable {op:Int} {x:List Nat} {d:List Nd} {m:Nat}
def SB3 (gb c b:Nat) (B1 cs a:Array Value) (W:World):Prop:=Box W gb B1 140/\Box W c cs 146/\Box W b a 79
def Zl {bs:List (List Nat)} {c:List Nd} {cs:Array Value} (e j q:Nat) (i:Hid (zN bs=m)) (k:Hid (∀b∈bs,okW c b)) (n:Hid (WA cs bs)) (g:j<m) (l:j*16=q:=by rfl):∃x a,zG bs j []=x/\Hid (okW c x)/\Hid (a=wv x)/\Hid (a.size=16)/\Hid (∀W,Box W e cs 146->W.rangeAt e q a.toList):=by
 have d:j<zN bs:=by rw[i];exact g
 have f:okW c (zG bs j []):=by rw[DC,DD d];exact k _ (EE d)
 refine⟨_,_,rfl,f,rfl,by rw[aw];exact f.1,λW h=> ?_⟩;rw[<-l];exact n.range h d
def wvo (h:Hid (okW d x)):∃a,Hid (a=wv x)/\Hid (a.size=16)/\Hid (a.all (·.oneCell')=true):=⟨_,rfl,by rw[aw];exact h.1,bz _⟩
def Zk {w wr k:World} {g b:Nat} {C:BC} {d d2:List Nd} {j:Option (List Nat×List Nd)} {i n:Array Value} (m:Hid (j=some (x,d2))) (e:Hid (i=wv x)) (f:Hid (w.grownBy wr (some g))) (a:Hid (wr.grownBy k (some b))) (c:Hid (BB wr g C d2)) (o:Hid (Box wr b n 146)) (l:Hid (Ext d d2)) (q:Hid (okW d2 x)) (p:w.heap.size<=b:=by omega) (h:b≠g:=by omega):fD cU okW w g C d j (zE (zX i)) k:=by rw[m,e];exact⟨aJ f a p,rfl,c.grownBox o (by decide) h a,l,q⟩
def Sn (g:Nat) (C:BC) (vars:List Vr) (a:List Int) (V:ByteArray->Vl) (names:List ByteArray) (k:Nat):Prop:=∀(w:World) (d:List Nd),BB w g C d->BK w g C vars a V names->∀(b:Nat) (e:Ex) (x:Value),okE (λs=>decide (s∈names)) k e=true->Rs (exR b) w x e.a (NG g)->In (NG g) x (zN e.a)→
 Calls zz 74 #[zP g,zX #[zI zi e.op,zI zi e.n,zV e.s,x]] w (fD cU okW w g C d (iS V k e d))
def TC (h:ed op m=true):m<=40:=by
 unfold ed at h;split at h
 .simp at h;omega
 split at h
 .simp at h;omega
 split at h
 .simp at h;omega
 split at h
 .simp at h;omega
 simp at h;omega
def wP (h:ed op m=true):op=1\/op=2\/op=4\/op=5\/op=6\/op=25\/op=23\/op=22\/(7<=op/\op<=21):=by
 unfold ed at h;split at h
 .omega
 split at h
 .omega
 split at h
 .omega
 split at h
 .omega
 simp at h;omega
theorem xN (g:Nat) (C:BC) (vars:List Vr) (aF:List Int) (V:ByteArray->Vl) (names:List ByteArray) (k:Nat) (IH:Sn g C vars aF V names k):Sn g C vars aF V names (k+1):=by
 intro w d hb hk dd e x bi hr aE;obtain⟨op,n,M,args⟩:=e;change Rs (exR dd) w x args (NG g) at hr;change In (NG g) x (zN args) at aE;show Calls zz 74 #[zP g,zX #[zI zi op,zI zi n,zV M,x]] w (fD cU okW w g C d (iS V (k+1) (.mk op n M args) d));have⟨p1,p2,p3,p4,p5,p6⟩:=ny bi;have bg:zN args<=40:=TC p1;have am:=zh p1;have a3:=zh (And.intro p3 p4);have bB:=zh p5;have cb:=zl hb;have⟨l,HK,HI⟩:=zk3 hb hk IH;have a4:Hid (∀i,i<zN args->okE (λs=>decide (s∈names)) k (zG args i ex0)=true):=zh λi hi=>by rw[DC,DD hi];exact p6 _ (EE hi)
 have⟨F,hF⟩:=zv (λws=>if op=1 then Bm.ret (aB n.toNat 16) else if op=2 then vlB (V M) else opW op ws:List (List Nat)->Bm (List Nat));have HF:=zh hF;have a5:Hid (iS V (k+1) (.mk op n M args) d=((l8 (pQ (iS V k) (args.drop 0)) []).bind F) d):=zh (by rw[<-wX,hF];rfl);have⟨PQ,ba⟩:=zv (iS V (k+1) (.mk op n M args) d);rw[<-ba] at a5⊢;have⟨b8,b7⟩:=zk2 hr aE;obtain⟨A,c,rfl,bV⟩:=hr.slice;have⟨m,hm⟩:=zv (zN args);have HM:=zh hm;have bu:Hid (∀W,w.grownBy W (some g)->Rs (exR dd) W (zU A m c) args (NG g)):=zh λW U=>by rw[hm];exact XU hr aE U
 have MK:=px m (by omega);rw[<-hm] at a4 bV bg am⊢;have an:Hid ((wv z16).size=16):=zh (by rw[aw];rfl);have bw:Hid ((madeCells (wv z16) (m*16)).size=m*16):=zh (size_madeCells _ _);clear hb hk bi p1 p2 p3 p4 p5 p6 hF ba hr aE hm;generalize madeCells (wv z16) (m*16)=MC at*;go_enter func74,ntmps74;go_upto_region 1 with fail;rw[<-dU];generalize ak:w.alloc _=zw1 at*;generalize bp:zw1.alloc _=zw2 at*;generalize bq:zw2.alloc _=w1 at*;have⟨HB,D,B,G⟩:=zB3 ak bp bq;clear ak bp bq;replace l:=zh (l.Q HB);have bC:=zh G.lt;have b9:=MK w1;have a9:=za B 3;go_upto_region 2 with fail;generalize ak:w1.alloc _=w2 at*;have⟨aa,E⟩:=zA1 ak;clear ak;replace⟨l,D,B,G,HB⟩:=zb5 l D B G HB aa;clear aa;have cc:=bC.out;generalize w1.heap.size=gw at*;have z:=zh (aH (row:=some g) HB);have a9:=za B 3;go_wp2;go_loopw [16] (λi wr=>∃(j:Nat) (bs:List (List Nat)) (cs:Array Value) (d1:List Nd),j<=m/\i=zI zi j/\BB wr g C d1/\Ext d d1/\zN bs=j/\(∀b∈bs,okW d1 b)/\WA cs bs/\cs.size=m*16/\Box wr gw cs 146/\Box wr w.heap.size #[zP g] 140/\Box wr (w.heap.size+1) #[zI zi op,zI zi n,zV M,zU A m c] 79/\Box wr (w.heap.size+1+1) (wv z16) 146/\w.grownBy wr (some g)/\PQ=((l8 (pQ (iS V k) (args.drop j)) bs).bind F) d1) (λi _=>m-(intOf i).toNat)
 .exact⟨0,[],MC,d,DH _,rfl,l,Ext.refl d,rfl,λb hb=>by simp at hb,λj hj=>by simp at hj,bw,E,D,B,G,z,a5⟩
 obtain⟨j,bs,cs,d1,hj,rfl,hb,he,bb,bc,bj,aD,bo,bl,bm,bn,R,hq⟩:=hrel;have⟨l,Z,X,ah,ai,aI⟩:=zk6 hb he bb bc bj aD;have⟨E,D,B,G,z,I⟩:=zk6 bo bl bm bn R hq;clear hb he bb bc bj aD bo bl bm bn R hq;by_cases az:j<m
 .have⟨bf,j0⟩:=zln az;have be:j<zN args:=by rw[<-HM];exact az
  obtain⟨A',c',e1,_,ao⟩:=(bu wr z).exs;have⟨b,o,p,d',e2,ca,_,aj,aX,bd⟩:=ao j be;obtain rfl:=zas e1 e2;have v0:=aj 0 _ rfl;have v1:=aj 1 _ rfl;have v2:=aj 2 _ rfl;have v3:=aj 3 _ rfl;rw[Eb] at v0;have a2:=zh (a4 j az);replace I:=zh (I.trans (congrFun (Cg (x0:=ex0) be) d1));have⟨aA,a1⟩:=zk2 aX bd;generalize zG args j ex0=e at*;obtain⟨Ap,cp,rfl,bS⟩:=aX.slice;clear ao aj e1 e2 aX bd;have⟨eo,aR⟩:=zv (e.op);have⟨en,aQ⟩:=zv (e.n);have⟨em,aO⟩:=zv (e.s);have⟨el,aN⟩:=zv (zN e.a);rw[<-aR] at v0;rw[<-aQ] at v1;rw[<-aO] at v2;rw[<-aN] at v3 aA a1;have CW:=zh fun(W:World) (bQ:BB W g C d1) (bR:BK W g C vars aF V names) (hR:Rs (exR d') W (zU Ap el cp) e.a (NG g))=>HI W d1 bQ bR d' e (zU Ap el cp) a2 hR (by rw[<-aN];exact a1);rw[<-aR,<-aQ,<-aO] at CW;clear aR aQ aO aN bS;go_upto_region 5 with fail;clear v0 v1 v2 v3;have XA:=zh (Box.new wr 79 #[zI zi eo,zI zi en,zV em,zU Ap el cp]);have b5:w.heap.size<=wr.heap.size:=z.size;have aa:=ab wr (zC #[zI zi eo,zI zi en,zV em,zU Ap el cp] 79);replace⟨l,E,D,B,G⟩:=zb5 l E D B G aa;replace z:=zh (au z aa);replace aA:=zb aA aa;clear aa;generalize wr.alloc (zC #[zI zi eo,zI zi en,zV em,zU Ap el cp] 79)=w3,wr.heap.size=ga at*;have a8:=za D 0;obtain⟨bZ,b0,b1,b2⟩:=zc4 XA;have CO:=zh (CW w3 l (HK.step z) aA);go_wp2;refine zoC CO I Z z (λ_ hn=>⟨rfl,zn hn⟩) λw4 r d2 I l he P R Z z=> ?_;replace⟨E,D,B,G⟩:=zg4 E D B G R;have ay:=zh he;clear he R;unfold cU;have K:Hid ((wv r).size=16):=zh (by rw[aw,P.1]);have H1:Hid ((wv r).all (·.oneCell')=true):=zh (bz _);have bA:Hid (j*16+16<=cs.size):=zh (by rw[aI];omega);have⟨CR,aM⟩:=zv (wv r);have L:=zh aM;rw[<-aM] at K H1⊢;clear aM;go_wp2_with(refine OA rfl _ _ rfl gw (j*16) CR (by rfl) (by rfl) E bA K H1 ?_;intro w5 bO av);go_roundw
  .refine⟨j+1,bs++[r],dI cs (j*16) CR.toList,d2,by omega,by go_num,l.grownBox E (by decide) (by omega) av,Z,by rw[DI,X];rfl,λb hb=> ?_, ?_,by rw[oq];exact aI,bO,ap D av,ap B av,ap G av,aJ z av,I⟩
   .rcases EK.1 hb with hb|hb
    .exact(ah b hb).ext ay
    rw[ER.1 hb];exact P
   have:=ai.snoc P.1 (by rw[X,aI];omega);rw[X,<-L] at this;exact this
  simp[intOf];omega
 have bf:=zge az;have aT:j=m:=by omega
 replace I:=zh (show PQ=F bs d1 by rw[I,aT,HM,Qb]);replace X:=zh (show zN bs=m by rw[X,aT]);rw[HF] at I;clear aT az hj;have aD:=wP am;rcases aD with rfl|rfl|rfl|rfl|rfl|rfl|rfl|rfl|⟨h7,bP⟩
 .skip;obtain⟨nn,rfl⟩:=FE a3.1;have hn:nn<65536:=by have:=a3.2;omega
  replace I:Hid (PQ=(Bm.ret (aB nn 16)) d1):=zh I;obtain⟨ag,b3⟩:=zc2 B;go_wp2;refine zK (dP wr nn hn) λw3 hb=> ?_;replace⟨l,G⟩:=zb2 l G hb;replace z:=zh (au z hb);clear hb;unfold cU;have⟨CR,L,K,H1⟩:=wvo (d:=d1) (x:=aB nn 16) (dS l.2 nn);rw[<-L];go_wp2_with(refine aP rfl _ _ rfl (w.heap.size+1+1) CR (by rfl) (by rfl) G an K H1 ?_;intro w9 Y H);exact D7 (v:=zX CR) (aW results74 _ rfl Y K) rfl (Zk (x:=aB nn 16) (d2:=d1) I L z H l G Z (dS l.2 nn))
 .skip;have bx:=zh (Ey (bB rfl));have a8:=za D 0;obtain⟨ag,b4⟩:=zd2 B 0 2;replace I:Hid (PQ=((vlB (V M)).bind λr=>Bm.ret r) d1):=zh (by simp only[ej];exact I);have CO:=zh (xO wr g C d1 l vars aF V names (HK.step z) M bx);go_wp2;refine zoC CO I Z z (λ_ hn=>⟨rfl,zn hn⟩) λw3 r d2 I l he P R Z z=> ?_;replace G:=zg G R;clear he R;unfold cU;have⟨CR,L,K,H1⟩:=wvo (d:=d2) (x:=r) (P);rw[<-L];go_wp2_with(refine aP rfl _ _ rfl (w.heap.size+1+1) CR (by rfl) (by rfl) G an K H1 ?_;intro w9 Y H);exact D7 (v:=zX CR) (aW results74 _ rfl Y K) rfl (Zk (x:=r) (d2:=d2) I L z H l G Z (P))
 .skip;have T:Hid (m=1):=zh (by have p1:=am.out;simpa [ed] using p1);replace I:Hid (PQ=((bH (zG bs 0 []) 0).bind λt=>(gI t).bind λu=>Bm.ret (aK u)) d1):=zh (by exact I);have af:0<m:=by rw[T];decide
  have al:(0:Int)<(m:Int):=by omega
  have⟨x0,ad,S,ac,N,Q,R0⟩:=Zl gw 0 0 X ah ai af;rw[S] at I;clear S;have ag:=za B 0;go_upto_region 13 with fail;refine zhd (SB3 w.heap.size gw (w.heap.size+1) #[zP g] cs #[zI zi 4,zI zi n,zV M,zU A m c]) ⟨D,E,B⟩ (λhS=> ?_);have J:zL wr wr.drew:=ae _;replace⟨D,E,B,G,l⟩:=zb5 D E B G l J;replace z:=zh (au z J);clear J;generalize wr.drew=w3 at*;refine zt 0 (zP g) rfl (zQ ⟨by rfl,λW U=>by obtain⟨s1,s2,s3⟩:=U;have q:=s1.A 0 _ rfl;go_simp⟩) ?_;simp only[zp];refine zt 1 (zP g) rfl (zQ ⟨by rfl,λW U=>by obtain⟨s1,s2,s3⟩:=U;have q:=s1.A 0 _ rfl;go_simp⟩) ?_;refine zta 2 (zU (some ⟨gw,0,none⟩) m m) rfl ?_;refine zta 3 (zP gw) rfl ?_;simp only[zp];refine zt 4 (zX ad) rfl (dX gw 0 (λW U=>R0 W U.2.1) Q) ?_;simp only[zp];clear hS;refine aC 5 rfl ?_;go_wp2;have CO:=zh (kO w3 g C d1 l x0 ac);rw[<-N] at CO;refine zoC CO I Z z (λ_ hn=>⟨rfl,zn hn⟩) λw4 t d2 I l he aq R Z z=> ?_;replace⟨D,E,B,G⟩:=zg4 D E B G R;clear he R;unfold bM;go_wp2;refine⟨⟨D,E,B⟩, ?_⟩;refine aC 6 rfl ?_;go_wp2;have CO:=zh (lp w4 g C d2 l t aq);refine zoC CO I Z z (λ_ hn=>⟨rfl,zn hn⟩) λw5 u d3 I l he a7 R Z z=> ?_;replace⟨D,E,B,G⟩:=zg4 D E B G R;clear he R;unfold bM;go_wp2;refine⟨⟨D,E,B⟩, ?_⟩;refine aC 7 rfl ?_;go_wp2;refine zK (io w5 u) λw6 hb=> ?_;replace⟨D,E,B,G,l⟩:=zb5 D E B G l hb;replace z:=zh (au z hb);clear hb;unfold cU;have⟨CR,L,K,H1⟩:=wvo (d:=d3) (x:=aK u) (fK l.2 a7);rw[<-L];go_wp2;refine⟨⟨D,E,B⟩, ?_⟩;refine aC 8 rfl ?_;go_wp2_with(refine aP rfl _ _ rfl (w.heap.size+1+1) CR (by rfl) (by rfl) G an K H1 ?_;intro w9 Y H);refine⟨⟨ap D H,ap E H,ap B H⟩,zdn ?_⟩;go_wp2;exact D7 (v:=zX CR) (aW results74 _ rfl Y K) rfl (Zk (x:=aK u) (d2:=d3) I L z H l G Z (fK l.2 a7))
 .skip;have T:Hid (m=1):=zh (by have p1:=am.out;simpa [ed] using p1);replace I:Hid (PQ=((jh (zG bs 0 [])).bind λr=>Bm.ret r) d1):=zh (by simp only[ej];exact I);have af:0<m:=by rw[T];decide
  have al:(0:Int)<(m:Int):=by omega
  have⟨x0,ad,S,ac,N,Q,R0⟩:=Zl gw 0 0 X ah ai af;rw[S] at I;clear S;have ag:=za B 0;go_upto_region 15 with fail;refine zhd (SB3 w.heap.size gw (w.heap.size+1) #[zP g] cs #[zI zi 5,zI zi n,zV M,zU A m c]) ⟨D,E,B⟩ (λhS=> ?_);have J:zL wr wr.drew:=ae _;replace⟨D,E,B,G,l⟩:=zb5 D E B G l J;replace z:=zh (au z J);clear J;generalize wr.drew=w3 at*;refine zt 0 (zP g) rfl (zQ ⟨by rfl,λW U=>by obtain⟨s1,s2,s3⟩:=U;have q:=s1.A 0 _ rfl;go_simp⟩) ?_;refine zta 1 (zU (some ⟨gw,0,none⟩) m m) rfl ?_;refine zta 2 (zP gw) rfl ?_;simp only[zp];refine zt 3 (zX ad) rfl (dX gw 0 (λW U=>R0 W U.2.1) Q) ?_;simp only[zp];clear hS;refine aC 4 rfl ?_;go_wp2;have CO:=zh (mP w3 g C d1 l x0 ac);rw[<-N] at CO;refine zoC CO I Z z (λ_ hn=>⟨rfl,zn hn⟩) λw4 r d2 I l he P R Z z=> ?_;replace⟨D,E,B,G⟩:=zg4 D E B G R;clear he R;unfold cU;have⟨CR,L,K,H1⟩:=wvo (d:=d2) (x:=r) (P);rw[<-L];go_wp2;refine⟨⟨D,E,B⟩, ?_⟩;refine aC 5 rfl ?_;go_wp2_with(refine aP rfl _ _ rfl (w.heap.size+1+1) CR (by rfl) (by rfl) G an K H1 ?_;intro w9 Y H);refine⟨⟨ap D H,ap E H,ap B H⟩,zdn ?_⟩;go_wp2;exact D7 (v:=zX CR) (aW results74 _ rfl Y K) rfl (Zk (x:=r) (d2:=d2) I L z H l G Z (P))
 .skip;have T:Hid (m=1):=zh (by have p1:=am.out;simpa [ed] using p1);replace I:Hid (PQ=((qA (aB 0 16) (zG bs 0 [])).bind λr=>Bm.ret r) d1):=zh (by simp only[ej];exact I);have af:0<m:=by rw[T];decide
  have al:(0:Int)<(m:Int):=by omega
  have⟨x0,ad,S,ac,N,Q,R0⟩:=Zl gw 0 0 X ah ai af;rw[S] at I;clear S;have ag:=za B 0;go_upto_region 17 with fail;refine zhd (SB3 w.heap.size gw (w.heap.size+1) #[zP g] cs #[zI zi 6,zI zi n,zV M,zU A m c]) ⟨D,E,B⟩ (λhS=> ?_);have J:zL wr wr.drew:=ae _;replace⟨D,E,B,G,l⟩:=zb5 D E B G l J;replace z:=zh (au z J);clear J;generalize wr.drew=w3 at*;refine zt 0 (zP g) rfl (zQ ⟨by rfl,λW U=>by obtain⟨s1,s2,s3⟩:=U;have q:=s1.A 0 _ rfl;go_simp⟩) ?_;refine zta 2 (zU (some ⟨gw,0,none⟩) m m) rfl ?_;refine zta 3 (zP gw) rfl ?_;simp only[zp];refine zt 4 (zX ad) rfl (dX gw 0 (λW U=>R0 W U.2.1) Q) ?_;simp only[zp];clear hS;refine aC 1 rfl ?_;go_wp2;refine zK (dP w3 0 (by decide)) λbY hb=> ?_;replace⟨D,E,B,G,l⟩:=zb5 D E B G l hb;replace z:=zh (au z hb);clear hb;unfold cU;have⟨KS,aS⟩:=zv (wv (aB 0 16));have bv:=zh aS;rw[<-aS];clear aS;go_wp2;refine⟨⟨D,E,B⟩, ?_⟩;refine aC 5 rfl ?_;go_wp2;have CO:=zh (mO bY g C d1 l (aB 0 16) x0 (dS l.2 0) ac);rw[<-bv,<-N] at CO;refine zoC CO I Z z (λ_ hn=>⟨rfl,zn hn⟩) λw4 r d2 I l he P R Z z=> ?_;replace⟨D,E,B,G⟩:=zg4 D E B G R;clear he R;unfold cU;have⟨CR,L,K,H1⟩:=wvo (d:=d2) (x:=r) (P);rw[<-L];go_wp2;refine⟨⟨D,E,B⟩, ?_⟩;refine aC 6 rfl ?_;go_wp2_with(refine aP rfl _ _ rfl (w.heap.size+1+1) CR (by rfl) (by rfl) G an K H1 ?_;intro w9 Y H);refine⟨⟨ap D H,ap E H,ap B H⟩,zdn ?_⟩;go_wp2;exact D7 (v:=zX CR) (aW results74 _ rfl Y K) rfl (Zk (x:=r) (d2:=d2) I L z H l G Z (P))
 .skip;have T:Hid (m=1):=zh (by have p1:=am.out;simpa [ed] using p1);replace I:Hid (PQ=((ld (zG bs 0 []) (aB 0 16)).bind λr=>Bm.ret r) d1):=zh (by simp only[ej];exact I);have af:0<m:=by rw[T];decide
  have al:(0:Int)<(m:Int):=by omega
  have⟨x0,ad,S,ac,N,Q,R0⟩:=Zl gw 0 0 X ah ai af;rw[S] at I;clear S;have ag:=za B 0;go_upto_region 19 with fail;refine zhd (SB3 w.heap.size gw (w.heap.size+1) #[zP g] cs #[zI zi 25,zI zi n,zV M,zU A m c]) ⟨D,E,B⟩ (λhS=> ?_);have J:zL wr wr.drew:=ae _;replace⟨D,E,B,G,l⟩:=zb5 D E B G l J;replace z:=zh (au z J);clear J;generalize wr.drew=w3 at*;refine zt 0 (zP g) rfl (zQ ⟨by rfl,λW U=>by obtain⟨s1,s2,s3⟩:=U;have q:=s1.A 0 _ rfl;go_simp⟩) ?_;refine zta 1 (zU (some ⟨gw,0,none⟩) m m) rfl ?_;refine zta 2 (zP gw) rfl ?_;simp only[zp];refine zt 3 (zX ad) rfl (dX gw 0 (λW U=>R0 W U.2.1) Q) ?_;simp only[zp];clear hS;refine aC 4 rfl ?_;go_wp2;have CO:=zh (W7 w3 g C d1 l x0 ac);rw[<-N] at CO;refine zoC CO I Z z (λ_ hn=>⟨rfl,zn hn⟩) λw4 r d2 I l he P R Z z=> ?_;replace⟨D,E,B,G⟩:=zg4 D E B G R;clear he R;unfold cU;have⟨CR,L,K,H1⟩:=wvo (d:=d2) (x:=r) (P);rw[<-L];go_wp2;refine⟨⟨D,E,B⟩, ?_⟩;refine aC 5 rfl ?_;go_wp2_with(refine aP rfl _ _ rfl (w.heap.size+1+1) CR (by rfl) (by rfl) G an K H1 ?_;intro w9 Y H);refine⟨⟨ap D H,ap E H,ap B H⟩,zdn ?_⟩;go_wp2;exact D7 (v:=zX CR) (aW results74 _ rfl Y K) rfl (Zk (x:=r) (d2:=d2) I L z H l G Z (P))
 .skip;have T:Hid (3<=m/\m<=33):=zh (by have p1:=am.out;simp[ed] at p1;omega);replace I:Hid (PQ=((eA (zG bs 0 []) bs.tail 0).bind λt=>Bm.ret (aK t)) d1):=zh (by exact I);have af:0<m:=by have:=T.out;omega
  have al:(0:Int)<(m:Int):=by omega
  have bE:Hid (∀ws∈bs.tail,okW d1 ws):=zh λws bX=>ah ws (List.mem_of_mem_tail bX);have bD:Hid (zN bs.tail=m-1):=zh (by rw[List.length_tail,X]);have bF:Hid (∀W,Box W gw cs 146->WL W gw 16 bs.tail):=zh λW h=>ai.wl h;have m1:1<=m:=by have:=T.out;omega
  have cd:(1:Int)<=(m:Int):=by omega
  have ce:¬m=1:=by have:=T.out;omega
  generalize bs.tail=bt at*;have⟨x0,ad,S,ac,N,Q,R0⟩:=Zl gw 0 0 X ah ai af;rw[S] at I;clear S;have ag:=za B 0;go_upto_region 21 with fail;refine zhd (SB3 w.heap.size gw (w.heap.size+1) #[zP g] cs #[zI zi 23,zI zi n,zV M,zU A m c]) ⟨D,E,B⟩ (λhS=> ?_);have J:zL wr wr.drew:=ae _;replace⟨D,E,B,G,l⟩:=zb5 D E B G l J;replace z:=zh (au z J);clear J;generalize wr.drew=w3 at*;refine zt 0 (zP g) rfl (zQ ⟨by rfl,λW U=>by obtain⟨s1,s2,s3⟩:=U;have q:=s1.A 0 _ rfl;go_simp⟩) ?_;refine zta 1 (zU (some ⟨gw,0,none⟩) m m) rfl ?_;refine zta 2 (zP gw) rfl ?_;simp only[zp];refine zt 3 (zX ad) rfl (dX gw 0 (λW U=>R0 W U.2.1) Q) ?_;refine zta 4 (zU (some ⟨gw,0,none⟩) m m) rfl ?_;refine zta 5 (zU (some ⟨gw,16,none⟩) (m-1) (m-1)) rfl ?_;simp only[zp];clear hS;refine aC 6 rfl ?_;go_wp2;have CO:=zh (RR w3 g C d1 l x0 ac gw 16 (m-1) (m-1) bt (bF _ E) bD (DE _) (by omega) bE (by omega));rw[<-N] at CO;refine zoC CO I Z z (λ_ hn=>⟨rfl,zn hn⟩) λw4 t d2 I l he aq R Z z=> ?_;replace⟨D,E,B,G⟩:=zg4 D E B G R;clear he R;unfold bM;go_wp2;refine⟨⟨D,E,B⟩, ?_⟩;refine aC 7 rfl ?_;go_wp2;refine zK (io w4 t) λw6 hb=> ?_;replace⟨D,E,B,G,l⟩:=zb5 D E B G l hb;replace z:=zh (au z hb);clear hb;unfold cU;have⟨CR,L,K,H1⟩:=wvo (d:=d2) (x:=aK t) (fK l.2 aq);rw[<-L];go_wp2;refine⟨⟨D,E,B⟩, ?_⟩;refine aC 8 rfl ?_;go_wp2_with(refine aP rfl _ _ rfl (w.heap.size+1+1) CR (by rfl) (by rfl) G an K H1 ?_;intro w9 Y H);refine⟨⟨ap D H,ap E H,ap B H⟩,zdn ?_⟩;go_wp2;exact D7 (v:=zX CR) (aW results74 _ rfl Y K) rfl (Zk (x:=aK t) (d2:=d2) I L z H l G Z (fK l.2 aq))
 .skip;have T:Hid (m=3):=zh (by have p1:=am.out;simpa [ed] using p1);replace I:Hid (PQ=((bH (zG bs 0 []) 0).bind λt=>(dL (λf g=>fB t f g) (zG bs 1 []) (zG bs 2 [])).bind λr=>Bm.ret r) d1):=zh (by simp only[ej];exact I);have af:0<m:=by rw[T];decide
  have al:(0:Int)<(m:Int):=by omega
  have aU:1<m:=by rw[T];decide
  have bh:(1:Int)<(m:Int):=by omega
  have bU:2<m:=by rw[T];decide
  have b6:(2:Int)<(m:Int):=by omega
  have⟨x0,ad,S,ac,N,Q,R0⟩:=Zl gw 0 0 X ah ai af;rw[S] at I;clear S;have⟨x1,aG,ao,aL,ar,ax,R1⟩:=Zl gw 1 16 X ah ai aU;rw[ao] at I;clear ao;have⟨x2,br,bk,bG,aZ,a6,R2⟩:=Zl gw 2 32 X ah ai bU;rw[bk] at I;clear bk;have ag:=za B 0;go_upto_region 23 with fail;refine zhd (SB3 w.heap.size gw (w.heap.size+1) #[zP g] cs #[zI zi 22,zI zi n,zV M,zU A m c]) ⟨D,E,B⟩ (λhS=> ?_);have J:zL wr wr.drew:=ae _;replace⟨D,E,B,G,l⟩:=zb5 D E B G l J;replace z:=zh (au z J);clear J;generalize wr.drew=w3 at*;refine zt 0 (zP g) rfl (zQ ⟨by rfl,λW U=>by obtain⟨s1,s2,s3⟩:=U;have q:=s1.A 0 _ rfl;go_simp⟩) ?_;refine zta 1 (zU (some ⟨gw,0,none⟩) m m) rfl ?_;refine zta 2 (zP gw) rfl ?_;simp only[zp];refine zt 3 (zX ad) rfl (dX gw 0 (λW U=>R0 W U.2.1) Q) ?_;simp only[zp];clear hS;refine QF (i:=4) (j:=5) (by kernel_rfl) rfl rfl ?ha ?hc;case' ha=>
   go_wp2;have CO:=zh (kO w3 g C d1 l x0 ac);rw[<-N] at CO;refine zoC CO I Z z (λ_ hn=>⟨rfl,zn hn⟩) λw4 t d2 I l he aq R Z z=> ?_;replace⟨D,E,B,G⟩:=zg4 D E B G R;have ay:=zh he;clear he R;unfold bM;go_wp2;refine⟨⟨D,E,B⟩, ?_⟩;refine aC 5 rfl ?_;go_wp2;generalize ak:w4.alloc _=w5 at*;have⟨aa,XT⟩:=zA1 ak;clear ak;have bT:gw<w4.heap.size:=E.lt;replace⟨D,E,B,G,l⟩:=zb5 D E B G l aa;replace z:=zh (au z aa);clear aa;generalize w4.heap.size=gt at*;refine⟨⟨D,E,B⟩, ?_⟩
  case' hc=>go_wp2;generalize ak:w3.alloc _=w4 at*;have⟨aa,XT⟩:=zA1 ak;clear ak;have bT:gw<w3.heap.size:=E.lt;replace⟨D,E,B,G,l⟩:=zb5 D E B G l aa;replace z:=zh (au z aa);clear aa;generalize w3.heap.size=gt at*;refine⟨⟨D,E,B⟩, ?_⟩;refine aC 4 rfl ?_;go_wp2;have CO:=zh (kO w4 g C d1 l x0 ac);rw[<-N] at CO;refine zoC CO I Z z (λ_ hn=>⟨rfl,zn hn⟩) λw5 t d2 I l he aq R Z z=> ?_;replace⟨D,E,B,G,XT⟩:=zg5 D E B G XT R;have ay:=zh he;clear he R;unfold bM;go_wp2;refine⟨⟨D,E,B⟩, ?_⟩
  all_goals
   have xt:=za XT 0;have xz:=XT.Z 0;have xl:=XT.lt;refine aC 6 rfl ?_;go_wp2;have aY:=zh (l.setBox XT (by decide) (by omega) 0 (zI zi t));have bI:=zh (D.setNe ⟨gt,0,none⟩ (zI zi t));have bN:=zh (E.setNe ⟨gt,0,none⟩ (zI zi t));have bJ:=zh (B.setNe ⟨gt,0,none⟩ (zI zi t));have bK:=zh (G.setNe ⟨gt,0,none⟩ (zI zi t));have bL:=zh (XT.set_ 0 (zI zi t));have a0:=zh (cx (i:=0) (u:=zI zi t) z (b:=gt) (by omega));clear xt xz xl;generalize w5.setCell ⟨gt,0,none⟩ (zI zi t)=w7 at*;have l:=aY;have D:=bI;have E:=bN;have B:=bJ;have G:=bK;have XT:Hid (Box w7 gt #[zI zi t] 3):=bL;have z:=a0;refine⟨⟨D,E,B⟩,zdn ?_⟩;have bW:=zm;go_upto_region 24 with fail;refine zhd (SB3 w.heap.size gw (w.heap.size+1) #[zP g] cs #[zI zi 22,zI zi n,zV M,zU A m c]) ⟨D,E,B⟩ (λhS=> ?_);have J:zL w7 w7.drew:=ae _;replace⟨D,E,B,G,XT⟩:=zb5 D E B G XT J;replace l:=zb l J;replace z:=zh (au z J);clear J;generalize w7.drew=w8 at*;refine zta 0 (zU (some ⟨gw,0,none⟩) m m) rfl ?_;refine zta 1 (.pointer (some ⟨gw,16,none⟩)) rfl ?_;simp only[zp];refine zt 2 (zX aG) rfl (dX gw 16 (λW U=>R1 W U.2.1) ax) ?_;refine zta 3 (zU (some ⟨gw,0,none⟩) m m) rfl ?_;refine zta 4 (.pointer (some ⟨gw,32,none⟩)) rfl ?_;simp only[zp];refine zt 5 (zX br) rfl (dX gw 32 (λW U=>R2 W U.2.1) a6) ?_;refine zta 6 (.func (.func 133) #[] #[.pointer (some ⟨w.heap.size,0,none⟩),zP gt]) rfl ?_;simp only[zp];clear hS bW;refine aC 7 rfl ?_;go_wp2;have CO:=zh (mM w8 g C d2 l x1 x2 (aL.ext ay) (bG.ext ay) 133 #[] #[.pointer (some ⟨w.heap.size,0,none⟩),zP gt] (λf g=>fB t f g) (λx y W=>by kernel_rfl) (λW d4 x y hb he R hx hy=>Bh W g C d4 hb w.heap.size gt t x y (ap D R) (ap XT R) (aq.ext he) hx hy));rw[<-ar,<-aZ] at CO;refine zoC CO I Z z (λ_ hn=>⟨rfl,zn hn⟩) λw9 r d3 I l he P R Z z=> ?_;replace⟨D,E,B,G⟩:=zg4 D E B G R;clear he R;unfold cU;have⟨CR,L,K,H1⟩:=wvo (d:=d3) (x:=r) (P);rw[<-L];go_wp2;refine⟨⟨D,E,B⟩, ?_⟩;refine aC 8 rfl ?_;go_wp2_with(refine aP rfl _ _ rfl (w.heap.size+1+1) CR (by rfl) (by rfl) G an K H1 ?_;intro w9 Y H);refine⟨⟨ap D H,ap E H,ap B H⟩,zdn ?_⟩;go_wp2;exact D7 (v:=zX CR) (aW results74 _ rfl Y K) rfl (Zk (x:=r) (d2:=d3) I L z H l G Z (P))
 skip;have T:Hid (m=2):=zh (by have p1:=am.out;unfold ed at p1;rw[DK (by omega),DK (by omega),DK (by omega),DK (by omega)] at p1;simp at p1;omega);have n1:((op:Int)==1)=false:=by rw[Fb];omega
 have n2:((op:Int)==2)=false:=by rw[Fb];omega
 have n4:((op:Int)==4)=false:=by rw[Fb];omega
 have n5:((op:Int)==5)=false:=by rw[Fb];omega
 have n6:((op:Int)==6)=false:=by rw[Fb];omega
 have ch:((op:Int)==25)=false:=by rw[Fb];omega
 have cg:((op:Int)==23)=false:=by rw[Fb];omega
 have cf:((op:Int)==22)=false:=by rw[Fb];omega
 have e1:¬op=1:=by omega
 have e2:¬op=2:=by omega
 have aV:PQ=(if op=1 then Bm.ret (aB n.toNat 16) else if op=2 then vlB (V M) else opW op bs) d1:=I;rw[DK e1,DK e2] at aV;clear e1 e2;replace I:=zh (show PQ=((opW op [zG bs 0 [],zG bs 1 []]).bind λr=>Bm.ret r) d1 by
  have e:bs=[zG bs 0 [],zG bs 1 []]:=by
   have h2:=X.out;rw[T] at h2;match bs,h2 with
   |[a,b],_=>rfl
  simp only[ej];rw[<-e];exact aV);clear aV;have af:0<m:=by rw[T];decide
 have al:(0:Int)<(m:Int):=by omega
 have aU:1<m:=by rw[T];decide
 have bh:(1:Int)<(m:Int):=by omega
 have⟨x0,ad,S,ac,N,Q,R0⟩:=Zl gw 0 0 X ah ai af;rw[S] at I;clear S;have⟨x1,aG,ao,aL,ar,ax,R1⟩:=Zl gw 1 16 X ah ai aU;rw[ao] at I;clear ao;have ag:=za B 0;go_upto_region 25 with fail;refine zhd (SB3 w.heap.size gw (w.heap.size+1) #[zP g] cs #[zI zi op,zI zi n,zV M,zU A m c]) ⟨D,E,B⟩ (λhS=> ?_);have J:zL wr wr.drew:=ae _;replace⟨D,E,B,G,l⟩:=zb5 D E B G l J;replace z:=zh (au z J);clear J;generalize wr.drew=w3 at*;refine zt 0 (zP g) rfl (zQ ⟨by rfl,λW U=>by obtain⟨s1,s2,s3⟩:=U;have q:=s1.A 0 _ rfl;go_simp⟩) ?_;refine zta 1 (.pointer (some ⟨w.heap.size+1,0,none⟩)) rfl ?_;simp only[zp];refine zt 2 (zI zi op) rfl (zQ ⟨by rfl,λW U=>by obtain⟨s1,s2,s3⟩:=U;have q:=s3.A 0 _ rfl;go_simp⟩) ?_;refine zta 3 (zU (some ⟨gw,0,none⟩) m m) rfl ?_;refine zta 4 (zP gw) rfl ?_;simp only[zp];refine zt 5 (zX ad) rfl (dX gw 0 (λW U=>R0 W U.2.1) Q) ?_;refine zta 6 (zU (some ⟨gw,0,none⟩) m m) rfl ?_;refine zta 7 (.pointer (some ⟨gw,16,none⟩)) rfl ?_;simp only[zp];refine zt 8 (zX aG) rfl (dX gw 16 (λW U=>R1 W U.2.1) ax) ?_;simp only[zp];clear hS;refine aC 9 rfl ?_;go_wp2;have CO:=zh (RX w3 g C d1 l x0 x1 ac aL op h7 bP);rw[<-N,<-ar] at CO;refine zoC CO I Z z (λ_ hn=>⟨rfl,zn hn⟩) λw4 r d2 I l he P R Z z=> ?_;replace⟨D,E,B,G⟩:=zg4 D E B G R;clear he R;unfold cU;have⟨CR,L,K,H1⟩:=wvo (d:=d2) (x:=r) (P);rw[<-L];go_wp2;refine⟨⟨D,E,B⟩, ?_⟩;refine aC 10 rfl ?_;go_wp2_with(refine aP rfl _ _ rfl (w.heap.size+1+1) CR (by rfl) (by rfl) G an K H1 ?_;intro w9 Y H);refine⟨⟨ap D H,ap E H,ap B H⟩,zdn ?_⟩;go_wp2;exact D7 (v:=zX CR) (aW results74 _ rfl Y K) rfl (Zk (x:=r) (d2:=d2) I L z H l G Z (P))
theorem RN (g:Nat) (C:BC) (vars:List Vr) (a:List Int) (V:ByteArray->Vl) (names:List ByteArray):∀k,Sn g C vars a V names k
 |0=>λw d i hk h e x b j f=>by obtain⟨op,n,c,args⟩:=e;exact absurd b (by simp[okE])
 |k+1=>xN g C vars a V names k (RN g C vars a V names k)
end
def SB2 (gb b:Nat) (B1 a:Array Value) (W:World):Prop:=Box W gb B1 140/\Box W b a 79
def Za (a:Nat) (w:World) (g:Nat) (C:BC) (d:List Nd) (r:Option (Nat×List Nd)) (e:Ending) (w':World):Prop:=match r with
 |some (t,d')=>∃w1,w.grownBy w1 (some g)/\BB w1 g C d'/\Ext d d'/\okN d' t/\e=zE (zY #[])/\w'=w1.setCell ⟨a,0,none⟩ (zI zi t)
 |none=>w.grownBy w' (some g)/\e= .panicked (oE 2)
def gG (V:ByteArray->Vl) (k:Nat) (e:Ex):Bm Nat:=(iS V k e).bind λws=>bH ws 0
def RO (g:Nat) (C:BC) (vars:List Vr) (y:List Int) (V:ByteArray->Vl) (names:List ByteArray) (k:Nat) (w:World) (d:List Nd) (hb:BB w g C d) (hk:BK w g C vars y V names) (X:Nat) (e:Ex) (x:Value) (K:okE (λs=>decide (s∈names)) k e=true) (hr:Rs (exR X) w x e.a (NG g)) (I:In (NG g) x (zN e.a)) (gb E m:Nat) (ad:gb≠g) (af:E≠g) (ag:m≠g) (ab:m≠gb) (L:m≠E) (hB:Box w gb #[zP g] 140) (hE:Box w E #[zI zi e.op,zI zi e.n,zV e.s,x] 79) (hT:Box w m #[zI zi 0] 3):Calls zz 72 #[zP gb,zP E,zP m] w (Za m w g C d (gG V k e d)):=by have⟨b,h,f,c,i⟩:=zk5 hb hr hB hE hT;have a:=zh (bJ (some g) w);have B:=zh (Ext.refl d);have z:Hid (gG V k e d=((iS V k e).bind λws=>(bH ws 0).bind λt=>Bm.ret t) d):=zh (by unfold gG;simp only[ej]);have⟨PQ,F⟩:=zv (gG V k e d);rw[<-F] at z⊢;clear F;obtain⟨M,P,rfl,aa⟩:=hr.slice;have D:=zh I;have HW:=zh (RN g C vars y V names k);have⟨eo,p⟩:=zv (e.op);have⟨en,o⟩:=zv (e.n);have⟨em,n⟩:=zv (e.s);have⟨Q,j⟩:=zv (zN e.a);rw[<-p,<-o,<-n,<-j] at c;rw[<-j] at h D;have CW:=zh fun(W:World) (Y:BB W g C d) (Z:BK W g C vars y V names) (hR:Rs (exR X) W (zU M Q P) e.a (NG g))=>HW W d Y Z X e (zU M Q P) K hR (by rw[<-j];exact D);rw[<-p,<-o,<-n] at CW;have HK:=zh hk;clear p o n j aa hb hk hr I hB hE hT K;go_enter func72,ntmps72;go_upto_region 0 with fail;refine zhd (SB2 gb E #[zP g] #[zI zi eo,zI zi en,zV em,zU M Q P]) ⟨f,c⟩ (λhS=> ?_);replace h:=zh (h.Q (show zL w w.drew from ae _));have u:zL w w.drew:=ae _;replace⟨f,c,i,b⟩:=zb4 f c i b u;replace a:=zh (au a u);clear u;generalize w.drew=w3 at*;refine zt 0 (zP g) rfl (zQ ⟨by rfl,λW G=>by obtain⟨R,A⟩:=G;have q:=R.A 0 _ rfl;go_simp⟩) ?_;simp only[zp];refine zt 1 (zP g) rfl (zQ ⟨by rfl,λW G=>by obtain⟨R,A⟩:=G;have q:=R.A 0 _ rfl;go_simp⟩) ?_;simp only[zp];refine zt 2 (zX #[zI zi eo,zI zi en,zV em,zU M Q P]) rfl (zQ ⟨by rfl,λW G=>by obtain⟨R,A⟩:=G;have q0:=A.A 0 _ rfl;have q1:=A.A 1 _ rfl;have q2:=A.A 2 _ rfl;have q3:=A.A 3 _ rfl;go_simp⟩) ?_;simp only[zp];clear hS;refine aC 3 rfl ?_;go_wp2;have N:=zh (CW w3 b (HK.step a) h);refine zoC N z B a (λ_ J=>⟨rfl,by rw[J.2];exact⟨J.1,rfl⟩⟩) λw4 r d2 z b he T H B a=> ?_;replace⟨f,c,i⟩:=zg3 f c i H;clear he H;unfold cU;go_wp2;refine⟨⟨f,c⟩, ?_⟩;have⟨ac,l⟩:=zvh (wv r);rw[<-l];refine aC 4 rfl ?_;go_wp2;have N:=zh (kO w4 g C d2 b r T);rw[<-l] at N;refine zoC N z B a (λ_ J=>⟨rfl,by rw[J.2];exact⟨J.1,rfl⟩⟩) λw5 t d3 z b he U H B a=> ?_;replace⟨f,c,i⟩:=zg3 f c i H;clear he H;unfold bM;go_wp2;refine⟨⟨f,c⟩, ?_⟩;have xt:=za i 0;have xz:=i.Z 0;have xl:=i.lt;refine aC 5 rfl ?_;go_wp2;refine⟨⟨f.setNe ⟨m,0,none⟩ _ ab,c.setNe ⟨m,0,none⟩ _ L⟩,zdn ?_⟩;go_wp2;refine D7 (v:=zY #[]) (by simp[results,results72]) rfl ?_;have S:PQ=some (t,d3):=z;rw[S];exact⟨w5,a,b,B,U,rfl,rfl⟩
section
variable {α:Type} {v:Value} {w:World}
def kx {φ:Rd α} {xs:List α} (e:∀us x,φ.R w us x ah->φ.R w us x (λb=>b<w.heap.size)) (h:Rs φ w v xs ah):Rs φ w v xs (λb=>b<w.heap.size):=by obtain⟨A,c,rfl,g,h⟩:=h;refine⟨A,c,rfl,g,λk=> ?_⟩;obtain⟨b,o,rfl,f,h⟩:=h k;refine⟨b,o,rfl,f,λj x i=> ?_⟩;have⟨us,a,d⟩:=h j x i;exact⟨us,a,e us x d⟩
def lX {φ:Rd α} {xs:List α} {F:Nat->Prop} (h:Rs φ w v xs F):In (λb=>b<w.heap.size) v (zN xs):=by intro a q d;obtain⟨A,c,rfl,f,h⟩:=h;obtain⟨b,o,rfl,e,h⟩:=h a;simp[Value.ownBlock] at d;omega
theorem nR {w:World}:∀(d:Nat) (us:List Value) (x:Ex),(exR d).R w us x ah->(exR d).R w us x (λb=>b<w.heap.size)
 |0,_,_,h=>h.elim
 |d+1,us,x,⟨v,h,h1,h2⟩=>⟨v,h,kx (nR d) h1,lX h1⟩
def WI {w W:World} {d g:Nat} {l:List Ex} (h:Rs (exR d) w v l ah) (a:zL w W) (i:w.heap.size<=g):Rs (exR d) W v l (NG g)/\In (NG g) v (zN l):=by
 have c:=kx (nR d) h;refine⟨(c.mono λb a=> ?_).Q a,λe q f=> ?_⟩
 .show b≠g;have:b<w.heap.size:=a;omega
 have:=lX h e q f;show q≠g;omega
def YL (d:List Nd) (vars:List Vr) (a:List Int) (V:ByteArray->Vl) (names:List ByteArray) (w:World) (e:Ending) (w':World):Prop:=∃g C,w.heap.size<=g/\g<w'.heap.size/\zL w w'/\BB w' g C d/\BK w' g C vars a V names/\e=zE (zY #[zP g,zI zi 0])
def si (w:World) (d:List Nd) (r:Option (Nat×List Nd)) (e:Ending) (w':World):Prop:=zL w w'/\match r with
 |some (t,d')=>∃x,e=zE (zY #[zX #[x],zI zi t,zI zi 0])/\Rs ndR w' x d' ah/\NR w' x/\DV d'/\Ext d d'/\okN d' t
 |none=>e=zE (zY #[zX #[zU none 0 0],zI zi 0,zI zi 2])
def TQ (a:Nat) (w:World) (g:Nat) (C:BC) (d:List Nd) (r:Option (Nat×List Nd)) (er:Int) (w':World):Prop:=match r with
 |some (t,d')=>er=0/\∃w1,w.grownBy w1 (some g)/\BB w1 g C d'/\Ext d d'/\okN d' t/\w'=w1.setCell ⟨a,0,none⟩ (zI zi t)
 |none=>er=2/\w.grownBy w' (some g)
structure K2 (w w':World) (g gt:Nat):Prop where
 os:w'.os=w.os
 tape:w'.tape=w.tape
 output:w'.output=w.output
 size:w.heap.size<=w'.heap.size
 block:∀b,b<w.heap.size->b≠g->b≠gt->w'.heap[b]? =w.heap[b]?
def K2.box {w w':World} {g a b:Nat} {cs:Array Value} {T:TypeId} (h:K2 w w' g a) (c:Box w b cs T) (d:b≠g) (e:b≠a):Box w' b cs T:=(h.block b c.lt d e).trans c
def Bt (a:Nat) (w:World) (g:Nat) (C:BC) (d:List Nd) (r:Option (Nat×List Nd)) (e:Ending) (w':World):Prop:=K2 w w' g a/\match r with
 |some (t,d')=>e=zE (zI zi 0)/\BB w' g C d'/\Ext d d'/\okN d' t/\Box w' a #[zI zi t] 3
 |none=>e=zE (zI zi 2)
theorem Bt.of {w w0 w':World} {g e:Nat} {C:BC} {d:List Nd} {r:Option (Nat×List Nd)} {er:Int} (x:g<w.heap.size) (y:e<w.heap.size) (k:e≠g) (q:Box w e #[zI zi 0] 3)
  (h:TQ e (w.alloc (zC #[zI zi 0] 29)) g C d r er w0) (c:w0.grownBy w' (some w.heap.size)):Bt e w g C d r (zE (zI zi er)) w':=by
 have a:=ab w (zC #[zI zi 0] 29);have u:=Box.new w 29 #[zI zi 0];have v:=q.Q a;generalize w.alloc (zC #[zI zi 0] 29)=wa at*;match r,h with
 |some (t,d'),⟨he,w1,h1,h2,h3,h4,h5⟩=>
  subst he;subst h5;have o:=ap u h1;have l:=ap v h1 k;have s:(w1.setCell ⟨e,0,none⟩ (zI zi t)).heap.size=w1.heap.size:=by simp[World.setCell]
  refine⟨⟨c.os.trans (h1.os.trans a.os),c.tape.trans (h1.tape.trans a.tape),c.output.trans (h1.output.trans a.output), ?_,λb i f j=> ?_⟩,rfl, ?_,h3,h4, ?_⟩
  .have:=c.size;have:=h1.size;have:=a.size;omega
  .have e1:=a.block b i;have m:=h1.block b (DU i a.size) (by simpa using f);have p:=Eo w1 ⟨e,0,none⟩ (zI zi t) b j;have n:=c.block b (by have:=h1.size;have:=a.size;omega) (by simp;omega);rw[n,p,m,e1]
  .exact(h2.setBox l (by decide) k 0 _).grownBox (o.setNe ⟨e,0,none⟩ _) (by decide) (by omega) c
  exact ap (l.set_ 0 (zI zi t)) c
 |none,⟨he,h1⟩=>
  subst he;refine⟨⟨c.os.trans (h1.os.trans a.os),c.tape.trans (h1.tape.trans a.tape),c.output.trans (h1.output.trans a.output), ?_,λb i f j=> ?_⟩,rfl⟩
  .have:=c.size;have:=h1.size;have:=a.size;omega
  have e1:=a.block b i;have m:=h1.block b (DU i a.size) (by simpa using f);have n:=c.block b (by have:=h1.size;have:=a.size;omega) (by simp;omega);rw[n,m,e1]
theorem Yw (g:Nat) (C:BC) (vars:List Vr) (j:List Int) (V:ByteArray->Vl) (names:List ByteArray) (k:Nat) (w:World) (d:List Nd) (B:BB w g C d) (hk:BK w g C vars j V names) (v:Nat) (e:Ex) (x:Value)
  (q:okE (λs=>decide (s∈names)) k e=true) (F:Rs (exR v) w x e.a (NG g)) (p:In (NG g) x (zN e.a)) (gb c b:Nat) (m:gb≠g) (n:c≠g) (f:b≠g) (u:b≠gb) (i:b≠c) (D:g<w.heap.size)
  (z:Box w gb #[zP g] 140) (A:Box w c #[zI zi e.op,zI zi e.n,zV e.s,x] 79) (l:Box w b #[zI zi 0] 3):
  Calls zz 71 #[.func (.func 72) #[] #[zP gb,zP c,zP b]] w (Bt b w g C d (gG V k e d)):=by
 have o:=l.lt;have a:=ab w (zC #[zI zi 0] 29);have y:=Box.new w 29 #[zI zi 0];refine(vK w 72 #[zP gb,zP c,zP b] (TQ b (w.alloc (zC #[zI zi 0] 29)) g C d (gG V k e d)) (λW=>by kernel_rfl) ((RO g C vars j V names k _ d (B.Q a) (hk.Q a) v e x q (F.Q a) p gb c b m n f u i (z.Q a) (A.Q a) (l.Q a)).mono ?_)).mono ?_
 .intro e1 w' h;generalize gG V k e d=r at h⊢;match r,h with
  |some (t,d'),⟨w1,h1,h2,h3,h4,h5,h6⟩=>refine⟨zQ ⟨h5,rfl,w1,h1,h2,h3,h4,h6⟩, ?_⟩;rw[h6];exact(ap y h1).setNe ⟨b,0,none⟩ _
  |none,⟨h1,h2⟩=>exact⟨zO ⟨2,by decide,h2,rfl,h1⟩,ap y h1⟩
 rintro e1 w' ⟨er,w0,rfl,E,G⟩;exact Bt.of D o f l E G
end
def Dq (w:World) (d:List Nd) (vars:List Vr) (J:List Int) (V:ByteArray->Vl) (names:List ByteArray) (k dd:Nat) (e:Ex) (Ad A1 A2 A3 A4 A5 Ap:Option Addr) (nd cd n1 c1 n2 c2 n3 c3 n4 c4 n5 c5 cp:Nat) (hs:∀W,zL w W->Calls zz 70 #[zX #[zU Ad nd cd],zX #[zU A1 n1 c1,zU A2 n2 c2,zU A3 n3 c3,zU A4 n4 c4,zU A5 n5 c5],zX #[zI zi e.op,zI zi e.n,zV e.s,zU Ap (zN e.a) cp]] W (YL d vars J V names W)) (ac:okE (λs=>decide (s∈names)) k e=true) (hr:Rs (exR dd) w (zU Ap (zN e.a) cp) e.a ah):Calls zz 37 #[zX #[zU Ad nd cd],zX #[zU A1 n1 c1,zU A2 n2 c2,zU A3 n3 c3,zU A4 n4 c4,zU A5 n5 c5],zX #[zI zi e.op,zI zi e.n,zV e.s,zU Ap (zN e.a) cp]] w (si w d (gG V k e d)):=by
 have aN:=zm;have⟨HS,S⟩:=zk2 hs hr;have HT:=zh (λg C W (a1:BB W g C d) (a2:BK W g C vars J V names) x (a3:Rs (exR dd) W x e.a (NG g)) (a4:In (NG g) x (zN e.a))=>Yw g C vars J V names k W d a1 a2 dd e x ac a3 a4);have⟨PQ,T⟩:=zv (gG V k e d);rw[<-T] at HT⊢;have⟨eo,H⟩:=zv (e.op);have⟨en,G⟩:=zv (e.n);have⟨em,F⟩:=zv (e.s);have⟨el,P⟩:=zvh (zN e.a);rw[<-H,<-G,<-F] at HT;rw[<-H,<-G,<-F,<-P] at HS⊢;rw[<-P] at S;clear hs hr ac T H G F;go_enter func37,ntmps37;go_upto_region 1 with fail;generalize o:w.alloc _=zw1 at*;generalize p:zw1.alloc _=zw2 at*;generalize ag:zw2.alloc _=zw3 at*;generalize ai:zw3.alloc _=w1 at*;have⟨l,XD,XP,E,L⟩:=zB4 o p ag ai;clear o p ag ai;have au:=za XD 0;obtain⟨aA,aB,aC,aD,aE⟩:=zc5 XP;obtain⟨av,aw,ax,ay⟩:=zc4 E;go_wp2;clear au aA aB aC aD aE av aw ax ay;refine(HS w1 l).mono ?_;rintro e1 w2 ⟨g,C,aq,ar,U,j,X,rfl⟩;have⟨r,D⟩:=zk2 j X;have an:=zh L.lt;have am:=zh E.lt;replace⟨E,L,l⟩:=zb3 E L l U;clear U j X;have aH:=aq;have aI:=ar;go_upto_region 5 with fail;have aj:=l;generalize o:w2.alloc _=zw1 at*;generalize p:zw1.alloc _=w4 at*;have⟨l,XB,XT⟩:=zB2 o p;clear o p;replace r:=zh (r.Q l);replace D:=zh (D.Q l);replace E:=zh (E.Q l);replace L:=zh (L.Q l);have aL:=zh l.size;have i:=zh (aa aj l);have aM:=am.out;have aO:=an.out;have Q:=zh (WI (g:=g) S i (by omega));generalize Z:w2.heap.size=gb at*;have aJ:=zh Z;clear Z;go_wp2;refine(HT g C w4 r D (zU Ap el cp) Q.1 Q.2 gb (w.heap.size+1+1) (gb+1) (by omega) (by omega) (by omega) (by omega) (by omega) (by have:=r.out;obtain⟨⟨A,c,hx,_⟩,_⟩:=this;exact hx.lt) XB E XT).mono ?_;intro e1 K h;obtain⟨f,hm⟩:=h;have a:=zh (f.box L (by omega) (by omega));have ao:=zh (f.box XB (by omega) (by omega));have m:Hid (zL w K):=zh ⟨f.os.trans i.os,f.tape.trans i.tape,f.output.trans i.output,D2 i.size f.size,λb U=>(f.block b (DU U i.size) (by omega) (by omega)).trans (i.block b U)⟩;clear f;have M:Hid (∀u,zL w (K.setCell ⟨w.heap.size+1+1+1,0,none⟩ u)):=zh λu=>⟨m.os,m.tape,m.output,by simpa [World.setCell] using m.out.size,λk hk=>(Eo K ⟨w.heap.size+1+1+1,0,none⟩ u k (λe=>by have e:k=w.heap.size+1+1+1:=e;omega)).trans (m.block k hk)⟩;have aQ:=za a 0;have aS:=a.Z 0;have aR:=a.lt;rcases PQ with _|⟨t,d'⟩
 .replace hm:e1=zE (zI zi 2):=hm;subst hm;have r0:=(a.set_ 0 (zU none 0 0)).A 0 _ rfl;have rz:=(a.set_ 0 (zU none 0 0)).Z 0;go_wp2;refine D7 (v:=zY #[zX #[zU none 0 0],zI zi 0,zI zi 2]) (by simp[results,results37,go_sem,r0,rz]) rfl ?_;exact⟨M _,rfl⟩
 obtain⟨ap,j,z,B,af⟩:e1=zE (zI zi 0)/\BB K g C d'/\Ext d d'/\okN d' t/\Box K (gb+1) #[zI zi t] 3:=hm;subst ap;have⟨R,N⟩:=zk2 B z;have aT:=af.A 0 _ rfl;have aG:=zh (j.setBox a (by decide) (by omega) 0 (zI zi 0));have aK:=zh (λu=>j.setBox a (by decide) (by omega) 0 u);have aF:=zh j;obtain⟨⟨A,c,hx,ad,ab⟩,Y⟩:=j;have⟨y,n,al⟩:=zk3 ad ab Y;have az:=hx.A 0 _ rfl;have aP:=za ao 0;clear ad ab Y z B hx af;have⟨dn,ak⟩:=zvh (zN d');rw[<-ak] at az y n;go_upto_region 8 with fail;have r0:=(a.set_ 0 (zU A dn c)).A 0 _ rfl;have rz:=(a.set_ 0 (zU A dn c)).Z 0;go_region;all_goals
  go_wp2;refine D7 (v:=zY #[zX #[zU A dn c],zI zi t,zI zi 0]) (by simp[results,results37,go_sem,r0,rz]) rfl ?_;have hq:=n.box a (by decide);refine⟨aa (M _) (ae _),_,rfl, ?_, ?_,al,N,R⟩
  .exact(eV ((eV y λ_=>False).same (by simp[World.setCell]) (λq I=>Eo K ⟨w.heap.size+1+1+1,0,none⟩ (zU A dn c) q (hq q I)) (λ_ _ h=>h.elim)) _).Q (ae _)
  exact(n.keep λq I _=>Eo K ⟨w.heap.size+1+1+1,0,none⟩ (zU A dn c) q (hq q I)).Q (ae _)
def DgR (w:World) (d:List Nd) (e:Ending) (w':World):Prop:=∃x,e=zE (zX #[x])/\Rs ndR w' x d ah/\NR w' x/\zL w w'
theorem UG (w:World):Calls zz 36 #[] w (DgR w cX):=by
 go_enter func36,ntmps36;go_upto_region 1 with fail;generalize f:w.alloc _=w1 at*;have⟨d,b⟩:=zB1 f;have h:=zh b.lt;have e:=ab w1 (zC #[zI zi 20,zI zi 0,zI zi 0,zI zi 20,zI zi 1,zI zi 1] 95);have i:=zh (Box.new w1 95 #[zI zi 20,zI zi 0,zI zi 0,zI zi 20,zI zi 1,zI zi 1]);replace⟨b,d⟩:=zb2 b d e;have k:=b.lt;have x0:=za b 0;have m:=b.Z 0;go_wp2;refine D7 (v:=zX #[zU (some ⟨w1.heap.size,0,none⟩) 2 2]) (by simp[results,results36,go_sem,x0]) rfl ?_;have l:w.heap.size<w1.heap.size:=by have:=h.out;omega
 have c:=i.setNe ⟨w.heap.size,0,none⟩ (zU (some ⟨w1.heap.size,0,none⟩) 2 2);refine⟨_,rfl, ?_, ?_,d.setCell (p:=⟨w.heap.size,0,none⟩) (DE _) _⟩
 .exact ku (φ:=ndR) (xs:=cX) (uss:=[ndL ⟨20,0,0⟩,ndL ⟨20,1,1⟩]) c rfl (λj x a=>by
   match j,a with
   |0,a=>
    obtain rfl:(⟨20,0,0⟩:Nd)=x:=by simpa [cX] using a
    rfl
   |1,a=>
    obtain rfl:(⟨20,1,1⟩:Nd)=x:=by simpa [cX] using a
    rfl
   |j+2,a=>simp[cX] at a)
 intro q g;simp[Value.ownBlock] at g;subst g;exact⟨_,_,c⟩
section
variable (w:World) {V:ByteArray->Vl} {l:List Ex} {k t:Nat}
def TrC (w:World) (P:Value) (V:ByteArray->Vl) (l:List Ex):Prop:=∀W,zL w W->∀(d:List Nd) (A:Option Addr) (n c:Nat),DV d->Rs ndR W (zU A n c) d ah->NR W (zU A n c)->∀e∈l,∀(g:Nat) (a:Option Addr) (f b:Nat),Rs (exR g) W (zU a f b) e.a ah→
 Calls zz 37 #[zX #[zU A n c],P,zX #[zI zi e.op,zI zi e.n,zV e.s,zU a f b]] W (si W d (gG V dep e d))
def Si (hk:k<zN l):gL V (l.drop k) t=(gG V dep (zG l k ex0)).bind λf=>(et t f).bind λa=>gL V (l.drop (k+1)) a:=by rw[Eq hk,DC,DD hk];rfl
def UU (hk:zN l<=k):gL V (l.drop k) t=Bm.ret t:=by rw[EA hk];rfl
def UP (V:ByteArray->Vl) (l:List Ex) (dd:Nat) (A1 A2 A3 A4 A5 Al:Option Addr) (n1 c1 n2 c2 n3 c3 n4 c4 n5 c5 cl:Nat) (hT:TrC w (zX #[zU A1 n1 c1,zU A2 n2 c2,zU A3 n3 c3,zU A4 n4 c4,zU A5 n5 c5]) V l) (Z:Rs (exR dd) w (zU Al (zN l) cl) l ah) (hl:zN l<=1000):Calls zz 10 #[zX #[zU A1 n1 c1,zU A2 n2 c2,zU A3 n3 c3,zU A4 n4 c4,zU A5 n5 c5],zU Al (zN l) cl] w (si w cX (gL V l 1 cX)):=by
 have⟨HT,aw⟩:=zk2 hT Z;have⟨PQ,ak⟩:=zv (gL V l 1 cX);have aZ:Hid (PQ=gL V (l.drop 0) 1 cX):=zh (by rw[ak];rfl);rw[<-ak];have⟨m,hm⟩:=zv (zN l);have HM:=zh hm;rw[<-hm] at hl aw⊢;clear hT Z ak hm;go_enter func10,ntmps10;go_upto_region 1 with fail;generalize s:w.alloc _=zw1 at*;generalize aR:zw1.alloc _=w1 at*;have⟨HB,F,d⟩:=zB2 s aR;clear s aR;have aS:=HB;have aY:=zh d.lt;go_wp2;refine(UG w1).mono ?_;rintro e w2 ⟨x,rfl,y,I,hb⟩;obtain⟨A0,c0,rfl, -⟩:=y.slice;have⟨z,u⟩:=zk2 y I;have a3:=zh hb.size;replace⟨F,d⟩:=zb2 F d hb;have ac:=zh (aa aS hb);clear y I hb;have⟨N0,az⟩:=zv (zN cX);rw[<-az] at z u⊢;clear az;go_upto_region 2 with fail;generalize s:w2.alloc _=w3 at*;have⟨HB,D⟩:=zB1 s;clear s;replace F:=zh (F.Q HB);replace d:=zh (d.Q HB);replace z:=zh (z.Q HB);replace u:=zh (u.Q HB);replace ac:=zh (aa ac HB);have bk:w.heap.size+1<w2.heap.size:=by have:=a3.out;have:=aY.out;omega
 generalize w2.heap.size=gd at*;go_wp2;go_loopw [8,17] (λt i wr=>∃(k M:Nat) (P:List Nd) (A:Option Addr) (n c:Nat),k<=m/\i=zI zi k/\t=zI zi M/\Box wr gd #[zU A n c] 38/\Box wr (w.heap.size+1) #[zU none 0 0] 38/\Box wr w.heap.size #[zU A1 n1 c1,zU A2 n2 c2,zU A3 n3 c3,zU A4 n4 c4,zU A5 n5 c5] 27/\Rs ndR wr (zU A n c) P ah/\NR wr (zU A n c)/\DV P/\M<zN P/\Ext cX P/\zL w wr/\PQ=gL V (l.drop k) M P) (λ_ i _=>m+1-(intOf i).toNat)
 .exact⟨0,1,cX,A0,N0,c0,DH _,rfl,rfl,D,d,F,z,u,dv0,by decide,Ext.refl _,ac,aZ⟩
 obtain⟨k,M,P,A,n,c,hk,rfl,rfl,aK,aM,aN,y,I,aB,aI,aC,aA,hq⟩:=hrel;have⟨D,d,F,z,u,ao⟩:=zk6 aK aM aN y I aB;have⟨ax,aq,a,E⟩:=zk4 aI aC aA hq;clear aK aM aN y I aB aI aC aA hq;by_cases am:k<m
 .have⟨aD,k0⟩:=zln am;have Y:k<zN l:=by rw[<-HM];exact am
  obtain⟨A',c',e1,_,aJ⟩:=(aw.Q a).exs;have⟨b,o,p,d',e2,bj,_,j,an,a6⟩:=aJ k Y;obtain rfl:=zas e1 e2;have v0:=j 0 _ rfl;have v1:=j 1 _ rfl;have v2:=j 2 _ rfl;have v3:=j 3 _ rfl;rw[Eb] at v0;have ar:Hid (zG l k ex0∈l):=zh (by rw[DC,DD Y];exact EE Y);replace E:=zh (E.trans (congrFun (Si Y) P));have U:=zh an;generalize zG l k ex0=e at*;obtain⟨Ap,cp,rfl,a4⟩:=an.slice;clear aJ j e1 e2 an a6;have CT:=zh λW hW (h1:Rs ndR W (zU A n c) P ah) (h2:NR W (zU A n c)) (hR:Rs (exR d') W (zU Ap (zN e.a) cp) e.a ah)=>HT W hW P A n c ao h1 h2 e ar d' Ap (zN e.a) cp hR;have⟨eo,aj⟩:=zv (e.op);have⟨en,ai⟩:=zv (e.n);have⟨em,ag⟩:=zv (e.s);have⟨el,af⟩:=zv (zN e.a);rw[<-aj] at v0;rw[<-ai] at v1;rw[<-ag] at v2;rw[<-af] at v3 U;rw[<-aj,<-ai,<-ag,<-af] at CT;clear aj ai ag af a4;go_upto_region 5 with fail;clear v0 v1 v2 v3;generalize s:wr.alloc _=wa at*;have⟨B,XA⟩:=zA1 s;clear s;replace⟨D,d,F,z,u⟩:=zb5 D d F z u B;replace⟨U,a⟩:=zb2 U a B;clear B;generalize wr.heap.size=ga at*;have aO:=za D 0;obtain⟨bd,be,bf,bg,bh⟩:=zc5 F;obtain⟨a8,a9,ba,bb⟩:=zc4 XA;go_wp2;clear aO bd be bf bg bh a8 a9 ba bb;refine(CT wa a z u U).mono ?_;rintro e1 w5 ⟨hb,hm⟩;replace⟨D,d,F,a⟩:=zb4 D d F a hb;clear hb;rcases Z:gG V dep e P with _|⟨f,d2⟩
  .rw[Z] at hm;replace hm:e1=zE (zY #[zX #[zU none 0 0],zI zi 0,zI zi 2]):=hm;subst hm;replace E:=zh (E.trans (cm Z));clear Z;go_upto_region 6 with fail;have B:=ab w5 (zC #[zU none 0 0] 38);replace⟨d,a⟩:=zb2 d a B;clear B;generalize w5.alloc (zC #[zU none 0 0] 38)=w6 at*;have aL:=d.lt;have aQ:=d.Z 0;have aP:=za d 0;have r0:=(d.set_ 0 (zU none 0 0)).A 0 _ rfl;have rz:=(d.set_ 0 (zU none 0 0)).Z 0;go_wp2;refine D7 (v:=zY #[zX #[zU none 0 0],zI zi 0,zI zi 2]) (by simp[results,results10,go_sem,r0,rz]) rfl ?_;rw[E];exact⟨a.setCell (p:=⟨w.heap.size+1,0,none⟩) (by show w.heap.size<=w.heap.size+1;omega) _,rfl⟩
  rw[Z] at hm;replace E:=zh (E.trans (bind_some Z));obtain⟨x,a5,y,I,R,S,K⟩:∃x,e1=zE (zY #[zX #[x],zI zi f,zI zi 0])/\Rs ndR w5 x d2 ah/\NR w5 x/\DV d2/\Ext P d2/\okN d2 f:=hm;subst a5;obtain⟨An,cn,rfl, -⟩:=y.slice;have ap:Hid (et M f d2=(eQ (λf g _=>f&&g) d2 ⟨M,f,f⟩).map λr=>(r.2,r.1)):=zh rfl;have T:M<zN d2:=by obtain⟨ns,a7⟩:=S;have:=ax.out;rw[a7,DI];omega
  have aX:=zh fun(d':List Nd) (i:Nat) (h:eQ (λf g _=>f&&g) d2 ⟨M,f,f⟩=some (d',i))=>lM R (show In3 d2 ⟨M,f,f⟩ from⟨T,K,K⟩) h;have CO:=zh fun(W:World) (h:Rs ndR W (zU An (zN d2) cn) d2 ah)=>Ry W _ d2 R h M f T K;have X:=zh y;have aU:=zh (aq.trans S);generalize eQ (λf g _=>f&&g) d2 ⟨M,f,f⟩=q at*;have⟨nn,aF⟩:=zv (zN d2);rw[<-aF] at CO X⊢;clear Z y I R S K T aF;go_upto_region 6 with fail;generalize s:w5.alloc _=w6 at*;have⟨B,N⟩:=zA1 s;clear s;have bl:gd<w5.heap.size:=D.lt;have bm:w.heap.size+1<w5.heap.size:=d.lt;replace⟨D,d,F,X,a⟩:=zb5 D d F X a B;clear B;generalize w5.heap.size=gn at*;have bc:=za N 0;go_wp2;clear bc;refine(CO w6 X).mono ?_;intro e1 w7 al;have bi:w.heap.size<=gn:=by omega
  rcases al.cases with⟨d3,i,G,H,L,rfl,h1,h2,Q⟩|⟨L,rfl,Q⟩
  .obtain⟨q1,q2,q3, -⟩:=aX d3 i L;replace E:=zh (show PQ=gL V (l.drop (k+1)) i d3 by rw[E];exact bind_some (by rw[ap,L];rfl));replace⟨D,d,F,N,a⟩:=zb5 D d F N a Q;have aG:=h2.box D (by decide);have aH:=h2.box N (by decide);have⟨av,au,aT,aW⟩:=zk4 h1 h2 q2 q3;have aV:=zh (aU.trans q1);have⟨ad,ae⟩:=zk2 aG aH;obtain⟨J,aE⟩:∃n,n=zN d3:=⟨_,rfl⟩;rw[<-aE] at av au ad ae⊢;clear h1 h2 q1 q2 q3 Q L aE aG aH al;have a0:=za N 0;have a1:=N.Z 0;have a2:=N.lt;have b0:=za D 0;have b1:=D.Z 0;have b2:=D.lt;go_wp2;go_roundw
   .refine⟨k+1,i,d3,G,J,H,by omega,by go_num,rfl,(D.setNe ⟨gn,0,none⟩ _ (by show gn≠gd;omega)).set_ 0 _,(d.setNe ⟨gn,0,none⟩ _).setNe ⟨gd,0,none⟩ _,(F.setNe ⟨gn,0,none⟩ _).setNe ⟨gd,0,none⟩ _, ?_, ?_,aT,aW,aV,(a.setCell (p:=⟨gn,0,none⟩) (by show w.heap.size<=gn;omega) _).setCell (p:=⟨gd,0,none⟩) (by show w.heap.size<=gd;omega) _,E⟩
    .exact eV ((eV av λ_=>False).same (by simp[World.setCell]) (λq C=>(Eo (w7.setCell ⟨gn,0,none⟩ (zU G J H)) ⟨gd,0,none⟩ (zU G J H) q (ad q C)).trans (Eo w7 ⟨gn,0,none⟩ (zU G J H) q (ae q C))) (λ_ _ h=>h.elim)) _
    exact au.keep λq C _=>(Eo (w7.setCell ⟨gn,0,none⟩ (zU G J H)) ⟨gd,0,none⟩ (zU G J H) q (ad q C)).trans (Eo w7 ⟨gn,0,none⟩ (zU G J H) q (ae q C))
   simp[intOf];omega
  replace E:=zh (show PQ=none by rw[E];exact cm (by rw[ap,L];rfl));replace⟨d,N,a⟩:=zb3 d N a Q;clear L Q al;have a0:=za N 0;have a1:=N.Z 0;have a2:=N.lt;have aL:=d.lt;have aQ:=d.Z 0;have aP:=za d 0;have ay:=d.setNe ⟨gn,0,none⟩ (zU none 0 0);have r0:=(ay.set_ 0 (zU none 0 0)).A 0 _ rfl;have rz:=(ay.set_ 0 (zU none 0 0)).Z 0;go_wp2;refine D7 (v:=zY #[zX #[zU none 0 0],zI zi 0,zI zi 2]) (by simp[results,results10,go_sem,r0,rz]) rfl ?_;rw[E];exact⟨(a.setCell (p:=⟨gn,0,none⟩) (by show w.heap.size<=gn;omega) _).setCell (p:=⟨w.heap.size+1,0,none⟩) (by show w.heap.size<=w.heap.size+1;omega) _,rfl⟩
 have aD:=zge am;replace E:=zh (show PQ=some (M,P) by rw[E,UU (by rw[<-HM];omega)];rfl);have aL:=d.lt;have aQ:=d.Z 0;have aP:=za d 0;have aO:=za D 0;have r0:=(d.set_ 0 (zU A n c)).A 0 _ rfl;have rz:=(d.set_ 0 (zU A n c)).Z 0;go_wp2;refine D7 (v:=zY #[zX #[zU A n c],zI zi M,zI zi 0]) (by simp[results,results10,go_sem,r0,rz]) rfl ?_;have hq:=u.box d (by decide);rw[E];refine⟨a.setCell (p:=⟨w.heap.size+1,0,none⟩) (by show w.heap.size<=w.heap.size+1;omega) _,_,rfl, ?_, ?_,ao,aq,ax⟩
 .exact eV ((eV z λ_=>False).same (by simp[World.setCell]) (λq C=>Eo wr ⟨w.heap.size+1,0,none⟩ (zU A n c) q (hq q C)) (λ_ _ h=>h.elim)) _
 exact u.keep λq C _=>Eo wr ⟨w.heap.size+1,0,none⟩ (zU A n c) q (hq q C)
end
def getD_in {α:Type} {l:List α} {k:Nat} (d:α) (h:k<zN l):zG l k d∈l:=by rw[DC,DD h];exact EE h
def dM (vars:List Vr) (s:List Int×Int) (v:Int):List Int×Int:=(s.1.set v.toNat s.2,s.2+(zG vars v.toNat vr0).w)
def cF (p:Pb):List Int:=((p.g.flatten).foldl (dM p.v) (List.replicate (zN p.v) (-1),0)).1
theorem fU (vars:List Vr):∀(l:List Int) (s:List Int×Int),(l.foldl (dM vars) s).1.length=s.1.length
 |[],s=>rfl
 |v::l,s=>by show(l.foldl (dM vars) (dM vars s v)).1.length=s.1.length;rw[fU vars l];show(s.1.set v.toNat s.2).length=_;rw[Er]
def mj (p:Pb):(cF p).length=zN p.v:=by unfold cF;rw[fU,Es]
def jZ:(zz.info? 3).map (λi=>(i.zero,i.size,i.bytes))=some (some (zI zi 0),1,8):=by kernel_rfl
theorem iN (n:Nat) (e:n<=1000) (W:World):(Instr.makeSlice 32 (zI zi (n:Int)) (zI zi (n:Int))).run zz W= .ok (zU (some ⟨W.heap.size,0,none⟩) n n) (W.alloc (zC (madeCells (Value.int .i64 0).cells (n*1)) 3)):=by
 cases hq:zz.info? 3 with
 |none=>have:=jZ;rw[hq] at this;cases this
 |some i=>have h:=jZ;rw[hq] at h;simp only[ES,DN,FH] at h;obtain⟨b,c,d⟩:=h;have a:=run_make (P:=zz) W 32 3 i (zI zi 0) underlying32 hq b .i64 .i64 n n (by omega) (by omega) (by rw[d];omega) (by omega);rw[c] at a;simp only[Eh] at a;exact a
section
variable (l:List Int) {k q:Nat} {α β:Type}
def iA (l:List Int):Array Value:=(l.map (Value.int .i64)).toArray
def iP (k:Nat) (v:Int):(iA l).setIfInBounds k (zI zi v)=iA (l.set k v):=by unfold iA;rw[E1,List.map_set]
def Aj:(iA l).size=zN l:=by simp[iA]
def eH {l:List Int} (h:k<zN l):(iA l)[k]? =some (zI zi (zG l k 0)):=by simp[iA,DC,DD h]
def oV (n:Nat):madeCells (Value.int .i64 0).cells (n*1)=iA (List.replicate n 0):=by
 apply Array.ext
 .simp[madeCells,iA]
 intro i a b;simp[madeCells,iA,Value.cells,Nat.mod_one]
def So (p:Pb) (w:World) (e:Ending) (w':World):Prop:=∃g,e=zE (zU (some ⟨g,0,none⟩) (zN p.v) (zN p.v))/\w.heap.size<=g/\Box w' g (iA (cF p)) 3/\zL w w'
def EvC (w:World) (P:Value):Prop:=∀W,zL w W->Calls zz 48 #[P] W (zR (zI zi 0) W)
def Qk {n k:Nat} (h:k<n):(List.replicate k (-1:Int)++List.replicate (n-k) 0).set k (-1)=List.replicate (k+1) (-1)++List.replicate (n-(k+1)) 0:=by
 have e:n-k=(n-(k+1))+1:=by omega
 rw[Fy _ _ (by rw[Es];exact DE _),Es,EB,e,List.replicate_succ,Fg,List.replicate_succ',Eg];rfl
def nM {f:β->α->β} {l:List α} {x0:α} {s:β} (h:q<zN l):(l.take (q+1)).foldl f s=f ((l.take q).foldl f s) (zG l q x0):=by rw[Ep,DD h,Fp,DC,DD h];rfl
def Cr {f:β->α->β} {l:List (List α)} {s:β} (h:q<zN l):(l.take (q+1)).flatten.foldl f s=(zG l q []).foldl f ((l.take q).flatten.foldl f s):=by rw[Ep,DD h,List.flatten_append,Fp,DC,DD h];simp
theorem nD {vars:List Vr} (b:∀x∈vars,0<=x.w/\x.w<=65536):∀(l:List Int) (s:List Int×Int),(∀v∈l,0<=v/\v<zN vars)->0<=s.2->0<=(l.foldl (dM vars) s).2/\(l.foldl (dM vars) s).2<=s.2+65536*zN l
 |[],s,_,h=>⟨h,by simp⟩
 |v::l,s,hl,h=>by have d:=hl v (by simp);have f:=b (zG vars v.toNat vr0) (by rw[DC,DD (by omega)];exact EE _);have:=nD b l (dM vars s v) (λa c=>hl a (Ea _ c)) (by show 0<=s.2+_;omega);have e:(dM vars s v).2=s.2+(zG vars v.toNat vr0).w:=rfl;rw[e] at this;rw[DF,EH];omega
theorem vD (w:World) (p:Pb) (A1 A2 A3 A4 A5:Option Addr) (n2 c1 c2 n3 c3 n4 c4 c5:Nat) (I:Rs vrR w (zU A1 (zN p.v) c1) p.v ah) (J:Rs ilR w (zU A5 (zN p.g) c5) p.g ah)
  (hE:EvC w (zX #[zU A1 (zN p.v) c1,zU A2 n2 c2,zU A3 n3 c3,zU A4 n4 c4,zU A5 (zN p.g) c5])) (aJ:zN p.v<=1000) (aE:zN p.g<=1000) (ad:∀g∈p.g,zN g<=1000/\∀v∈g,0<=v/\v<zN p.v) (hw:∀x∈p.v,0<=x.w/\x.w<=65536):
  Calls zz 77 #[zX #[zU A1 (zN p.v) c1,zU A2 n2 c2,zU A3 n3 c3,zU A4 n4 c4,zU A5 (zN p.g) c5]] w (So p w):=by
 have⟨HV,HG,L⟩:=zk3 I J hE;have⟨n,hn⟩:=zv (zN p.v);have⟨m,hm⟩:=zv (zN p.g);have X:=zh hn;have HM:=zh hm;have⟨M,HW⟩:=zk2 ad hw;have MK:=iN n (by omega);rw[oV] at MK;rw[<-hn] at HV L aJ⊢;rw[<-hm] at HG L aE⊢;clear I J hE ad hw hn hm;go_enter func77,ntmps77;go_upto_region 1 with fail;generalize F:w.alloc _=w1 at*;have⟨e,d⟩:=zB1 F;clear F;obtain⟨A,aL,aM,aN,R⟩:=zc5 d;go_wp2;clear A aL aM aN R;refine zK (L w1 e) λw2 hb=> ?_;have ap:=zh d.lt;have av:=zh hb.size;replace⟨d,e⟩:=zb2 d e hb;clear hb;have A:=za d 0;have aQ:=MK w2;go_upto_region 4 with fail;clear A;generalize F:w2.alloc _=w3 at*;have⟨ac,c⟩:=zA1 F;clear F;replace⟨d,e⟩:=zb2 d e ac;clear ac;have aS:w.heap.size<w2.heap.size:=by have:=av.out;have:=ap.out;omega
 generalize w2.heap.size=gr at*;go_wp2;go_loopw [19] (λi wr=>∃(k:Nat),k<=n/\i=zI zi k/\Box wr gr (iA (List.replicate k (-1)++List.replicate (n-k) 0)) 3/\Box wr w.heap.size #[zU A1 n c1,zU A2 n2 c2,zU A3 n3 c3,zU A4 n4 c4,zU A5 m c5] 27/\zL w wr) (λi _=>n+1-(intOf i).toNat)
 .exact⟨0,DH _,rfl,c,d,e⟩
 obtain⟨k,hk,rfl,s,h,f⟩:=hrel;have⟨c,d,e⟩:=zk3 s h f;clear s h f;by_cases t:k<n
 .have⟨D,k0⟩:=zln t;have x0:=c.A k _ (eH (by rw[DI,Es,Es];omega));have x1:=c.frozen k;have x2:=c.lt;go_wp2;go_roundw
  .refine⟨k+1,by omega,by go_num, ?_,d.setNe ⟨gr,k,none⟩ _,e.setCell (p:=⟨gr,k,none⟩) (by show w.heap.size<=gr;omega) _⟩;have:=c.set_ k (zI zi (-1));rw[iP,Qk t] at this;exact this
  simp[intOf];omega
 have⟨D,ae⟩:=zgq hk t;replace c:=zh (show Box wr gr (iA (List.replicate n (-1))) 3 by
  have:=c.out;rw[ae,EB,List.replicate_zero,EN] at this;exact this);clear ae hk;have⟨S,hS⟩:=zv (λj=>(p.g.take j).flatten.foldl (dM p.v) (List.replicate n (-1),0):Nat->List Int×Int);have HS:=zh hS;have Z:Hid (S 0=(List.replicate n (-1),0)):=zh (by rw[hS];rfl);clear hS;have R:=za d 4;have aB:=zh (show Box wr gr (iA (S 0).1) 3 by rw[Z];exact c);have HZ:Hid ((S 0).2=0):=zh (by rw[Z]);go_upto_region 11 with fail;clear R;have ao:Hid (∀j,j<=m->0<=(S j).2/\(S j).2<=65536*(1000*j)):=zh (by
  intro j hj;rw[HS];have ag:∀l:List (List Int),(∀g∈l,zN g<=1000)->zN l.flatten<=1000*zN l:=by
   intro l hl;induction l with
   |nil=>simp
   |cons a r ih=>rw[FP,DI,DF];have:=hl a (by simp);have:=ih λg J=>hl g (Ea _ J);omega
  have h1:=nD HW ((p.g.take j).flatten) (List.replicate n (-1),0) (λv I=>by have⟨g,J,aI⟩:=List.mem_flatten.1 I;exact(M g (List.mem_of_mem_take J)).2 v aI) (Int.le_refl _);have h2:=ag (p.g.take j) (λg J=>(M g (List.mem_of_mem_take J)).1);have h3:(p.g.take j).length<=j:=List.length_take_le _ _;have h4:(0:Int)+65536*((p.g.take j).flatten.length:Int)<=65536*(1000*j):=by omega
  exact⟨h1.1,Int.le_trans h1.2 h4⟩);go_loopw [5,29] (λK i wr=>∃(j:Nat),j<=m/\i=zI zi j/\K=zI zi (S j).2/\Box wr gr (iA (S j).1) 3/\Box wr w.heap.size #[zU A1 n c1,zU A2 n2 c2,zU A3 n3 c3,zU A4 n4 c4,zU A5 m c5] 27/\zL w wr) (λ_ i _=>m+1-(intOf i).toNat)
 .exact⟨0,DH _,rfl,by rw[HZ],aB,d,e⟩
 obtain⟨j,hj,rfl,rfl,s,h,f⟩:=hrel;have⟨c,d,e⟩:=zk3 s h f;clear s h f;by_cases t:j<m
 .have⟨D,j0⟩:=zln t;have P:j<zN p.g:=by rw[<-HM];exact t
  have⟨A',c',e1,_,E⟩:=HG.ils;obtain⟨b,o,u,e2,B,hu,aF, -⟩:=E j P;obtain rfl:=zas e1 e2;have y:=zh (M (zG p.g j []) (getD_in [] P));have ar:Hid (S (j+1)=(zG p.g j []).foldl (dM p.v) (S j)):=zh (by rw[HS];exact Cr P);have W:=zh (ao j hj);have au:Hid ((S j).1.length=n):=zh (by rw[HS];exact(fU _ _ _).trans (Es));have am:=(e.cell B).trans hu;clear e1 e2 E B hu;generalize zG p.g j []=row at*;obtain⟨Ar,cr,rfl,aD,al⟩:=aF;have aq:=zh al;have⟨Q,H⟩:=zv (zN row);have N:=zh H;have aO:Q<=1000:=by rw[H];exact y.1
  rw[<-H] at am aD;clear al H;have⟨T,U⟩:=zv (λq=>(row.take q).foldl (dM p.v) (S j):Nat->List Int×Int);have aw:Hid (T 0=S j):=zh (by rw[U];rfl);have ay:Hid (T Q=S (j+1)):=zh (by rw[U,ar];simp only;rw[En (by rw[<-N];exact DE _)]);have aA:Hid (∀q,q<Q->T (q+1)=dM p.v (T q) (zG row q 0)):=zh λq hq=>by rw[U];exact nM (by rw[<-N];exact hq)
  have az:Hid (∀q,(T q).1.length=n):=zh λq=>by rw[U];exact(fU _ _ _).trans au
  have ax:Hid (∀q,q<=Q->0<=(T q).2/\(T q).2<=100000000000):=zh λq hq=>by have h1:=nD HW (row.take q) (S j) (λv I=>y.2 v (List.mem_of_mem_take I)) W.1;have h2:(row.take q).length<=1000:=D2 (by rw[D3];omega) y.1;have h3:=W.2;rw[U];simp only;omega
  clear U;rw[<-aw] at c⊢;go_upto_region 14 with fail;clear am;go_loopw [5,35] (λK i wq=>∃(q:Nat),q<=Q/\i=zI zi q/\K=zI zi (T q).2/\Box wq gr (iA (T q).1) 3/\Box wq w.heap.size #[zU A1 n c1,zU A2 n2 c2,zU A3 n3 c3,zU A4 n4 c4,zU (some ⟨b,o,none⟩) m c5] 27/\zL w wq) (λ_ i _=>Q+1-(intOf i).toNat)
  .exact⟨0,DH _,rfl,rfl,c,d,e⟩
  obtain⟨q,hq,rfl,rfl,s,h,f⟩:=hrel;have⟨c,d,e⟩:=zk3 s h f;clear s h f;by_cases G:q<Q
  .have⟨aj,q0⟩:=zln G;have ai:q<zN row:=by rw[<-N];exact G
   obtain⟨a1,rfl,af,ak⟩:=aq (by omega);have y0:wr.cell? (a1.add q)=some (zI zi (zG row q 0)):=by rw[e.cell (by rw[bf];exact af)];exact ak q ai
   have I:=y.2 (zG row q 0) (getD_in 0 ai);have z:=zh (aA q G);have aG:=ax q hq;have Y:=zh (az q);generalize zG row q 0=v at*;obtain⟨vn,rfl⟩:∃vn:Nat,v=vn:=⟨v.toNat,by omega⟩;rw[<-X] at I;have⟨aP,aR,e1,_,E⟩:=HV.vrs;have⟨bv,ov,e2,B,C⟩:=E vn (by rw[<-X];omega);obtain rfl:=zas e1 e2;have aC:=B;have an:=C 1 _ rfl;have aK:=HW (zG p.v vn vr0) (getD_in vr0 (by rw[<-X];omega));unfold dM at z;rw[Eh] at z;generalize zG p.v vn vr0=vr at*;obtain⟨nm,wd,md,vl⟩:=vr;simp only at aK an z;generalize T q=tq at*;obtain⟨l1,K⟩:=tq;simp only at aG z Y c;have v0:=zn0 vn;have v1:(vn:Int)<(n:Int):=by omega
   have x0:=c.A vn _ (eH (by rw[Y];omega));have x1:=c.frozen vn;have x2:=c.lt;have A:=za d 0;clear e1 e2 E B C af ak I;go_upto_region 17 with fail;have ab:=zh (c.set_ vn (zI zi K));have aa:=zh (d.setNe ⟨gr,vn,none⟩ (zI zi K));have V:=zh (e.setCell (p:=⟨gr,vn,none⟩) (by show w.heap.size<=gr;omega) (zI zi K));rw[iP] at ab;have y2:=(V.cell aC).trans an;clear A x0 x1 x2 y0;generalize wr.setCell ⟨gr,vn,none⟩ (zI zi K)=w5 at*;have A:=za aa 0;go_wp2;go_roundw
   .exact⟨q+1,by omega,by go_num,by rw[z],by rw[z];exact ab,aa,V⟩
   simp[intOf];omega
  have⟨aj,aH⟩:=zgq hq G;rw[aH,ay] at c⊢;go_wp2;go_roundw
  .exact⟨j+1,by omega,by go_num,rfl,c,d,e⟩
  simp[intOf];omega
 have D:=zge t;have HE:Hid ((S j).1=cF p):=zh (by rw[HS];unfold cF;simp only;rw[En (by rw[<-HM];omega),<-X]);rw[HE] at c;go_wp2;go_ret;exact⟨gr,by rw[<-X];rfl,by omega,c,e⟩
end
end
end Go.Proofs.YtdahpdnhkflnnaaGreatDoor
