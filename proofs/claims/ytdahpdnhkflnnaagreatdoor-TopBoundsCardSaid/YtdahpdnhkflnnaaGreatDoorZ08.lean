/- Laws for TopBounds, part 8: made small by a program of mine. -/
import Derived.Test.YtdahpdnhkflnnaaGreatDoorZ06
set_option linter.unusedVariables false
set_option linter.unusedSimpArgs false
set_option linter.unusedSectionVars false
set_option linter.defProp false
set_option maxRecDepth 100000
set_option maxHeartbeats 64000000
namespace Go.Proofs.YtdahpdnhkflnnaaGreatDoor
open Value renaming int → zI, slice → zU, string → zV, bool → zW, agg → zX, tuple → zY
open IntKind renaming i64 → zi
open Ending renaming returned → zE
open Obj renaming cells → zC
open List renaming length → zN, getD → zG
open Or renaming inl → zQ, inr → zO
open Go.Proofs.Tryz
section
open Go.RowKit
def fo (n:Nat) (e:n<=100000) (W:World):(Instr.makeSlice 32 (zI zi (n:Int)) (zI zi (n:Int))).run zz W= .ok (zU (some ⟨W.heap.size,0,none⟩) n n) (W.alloc (zC (iA (List.replicate n 0)) 3)):=by have⟨i,hi,d,c,b⟩:=EX jZ;have a:=run_make (P:=zz) W 32 3 i (zI zi 0) underlying32 hi d .i64 .i64 n n (by omega) (by omega) (by rw[b];omega) (by omega);rw[c] at a;simp only[Eh] at a;rw[oV] at a;exact a
def yN {k:Nat} (h:k<=20):2^k<=1048576:=by have:=Ew (n:=2) (by omega) h;simpa using this
def ko {n:Nat} (h:n<=20):IntKind.i64.wrap (2^n)=((2^n:Nat):Int):=by
 have a:=yN h;have e:((2^n:Nat):Int)=(2:Int)^n:=by simp
 rw[<-e];generalize 2^n=m at*;exact Fi _ (by omega)
end
section
open Go.RowKit Go.Maps
def aY:Nat->Ex->Nat
 |0,_=>1
 |k+1,e=>e.a.foldl (λn a=>if n<100 then n+aY k a else n) 1
def fnd (k n:Nat) (l:List Ex):Nat:=l.foldl (λn a=>if n<100 then n+aY k a else n) n
theorem kJ (k:Nat):∀(l:List Ex) (n:Nat),100<=n->fnd k n l=n
 |[],n,h=>rfl
 |a::l,n,h=>by show fnd k (if n<100 then n+aY k a else n) l=n;rw[DK (by omega),kJ k l n h]
def AK (k n:Nat) (l m:List Ex):fnd k n (l++m)=fnd k (fnd k n l) m:=by unfold fnd;rw[Fp]
def QT {k:Nat} {l:List Ex} {j:Nat} (a:j<zN l) (h:fnd k 1 (l.take j)<100):fnd k 1 (l.take (j+1))=fnd k 1 (l.take j)+aY k (zG l j ex0):=by
 have e:l.take (j+1)=l.take j++[zG l j ex0]:=by rw[Ep,DD a,DC,DD a];rfl
 rw[e,AK];show(if fnd k 1 (l.take j)<100 then _ else _)=_;rw[DP h]
theorem xy {k B:Nat} (b:∀a,aY k a<=B):∀(l:List Ex) (n:Nat),n<=99+B+1->fnd k n l<=99+B+1
 |[],n,h=>h
 |a::l,n,h=>by show fnd k (if n<100 then n+aY k a else n) l<=_;refine xy b l _ ?_;have:=b a;split<;>omega
theorem me:∀(k:Nat) (e:Ex),aY k e<=100*(k+1)
 |0,e=>by show 1<=_;omega
 |k+1,e=>by have:=xy (me k) e.a 1 (by omega);show fnd k 1 e.a<=_;omega
def bG:Nat->Ex->Bool
 |0,_=>false
 |k+1,e=>e.a.all (bG k)
theorem qC:∀{k:Nat} {e:Ex},bG k e=true->Deep k e
 |0,e,h=>by cases h
 |k+1,e,h=>λa b=>qC (Fa.1 h a b)
theorem AJ {k:Nat} (hk:∀a,aY k a<100->Deep k a->(ax k a).length=aY k a):∀(l:List Ex) (n:Nat),fnd k n l<100->(∀a∈l,Deep k a)->n+(l.flatMap (ax k)).length=fnd k n l
 |[],n,_,_=>rfl
 |a::l,n,h,hd=>by
  have e:fnd k n (a::l)=fnd k (if n<100 then n+aY k a else n) l:=rfl;rw[e] at h⊢;by_cases d:n<100
  .rw[DP d] at h⊢;have g:n+aY k a<100:=by
    rcases FO (n+aY k a) 100 with c|c
    .exact c
    rw[kJ k l _ c] at h;omega
   rw[<-AJ hk l _ h λb f=>hd b (Ea _ f),EM,DI,hk a (by omega) (hd a (by simp))];omega
  rw[DK d,kJ k l n (by omega)] at h;omega
theorem rE:∀(k:Nat) (e:Ex),aY k e<100->Deep k e->(ax k e).length=aY k e
 |0,e,_,h=>h.elim
 |k+1,e,h,hd=>by have:=AJ (rE k) e.a 1 h hd;show(e::e.a.flatMap (ax k)).length=fnd k 1 e.a;rw[DF];omega
def Qf (w:World) (e:Ex) (d:Nat) (x:Value) (k:ExZ e) (p:Rs (exR d) w x e.a ah):Calls zz 110 #[exV e x,zI zi 30] w (zR (zI zi ((aY 0 e:Nat):Int)) w):=by
 obtain⟨A,c,rfl,E,q⟩:=p.exs;have⟨s,z⟩:=zk2 q k;have g:zN e.a<=maxLen:=k.len;unfold maxLen at g;have⟨n,r⟩:=zvh (zN e.a);rw[<-r] at s g⊢;have⟨R,m⟩:=zvh (aY 0 e);rw[<-m];unfold exV;have⟨D,f⟩:=zv (e.op);have⟨C,b⟩:=zv (e.n);have⟨B,a⟩:=zv (e.s);rw[<-f,<-b,<-a];clear q k p f b a;go_enter func110,ntmps110;go_upto_region 1 with fail;generalize h:w.alloc _=w1 at*;have⟨l,t⟩:=zB1 h;clear h;go_wp2;go_loopw [5,6] (λy v wr=>y=zI zi 1/\v=zI zi 0/\w1=wr) (λ_ _ _=>0)
 .exact⟨rfl,rfl,rfl⟩
 obtain⟨rfl,rfl,rfl⟩:=hrel;have i:R=1:=m;subst i;have o:=za t 3;by_cases j:n=0
 .subst j;go_wp2;go_ret;exact⟨rfl,l⟩
 have u:(0:Int)<(n:Int):=by omega
 go_wp2;go_ret;exact⟨rfl,l⟩
def Qe (k:Nat) (hk:k+1<=30) (IH:∀(w:World) (e:Ex) (d:Nat) (x:Value),ExZ e->Rs (exR d) w x e.a ah->Calls zz 110 #[exV e x,zI zi ((30-k:Nat):Int)] w (zR (zI zi ((aY k e:Nat):Int)) w)) (w:World) (e:Ex) (d:Nat) (x:Value) (M:ExZ e) (S:Rs (exR d) w x e.a ah):Calls zz 110 #[exV e x,zI zi ((30-(k+1):Nat):Int)] w (zR (zI zi ((aY (k+1) e:Nat):Int)) w):=by
 obtain⟨A,c,rfl,hc,hx⟩:=S.exs;have⟨HX,HZ,HI⟩:=zk3 hx M IH;have N:zN e.a<=maxLen:=M.len;unfold maxLen at N;have⟨n,U⟩:=zvh (zN e.a);rw[<-U] at HX N⊢;have⟨R,Z⟩:=zvh (aY (k+1) e);rw[<-Z];unfold exV;have⟨eo,E⟩:=zv (e.op);have⟨en,D⟩:=zv (e.n);have⟨em,C⟩:=zv (e.s);rw[<-E,<-D,<-C];have⟨Q,I⟩:=zv (30-(k+1));rw[<-I];clear hx M S E D C;go_enter func110,ntmps110;go_upto_region 1 with fail;generalize P:w.alloc _=w1 at*;have⟨h,m⟩:=zB1 P;clear P;go_wp2;have r:=zh fun(w:World) (e:Ex) (d:Nat) (x:Value) M S=>HI w e d x M S;have H:30-k=Q+1:=by omega
 rw[H] at r;have aa:(Q:Int)<30:=by omega
 have f:((Q+1:Nat):Int)=(Q:Int)+1:=by omega
 rw[f] at r;have y:Hid (R=fnd k 1 e.a):=zh Z;have u:Hid (∀l,fnd k 1 l<=3101):=zh λl=>by have:=xy (me k) l 1 (by omega);omega
 have V:Hid (∀a,aY k a<=3100):=zh λa=>by have:=me k a;omega
 clear H f I;go_loopw [5,6] (λnv X wr=>∃j:Nat,j<=n/\X=zI zi j/\nv=zI zi ((fnd k 1 (e.a.take j):Nat):Int)/\Box wr w.heap.size #[zI zi eo,zI zi en,zV em,zU A n c] 79/\zL w wr) (λ_ X _=>n+1-(intOf X).toNat)
 .exact⟨0,DH _,rfl,rfl,m,h⟩
 obtain⟨j,hj,rfl,rfl,L,G⟩:=hrel;have⟨m,h⟩:=zk2 L G;clear L G;have ab:=u (e.a.take j);by_cases i:j<n
 .have⟨K,j0⟩:=zln i;have J:j<zN e.a:=by rw[<-U];exact i
  by_cases B:fnd k 1 (e.a.take j)<100
  .have h1:((fnd k 1 (e.a.take j):Nat):Int)<100:=by omega
   have z:=zh (QT J B);have T:=u (e.a.take (j+1));obtain⟨b,o,p,d',e2,F,W,g,t, -⟩:=HX j i;subst e2;obtain⟨v0,v1,v2,v3⟩:=zx4 h F g;rw[Eb] at v0;have Y:=zh (r wr (zG e.a j ex0) d' p (HZ.a _ (getD_in ex0 J)) (t.Q h));have ac:=V (zG e.a j ex0);generalize zG e.a j ex0=ea at*;obtain⟨Ap,cp,rfl, -⟩:=t.slice;unfold exV at Y;have⟨f1,v⟩:=zvh (fnd k 1 (e.a.take (j+1)));rw[<-v] at z T;generalize fnd k 1 (e.a.take j)=f0,aY k ea=na at*;clear g F t W;have q:=za m 3;go_wp2;clear v0 v1 v2 v3;refine zK Y λw2 hb=> ?_;replace⟨m,h⟩:=zb2 m h hb;clear hb;go_wp2;go_roundw
   .exact⟨j+1,by omega,by go_num,by rw[<-v,z];go_num,m,h⟩
   simp[intOf];omega
  have h1:¬((fnd k 1 (e.a.take j):Nat):Int)<100:=by omega
  have s:Hid (R=fnd k 1 (e.a.take j)):=zh (by
   rw[y];conv=>lhs;rw[<-List.take_append_drop j e.a]
   rw[AK,kJ k _ _ (by omega)]);generalize fnd k 1 (e.a.take j)=f0 at*;have q:=za m 3;go_wp2;go_ret;exact⟨by rw[s];rfl,h⟩
 have K:=zge i;have s:Hid (R=fnd k 1 (e.a.take j)):=zh (by rw[y,En (by rw[<-U];omega)]);generalize fnd k 1 (e.a.take j)=f0 at*;have q:=za m 3;go_wp2;go_ret;exact⟨by rw[s];rfl,h⟩
theorem y5:∀(k:Nat),k<=30->∀(w:World) (e:Ex) (d:Nat) (x:Value),ExZ e->Rs (exR d) w x e.a ah->Calls zz 110 #[exV e x,zI zi ((30-k:Nat):Int)] w (zR (zI zi ((aY k e:Nat):Int)) w)
 |0,h=>Qf
 |k+1,h=>Qe k h (y5 k (by omega))
def Qh (w:World) (e:Ex) (d:Nat) (x:Value) (i:ExZ e) (m:Rs (exR d) w x e.a ah):Calls zz 57 #[exV e x,zI zi 26] w (zR (zW false) w):=by obtain⟨A,c,rfl,u,o⟩:=m.exs;have⟨l,p⟩:=zk2 o i;have a:zN e.a<=maxLen:=i.len;unfold maxLen at a;have⟨n,k⟩:=zvh (zN e.a);rw[<-k] at l a⊢;unfold exV;have⟨t,g⟩:=zv (e.op);have⟨s,f⟩:=zv (e.n);have⟨r,b⟩:=zv (e.s);rw[<-g,<-f,<-b];go_enter func57,ntmps57;go_upto_region 1 with fail;generalize h:w.alloc _=w1 at*;have⟨j,q⟩:=zB1 h;go_wp2;go_ret;exact⟨rfl,j⟩
theorem Qg (k s:Nat) (hk:k+1<=25) (P:s+k=25) (IH:∀(w:World) (e:Ex) (d:Nat) (x:Value),ExZ e->Rs (exR d) w x e.a ah->Calls zz 57 #[exV e x,zI zi ((s:Int)+1)] w (zR (zW (bG k e)) w))
  (w:World) (e:Ex) (d:Nat) (x:Value) (Q:ExZ e) (W:Rs (exR d) w x e.a ah):Calls zz 57 #[exV e x,zI zi s] w (zR (zW (bG (k+1) e)) w):=by
 obtain⟨A,c,rfl,hc,X⟩:=W.exs;have⟨U,Z⟩:=zk2 X Q;have F:e.a.length<=maxLen:=Q.len;unfold maxLen at F;have⟨n,K⟩:=zvh (e.a.length);rw[<-K] at U F⊢;unfold exV;have⟨eo,z⟩:=zv (e.op);have⟨en,y⟩:=zv (e.n);have⟨em,v⟩:=zv (e.s);rw[<-z,<-y,<-v];clear X Q W z y v;have J:=zh IH;have⟨R,M⟩:=zv (bG (k+1) e);have t:Hid (R=e.a.all (bG k)):=zh M;rw[<-M];have d1:¬((s:Int)>25):=by omega
 have d2:((s:Int)==0)=false:=by simp;omega
 have d3:s<=25:=by omega
 clear M P;go_enter func57,ntmps57;go_upto_region 1 with fail;generalize G:w.alloc _=w1 at*;have⟨g,q⟩:=zB1 G;clear G;go_wp2;go_loopw [5] (λS wr=>∃j:Nat,j<=n/\S=zI zi j/\Hid ((e.a.take j).all (bG k)=true)/\Box wr w.heap.size #[zI zi eo,zI zi en,zV em,zU A n c] 79/\zL w wr) (λS _=>n+1-(intOf S).toNat)
 .exact⟨0,DH _,rfl,zh rfl,q,g⟩
 obtain⟨j,hj,rfl,l,E,C⟩:=hrel;have⟨q,g⟩:=zk2 E C;clear E C;by_cases i:j<n
 .have⟨D,j0⟩:=zln i;have f:j<e.a.length:=by rw[<-K];exact i
  obtain⟨b,o,p,d',e2,B,N,a,r, -⟩:=U j i;subst e2;obtain⟨Y,v1,v2,v3⟩:=zx4 g B a;rw[Eb] at Y;have T:=zh (J wr (zG e.a j ex0) d' p (Z.a _ (getD_in ex0 f)) (r.Q g));have I:Hid ((e.a.take (j+1)).all (bG k)=((e.a.take j).all (bG k)&&bG k (zG e.a j ex0))):=zh (by
   rw[Ep,DD f,List.all_append,DC,DD f];simp);have L:Hid (bG k (zG e.a j ex0)=false->e.a.all (bG k)=false):=zh λh=>by
   rw[List.all_eq_false];exact⟨_,getD_in ex0 f,by rw[h];simp⟩
  generalize zG e.a j ex0=ea at*;obtain⟨Ap,cp,rfl, -⟩:=r.slice;unfold exV at T;clear a B r N f;have u:=za q 3;go_wp2;clear Y v1 v2 v3;refine zK T λw2 V=> ?_;replace⟨q,g⟩:=zb2 q g V;clear V;cases hq:bG k ea with
  |true=>
   have H:Hid ((e.a.take (j+1)).all (bG k)=true):=zh (by rw[I,l,hq];rfl);clear hq;go_wp2;go_roundw
   .exact⟨j+1,by omega,by go_num,H,q,g⟩
   simp[intOf];omega
  |false=>have m:=zh (L hq);clear hq;go_wp2;go_ret;exact⟨by rw[t,m];rfl,g⟩
 have D:=zge i;have m:Hid (e.a.all (bG k)=true):=zh (by have:=l.out;rw[En (by rw[<-K];omega)] at this;exact this);have u:=za q 3;go_wp2;go_ret;exact⟨by rw[t,m];rfl,g⟩
theorem rG:∀(k a:Nat),k<=25->a+k=26->∀(w:World) (e:Ex) (d:Nat) (x:Value),ExZ e->Rs (exR d) w x e.a ah->Calls zz 57 #[exV e x,zI zi a] w (zR (zW (bG k e)) w)
 |0,a,h,h2=>by
  obtain rfl:a=26:=by omega
  exact Qh
 |k+1,a,h,h2=>Qg k a h (by omega) (by
   have:=rG k (a+1) (by omega) (by omega);have e:((a+1:Nat):Int)=(a:Int)+1:=by omega
   rw[e] at this;exact this)
theorem y6 (w:World) (e:Ex) (d:Nat) (x:Value) (N:ExZ e) (Y:Rs (exR d) w x e.a ah):Calls zz 57 #[exV e x,zI zi 0] w (zR (zW (decide (aY 30 e<=60)&&bG 26 e)) w):=by
 have y:=zh λW h=>y5 30 (by omega) W e d x N (Y.Q h);have R:Hid (∀(w:World) (e:Ex) (d:Nat) (x:Value),ExZ e->Rs (exR d) w x e.a ah->Calls zz 57 #[exV e x,zI zi 1] w (zR (zW (bG 25 e)) w)):=zh (rG 25 1 (by omega) (by omega));have ae:=me 30 e;have⟨M,u⟩:=zv (bG 26 e);have l:Hid (M=e.a.all (bG 25)):=zh u;rw[<-u];clear u;obtain⟨A,c,rfl,hc,hx⟩:=Y.exs;have⟨HX,HZ⟩:=zk2 hx N;have K:zN e.a<=maxLen:=N.len;unfold maxLen at K;have⟨n,S⟩:=zvh (zN e.a);rw[<-S] at HX K y⊢;unfold exV at y⊢;have⟨eo,E⟩:=zv (e.op);have⟨en,D⟩:=zv (e.n);have⟨em,C⟩:=zv (e.s);rw[<-E,<-D,<-C] at y⊢;clear hx N Y E D C;have z:((30-30:Nat):Int)=0:=rfl;rw[z] at y;clear z;generalize aY 30 e=t at*;go_enter func57,ntmps57;go_upto_region 1 with fail;generalize L:w.alloc _=w1 at*;have⟨a,k⟩:=zB1 L;clear L;obtain⟨aa,ab,ac,s⟩:=zc4 k;go_wp2;refine zK (y w1 a) λw2 F=> ?_;replace⟨k,a⟩:=zb2 k a F;clear F;by_cases ad:t<=60
 .have U:¬((60:Int)<(t:Int)):=by omega
  have V:decide (60<t)=false:=by simp;omega
  have m:decide (t<=60)=true:=by simp;omega
  have B:Hid ((decide (t<=60)&&M)=M):=zh (by rw[m];rfl);clear m;go_wp2;clear V;go_loopw [5] (λZ wr=>∃j:Nat,j<=n/\Z=zI zi j/\Hid ((e.a.take j).all (bG 25)=true)/\Box wr w.heap.size #[zI zi eo,zI zi en,zV em,zU A n c] 79/\zL w wr) (λZ _=>n+1-(intOf Z).toNat)
  .exact⟨0,DH _,rfl,zh rfl,k,a⟩
  obtain⟨j,hj,rfl,r,J,H⟩:=hrel;have⟨k,a⟩:=zk2 J H;clear J H;by_cases q:j<n
  .have⟨I,j0⟩:=zln q;have i:j<zN e.a:=by rw[<-S];exact q
   obtain⟨b,o,p,d',e2,G,X,g,v, -⟩:=HX j q;subst e2;obtain⟨v0,v1,v2,v3⟩:=zx4 a G g;rw[Eb] at v0;have CC:=zh (R wr (zG e.a j ex0) d' p (HZ.a _ (getD_in ex0 i)) (v.Q a));have Q:Hid ((e.a.take (j+1)).all (bG 25)=((e.a.take j).all (bG 25)&&bG 25 (zG e.a j ex0))):=zh (by
    rw[Ep,DD i,List.all_append,DC,DD i];simp);have T:Hid (bG 25 (zG e.a j ex0)=false->e.a.all (bG 25)=false):=zh λh=>by
    rw[List.all_eq_false];exact⟨_,getD_in ex0 i,by rw[h];simp⟩
   generalize zG e.a j ex0=ea at*;obtain⟨Ap,cp,rfl, -⟩:=v.slice;unfold exV at CC;clear g G v X i;have s:=za k 3;go_wp2;clear v0 v1 v2 v3;refine zK CC λw2 F=> ?_;replace⟨k,a⟩:=zb2 k a F;clear F;cases hq:bG 25 ea with
   |true=>
    have P:Hid ((e.a.take (j+1)).all (bG 25)=true):=zh (by rw[Q,r,hq];rfl);clear hq;go_wp2;go_roundw
    .exact⟨j+1,by omega,by go_num,P,k,a⟩
    simp[intOf];omega
   |false=>have f:=zh (T hq);clear hq;go_wp2;go_ret;exact⟨by first|(rw[B,l,f];rfl)|(rw[l,f];rfl),a⟩
  have I:=zge q;have f:Hid (e.a.all (bG 25)=true):=zh (by have:=r.out;rw[En (by rw[<-S];omega)] at this;exact this);have s:=za k 3;go_wp2;go_ret;exact⟨by first|(rw[B,l,f];rfl)|(rw[l,f];rfl),a⟩
 have U:(60:Int)<(t:Int):=by omega
 have m:Hid ((decide (t<=60)&&M)=false):=zh (by
  have:decide (t<=60)=false:=by simp;omega
  rw[this];rfl);go_wp2;go_ret;exact⟨by first|(rw[m];rfl)|rfl,a⟩
structure vX (p:Pb):Prop where
 nv:zN p.v<=20
 nh:zN p.h<=20
 ns:zN p.s<=20
 nd:zN p.d<=20
 ng:zN p.g<=20
 hd:∀e∈p.h,aY 30 e<=60/\bG 26 e=true
 sf:∀e∈p.s,aY 30 e<=60/\bG 26 e=true
 dw:∀x∈p.d,zN x.ws<=20
 gr:∀x∈p.g,zN x<=20
def ic {α:Type} {l:List α} {x0:α} {P:α->Prop} (h:∀i,i<zN l->P (zG l i x0)):∀x∈l,P x:=λx a=>by
 obtain⟨i,hi,rfl⟩:=D9.1 a;have:=h i hi;rw[DC,DD hi] at this;exact this
def Zb (w:World) (p:Pb) (e:Ending) (w':World):Prop:=(∃b,e=zE (zW b)/\(b=true->vX p))/\zL w w'
theorem TP {w:World} {p:Pb} {A1 A2 A3 A4 A5:Option Addr} {c1 c2 c3 c4 c5 d:Nat} (hh:Rs (exR d) w (zU A2 (zN p.h) c2) p.h ah) (hs:Rs (exR d) w (zU A3 (zN p.s) c3) p.s ah) (hd:Rs dsR w (zU A4 (zN p.d) c4) p.d ah) (hg:Rs ilR w (zU A5 (zN p.g) c5) p.g ah) (hz:PbZ p):
  Calls zz 23 #[pbV p A1 A2 A3 A4 A5 c1 c2 c3 c4 c5] w (Zb w p):=by
 have⟨HH,HS,HD,HG⟩:=zk4 hh hs hd hg;have ae:=zh hz.hs;have af:=zh hz.ss;unfold pbV;have⟨S,X⟩:=zvh (zN p.v);have⟨u,D⟩:=zvh (zN p.h);have⟨v,E⟩:=zvh (zN p.s);have⟨x,F⟩:=zvh (zN p.d);have⟨y,G⟩:=zvh (zN p.g);rw[<-D] at HH;rw[<-E] at HS;rw[<-F] at HD;rw[<-G] at HG;rw[<-X,<-D,<-E,<-F,<-G];go_enter func23,ntmps23;go_upto_region 1 with fail;generalize an:w.alloc _=w1 at*;have⟨a,f⟩:=zB1 an;obtain⟨ao,M,N,P,Q⟩:=zc5 f;by_cases a1:S<=20;rotate_left
 .have b1:(20:Int)<(S:Int):=by omega
  go_wp2;go_ret;exact⟨⟨false,rfl,λh=>by cases h⟩,a⟩
 have b1:¬(20:Int)<(S:Int):=by omega
 have e1:decide ((20:Int)<(S:Int))=false:=DJ b1;by_cases a2:u<=20;rotate_left
 .have b2:(20:Int)<(u:Int):=by omega
  go_wp2;go_ret;exact⟨⟨false,rfl,λh=>by cases h⟩,a⟩
 have b2:¬(20:Int)<(u:Int):=by omega
 have R:decide ((20:Int)<(u:Int))=false:=DJ b2;by_cases a3:v<=20;rotate_left
 .have b3:(20:Int)<(v:Int):=by omega
  go_wp2;go_ret;exact⟨⟨false,rfl,λh=>by cases h⟩,a⟩
 have b3:¬(20:Int)<(v:Int):=by omega
 have e3:decide ((20:Int)<(v:Int))=false:=DJ b3;by_cases a4:x<=20;rotate_left
 .have b4:(20:Int)<(x:Int):=by omega
  go_wp2;go_ret;exact⟨⟨false,rfl,λh=>by cases h⟩,a⟩
 have b4:¬(20:Int)<(x:Int):=by omega
 have e4:decide ((20:Int)<(x:Int))=false:=DJ b4;by_cases a5:y<=20;rotate_left
 .have b5:(20:Int)<(y:Int):=by omega
  go_wp2;go_ret;exact⟨⟨false,rfl,λh=>by cases h⟩,a⟩
 have b5:¬(20:Int)<(y:Int):=by omega
 have e5:decide ((20:Int)<(y:Int))=false:=DJ b5;go_wp2;go_loopw [3] (λt wr=>∃j:Nat,j<=u/\t=zI zi j/\Hid (∀i,i<j->(aY 30 (zG p.h i ex0)<=60/\bG 26 (zG p.h i ex0)=true))/\Box wr w.heap.size #[zU A1 S c1,zU A2 u c2,zU A3 v c3,zU A4 x c4,zU A5 y c5] 27/\zL w wr) (λt _=>u+1-(intOf t).toNat)
 .exact⟨0,DH _,rfl,zh (λi h=>absurd h (Nat.not_lt_zero _)),f,a⟩
 case round=>
 obtain⟨j,hj,rfl,z,s,m⟩:=hrel;have⟨f,a⟩:=zk2 s m;by_cases H:j<u
 .have⟨L,j0⟩:=zln H;have g:j<zN p.h:=by rw[<-D];exact H
  obtain⟨Y,c',e1, -,V⟩:=HH.exs;obtain⟨b,o,q,d',R,l,ag,n,r, -⟩:=V j g;obtain rfl:=zas e1 R;obtain⟨v0,v1,v2,v3⟩:=zx4 a l n;rw[Eb] at v0;have W:=zh (y6 wr (zG p.h j ex0) d' q (ae _ (getD_in ex0 g)) (r.Q a));have c:Hid ((aY 30 (zG p.h j ex0)<=60/\bG 26 (zG p.h j ex0)=true)->∀i,i<j+1->aY 30 (zG p.h i ex0)<=60/\bG 26 (zG p.h i ex0)=true):=zh λh i hi=>by
   by_cases e:i=j
   .rw[e];exact h
   exact z i (by omega)
  generalize zG p.h j ex0=ea at*;obtain⟨Z,cp,rfl, -⟩:=r.slice;unfold exV at W;generalize aY 30 ea=nn,bG 26 ea=db at*;have M:=za f 1;go_wp2;refine zK W λw2 hb=> ?_;replace⟨f,a⟩:=zb2 f a hb;cases hq:(decide (nn<=60)&&db) with
  |true=>
   rw[DW] at hq;have k:=zh (c ⟨Ey hq.1,hq.2⟩);go_wp2;go_roundw
   .exact⟨j+1,by omega,by go_num,k,f,a⟩
   simp[intOf];omega
  |false=>go_wp2;go_ret;exact⟨⟨false,rfl,λh=>by cases h⟩,a⟩
 have ai:=zge H;have aa:Hid (∀i,i<u->(aY 30 (zG p.h i ex0)<=60/\bG 26 (zG p.h i ex0)=true)):=zh λi hi=>z i (by omega);have M:=za f 1;go_wp2;go_loopw [4] (λt wr=>∃j:Nat,j<=v/\t=zI zi j/\Hid (∀i,i<j->(aY 30 (zG p.s i ex0)<=60/\bG 26 (zG p.s i ex0)=true))/\Box wr w.heap.size #[zU A1 S c1,zU A2 u c2,zU A3 v c3,zU A4 x c4,zU A5 y c5] 27/\zL w wr) (λt _=>v+1-(intOf t).toNat)
 .exact⟨0,DH _,rfl,zh (λi h=>absurd h (Nat.not_lt_zero _)),f,a⟩
 case round=>
 obtain⟨j,hj,rfl,A,s,m⟩:=hrel;have⟨f,a⟩:=zk2 s m;by_cases I:j<v
 .have⟨L,j0⟩:=zln I;have g:j<zN p.s:=by rw[<-E];exact I
  obtain⟨Y,c',e1, -,V⟩:=HS.exs;obtain⟨b,o,q,d',R,l,ag,n,r, -⟩:=V j g;obtain rfl:=zas e1 R;obtain⟨v0,v1,v2,v3⟩:=zx4 a l n;rw[Eb] at v0;have W:=zh (y6 wr (zG p.s j ex0) d' q (af _ (getD_in ex0 g)) (r.Q a));have c:Hid ((aY 30 (zG p.s j ex0)<=60/\bG 26 (zG p.s j ex0)=true)->∀i,i<j+1->aY 30 (zG p.s i ex0)<=60/\bG 26 (zG p.s i ex0)=true):=zh λh i hi=>by
   by_cases e:i=j
   .rw[e];exact h
   exact A i (by omega)
  generalize zG p.s j ex0=ea at*;obtain⟨Z,cp,rfl, -⟩:=r.slice;unfold exV at W;generalize aY 30 ea=nn,bG 26 ea=db at*;have N:=za f 2;go_wp2;refine zK W λw2 hb=> ?_;replace⟨f,a⟩:=zb2 f a hb;cases hq:(decide (nn<=60)&&db) with
  |true=>
   rw[DW] at hq;have k:=zh (c ⟨Ey hq.1,hq.2⟩);go_wp2;go_roundw
   .exact⟨j+1,by omega,by go_num,k,f,a⟩
   simp[intOf];omega
  |false=>go_wp2;go_ret;exact⟨⟨false,rfl,λh=>by cases h⟩,a⟩
 have aj:=zge I;have ab:Hid (∀i,i<v->(aY 30 (zG p.s i ex0)<=60/\bG 26 (zG p.s i ex0)=true)):=zh λi hi=>A i (by omega);have N:=za f 2;go_wp2;go_loopw [5] (λt wr=>∃j:Nat,j<=x/\t=zI zi j/\Hid (∀i,i<j->((zG p.d i ds0).ws.length<=20))/\Box wr w.heap.size #[zU A1 S c1,zU A2 u c2,zU A3 v c3,zU A4 x c4,zU A5 y c5] 27/\zL w wr) (λt _=>x+1-(intOf t).toNat)
 .exact⟨0,DH _,rfl,zh (λi h=>absurd h (Nat.not_lt_zero _)),f,a⟩
 case round=>
 obtain⟨j,hj,rfl,B,s,m⟩:=hrel;have⟨f,a⟩:=zk2 s m;by_cases J:j<x
 .have⟨L,j0⟩:=zln J;have g:j<zN p.d:=by rw[<-F];exact J
  obtain⟨Y,c',e1, -,V⟩:=HD.dss;have⟨b,o,q,R,l,ap,T,r⟩:=V j g;obtain rfl:=zas e1 R;have v1:=(a.cell l).trans T;have c:Hid ((zG p.d j ds0).ws.length<=20->∀i,i<j+1->(zG p.d i ds0).ws.length<=20):=zh λh i hi=>by
   by_cases e:i=j
   .rw[e];exact h
   exact B i (by omega)
  obtain⟨Z,cp,rfl, -⟩:=r.slice;generalize(zG p.d j ds0).ws.length=wl at*;have P:=za f 3;by_cases hw:wl<=20
  .have U:¬(20:Int)<(wl:Int):=by omega
   have k:=zh (c hw);go_wp2;go_roundw
   .exact⟨j+1,by omega,by go_num,k,f,a⟩
   simp[intOf];omega
  have U:(20:Int)<(wl:Int):=by omega
  go_wp2;go_ret;exact⟨⟨false,rfl,λh=>by cases h⟩,a⟩
 have ak:=zge J;have ac:Hid (∀i,i<x->((zG p.d i ds0).ws.length<=20)):=zh λi hi=>B i (by omega);have P:=za f 3;go_wp2;go_loopw [6] (λt wr=>∃j:Nat,j<=y/\t=zI zi j/\Hid (∀i,i<j->((zG p.g i []).length<=20))/\Box wr w.heap.size #[zU A1 S c1,zU A2 u c2,zU A3 v c3,zU A4 x c4,zU A5 y c5] 27/\zL w wr) (λt _=>y+1-(intOf t).toNat)
 .exact⟨0,DH _,rfl,zh (λi h=>absurd h (Nat.not_lt_zero _)),f,a⟩
 case round=>
 obtain⟨j,hj,rfl,C,s,m⟩:=hrel;have⟨f,a⟩:=zk2 s m;by_cases K:j<y
 .have⟨L,j0⟩:=zln K;have g:j<zN p.g:=by rw[<-G];exact K
  obtain⟨Y,c',e1, -,V⟩:=HG.ils;obtain⟨b,o,q,R,l,T,am, -⟩:=V j g;obtain rfl:=zas e1 R;have v1:=(a.cell l).trans T;have c:Hid ((zG p.g j []).length<=20->∀i,i<j+1->(zG p.g i []).length<=20):=zh λh i hi=>by
   by_cases e:i=j
   .rw[e];exact h
   exact C i (by omega)
  obtain⟨Z,cp,rfl, -⟩:=am;generalize(zG p.g j []).length=wl at*;have Q:=za f 4;by_cases hw:wl<=20
  .have U:¬(20:Int)<(wl:Int):=by omega
   have k:=zh (c hw);go_wp2;go_roundw
   .exact⟨j+1,by omega,by go_num,k,f,a⟩
   simp[intOf];omega
  have U:(20:Int)<(wl:Int):=by omega
  go_wp2;go_ret;exact⟨⟨false,rfl,λh=>by cases h⟩,a⟩
 have al:=zge K;have ad:Hid (∀i,i<y->((zG p.g i []).length<=20)):=zh λi hi=>C i (by omega);have Q:=za f 4;go_wp2;go_ret;exact⟨⟨true,rfl,λ_=>⟨by rw[<-X];exact a1,by rw[<-D];exact a2,by rw[<-E];exact a3,by rw[<-F];exact a4,by rw[<-G];exact a5,ic (x0:=ex0) λi hi=>aa i (by rw[D];exact hi),ic (x0:=ex0) λi hi=>ab i (by rw[E];exact hi),ic (x0:=ds0) λi hi=>ac i (by rw[F];exact hi),ic (x0:=[]) λi hi=>ad i (by rw[G];exact hi)⟩⟩,a⟩
section
variable (w:World) {s:ByteArray} {j:Nat}
def wH (v:Value) (vars:List Vr) (s:ByteArray) (R:Rs vrR w v vars ah) (Q:zN vars<=1000):Calls zz 60 #[v,zV s] w (zS (zI zi (dy vars s)) w):=by
 obtain⟨A,c,rfl,M,S⟩:=R.vrs;have z:=zh S;have F:=zh (λk I J K=>jd (p:=λv:Vr=>decide (v.s=s)) (l:=vars) (k:=k) vr0 I J K);have G:=zh (jc (p:=λv:Vr=>decide (v.s=s)) (l:=vars) vr0);have⟨N,q⟩:=zvh (zN vars);have y:Hid (dy vars s=fh (λv=>decide (v.s=s)) vars):=zh rfl;rw[<-q] at M Q z⊢;generalize dy vars s=r at*;go_enter func60,ntmps60;go_wp2;go_loopw [5] (λi wr=>∃k:Nat,k<=N/\i=zI zi k/\wr=w/\Hid (∀j,j<k->(decide ((zG vars j vr0).s=s))=false)) (λi _=>N-(intOf i).toNat)
 .exact⟨0,DH _,rfl,rfl,zh (λj h=>by omega)⟩
 obtain⟨k,hk,rfl,rfl,f⟩:=hrel;by_cases a:k<N
 .have⟨m,P⟩:=zln a;have u:k<zN vars:=by rw[<-q];exact a
  have⟨b,o,H,L,d⟩:=z k a;subst H;have C:=d 0 _ rfl;rw[Eb] at C;have D:=zh (F k u f);have E:Hid ((decide ((zG vars k vr0).s=s))=false->∀j,j<k+1->(decide ((zG vars j vr0).s=s))=false):=zh λh j B=>by
   by_cases e:j=k
   .rw[e];exact h
   exact f j (by omega)
  generalize zG vars k vr0=x at*;obtain⟨n,V,W,X⟩:=x;simp only at C;have T:((n.toList==s.toList)=decide (n=s)):=by
   by_cases h:n=s
   .subst h;simp
   rw[(ly h).1,DJ h]
  generalize U:decide (n=s)=qv at*;cases qv
  .have g:=zh (E rfl);go_wp2;go_roundw
   .exact⟨k+1,by omega,by go_num,by trivial,g⟩
   simp[intOf];omega
  have g:=zh (D rfl);go_wp2;go_ret;exact⟨aU (by rw[y,g]),rfl⟩
 have⟨m,t⟩:=zgq hk a;have g:=zh (G λj B=>f j (by rw[t,q];exact B));go_wp2;go_ret;exact⟨aU (by rw[y,g]),rfl⟩
def rx (a:ByteArray) (i:Nat) (hi:i<10) (n:a.size<=1000000):Calls zz 112 #[zV a,zI zi i] w (zR (zV (bj a i)) w):=by
 rw[<-AT a i hi];have o:(⟨(Lib.decDigits i).toArray⟩:ByteArray).size=1:=by
  have e:Lib.decDigits i=[UInt8.ofNat (48+i)]:=by unfold Lib.decDigits;rw[dif_pos hi]
  rw[e];rfl
 have j:Cq (i:Int)=(⟨(Lib.decDigits i).toArray⟩:ByteArray):=by refine qD ?_;rw[nN];rw[Lib.itoa_nonneg]
 have b:=zh λW=>BZ (i:Int) W (by omega) (by omega);rw[j] at b;generalize(⟨(Lib.decDigits i).toArray⟩:ByteArray)=dg at*;have k:¬9223372036854775807<a.size+1:=by omega
 have c:(a++(⟨#[91]⟩:ByteArray)).size=a.size+1:=by rw[ByteArray.size_append];rfl
 have l:¬9223372036854775807<(a++(⟨#[91]⟩:ByteArray)).size+dg.size:=by rw[c];omega
 have f:¬9223372036854775807<a.size+1+dg.size:=by omega
 have m:¬9223372036854775807<(a++(⟨#[91]⟩:ByteArray)++dg).size+1:=by rw[ByteArray.size_append,c];omega
 have g:¬9223372036854775807<a.size+1+dg.size+1:=by omega
 go_enter func112,ntmps112;go_wp2;refine zK (b _) λw' h=> ?_;have d:=zh h;go_wp2;go_ret;exact⟨rfl,d⟩
def oB (s:ByteArray) (j:Nat):Bool:=decide (byt s j=91)&&(aQ (s.extract 0 j)&&(List.range 8).any (λi=>decide (s=bj (s.extract 0 j) i)))
def mC (s:ByteArray) (j:Nat) (h:j<=s.size):(s.extract 0 j).size=j:=by rw[EW,FU];simp only[D3,ET];have:=EW s;omega
def ZY (h:j<s.size) (e:byt s j=91) (f:aQ (s.extract 0 j)=true):ix 91 s.data.toList=j/\cO 91 s=s.extract 0 j/\fF 91 s=true/\1<=j:=by
 have d:=(cj.1 f).1;have c:zN s.data.toList=s.size:=(EW s).symm;have a:ix 91 s.data.toList=j:=by
  refine rI _ _ (by omega) (λi hi=> ?_) (λ_=> ?_)
  .have:=sk d (b:=91) (by decide) (zG s.data.toList i 0) (by rw[FU];simp only[D5,Nat.sub_zero];rw[DC,DD (by omega)];simp only[EQ];rw[List.mem_take_iff_getElem];exact⟨i,by omega,rfl⟩);exact this
  have g:((zG s.data.toList j 0).toNat:Int)=91:=e;refine UInt8.toNat_inj.1 ?_;show(zG s.data.toList j 0).toNat=91;omega
 refine⟨a, ?_, ?_, ?_⟩
 .rw[<-a,dK]
 .unfold fF;rw[a];exact DR (by omega)
 have:=d.1;rw[mC s j (by omega)] at this;exact this
def Cb (g:j<s.size) (h:oB s j=true):b9 s=true:=by
 unfold oB at h;simp only[DW] at h;obtain⟨e,b,c⟩:=h;have⟨_,a,d,_⟩:=ZY g (Ey e) b;unfold b9;rw[a,d,b];have:(List.range 8).any (eF s)=true:=by rw[Ez] at c⊢;obtain⟨i,hi,f⟩:=c;refine⟨i,hi, ?_⟩;unfold eF;rw[a];exact f
 rw[this];simp
def P8 (l:aQ s=false) (h:∀j,1<=j->j<s.size->oB s j=false):b9 s=false:=by
 cases hq:b9 s
 .rfl
 exfalso;unfold b9 at hq;rw[l,FJ] at hq;simp only[DW] at hq;obtain⟨d,a,e⟩:=hq;have f:=tj d;have k:ix 91 s.data.toList<s.size:=by have:=Ey d;rw[EW];exact this
 rw[<-dK] at a;have g:=ZY k f a;have b:=h _ g.2.2.2 k;unfold oB at b;have m:(List.range 8).any (λi=>decide (s=bj (s.extract 0 (ix 91 s.data.toList)) i))=true:=by rw[Ez] at e⊢;obtain⟨i,hi,c⟩:=e;refine⟨i,hi, ?_⟩;unfold eF at c;rw[g.2.1] at c;exact c
 rw[a,m,f] at b;simp at b
def Tv (s:ByteArray) (L:s.size<=maxLen):Calls zz 111 #[zV s] w (zR (zW (b9 s)) w):=by
 have K:=zh λw=>lZ s w L;unfold maxLen at L;have N:=zh fun(w:World) (k:Nat) (hk:k<=s.size)=>lZ (s.extract 0 k) w (by rw[mC s k hk];unfold maxLen;omega);have M:=zh fun(w:World) (k i:Nat) (hk:aQ (s.extract 0 k)=true) (hi:i<8)=>rx w (s.extract 0 k) i (by omega) (by have:=(cj.1 hk).2.1;omega);have S:Hid (aQ s=true->b9 s=true):=zh λh=>by unfold b9;rw[h];rfl
 have Q:=zh λj (C:j<s.size)=>Cb (s:=s) (j:=j) C;have R:=zh (P8 (s:=s));have E:=zh λk (h:k<s.size)=>iR s k h;have P:Hid (∀j,oB s j=(decide (byt s j=91)&&(aQ (s.extract 0 j)&&(List.range 8).any (λi=>decide (s=bj (s.extract 0 j) i))))):=zh λj=>rfl;generalize b9 s=r,aQ s=n1 at*;cases n1;case true=>
  have I:=zh (S rfl);go_enter func111,ntmps111;go_wp2;refine zK (K w) λw1 a=> ?_;have d:=zh a;go_wp2;go_ret;exact⟨bS I.symm,d⟩
 case false=>
  go_enter func111,ntmps111;go_wp2;refine zK (K w) λw1 a=> ?_;have d:=zh a;go_wp2;go_loopw [3,4] (λi _ wr=>∃k:Nat,1<=k/\k<=s.size+1/\i=zI zi k/\Hid (∀j,1<=j->j<k->oB s j=false)/\zL w wr) (λi _ _=>s.size+1-(intOf i).toNat)
  .exact⟨1,by omega,by omega,rfl,zh (λj B U=>by omega),d⟩
  obtain⟨k,V,hk,rfl,A,a⟩:=hrel;have d:=zh a;by_cases x:k<s.size;case neg=>
   have y:¬(k:Int)<s.size:=by omega
   have g:Hid (r=false):=zh (R trivial λj B U=>A j B (by omega));go_wp2;go_ret;exact⟨bS g.symm,d⟩
  have y:(k:Int)<s.size:=by omega
  have J:k<=s.size:=by omega
  have a:=E k x;have l:Hid (oB s k=false->∀j,1<=j->j<k+1->oB s j=false):=zh λh j B C=>by
   by_cases e:j=k
   .rw[e];exact h
   exact A j B (by omega)
  have c:=zh (P k);have F:=zh (Q k x);have o:=zh λw=>N w k J;have D:=zh λw i X hi=>M w k i X hi;rw[a] at c;by_cases f:(s[k].toNat:Int)=91;case neg=>
   have T:((s[k].toNat:Int) !=91)=true:=by simpa using f
   have g:=zh (l (by rw[c,DJ f];rfl));go_wp2;go_roundw
   .exact⟨k+1,by omega,by omega,by go_num,g,d⟩
   simp[intOf];omega
  have T:((s[k].toNat:Int) !=91)=false:=by simpa using f
  rw[DR f,FI] at c;generalize aQ (s.extract 0 k)=nb at*;cases nb;case false=>
   have g:=zh (l (by rw[c];rfl));go_wp2;refine zK (o _) λw2 a=> ?_;have b:=zh (aa d a);go_wp2;go_roundw
   .exact⟨k+1,by omega,by omega,by go_num,g,b⟩
   simp[intOf];omega
  rw[FI] at c;go_wp2;refine zK (o _) λw2 a=> ?_;have b:=zh (aa d a);go_wp2;go_loopw [4] (λi wr=>∃m:Nat,m<=8/\i=zI zi m/\Hid (∀j,j<m->decide (s=bj (s.extract 0 k) j)=false)/\zL w wr) (λi _=>8-(intOf i).toNat)
  .exact⟨0,by decide,rfl,zh λj h=>by omega,b⟩
  obtain⟨m,hm,rfl,z,a⟩:=hrel;have d:=zh a;by_cases u:m<8
  .have v:(m:Int)<8:=by omega
   have Z:=mF s (s.extract 0 k) m;have n:=zh λW=>D W m trivial u;have t:=zh fun(h:decide (s=bj (s.extract 0 k) m)=true)=>F (c.trans (vR (p:=λi=>decide (s=bj (s.extract 0 k) i)) u h));have H:Hid (decide (s=bj (s.extract 0 k) m)=false->∀j,j<m+1->decide (s=bj (s.extract 0 k) j)=false):=zh λh j C=>by
    by_cases e:j=m
    .rw[e];exact h
    exact z j (by omega)
   generalize bj (s.extract 0 k) m=en,decide (s=bj (s.extract 0 k) m)=q at*;cases q
   .have G:=zh (H rfl);go_wp2;refine zK (n _) λY a=> ?_;have b:=zh (aa d a);go_wp2;go_roundw
    .exact⟨m+1,by omega,by go_num,G,b⟩
    simp[intOf];omega
   have I:=zh (t rfl);go_wp2;refine zK (n _) λY a=> ?_;have b:=zh (aa d a);go_wp2;go_ret;exact⟨bS I.symm,b⟩
  have v:¬(m:Int)<8:=by omega
  have g:=zh (l (by rw[c];exact sc λj C=>z j (by omega)));go_wp2;go_roundw
  .exact⟨k+1,by omega,by omega,by go_num,g,d⟩
  simp[intOf];omega
end
def wG (w:World) (v:Vr) (s:v.s.size<=maxLen):Calls zz 59 #[vrV v] w (ErR (gM v) w):=by
 have c:=zh fun(w':World) (er:Int) (h:¬gM v) he f=>ErR.no (w:=w) (w':=w') (er:=er) h he f;have i:=zh fun(w':World) (h:gM v) f=>ErR.yes (w:=w) (w':=w') h f;have b:Hid (gM v↔b9 v.s=true/\(1<=v.w/\v.w<=8)/\(0<=v.m/\v.m<=2)/\(0<=v.u/\v.u<2^v.w.toNat)/\(v.m≠0->v.u=0)):=zh Iff.rfl;generalize gM v=VO at*;obtain⟨t,wd,md,j⟩:=v;simp only at b s;have n:=zh fun(W:World)=>Tv W t s;unfold vrV;simp only;go_enter func59,ntmps59;go_upto_region 1 with fail;generalize m:w.alloc _=w1 at*;have⟨d,g⟩:=zB1 m;have o:=za g 0;generalize b9 t=nb at*;cases nb
 .have a:Hid (¬VO):=zh λh=>by have:=(b.1 h).1;cases this
  go_wp2;refine zK (n _) λz f=> ?_;replace⟨g,d⟩:=zb2 g d f;go_wp2;go_ret;exact c _ _ a (by decide) d
 go_wp2;refine zK (n _) λz f=> ?_;replace⟨g,d⟩:=zb2 g d f;obtain⟨p,q,r⟩:=zd3 g 1 2 3;by_cases B:wd<1
 .have a:Hid (¬VO):=zh λh=>by have:=(b.1 h).2.1;omega
  go_wp2;go_ret;exact c _ _ a (by decide) d
 by_cases C:wd>8
 .have a:Hid (¬VO):=zh λh=>by have:=(b.1 h).2.1;omega
  go_wp2;go_ret;exact c _ _ a (by decide) d
 obtain⟨wn,rfl⟩:∃wn:Nat,wd=wn:=⟨wd.toNat,by omega⟩;have A:=zn0 wn;have I:IntKind.i64.wrap (2^wn)=2^wn:=by
  have:wn=1\/wn=2\/wn=3\/wn=4\/wn=5\/wn=6\/wn=7\/wn=8:=by omega
  rcases this with rfl|rfl|rfl|rfl|rfl|rfl|rfl|rfl<;>decide
 rw[Eh] at b;by_cases D:md<0
 .have a:Hid (¬VO):=zh λh=>by have:=(b.1 h).2.2.1;omega
  go_wp2;go_ret;exact c _ _ a (by decide) d
 by_cases E:md>2
 .have a:Hid (¬VO):=zh λh=>by have:=(b.1 h).2.2.1;omega
  go_wp2;go_ret;exact c _ _ a (by decide) d
 by_cases F:j<0
 .have a:Hid (¬VO):=zh λh=>by have:=(b.1 h).2.2.2.1.1;omega
  go_wp2;go_ret;exact c _ _ a (by decide) d
 by_cases k:md=0
 .subst k;have u:((0:Int) !=0)=false:=by decide
  by_cases G:j≥(2:Int)^wn
  .have a:Hid (¬VO):=zh λh=>by have:=(b.1 h).2.2.2.1.2;omega
   go_wp2;go_quiet (fail);go_wp2;go_ret;exact c _ _ a (by decide) (aE d _)
  have e:=zh (b.2 ⟨by trivial,by omega,by omega,by omega,λh=>absurd rfl h⟩);go_wp2;go_quiet (fail);go_wp2;go_ret;exact i _ e (aE d _)
 have u:(md !=0)=true:=by simpa using k
 have x:(md==0)=false:=by simpa using k
 by_cases l:j=0
 .have y:(j !=0)=false:=by simpa using l
  have H:(0:Int)<2^wn:=Int.pow_pos (by decide);have e:=zh (b.2 ⟨by trivial,by omega,by omega,by omega,λ_=>l⟩);go_wp2;go_quiet (fail);go_wp2;go_ret;exact i _ e (aE d _)
 have y:(j !=0)=true:=by simpa using l
 have a:Hid (¬VO):=zh λh=>by have:=(b.1 h).2.2.2.2 k;exact l this
 go_wp2;go_quiet (fail);go_wp2;go_ret;exact c _ _ a (by decide) (aE d _)
section
variable {s:ByteArray} {l:List Vr} {k:Nat}
def C8 {a:ByteArray} {i j:Nat} (hi:i<8) (e:j<8) (h:bj a i=bj a j):i=j:=by
 have b:(bj a i).data.toList=(bj a j).data.toList:=by rw[h]
 unfold bj at b;simp only[Array.toList_append,List.append_cancel_left_eq] at b;have c:UInt8.ofNat (48+i)=UInt8.ofNat (48+j):=by simp only[Fm,true_and,FL] at b;exact b
 have d:=Ev UInt8.toNat c;simp at d;omega
def qd (l:List Vr) (s:ByteArray) (k n:Nat):Prop:=s=bj (s.extract 0 k) n/\dy l (bj (s.extract 0 k) (n-1))<0
theorem rO {l:List Vr} {s:ByteArray}:∀{L:List Nat},oM l s L=true->∃i∈L,eF s i=true/\dy l (bj (cO 91 s) (i-1))<0
 |[],h=>by cases h
 |i::L,h=>by
  unfold oM at h;by_cases e:eF s i=true
  .rw[DP e] at h;exact⟨i,by simp,e,Ey h⟩
  rw[DK e] at h;have⟨j,b,a⟩:=rO h;exact⟨j,by simp[b],a⟩
theorem AE {l:List Vr} {s:ByteArray} {n:Nat} (a:eF s n=true) (b:dy l (bj (cO 91 s) (n-1))<0):∀{L:List Nat},n∈L->(∀j∈L,eF s j=true->j=n)->oM l s L=true
 |[],h,_=>by cases h
 |i::L,h,hu=>by
  unfold oM;by_cases e:eF s i=true
  .rw[DP e,hu i (by simp) e,DR b]
  rw[DK e];refine AE a b ?_ λj c=>hu j (by simp[c]);rcases DS.1 h with h|h
  .rw[h] at a;exact absurd a e
  exact h
def ux (h:b9 s=true) (a:fF 91 s=true):aQ (cO 91 s)=true/\s.size=ix 91 s.data.toList+3:=by
 unfold b9 at h;rw[FX] at h;rcases h with h|h
 .exfalso;have f:=(cj.1 h).1;unfold fF at a;rw[sV _ (sk f (by decide))] at a;simp at a
 simp only[DW] at h;obtain⟨_,b,c⟩:=h;refine⟨b, ?_⟩;have⟨i,_,d⟩:=Ez.1 c;have e:s=bj (cO 91 s) i:=Ey d;have:=kK (cO 91 s) i;rw[<-e,gX] at this;exact this
def UN (hk:k<s.size) (h:byt s k=91):fF 91 s=true:=by
 cases hq:fF 91 s
 .exfalso;have c:=of_decide_eq_false hq;have d:=ms (b:=91) s.data.toList;have a:zN s.data.toList=s.size:=(EW s).symm;have:=Qv (b:=91) s.data.toList k (by omega);refine this (UInt8.toNat_inj.1 ?_);have e:((zG s.data.toList k 0).toNat:Int)=91:=h;show(zG s.data.toList k 0).toNat=91;omega
 rfl
def Uc {k n:Nat} (o:b9 s=true) (hk:k<s.size) (m:byt s k=91) (p:1<=n) (g:n<8) (h:qd l s k n):fL l s=true:=by
 have b:=UN hk m;have⟨q,r⟩:=ux o b;have d:=kK (s.extract 0 k) n;rw[<-h.1,mC s k (by omega)] at d;have e:cO 91 s=s.extract 0 k:=by rw[<-dK,show ix 91 s.data.toList=k by omega]
 unfold fL;rw[b,FI];refine AE (n:=n) ?_ ?_ ?_ ?_
 .unfold eF;rw[e];exact DR h.1
 .rw[e];exact h.2
 .rw[List.mem_range'];exact⟨n-1,by omega,by omega⟩
 intro j c f;rw[List.mem_range'] at c;obtain⟨i,hi,rfl⟩:=c;have a:s=bj (cO 91 s) (1+1*i):=Ey f;rw[e] at a;exact C8 (by omega) g (a.symm.trans h.1)
def Wu (g:b9 s=true) (h:∀k,1<=k->k<s.size->byt s k=91->∀n,1<=n->n<8->¬qd l s k n):fL l s=false:=by
 cases hq:fL l s
 .rfl
 exfalso;unfold fL at hq;simp only[DW] at hq;obtain⟨a,c⟩:=hq;have⟨d,m⟩:=ux g a;have⟨i,hi,e,f⟩:=rO c;rw[List.mem_range'] at hi;obtain⟨j,o,rfl⟩:=hi;have b:=(cj.1 d).1.1;rw[gX] at b;refine h (ix 91 s.data.toList) b (by omega) (tj a) (1+1*j) (by omega) (by omega) ⟨?_, ?_⟩
 .rw[dK];exact Ey e
 rw[dK];exact f
def vO {p:Vr->Bool} (h:∀j,j<zN l->p (zG l j vr0)=false):l.any p=false:=by
 cases hq:l.any p
 .rfl
 have⟨x,c,a⟩:=Ez.1 hq;obtain⟨j,b,rfl⟩:=D9.1 c;have:=h j b;rw[DC,DD b] at this;simp only[EQ] at this;rw[this] at a;cases a
def xu (l:List Vr):Bool:=l.any λv=>fL l v.s
def XZ (w:World) (v:Value) (vars:List Vr) (hv:Rs vrR w v vars ah) (hn:zN vars<=1000) (hs:∀v∈vars,b9 v.s=true):Calls zz 61 #[v] w (zR (zW (xu vars)) w):=by
 have CF:=zh fun(W:World) (s:ByteArray) (d:zL w W)=>wH W v vars s (hv.Q d) hn;have HS:=zh λk (h:k<zN vars)=>hs _ (getD_in vr0 h);have HZ:=zh λk (h:k<zN vars)=>pN (hs _ (getD_in vr0 h));have HY:Hid (∀k,k<zN vars->fL vars (zG vars k vr0).s=true->xu vars=true):=zh λk h t=>Ez.2 ⟨_,getD_in vr0 h,t⟩;have T:Hid ((∀j,j<zN vars->fL vars (zG vars j vr0).s=false)->xu vars=false):=zh λh=>vO (p:=λv=>fL vars v.s) h;obtain⟨A,c,rfl,hc,hx⟩:=hv.vrs;have HX:=zh hx;have⟨N,hN⟩:=zv (zN vars);rw[<-hN] at hc hn HX CF HS HZ HY T⊢;generalize xu vars=r at*;clear hx hN hv hs;go_enter func61,ntmps61;go_wp2;go_loopw [3,4,5] (λi _ _ wr=>∃k:Nat,k<=N/\i=zI zi k/\Hid (∀j,j<k->fL vars (zG vars j vr0).s=false)/\zL w wr) (λi _ _ _=>N-(intOf i).toNat)
 .exact⟨0,DH _,rfl,zh (λj h=>by omega),DM _ _⟩
 obtain⟨k,hk,rfl,I,d⟩:=hrel;have f:=zh d;clear d;by_cases B:k<N;case neg=>
  have ad:=zge B;have H3:=zh (T λj hj=>I.out j (by omega));clear I;go_wp2;go_ret;exact⟨bS H3.out.symm,f⟩
 have⟨ad,av⟩:=zln B;have⟨b,o,e2,X,E⟩:=HX.out k B;subst e2;have K:=E 0 _ rfl;rw[Eb] at K;have HC:=zh K;clear K;have x:=zh X;have V:=HS.out k B;have au:=HZ.out k B;have ao:=zh (HY k B);have an:Hid (fL vars (zG vars k vr0).s=false->∀j,j<k+1->fL vars (zG vars j vr0).s=false):=zh λh j hj=>by
  by_cases e:j=k
  .rw[e];exact h
  exact I.out j (by omega)
 generalize(zG vars k vr0).s=nm at*;have am:=zh λm n a t h3 h4 h=>ao.out (Uc (l:=vars) (k:=m) (n:=n) V a t h3 h4 h);have al:=zh (Wu (l:=vars) V);generalize fL vars nm=gq at*;clear I E X;have v0:=(f.out.cell x.out).trans HC;go_wp2;clear v0;go_loopw [4,5] (λm _ wr=>∃k:Nat,1<=k/\k<=nm.size+1/\m=zI zi k/\Hid (∀j,1<=j->j<k->byt nm j=91->∀q,1<=q->q<8->¬qd vars nm j q)/\zL w wr) (λm _ _=>nm.size+1-(intOf m).toNat)
 .exact⟨1,by omega,by omega,rfl,zh (λj a t=>by omega),f⟩
 obtain⟨m,ax,hm,rfl,D,d⟩:=hrel;have f:=zh d;clear d;have v0:=(f.out.cell x.out).trans HC;by_cases Z:m<nm.size;case neg=>
  have ab:¬(m:Int)<nm.size:=by omega
  have H3:Hid (gq=false):=zh (al λj a t=>D.out j a (by omega));have Q:=zh (an H3);clear D;go_wp2;go_roundw
  .exact⟨k+1,by omega,by go_num,Q,f⟩
  simp[intOf];omega
 have ab:(m:Int)<nm.size:=by omega
 have aw:=zn0 m;have R:=iR nm m Z;by_cases g:byt nm m=91;case neg=>
  have Q:Hid (∀j,1<=j->j<m+1->byt nm j=91->∀q,1<=q->q<8->¬qd vars nm j q):=zh λj a hj t=>by
   by_cases e:j=m
   .rw[e] at t;exact absurd t g
   exact D.out j a (by omega) t
  rw[R] at g;have f1:((nm[m].toNat:Int) !=91)=true:=by simpa using g
  clear D g;go_wp2;go_roundw
  .exact⟨m+1,by omega,by omega,by go_num,Q,f⟩
  simp[intOf];omega
 have ak:=zh λn a t h=>am.out m n Z g a t h;have Q:Hid ((∀q,1<=q->q<8->¬qd vars nm m q)->∀j,1<=j->j<m+1->byt nm j=91->∀q,1<=q->q<8->¬qd vars nm j q):=zh λh j a hj t=>by
  by_cases e:j=m
  .rw[e];exact h
  exact D.out j a (by omega) t
 rw[R] at g;have f1:((nm[m].toNat:Int) !=91)=false:=by simpa using g
 have L:(nm.extract 0 m).size<=1000000:=by rw[mC nm m (by omega)];omega
 have CE:=zh λW i h=>rx W (nm.extract 0 m) i h L;clear D g L;go_wp2;clear v0;go_loopw [5] (λq wr=>∃k:Nat,1<=k/\k<=8/\q=zI zi k/\Hid (∀q,1<=q->q<k->¬qd vars nm m q)/\zL w wr) (λq _=>8-(intOf q).toNat)
 .exact⟨1,by omega,by omega,rfl,zh (λj a t=>by omega),f⟩
 obtain⟨q,aq,hq,rfl,J,d⟩:=hrel;have f:=zh d;clear d;by_cases ap:q<8;case neg=>
  have ac:¬(q:Int)<8:=by omega
  have H5:=zh (Q λj a t=>J.out j a (by omega));clear J;go_wp2;go_roundw
  .exact⟨m+1,by omega,by omega,by go_num,H5,f⟩
  simp[intOf];omega
 have ac:(q:Int)<8:=by omega
 have U:Hid (qd vars nm m q↔nm=bj (nm.extract 0 m) q/\dy vars (bj (nm.extract 0 m) (q-1))<0):=zh Iff.rfl;have H5:Hid (¬qd vars nm m q->∀j,1<=j->j<q+1->¬qd vars nm m j):=zh λh j a hj=>by
  by_cases e:j=q
  .rw[e];exact h
  exact J.out j a (by omega)
 have H6:=zh (ak q aq ap);have hc:=mF nm (nm.extract 0 m) q;have P:=zh λW=>CE.out W q (by omega);have ai:=zh λW=>CE.out W (q-1) (by omega);have ae:IntKind.i64.wrap ((q:Int)-1)=((q-1:Nat):Int):=by
  have:q=1\/q=2\/q=3\/q=4\/q=5\/q=6\/q=7:=by omega
  rcases this with rfl|rfl|rfl|rfl|rfl|rfl|rfl<;>decide
 have ar:=zn0 q;have L:m<=nm.size:=by omega
 clear J;generalize qd vars nm m q=GP,bj (nm.extract 0 m) q=en,bj (nm.extract 0 m) (q-1)=ep at*;by_cases y:nm=en;case neg=>
  have H7:=zh (H5 λh=>y (U.out.1 h).1);rw[DJ y] at hc;clear y;go_upto_region 11 with fail;refine bB 29 (Kit.of [ja 13 [] (zV en)]) (Kit.of_stable ?_) (Kit.of_known ?_) ?_
  .intro z F;simp only[DS,DZ,EC] at F;rcases F with rfl
   .apply dN
  .intro z F;simp only[DS,DZ,EC] at F;rcases F with rfl
   .apply dO
  intro γ u C hC M;have G:γ 13=zV en:=u 13 rfl;have r1:∀p:iF wr C,p.w.cell? ⟨b,o+k*4,none⟩=some (zV nm):=λp=>((f.out.trans (p.h.mono f.out.size)).cell (p:=⟨b,o+k*4,none⟩) x.out).trans HC;simp only[Ee,El,Ei,D5];iterate 13 (refine aO rfl ?_;go_big_quiet_step (fail);refine D4 ?_)
  refine wfc #[zV (nm.extract 0 m),zI zi q] func112 (λw' d hf=>(P w').mono λe w2 ⟨y,a⟩=>⟨_,y,rfl,a⟩) ?_;simp only[DY,Nat.reduceAdd,G];go_simp;iterate 15 (refine aO rfl ?_;go_big_quiet_step (fail);refine D4 ?_)
  intro w2 d hF;have H:=zh (aa f d);clear hF u hC M r1 G d ae;clear γ;go_wp2;go_roundw
  .exact⟨q+1,by omega,by omega,by go_num,H7,H⟩
  simp[intOf];omega
 rw[DR y] at hc;have aj:=zh λW h=>CF.out W ep h;generalize dy vars ep=ip at*;have S:Hid (GP↔ip<0):=zh (U.out.trans ⟨λh=>h.2,λh=>⟨y,h⟩⟩);clear y;go_upto_region 11 with fail;refine bB 29 (Kit.of [ja 13 [] (zV en),ja 26 [] (zV ep),ja 27 [] (zI zi ip)]) (Kit.of_stable ?_) (Kit.of_known ?_) ?_
 .intro z F;simp only[DS,DZ,EC] at F;rcases F with rfl|rfl|rfl
  .apply dN
  .apply dN
  apply dN
 .intro z F;simp only[DS,DZ,EC] at F;rcases F with rfl|rfl|rfl
  .apply dO
  .apply dO
  apply dO
 intro γ u C hC M;have G:γ 13=zV en:=u 13 rfl;have af:γ 26=zV ep:=u 26 rfl;have ag:γ 27=zI zi ip:=u 27 rfl;have r1:∀p:iF wr C,p.w.cell? ⟨b,o+k*4,none⟩=some (zV nm):=λp=>((f.out.trans (p.h.mono f.out.size)).cell (p:=⟨b,o+k*4,none⟩) x.out).trans HC;simp only[Ee,El,Ei,D5];iterate 13 (refine aO rfl ?_;go_big_quiet_step (fail);refine D4 ?_)
 refine wfc #[zV (nm.extract 0 m),zI zi q] func112 (λw' d hf=>(P w').mono λe w2 ⟨y,a⟩=>⟨_,y,rfl,a⟩) ?_;simp only[DY,Nat.reduceAdd,G];go_simp;iterate 12 (refine aO rfl ?_;go_big_quiet_step (fail);refine D4 ?_)
 refine wfg #[zV (nm.extract 0 m),zI zi (q-1:Nat)] func112 (λw' d hf=>(ai w').mono λe w2 ⟨y,a⟩=>⟨_,y,rfl,a⟩) ?_;simp only[DY,Nat.reduceAdd,af];go_simp;refine wfg #[zU (some ⟨b,o,none⟩) N c,zV ep] func60 (λw' d hf=>(aj w' (aa f d)).mono λe w2 ⟨y,a⟩=>⟨_,y,rfl,a▸DM _ _⟩) ?_;simp only[DY,Nat.reduceAdd,ag];go_simp;iterate 1 (refine aO rfl ?_;go_big_quiet_step (fail);refine D4 ?_)
 intro w2 d hF;have H:=zh (aa f d);clear hF u hC M r1 G af ag d ae;clear γ;by_cases Y:ip<0;case pos=>
  have HR:=zh (H6 (S.out.2 Y));go_wp2;go_ret;exact⟨bS HR.out.symm,H⟩
 have H7:=zh (H5 λh=>Y (S.out.1 h));go_wp2;go_roundw
 .exact⟨q+1,by omega,by omega,by go_num,H7,H⟩
 simp[intOf];omega
end
def Ct {l:List Vr} {i:Nat} (hi:i<zN l):dy l (zG l i vr0).s=i↔dy (l.take i) (zG l i vr0).s<0:=by
 have d:zG l i vr0=l[i]:=by rw[DC,DD hi];rfl
 constructor
 .intro h;rw[j4];unfold ai;rw[EJ];rintro⟨v,hv,e⟩;obtain⟨j,b,rfl⟩:=D9.1 hv;rw[D3] at b;rw[List.getElem_take] at e;unfold dy fh at h;split at h
  .have c:l.findIdx (λv:Vr=>decide (v.s=(zG l i vr0).s))=i:=by omega
   have a:=List.not_of_lt_findIdx (xs:=l) (p:=λv:Vr=>decide (v.s=(zG l i vr0).s)) (i:=j) (by omega);simp at a;exact a e
  omega
 intro h;unfold dy;refine jd vr0 hi (λj b=> ?_) (by simp);rw[j4] at h;refine DJ λe=>h ?_;unfold ai;rw[EJ];refine⟨zG l j vr0, ?_,e⟩;rw[DC,DD (by omega),EQ,List.mem_take_iff_getElem];exact⟨j,by omega,rfl⟩
def uf (w:World) (vars:List Vr) (A:Option Addr) (c:Nat) (E:Rs vrR w (zU A (zN vars) c) vars ah) (N:∀v∈vars,v.s.size<=maxLen):Calls zz 25 #[zU A (zN vars) c] w (ErR (cB vars) w):=by
 have H:=zh fun(w':World) (er:Int) h B a=>ErR.no (P:=cB vars) (w:=w) (w':=w') (er:=er) h B a;have an:=zh fun(w':World) h a=>ErR.yes (P:=cB vars) (w:=w) (w':=w') h a;have⟨HV,HZ⟩:=zk2 E N;have⟨n,hn⟩:=zv (zN vars);have HN:=zh hn;by_cases Y:zN vars<=16;case neg=>
  have I:Hid (¬cB vars):=zh λh=>Y h.len;rw[<-hn];have f1:(n:Int)>16:=by omega
  clear E N Y hn;go_enter func25,ntmps25;go_wp2;go_ret;exact H _ _ I (by decide) (DM _ _)
 have f1:¬(n:Int)>16:=by omega
 have ap:n<=16:=by omega
 have aF:n<=c:=by have⟨ar,ay,e1,hc,_⟩:=E.vrs;simp only[DQ] at e1;omega
 have HG:Hid (∀k,k<n->∃(b o:Nat),A=some ⟨b,o,none⟩/\b<w.heap.size/\∀i u,(vrL (zG vars k vr0))[i]? =some u->w.cell? ⟨b,o+k*4+i,none⟩=some u):=zh λk hk=>by have⟨ar,ay,e1,_,aA⟩:=E.vrs;have⟨bv,ov,e2,q,d⟩:=aA k (by omega);simp only[DQ] at e1;exact⟨bv,ov,by rw[e1.1,e2],q,d⟩
 have CF:=zh fun(W:World) (k:Nat) (s:ByteArray) (hk:k<=n) (a:zL w W)=>wH W (zU A k c) (vars.take k) s ((E.Q a).takeA k (by omega)) (by rw[D3];omega);have CG:=zh fun(W:World) (hs:∀v∈vars,b9 v.s=true) (a:zL w W)=>XZ W _ vars (E.Q a) (by omega) hs;have CV:=zh fun(W:World) (k:Nat) (hk:k<n)=>wG W (zG vars k vr0) (N _ (getD_in vr0 (by omega)));have av:=zh λk (hk:k<n)=>Ct (l:=vars) (i:=k) (by omega);rw[<-hn] at CG⊢;clear E N Y hn;go_enter func25,ntmps25;go_wp2;go_loopw [3,4,5] (λbt i _ wr=>∃k:Nat,k<=n/\i=zI zi k/\bt=zI zi (bX (vars.take k))/\zL w wr/\Hid (∀j,j<k->gM (zG vars j vr0))/\(0<=bX (vars.take k)/\bX (vars.take k)<=8*k)) (λ_ i _ _=>n-(intOf i).toNat)
 .exact⟨0,DH _,rfl,rfl,DM _ _,zh (λj h=>by omega),by simp[bX],by simp[bX]⟩
 obtain⟨k,hk,rfl,rfl,a,M,Z,ab⟩:=hrel;have x:=zh a;clear a;by_cases g:k<n
 .have⟨D,k0⟩:=zln g;have⟨bv,ov,e2,q,d⟩:=HG.out k g;subst e2;have HC:=zh d;have y:=zh q;obtain⟨v0,v1,v2,v3⟩:=zx4 x q d;rw[Eb] at v0;have ae:k<zN vars:=by rw[<-HN.out];exact g
  have ao:=getD_in vr0 ae;have V:=zh fun(w':World) (er:Int) (h:¬gM (zG vars k vr0)) B a=>H.out w' er (λhV=>h (hV.ok _ ao)) B a;have al:Hid (gM (zG vars k vr0)->∀j,j<k+1->gM (zG vars j vr0)):=zh λh j hj=>by
   by_cases e:j=k
   .rw[e];exact h
   exact M.out j (by omega)
  have G:=zh (kP ae);have am:Hid (gM (zG vars k vr0)->1<=(zG vars k vr0).w/\(zG vars k vr0).w<=8):=zh λh=>h.2.1;have U:=zh λW=>CV.out W k g;unfold oP at G;generalize gM (zG vars k vr0)=VO at*;clear ao d M ae q;generalize zG vars k vr0=vr at*;obtain⟨nm,wd,md,vl⟩:=vr;simp only at v0 v1 v2 v3 am G HC;unfold vrV at U;simp only at U;generalize bX (vars.take k)=b0 at*;have⟨b1,K⟩:=zv (bX (vars.take (k+1)));have m:=zh K;rw[<-K] at G;clear K;go_wp2;clear v0 v1 v2 v3;refine(U _).mono ?_;rintro e w2 ⟨er,rfl,S,a⟩;have f:=zh (aa x a);clear a;by_cases B:er=0;case neg=>
   have f2:(er !=0)=true:=by simpa using B
   have R:=zh (V w2 er (λh=>B (S.2 h)) B f);clear B S;go_wp2;go_ret;exact R
  have af:=S.1 B;have H3:=zh (al af);have aI:=am.out af;subst B;have v1:=(f.out.cell y.out).trans (HC 1 _ rfl);have v2:=(f.out.cell y.out).trans (HC 2 _ rfl);clear S af;by_cases hm:md=0
  .have f3:(md !=0)=false:=by simpa using hm
   have r:=G.out;rw[DK (by simpa using hm),Int.add_zero] at r;have F:=zh r;clear hm r;go_wp2;go_roundw
   .exact⟨k+1,by omega,by go_num,by rw[<-m.out,F.out],f,H3,by rw[<-m.out];have:=F.out;omega,by rw[<-m.out];have:=F.out;omega⟩
   simp[intOf];omega
  have f3:(md !=0)=true:=by simpa using hm
  have r:=G.out;rw[DP hm] at r;have F:=zh r;have aE:0<=b1/\b1<=8*(k+1):=by omega
  clear hm r;go_wp2;go_roundw
  .exact⟨k+1,by omega,by go_num,by rw[<-m.out,F.out],f,H3,by rw[<-m.out];omega,by rw[<-m.out];omega⟩
  simp[intOf];omega
 have⟨D,t⟩:=zgq hk g;rw[t] at M Z ab⊢;have ag:Hid (∀v∈vars,gM v):=zh (ic (x0:=vr0) λj hj=>M.out j (by rw[HN.out];exact hj));have aC:¬(n:Int)<n:=by omega
 have ht:vars.take n=vars:=by rw[HN.out,Et]
 rw[ht] at Z ab⊢;clear ht;clear t M D hk g;clear k;have⟨b0,J⟩:=zv (bX vars);have T:=zh J;rw[<-J] at Z ab⊢;clear J;go_wp2;go_loopw [6] (λi wr=>∃k:Nat,k<=n/\i=zI zi k/\zL w wr/\Hid (∀j,j<k->dy vars (zG vars j vr0).s=j)) (λi _=>n-(intOf i).toNat)
 .exact⟨0,DH _,rfl,x,zh (λj h=>by omega)⟩
 obtain⟨k,hk,rfl,a,L⟩:=hrel;have x:=zh a;clear a;by_cases g:k<n
 .have⟨D,k0⟩:=zln g;have aB:(k:Int)<=n:=by omega
  have aH:¬c<k:=by omega
  have t:k<=n:=by omega
  have⟨bv,ov,e2,q,d⟩:=HG.out k g;subst e2;have ac:=d 0 _ rfl;rw[Eb] at ac;have HC:=zh ac;have y:=zh q;have V:=zh fun(w':World) (er:Int) (h:dy vars (zG vars k vr0).s≠k) B a=>H.out w' er (λhV=>h (hV.nodup k (by rw[<-HN.out];exact g))) B a;have ak:Hid (dy vars (zG vars k vr0).s=k->∀j,j<k+1->dy vars (zG vars j vr0).s=j):=zh λh j hj=>by
   by_cases e:j=k
   .rw[e];exact h
   exact L.out j (by omega)
  have ai:=zh (av k g);have au:=zh λW a=>CF.out W k (zG vars k vr0).s t a;clear d ac q L;generalize(zG vars k vr0).s=nm at*;generalize dy (vars.take k) nm=ip at*;go_upto_region 15 with fail;by_cases aG:ip≥0;all_goals
   refine bB 9 (Kit.of [ja 8 [] (zI zi ip)]) (Kit.of_stable ?_) (Kit.of_known ?_) ?_
   .intro z N;simp only[DS,DZ,EC] at N;rcases N with rfl
    .apply dN
   .intro z N;simp only[DS,DZ,EC] at N;rcases N with rfl
    .apply dO
   intro γ aq C hC az;have k8:γ 8=zI zi ip:=aq 8 rfl;have r1:∀p:iF wr C,p.w.cell? ⟨bv,ov+k*4,none⟩=some (zV nm):=λp=>((x.out.trans (p.h.mono x.out.size)).cell (p:=⟨bv,ov+k*4,none⟩) y.out).trans HC;simp only[Ee,El,Ei,D5];iterate 8 (refine aO rfl ?_;go_big_quiet_step (fail);refine D4 ?_)
   refine wfc #[zU (some ⟨bv,ov,none⟩) k c,zV nm] func60 (λw' a hf=>(au w' (aa x a)).mono λe w2 ⟨B,X⟩=>⟨_,B,rfl,X▸DM _ _⟩) ?_;simp only[DY,Nat.reduceAdd,k8];go_simp;intro w2 a hF;have f:=zh (aa x a);clear hF aq hC az r1 k8 a;clear γ
  .have R:=zh (V w2 8 (λh=>absurd (ai.out.1 h) (by omega)) (by decide) f);go_wp2;go_ret;exact R
  have H3:=zh (ak (ai.out.2 (by omega)));go_wp2;go_roundw
  .exact⟨k+1,by omega,by go_num,f,H3⟩
  simp[intOf];omega
 have⟨D,t⟩:=zgq hk g;rw[t] at L;have ax:=L;have Q:=zh λW a=>CG.out W (λv E=>(ag v E).1) a;clear L t;have⟨gv,ad⟩:=zv (xu vars);have aj:=zh ad;rw[<-ad] at Q;clear ad;cases gv;case true=>
  have I:Hid (¬cB vars):=zh λh=>by have X:=aj.out.symm;unfold xu at X;have⟨v,E,h2⟩:=Ez.1 X;rw[h.gap v E] at h2;cases h2
  have R:=zh λw' a=>H.out w' 10 I (by decide) a;go_wp2;refine zK (Q _ x) λw2 a=> ?_;have f:=zh (aa x a);clear a;go_wp2;go_ret;exact R _ f
 have aw:Hid (∀v∈vars,fL vars v.s=false):=zh λv E=>by
  cases hq:fL vars v.s
  .rfl
  have X:xu vars=true:=Ez.2 ⟨v,E,hq⟩;rw[<-aj.out] at X;cases X
 by_cases aD:b0>20
 .have I:Hid (¬cB vars):=zh λh=>by have:=h.bits;rw[<-T.out] at this;omega
  have R:=zh λw' a=>H.out w' 2 I (by decide) a;go_wp2;refine zK (Q _ x) λw2 a=> ?_;have f:=zh (aa x a);clear a;go_wp2;go_ret;exact R _ f
 have R:=zh λw' a=>an.out w' ⟨by rw[<-HN.out];exact ap,ag,λi hi=>ax.out i (by rw[HN.out];exact hi),aw,by rw[<-T.out];omega⟩ a;go_wp2;refine zK (Q _ x) λw2 a=> ?_;have f:=zh (aa x a);clear a;go_wp2;go_ret;exact R _ f
section
variable (w:World)
def U0 (v:Value) (l:List ByteArray) (s:ByteArray) (h:SL w v l) (D:zN l<=9223372036854775807):Calls zz 261 #[v,zV s] w (zS (zW (Lib.containsS l s)) w):=by
 obtain⟨A,c,rfl,C,y⟩:=h;have f:=zh (λk hk h=>mL (l:=l) (s:=s) (k:=k) hk h);have g:=zh (lj (l:=l) (s:=s));have⟨N,o⟩:=zvh (zN l);rw[<-o] at y C D f g⊢;have B:=zh y;generalize Lib.containsS l s=r at*;go_enter func261,ntmps261;go_wp2
 go_loop [5] (λi=>∃k:Nat,k<=N/\i=zI zi k/\Hid (∀j,j<k->zG l j ⟨#[]⟩≠s)) (λi=>N-(intOf i).toNat)
 .exact⟨0,DH _,rfl,(λj t=>by omega)⟩
 obtain⟨k,hk,rfl,q⟩:=hrel;by_cases b:k<N
 .have m:=zlt b;obtain⟨a,rfl,u⟩:=B (by omega);by_cases n:zG l k ⟨#[]⟩=s
  .have p:=zh (f k b n);have d:w.cell? (a.add k)=some (zV s):=by rw[u.cells k (by rw[<-o];exact b),n]
   go_wp2;go_ret;exact⟨bS p.symm,rfl⟩
  have z:Hid (∀j,j<k+1->zG l j ⟨#[]⟩≠s):=λj t=>by
   by_cases e:j=k
   .rw[e];exact n
   exact q j (by omega)
  have d:=u.cells k (by rw[<-o];exact b);have⟨e1,E⟩:=ly n;generalize zG l k ⟨#[]⟩=x at*;go_wp2
  go_round
  .exact⟨k+1,by omega,by go_num,z⟩
  simp[intOf];omega
 have m:=zge b;have p:=zh (g λj t=>q j (by omega));go_wp2;go_ret;exact⟨bS p.symm,rfl⟩
def nmB (op:Int):Bool:=decide (op=2)||(decide (op=3)||decide (op=24))
def Tk (op:Int):Calls zz 310 #[zI zi op] w (zS (zW (nmB op)) w):=by
 by_cases c:op=2
 .subst c;go_enter func310,ntmps310;go_wp2;go_ret;exact⟨rfl,rfl⟩
 by_cases d:op=3
 .subst d;go_enter func310,ntmps310;go_wp2;go_ret;exact⟨rfl,rfl⟩
 have g:(op==2)=false:=by simpa using c
 have h:(op==3)=false:=by simpa using d
 have e:Hid (nmB op=decide (op=24)):=zh (by unfold nmB;rw[DJ c,DJ d];rfl);by_cases b:op=24
 .have f:(op==24)=true:=by simpa using b
  have a:Hid (nmB op=true):=zh (by rw[e,DR b]);go_enter func310,ntmps310;go_wp2;go_ret;exact⟨bS a.symm,rfl⟩
 have f:(op==24)=false:=by simpa using b
 have a:Hid (nmB op=false):=zh (by rw[e,DJ b]);go_enter func310,ntmps310;go_wp2;go_ret;exact⟨bS a.symm,rfl⟩
def Tl (op:Int) (d:1<=op) (e:op<=25):Calls zz 311 #[zI zi op] w (zS (zI zi (iE op)) w):=by
 obtain⟨k,rfl,b,c⟩:∃k:Nat,op=k/\1<=k/\k<=25:=⟨op.toNat,by omega,by omega,by omega⟩;have a:k=1\/k=2\/k=3\/k=4\/k=5\/k=6\/k=7\/k=8\/k=9\/k=10\/k=11\/k=12\/k=13\/k=14\/k=15\/k=16\/k=17\/k=18\/k=19\/k=20\/k=21\/k=22\/k=23\/k=24\/k=25:=by omega
 rcases a with rfl|rfl|rfl|rfl|rfl|rfl|rfl|rfl|rfl|rfl|rfl|rfl|rfl|rfl|rfl|rfl|rfl|rfl|rfl|rfl|rfl|rfl|rfl|rfl|rfl
 all_goals
  go_enter func311,ntmps311;go_wp2;go_ret;exact⟨rfl,rfl⟩
end
def TF {op:Int}:nmB op=true↔(op=2\/op=3\/op=24):=by unfold nmB;simp
def Ti (w:World) (e:Ex) (A:Option Addr) (c:Nat) (S:ExZ e):Calls zz 260 #[exV e (zU A (zN e.a) c)] w (zR (zI zi (aT e)) w):=by
 have B:=zh fun(W:World)=>Tk W e.op;have C:=zh fun(W:World) V s=>Tl W e.op V s;have H:=S.s;have P:=zh fun(W:World)=>Pu e.s W (by unfold maxLen at H;omega);have N:=zh fun(W:World)=>lZ e.s W H;have T:=S.len;have j:Hid (aT e=if e.op<1\/25<e.op then 1 else if(e.op=1/\(e.n<0\/65535<e.n))\/(e.op≠1/\e.n≠0) then 1 else if(¬(e.op=2\/e.op=3\/e.op=24)/\e.s.size≠0)\/kX e.op (zN e.a)=false then 1
  else if(e.op=2/\iC e.s=false)\/((e.op=3\/e.op=24)/\aQ e.s=false) then 7 else 0):=zh rfl;have q:Hid (kX e.op (zN e.a)=if e.op=23 then decide (zN e.a%2=1)&&(decide (3<=zN e.a)&&decide (zN e.a<=33)) else decide ((zN e.a:Int)=iE e.op)):=zh rfl;have p:=(eU e.s).2.2;have k:=(eU e.s).1;have l:=zh (TF (op:=e.op));generalize aT e=r,iC e.s=vb,aQ e.s=nb,kX e.op (zN e.a)=ob at*;unfold exV;unfold maxLen at T;generalize zN e.a=m,e.op=op,e.n=n,e.s=em at*;generalize nmB op=I at*;clear S H;go_enter func260,ntmps260;go_upto_region 1 with fail;generalize M:w.alloc _=w1 at*;obtain⟨o,v⟩:=zB1 M;clear M;obtain⟨b,d,f,g⟩:=zc4 v;by_cases hA:op<1
 .have a:Hid (r=1):=zh (by rw[j.out];exact DP (zQ hA));clear j q;go_wp2;go_ret;exact⟨aU a.out.symm,o⟩
 by_cases hB:op>25
 .have a:Hid (r=1):=zh (by rw[j.out];exact DP (zO hB));clear j q;go_wp2;go_ret;exact⟨aU a.out.symm,o⟩
 rw[DK (by omega)] at j;replace C:=zh fun(W:World)=>C.out W (by omega) (by omega);by_cases V:n<0
 .have a:Hid (r=1):=zh (by rw[j.out];exact DP (by omega));clear j q;go_wp2;go_ret;exact⟨aU a.out.symm,o⟩
 by_cases s:n>65535
 .have a:Hid (r=1):=zh (by rw[j.out];exact DP (by omega));clear j q;go_wp2;go_ret;exact⟨aU a.out.symm,o⟩
 have G:(n≠0/\op≠1)\/((n !=0)=false\/(n !=0)=true/\(op !=1)=false)/\¬((op=1/\(n<0\/65535<n))\/(op≠1/\n≠0)):=by
  by_cases e1:n=0
  .right;exact⟨zQ (by simpa using e1),by omega⟩
  by_cases J:op=1
  .right;exact⟨zO ⟨by simpa using e1,by simpa using J⟩,by omega⟩
  left;exact⟨e1,J⟩
 rcases G with⟨e1,J⟩|⟨hw,D⟩
 .have a:Hid (r=1):=zh (by rw[j.out];exact DP (by omega));have U:(n !=0)=true:=by simpa using e1
  have Y:(op !=1)=true:=by simpa using J
  clear j q e1 J;go_wp2;go_ret;exact⟨aU a.out.symm,o⟩
 rw[DK D] at j;clear D;rcases hw with U|⟨U,Y⟩
 all_goals
  by_cases E:em.size=0;case pos=>
   have Z:=p.2 E;have u:Hid (¬(¬(op=2\/op=3\/op=24)/\em.size≠0)):=zh λh=>h.2 E;clear E;by_cases x:op=23
   .subst x;by_cases ka:m<3
    .have i:Hid (ob=false):=zh (by rw[q.out,DP rfl];simp;omega);have a:Hid (r=1):=zh (by rw[j.out,DP (zO i.out)]);have F:(m:Int)<3:=by omega
     clear j q i l p k u;go_wp2;go_ret;exact⟨aU a.out.symm,o⟩
    by_cases kb:33<m
    .have i:Hid (ob=false):=zh (by rw[q.out,DP rfl];simp;omega);have a:Hid (r=1):=zh (by rw[j.out,DP (zO i.out)]);have F:(m:Int)>33:=by omega
     have f0:¬(m:Int)<3:=by omega
     clear j q i l p k u;go_wp2;go_ret;exact⟨aU a.out.symm,o⟩
    have X:((m:Int)).tmod 2=((m%2:Nat):Int):=by rw[Int.tmod_eq_emod_of_nonneg (by omega)];omega
    rcases Nat.mod_two_eq_zero_or_one m with L|L
    .have i:Hid (ob=false):=zh (by rw[q.out,DP rfl];simp;omega);have a:Hid (r=1):=zh (by rw[j.out,DP (zO i.out)]);rw[L] at X;have F:¬(m:Int)<3:=by omega
     have f2:¬(m:Int)>33:=by omega
     clear j q i l p k u L;go_wp2;go_ret;exact⟨aU a.out.symm,o⟩
    have i:Hid (ob=true):=zh (by rw[q.out,DP rfl];simp;omega);rw[L] at X;have F:¬(m:Int)<3:=by omega
    have f2:¬(m:Int)>33:=by omega
    have Q:I=false:=by cases hq:I;rfl;exact absurd (l.out.1 hq) (by omega)
    subst Q;have a:Hid (r=0):=zh (by rw[j.out,DK (by rintro(h|h);exact u.out h;rw[i.out] at h;cases h),DK (by omega)]);clear j q i l p k u L;go_wp2;refine zJ (B _) ?_;go_wp2;go_ret;exact⟨aU a.out.symm,o⟩
   have d1:(op==23)=false:=by simpa using x
   have d2:(op !=23)=true:=by simpa using x
   rw[DK x] at q;by_cases t:(m:Int)=iE op;case neg=>
    have i:Hid (ob=false):=zh (by rw[q.out,DJ t]);have a:Hid (r=1):=zh (by rw[j.out,DP (zO i.out)]);have F:((m:Int) !=iE op)=true:=by simpa using t
    generalize iE op=ar at*;clear j q i l p k u t x;go_wp2;refine zJ (C _) ?_;go_wp2;go_ret;exact⟨aU a.out.symm,o⟩
   have i:Hid (ob=true):=zh (by rw[q.out,DR t]);have F:((m:Int) !=iE op)=false:=by simpa using t
   rw[DK (by rintro(h|h);exact u.out h;rw[i.out] at h;cases h)] at j;generalize iE op=ar at*;clear i u t x;by_cases s:op=2
   .have c2:(op==2)=true:=by simpa using s
    have c3:(op !=2)=false:=by simpa using s
    have R:=l.out.2 (zQ s);subst R;cases vb
    .have a:Hid (r=7):=zh (by rw[j.out,DP (zQ ⟨s,rfl⟩)]);clear j q l s p k;go_wp2;refine zJ (C _) ?_;go_wp2;refine zK (P _) λab y=> ?_;clear b d f g;replace⟨v,o⟩:=zb2 v o y;clear y;obtain⟨b,d,f,g⟩:=zc4 v;go_wp2;go_ret;exact⟨aU a.out.symm,o⟩
    have a:Hid (r=0):=zh (by rw[j.out,DK (by rintro(⟨-,h⟩|⟨h, -⟩);cases h;omega)]);clear j q l s p k;go_wp2;refine zJ (C _) ?_;go_wp2;refine zK (P _) λac y=> ?_;clear b d f g;replace⟨v,o⟩:=zb2 v o y;clear y;obtain⟨b,d,f,g⟩:=zc4 v;go_wp2;refine zJ (B _) ?_;go_wp2;go_ret;exact⟨aU a.out.symm,o⟩
   have c2:(op==2)=false:=by simpa using s
   have c3:(op !=2)=true:=by simpa using s
   cases I
   .have a:Hid (r=0):=zh (by rw[j.out,DK (by rintro(⟨h, -⟩|⟨h, -⟩);exact s h;exact absurd (l.out.2 (zO h)) (by simp))]);clear j q l s p k;go_wp2;refine zJ (C _) ?_;go_wp2;refine zJ (B _) ?_;go_wp2;go_ret;exact⟨aU a.out.symm,o⟩
   have z:op=3\/op=24:=by have:=l.out.1 rfl;omega
   cases nb
   .have a:Hid (r=7):=zh (by rw[j.out,DP (zO ⟨z,rfl⟩)]);clear j q l s p k z;go_wp2;refine zJ (C _) ?_;go_wp2;refine zJ (B _) ?_;go_wp2;refine zK (N _) λad y=> ?_;clear b d f g;replace⟨v,o⟩:=zb2 v o y;clear y;obtain⟨b,d,f,g⟩:=zc4 v;go_wp2;go_ret;exact⟨aU a.out.symm,o⟩
   have a:Hid (r=0):=zh (by rw[j.out,DK (by rintro(⟨h, -⟩|⟨-,h⟩);exact s h;cases h)]);clear j q l s p k z;go_wp2;refine zJ (C _) ?_;go_wp2;refine zJ (B _) ?_;go_wp2;refine zK (N _) λae y=> ?_;clear b d f g;replace⟨v,o⟩:=zb2 v o y;clear y;obtain⟨b,d,f,g⟩:=zc4 v;go_wp2;go_ret;exact⟨aU a.out.symm,o⟩
  have Z:¬em.toList=[]:=λh=>E (p.1 h);have aa:em.toList.isEmpty=false:=by rw[k,DJ E]
  cases I;case false=>
   have a:Hid (r=1):=zh (by rw[j.out,DP (zQ ⟨λh=>absurd (l.out.2 h) (by simp),E⟩)]);clear j q l E p k;go_wp2;refine zJ (B _) ?_;go_wp2;go_ret;exact⟨aU a.out.symm,o⟩
  have u:Hid (¬(¬(op=2\/op=3\/op=24)/\em.size≠0)):=zh λh=>h.1 (l.out.1 rfl);clear E;have K:∃I:Bool,I=true:=⟨_,rfl⟩;have x:¬op=23:=by have:=l.out.1 rfl;omega
  have d1:(op==23)=false:=by simpa using x
  have d2:(op !=23)=true:=by simpa using x
  rw[DK x] at q;by_cases t:(m:Int)=iE op;case neg=>
   have i:Hid (ob=false):=zh (by rw[q.out,DJ t]);have a:Hid (r=1):=zh (by rw[j.out,DP (zO i.out)]);have F:((m:Int) !=iE op)=true:=by simpa using t
   generalize iE op=ar at*;clear j q i l p k u t x K;go_wp2;refine zJ (B _) ?_;go_wp2;refine zJ (C _) ?_;go_wp2;go_ret;exact⟨aU a.out.symm,o⟩
  have i:Hid (ob=true):=zh (by rw[q.out,DR t]);have F:((m:Int) !=iE op)=false:=by simpa using t
  rw[DK (by rintro(h|h);exact u.out h;rw[i.out] at h;cases h)] at j;generalize iE op=ar at*;have z:op=2\/op=3\/op=24:=l.out.1 rfl;clear i u t x K q p k l;by_cases s:op=2
  .have c2:(op==2)=true:=by simpa using s
   have c3:(op !=2)=false:=by simpa using s
   cases vb
   .have a:Hid (r=7):=zh (by rw[j.out,DP (zQ ⟨s,rfl⟩)]);clear j s z;go_wp2;refine zJ (B _) ?_;go_wp2;refine zJ (C _) ?_;go_wp2;refine zK (P _) λaf y=> ?_;clear b d f g;replace⟨v,o⟩:=zb2 v o y;clear y;obtain⟨b,d,f,g⟩:=zc4 v;go_wp2;go_ret;exact⟨aU a.out.symm,o⟩
   have a:Hid (r=0):=zh (by rw[j.out,DK (by rintro(⟨-,h⟩|⟨h, -⟩);cases h;omega)]);clear j s z;go_wp2;refine zJ (B _) ?_;go_wp2;refine zJ (C _) ?_;go_wp2;refine zK (P _) λag y=> ?_;clear b d f g;replace⟨v,o⟩:=zb2 v o y;clear y;obtain⟨b,d,f,g⟩:=zc4 v;go_wp2;refine zJ (B _) ?_;go_wp2;go_ret;exact⟨aU a.out.symm,o⟩
  have c2:(op==2)=false:=by simpa using s
  have c3:(op !=2)=true:=by simpa using s
  replace z:op=3\/op=24:=by omega
  cases nb
  .have a:Hid (r=7):=zh (by rw[j.out,DP (zO ⟨z,rfl⟩)]);clear j s z;go_wp2;refine zJ (B _) ?_;go_wp2;refine zJ (C _) ?_;go_wp2;refine zJ (B _) ?_;go_wp2;refine zK (N _) λah y=> ?_;clear b d f g;replace⟨v,o⟩:=zb2 v o y;clear y;obtain⟨b,d,f,g⟩:=zc4 v;go_wp2;go_ret;exact⟨aU a.out.symm,o⟩
  have a:Hid (r=0):=zh (by rw[j.out,DK (by rintro(⟨h, -⟩|⟨-,h⟩);exact s h;cases h)]);clear j s z;go_wp2;refine zJ (B _) ?_;go_wp2;refine zJ (C _) ?_;go_wp2;refine zJ (B _) ?_;go_wp2;refine zK (N _) λai y=> ?_;clear b d f g;replace⟨v,o⟩:=zb2 v o y;clear y;obtain⟨b,d,f,g⟩:=zc4 v;go_wp2;go_ret;exact⟨aU a.out.symm,o⟩
section
theorem UT {W:World} {B q:Nat} {v:Value} {xs:List ByteArray} {s:ByteArray} (ty:TypeId) (h:OG jE W B 0 9 v xs) (R:W.cell? ⟨q,0,none⟩=some (zV s)) (X:zN xs<=1000) (M:B<=W.heap.size):
  ∃v' W',(Builtin.append_ #[188,188] ty #[v,zU (some ⟨q,0,none⟩) 1 1]).run zz W= .ok v' W'/\OG jE W' B 0 9 v' (xs++[s])/\W.grownBy W' v.ownBlock/\(v'.ownBlock=v.ownBlock\/∀p,v'.ownBlock=some p->W.heap.size<=p):=by
 have⟨n,f,m,H,I⟩:=EX Ym;obtain⟨N,uss,G,c,F⟩:=h;have b:∀j u,([zV s]:List Value)[j]? =some u->W.cell? ((⟨q,0,none⟩:Addr).add j)=some u:=λj u k=>by
  cases j with
  |zero=>simp only[List.getElem?_cons_zero,DN] at k;rw[cC,DY,<-k];exact R
  |succ j=>simp at k
 have z:∀u∈([zV s]:List Value),u.oneCell'=true:=λu L=>by simp only[DS,DZ,EC] at L;rw[L];rfl
 have o:([zV s]:List Value).length=1*1:=rfl;have i:n.bytes=16:=I;have d:n.size=1:=H;obtain⟨v',W',y,D,J, -⟩:=run_append_own_wide (P:=zz) W B 188 ty 9 n _ 1 16 underlying188 f m d i rfl (by decide) v (zN xs) uss.flatten c ⟨q,0,none⟩ 1 1 [zV s] o b z (by unfold maxLen;omega) (by omega) M;refine⟨v',W',y,OG.pushes (us2:=[[zV s]]) N G c F rfl (λj x k=> ?_) D J,J, ?_⟩
 .cases j with
  |zero=>simp only[List.getElem?_cons_zero,DN] at k;rw[<-k];rfl
  |succ j=>simp at k
 rcases c.2 with⟨e,K⟩|⟨g,cap,cur,e,Q,C,T,S,A,E⟩
 .right;have U:uss.flatten=[]:=Ec (by have:=c.1;rw[K] at this;simpa using this);have t:W.ownsRow W.heap.size 9 1 v (zN xs) uss.flatten:=⟨c.1,zQ ⟨e,K⟩⟩;obtain⟨Y,V,a,r, -, -⟩:=run_append_own_wide (P:=zz) W W.heap.size 188 ty 9 n _ 1 16 underlying188 f m d i rfl (by decide) v (zN xs) uss.flatten t ⟨q,0,none⟩ 1 1 [zV s] o b z (by unfold maxLen;omega) (by omega) (DE _);rw[y] at a;simp only[Result.ok.injEq] at a;rw[<-a.1] at r;intro p w;exact(r.lt p w).1
 subst e;by_cases l:zN xs+1<=cap
 .left;have a:=run_append_room (P:=zz) W 188 ty 9 n underlying188 f g (zN xs) cap cur C ⟨q,0,none⟩ 1 1 [zV s] (by rw[d];rfl) b z l (by rw[d,A];show zN xs*1+1<=cap*1;omega);rw[y] at a;simp only[Result.ok.injEq] at a;rw[a.1];rfl
 right;have a:=run_append_grow (P:=zz) W 188 ty 9 n _ underlying188 f m ⟨g,0,none⟩ (zN xs) cap uss.flatten (by rw[d];exact c.1) (c.cells (g:=g) rfl) ⟨q,0,none⟩ 1 1 [zV s] (by rw[d];rfl) b (by omega) (by omega) (by rw[i];have:=nextslicecap_le (need:=zN xs+1) (old:=cap) (by omega);omega);rw[y] at a;simp only[Result.ok.injEq] at a;intro p w;rw[a.1] at w;simp only[Value.ownBlock,DN] at w;omega
variable {ops:Array Oper} {rest:List Oper} {o:Oper} {a:Act} {Q:Exit->Act->World->Prop}
def jK {w:World} {B q:Nat} {v:Value} {xs:List ByteArray} {s:ByteArray} (d:o.guard=none) (x y:Operand) (m:o.op= .call {callee:= .builtin .append,args:=#[x,y],argTypes:=#[188,188]}) (n:a.eval x=v) (b:OG jE w B 0 9 v xs) (r:a.eval y=zU (some ⟨q,0,none⟩) 1 1) (k:w.cell? ⟨q,0,none⟩=some (zV s)) (l:zN xs<=1000) (i:B<=w.heap.size) (h:∀v' w',Hid (OG jE w' B 0 9 v' (xs++[s]))->Hid (w.grownBy w' v.ownBlock)->Hid (v'.ownBlock=v.ownBlock\/∀p,v'.ownBlock=some p->w.heap.size<=p)->wpList zz ops Q rest (a.put o.dst v') w'):wpList zz ops Q (o::rest) a w:=by have⟨v',w',c,e,f,g⟩:=UT o.type b k l i;refine wpList_plain d λK j=> ?_;have:=h v' w' (zh e) (zh f) (zh g);unfold Oper.wp;simp[execOp,m,resolve,invoke,builtin,n,r,c,Result.andThen];exact j _ _ this
end
section
variable (d:Nat) {cs:Array Value} {e:Ex} {er:Int} {D N g ga k:Nat} {a b:Value} {W f w0:World}
def gB (er f:Int):Int:=if er=0 then f else er
def rV (a b c:Int):gB (gB a b) c=gB a (gB b c):=by
 unfold gB;by_cases h:a=0
 .rw[DP h,DP h]
 rw[DK h,DK h,DK h]
def RF (a:Int):gB a 0=a:=by
 unfold gB;by_cases h:a=0
 .rw[DP h,h]
 rw[DK h]
def Cu (f:Ex->Int) (l m:List Ex):aZ f (l++m)=gB (aZ f l) (aZ f m):=qn l m
theorem vv (D dep:Nat) (f:Ex->Nat):∀(l:List Ex) (c:Nat),l.foldl (λm a=>max m (dep+f a)) (max D (dep+c))=max D (dep+l.foldl (λm a=>max m (f a)) c)
 |[],c=>rfl
 |a::l,c=>by rw[EH,EH,show max (max D (dep+c)) (dep+f a)=max D (dep+max c (f a)) by omega];exact vv D dep f l (max c (f a))
def oJ (d:Nat) (e:Ex) (k:Nat):Nat:=((e.a.take k).flatMap (ax d)).length
def sF (d D dep:Nat) (e:Ex) (k:Nat):Nat:=(e.a.take k).foldl (λm a=>max m (dep+cP d a)) (max D dep)
def qW (d:Nat) (er:Int) (e:Ex) (k:Nat):Int:=gB (gB er (aT e)) (aZ aT ((e.a.take k).flatMap (ax d)))
def ww (h:k<zN e.a):e.a.take (k+1)=e.a.take k++[zG e.a k ex0]:=by rw[Ep,DD h,DC,DD h];rfl
def VI {d:Nat} (h:k<zN e.a):oJ d e (k+1)=oJ d e k+(ax d (zG e.a k ex0)).length:=by unfold oJ;rw[ww h];simp
def VM {d D dep:Nat} (h:k<zN e.a):sF d D dep e (k+1)=max (sF d D dep e k) (dep+cP d (zG e.a k ex0)):=by unfold sF;rw[ww h,Fp];rfl
def VJ {d:Nat} (h:k<zN e.a):qW d er e (k+1)=gB (qW d er e k) (aZ aT (ax d (zG e.a k ex0))):=by unfold qW;rw[ww h,List.flatMap_append,Cu,rV (gB er (aT e))];simp
def wF (e:Ex):1+oJ d e (zN e.a)=(ax (d+1) e).length:=by unfold oJ;rw[Et];show _=(e::e.a.flatMap (ax d)).length;rw[DF];omega
def VN (d D dep:Nat) (e:Ex):sF d D dep e (zN e.a)=max D (dep+cP (d+1) e-1):=by unfold sF;rw[Et];have:=vv D dep (cP d) e.a 0;rw[Eb] at this;rw[this];show _=max D (dep+(jH (cP d) e.a+1)-1);unfold jH;congr 1
def VK (er:Int) (e:Ex):qW d er e (zN e.a)=gB er (aZ aT (ax (d+1) e)):=by unfold qW;rw[Et,rV];rfl
def Td (e:Ex) (k:Nat):1+oJ d e k<=(ax (d+1) e).length:=by
 rw[<-wF];unfold oJ;rw[Et];have h:e.a.flatMap (ax d)=(e.a.take k).flatMap (ax d)++(e.a.drop k).flatMap (ax d):=by rw[<-List.flatMap_append,List.take_append_drop]
 rw[h,DI];omega
theorem Bq (d:Nat):∀l:List Ex,zN l<=(l.flatMap (ax (d+1))).length
 |[]=>DE _
 |a::l=>by have:=Bq d l;have b:=pE d a;rw[EM,DI,DF];omega
def wkC (N D:Nat) (er:Int) (a b:Value):Array Value:=#[zI zi N,zI zi D,zI zi er,a,b]
structure WkO (w0 W:World) (g:Nat) (cs:Array Value) (v3 v4:Value) (l3 l4:List ByteArray):Prop where
 Q:zL w0 W
 ge:w0.heap.size<=g
 box:Box W g cs 190
 o3:OG jE W w0.heap.size 0 9 v3 l3
 o4:OG jE W w0.heap.size 0 9 v4 l4
 ne3:v3.ownBlock=none\/v3.ownBlock≠v4.ownBlock
def WkO.ne4 {c d:List ByteArray} (h:WkO w0 W g cs b a c d):a.ownBlock=none\/a.ownBlock≠b.ownBlock:=by
 rcases h.ne3 with h|h
 .cases hq:a.ownBlock
  .exact zQ rfl
  right;rw[h];simp
 exact zO λe=>h e.symm
def WkO.set {b c:Value} {a l4:List ByteArray} (h:WkO w0 W g cs b c a l4) (i:Nat) (u:Value):WkO w0 (W.setCell ⟨g,i,none⟩ u) g (cs.setIfInBounds i u) b c a l4:=⟨h.Q.setCell (p:=⟨g,i,none⟩) h.ge u,h.ge,h.box.set_ i u,h.o3.setBox h.box (by decide) (DH _) (by decide) i u,h.o4.setBox h.box (by decide) (DH _) (by decide) i u,h.ne3⟩
def WkO.later {w0 W W':World} {c d:Value} {b l4:List ByteArray} (h:WkO w0 W g cs c d b l4) (a:zL W W'):WkO w0 W' g cs c d b l4:=⟨aa h.Q a,h.ge,h.box.Q a,h.o3.Q a,h.o4.Q a,h.ne3⟩
def yP {α:Type} {φ:Rd α} {B C:Nat} {T:TypeId} {v:Value} {xs:List α} (h:OG φ W B C T v xs):∀p,v.ownBlock=some p->p<W.heap.size:=by obtain⟨-,uss, -,a, -⟩:=h;exact F5 a
theorem WkO.app3 {w0 W W':World} {g:Nat} {cs:Array Value} {f j v:Value} {d i:List ByteArray} {s:ByteArray} (h:WkO w0 W g cs f j d i) (l:OG jE W' w0.heap.size 0 9 v (d++[s])) (b:W.grownBy W' f.ownBlock) (a:v.ownBlock=f.ownBlock\/∀p,v.ownBlock=some p->W.heap.size<=p):WkO w0 W' g cs v j (d++[s]) i:=by
 refine⟨h.o3.belowG b h.Q h.Q.size (DE _),h.ge,h.o3.boxKept b h.box (zQ (by decide)),l, ?_, ?_⟩
 .have k:=h.o3;obtain⟨-,uss, -,c, -⟩:=k;exact h.o4.grow (by decide) (DH _) c b h.ne4
 rcases a with a|a
 .rw[a];exact h.ne3
 cases hq:v.ownBlock with
 |none=>exact zQ rfl
 |some p=>right;intro e;have:=yP h.o4 p e.symm;have:=a p hq;omega
theorem WkO.app4 {w0 W W':World} {g:Nat} {cs:Array Value} {f i v:Value} {j d:List ByteArray} {s:ByteArray} (h:WkO w0 W g cs f i j d) (l:OG jE W' w0.heap.size 0 9 v (d++[s])) (b:W.grownBy W' i.ownBlock) (a:v.ownBlock=i.ownBlock\/∀p,v.ownBlock=some p->W.heap.size<=p):WkO w0 W' g cs f v j (d++[s]):=by
 refine⟨h.o4.belowG b h.Q h.Q.size (DE _),h.ge,h.o4.boxKept b h.box (zQ (by decide)), ?_,l, ?_⟩
 .have k:=h.o4;obtain⟨-,uss, -,c, -⟩:=k;exact h.o3.grow (by decide) (DH _) c b h.ne3
 rcases a with a|a
 .rw[a];exact h.ne3
 cases hq:f.ownBlock with
 |none=>exact zQ rfl
 |some p=>right;intro e;have:=yP h.o3 p hq;have:=a p e.symm;omega
def WkS (w0 W:World) (g N D:Nat) (er:Int):Prop:=∃c d a b,WkO w0 W g (wkC N D er c d) c d a b/\zN a<=N/\zN b<=N
def wkT:List TypeId:=[190,9]
structure kj (w0 W wx:World) (g ga N D:Nat) (er:Int) (v3 v4:Value) (l3 l4:List ByteArray) (cs:Array Value):Prop where
 o:WkO w0 wx g (wkC N D er v3 v4) v3 v4 l3 l4
 x:Box wx ga cs 79
 k:dr wkT W wx
def kj.set {g ga N D N' D':Nat} {er er':Int} {c d:List ByteArray} (h:kj w0 W f g ga N D er a b c d cs) (i:Nat) (u:Value) (e:(wkC N D er a b).setIfInBounds i u=wkC N' D' er' a b):kj w0 W (f.setCell ⟨g,i,none⟩ u) g ga N' D' er' a b c d cs:=⟨e▸h.o.set i u,h.x.setNe ⟨g,i,none⟩ u (af h.o.box h.x),h.k.trans (jY h.o.box (by simp[wkT]) i u)⟩
def kj.later {w0 W f i:World} {d e:Value} {b c:List ByteArray} (h:kj w0 W f g ga N D er d e b c cs) (a:zL f i):kj w0 W i g ga N D er d e b c cs:=⟨h.o.later a,h.x.Q a,h.k.Q a⟩
def Xn (d:Nat):Prop:=∀(w0 W:World) (g N D dep:Nat) (er:Int) (e:Ex) (A:Option Addr) (c:Nat),WkS w0 W g N D er->ExZ e->Rs (exR d) w0 (zU A (zN e.a) c) e.a ah->N+(ax (d+1) e).length<=1000->dep+d<=1000→
 Calls zz 190 #[zP g,exV e (zU A (zN e.a) c),zI zi dep] W λr W'=>r=zE (zY #[])/\WkS w0 W' g (N+(ax (d+1) e).length) (max D (dep+cP (d+1) e-1)) (gB er (aZ aT (ax (d+1) e)))/\dr wkT W W'
end
def SSE (g ga i:Nat) (A:Option Addr) (m c:Nat) (s:ByteArray) (W:World):Prop:=W.cell? ⟨g,i,none⟩=some (zU A m c)/\W.cell? ⟨ga,2,none⟩=some (zV s)
def yz (d:Nat) (ih:∀H,d=H+1->Xn H):Xn d:=by
 intro w0 W g N D dep er e A c hS M L hN bk;have⟨aA,HZ⟩:=zk2 ih M;have⟨A',c',e1,hc,hx⟩:=L.exs;simp only[DQ] at e1;obtain⟨rfl, -,rfl⟩:=e1;have⟨HX,HS⟩:=zk2 hx hS;have CW:=zh fun(W:World)=>Ti W e A c M;have aB:=zh λk=>Td d e k;have ar:=zh λk h=>VI (d:=d) (e:=e) (k:=k) h;have ap:=zh λk h=>VM (d:=d) (D:=D) (dep:=dep) (e:=e) (k:=k) h;have aq:=zh λk h=>VJ (d:=d) (er:=er) (e:=e) (k:=k) h;have aG:=zh (wF d e);have ay:=zh (VN d D dep e);have az:=zh (VK d er e);have aQ:Hid (oJ d e 0=0):=zh rfl;have aM:Hid (sF d D dep e 0=max D dep):=zh rfl;have aN:Hid (qW d er e 0=gB er (aT e)):=zh (by unfold qW;exact RF _);have au:=zh λk (h:k<zN e.a)=>M.a _ (getD_in ex0 h);have HP:Hid (∀k,k<zN e.a->∀H,d=H+1->(ax d (zG e.a k ex0))=ax (H+1) (zG e.a k ex0)):=zh λk h H e=>by rw[e]
 have bd:zN e.a<=1000:=by
  rcases Nat.eq_zero_or_pos (zN e.a) with h0|h0
  .omega
  have⟨_,_,_,H,_,_,aw,_⟩:=hx 0 h0;have h1:=Bq H e.a;have Z:=wF d e;unfold oJ at Z;rw[Et,aw] at Z;rw[aw] at hN;omega
 generalize ba:(ax (d+1) e).length=K1 at*;generalize cP (d+1) e=K2,aZ aT (ax (d+1) e)=K3 at*;unfold exV at CW⊢;have⟨n,a8⟩:=zvh (zN e.a);rw[<-a8] at hc HX CW ar ap aq aG ay az au HP bd⊢;generalize aT e=nde at*;have⟨op,a4⟩:=zv (e.op);have⟨j,aU⟩:=zv (e.s);have⟨J,aV⟩:=zv (e.n);rw[<-a4,<-aU,<-aV] at CW⊢;clear M L hx hS ih a4 aU aV ba;go_enter func190,ntmps190;go_upto_region 1 with fail;have aJ:=ab W (zC #[zI zi op,zI zi J,zV j,zU A n c] 79);have XA:=zh (Box.new W 79 #[zI zi op,zI zi J,zV j,zU A n c]);have aP:=zh (dr.of_below wkT aJ);have aR:Hid (WkS w0 (W.alloc (zC #[zI zi op,zI zi J,zV j,zU A n c] 79)) g N D er):=zh (by have⟨v3,v4,t,u,h,h3,h4⟩:=HS.out;exact⟨v3,v4,t,u,h.later aJ,h3,h4⟩);clear HS aJ;generalize W.alloc (zC #[zI zi op,zI zi J,zV j,zU A n c] 79)=w1,W.heap.size=ga at*;have⟨v3,v4,t,u,ho,aW,aY⟩:=aR.out;clear aR;obtain⟨A3,c3,rfl⟩:=ho.o3.slice;obtain⟨A4,c4,rfl⟩:=ho.o4.slice;have f:=zh (show kj w0 W w1 g ga N D er _ _ t u _ from⟨ho,XA,aP⟩);have⟨aC,aD⟩:=zk2 aW aY;have aH:zN t<=1000:=by omega
 have aI:zN u<=1000:=by omega
 have⟨y,Y⟩:=zv (zN t);have⟨E,ah⟩:=zv (zN u);have I:=zh Y;have aa:=zh ah;rw[<-Y,<-ah] at f;clear ho aW aY XA aP Y ah;have x0:w1.cell? ⟨g,0,none⟩=some (zI zi N):=f.o.box.A 0 _ rfl;have xz:=f.o.box.Z 0;have xl:=f.o.box.lt;have bb:=zn0 N;have bi:N<=1000:=by omega
 go_upto_region 2 with fail;rw[show(N:Int)+1=((N+1:Nat):Int) by omega];replace f:=zh (f.set (N':=N+1) (D':=D) (er':=er) 0 (zI zi ((N+1:Nat):Int)) rfl);clear x0 xz xl bb;generalize w1.setCell _ _=w2 at*;have x1:w2.cell? ⟨g,1,none⟩=some (zI zi D):=f.o.box.A 1 _ rfl;have xz:=f.o.box.Z 1;have xl:=f.o.box.lt;go_upto_if 20 with fail;go_cut [6] from 7 to 103 (λ_ wx=>kj w0 W wx g ga (N+1) (max D dep) er (zU A3 y c3) (zU A4 E c4) t u #[zI zi op,zI zi J,zV j,zU A n c])
 case first=>
  by_cases bj:(dep:Int)>D
  .have ai:max D dep=dep:=by omega
   have w:=zh (f.set (N':=N+1) (D':=max D dep) (er':=er) 1 (zI zi dep) (by rw[ai];rfl));clear ai;go_wp2;go_meet;exact w
  have ai:max D dep=D:=by omega
  have w:Hid (kj w0 W w2 g ga (N+1) (max D dep) er (zU A3 y c3) (zU A4 E c4) t u #[zI zi op,zI zi J,zV j,zU A n c]):=zh (by rw[ai];exact f);clear ai;go_wp2;go_meet;exact w
 case rest=>
 clear f x1 xz xl;have f:=zh hcut;clear hcut;generalize bg:max D dep=D1 at*;have x2:wc.cell? ⟨g,2,none⟩=some (zI zi er):=f.o.box.A 2 _ rfl;go_upto_if 29 with fail;go_cut [6] from 7 to 103 (λ_ wx=>kj w0 W wx g ga (N+1) D1 (gB er nde) (zU A3 y c3) (zU A4 E c4) t u #[zI zi op,zI zi J,zV j,zU A n c])
 case first=>
  by_cases h0:er=0
  .subst h0;have ag:gB 0 nde=nde:=by unfold gB;rw[DP rfl]
   have y0:wc.cell? ⟨ga,0,none⟩=some (zI zi op):=f.x.A 0 _ rfl;have y1:wc.cell? ⟨ga,1,none⟩=some (zI zi J):=f.x.A 1 _ rfl;have y2:wc.cell? ⟨ga,2,none⟩=some (zV j):=f.x.A 2 _ rfl;have y3:wc.cell? ⟨ga,3,none⟩=some (zU A n c):=f.x.A 3 _ rfl;go_wp2;refine zK (CW _) λw3 K=> ?_;have w:=zh (f.later K);clear f K x2 y0 y1 y2 y3;have x2:w3.cell? ⟨g,2,none⟩=some (zI zi 0):=w.o.box.A 2 _ rfl;have xz:=w.o.box.Z 2;have xl:=w.o.box.lt;have Q:=zh (w.set (N':=N+1) (D':=D1) (er':=gB 0 nde) 2 (zI zi nde) (by rw[ag];rfl));clear ag;go_wp2;go_meet;exact Q
  have f0:(er==0)=false:=by simpa using h0
  have ag:gB er nde=er:=by unfold gB;rw[DK h0]
  have Q:Hid (kj w0 W wc g ga (N+1) D1 (gB er nde) (zU A3 y c3) (zU A4 E c4) t u #[zI zi op,zI zi J,zV j,zU A n c]):=zh (by rw[ag];exact f);clear ag h0;go_wp2;go_meet;exact Q
 case rest=>
 clear f x2;have f:=zh hcut;clear hcut;generalize bh:gB er nde=er1 at*;go_upto_region 6 with fail;go_cut [47] from 7 to 103 (λbe wx=>∃q,be=zW q/\kj w0 W wx g ga (N+1) D1 er1 (zU A3 y c3) (zU A4 E c4) t u #[zI zi op,zI zi J,zV j,zU A n c])
 case first=>
  have CH:=zh λW' (K:zL wc W')=>U0 W' _ t j ((f.o.o3.Q K).any.sl) (by omega);by_cases Z:op=2
  .have c2:(op==2)=true:=by simpa using Z
   generalize Lib.containsS t j=q at*;clear Z;refine bB 12 (Kit.of [ja 10 [] (zW q)]) (Kit.of_stable ?_) (Kit.of_known ?_) ?_
   .intro z M;simp only[DS,DZ,EC] at M;rcases M with rfl
    .apply dN
   .intro z M;simp only[DS,DZ,EC] at M;rcases M with rfl
    .apply dO
   intro γ al C hC aK;have a6:γ 10=zW q:=al 10 rfl;have y0:∀p:iF wc C,p.w.cell? ⟨ga,0,none⟩=some (zI zi op):=f.x.latC (C:=C) 0 _ rfl;have y2:∀p:iF wc C,p.w.cell? ⟨ga,2,none⟩=some (zV j):=f.x.latC (C:=C) 2 _ rfl;have z3:∀p:iF wc C,p.w.cell? ⟨g,3,none⟩=some (zU A3 y c3):=f.o.box.latC (C:=C) 3 _ rfl;simp only[Ee,El,Ei,D5];iterate 10 (refine aO rfl ?_;go_big_quiet_step (fail);refine D4 ?_)
   refine wfg #[zU A3 y c3,zV j] func261 (λw' K hf=>(CH w' K).mono λe w2 ⟨he,h1⟩=>⟨_,he,rfl,h1▸DM _ _⟩) ?_;simp only[DY,Nat.reduceAdd,a6];go_simp;iterate 1 (refine aO rfl ?_;go_big_quiet_step (fail);refine D4 ?_)
   intro w3 K hF;have w:=zh (f.later K);clear hF al hC aK y0 y2 z3 a6 K;clear γ;go_wp2;go_meet;exact⟨_,rfl,w⟩
  have c2:(op==2)=false:=by simpa using Z
  have y0:wc.cell? ⟨ga,0,none⟩=some (zI zi op):=f.x.A 0 _ rfl;clear CH;go_quiet (fail);go_wp2;go_meet;exact⟨_,rfl,f.later (aE (DM _ _) _)⟩
 case rest=>
 clear f;obtain⟨q,rfl,L⟩:=hcut;have f:=zh L;clear L;go_upto_if 47 with fail;go_cut [6] from 7 to 103 (λ_ wx=>∃A3 y c3 t,y=List.length t/\y<=N+1/\kj w0 W wx g ga (N+1) D1 er1 (zU A3 y c3) (zU A4 E c4) t u #[zI zi op,zI zi J,zV j,zU A n c])
 case first=>
  cases q
  .go_wp2;go_meet;exact⟨A3,y,c3,t,I,by have:=I.out;have:=aC.out;omega,f⟩
  go_upto_region 7 with fail;have ac:SSE g ga 3 A3 y c3 j wc.drew:=by have h:=f.later (show zL wc wc.drew from ae _);exact⟨h.o.box.A 3 _ rfl,h.x.A 2 _ rfl⟩
  refine dD (S:=SSE g ga 3 A3 y c3 j) 8 (by kernel_rfl) ac (λhS=> ?_);clear ac;replace f:=zh (f.later (show zL wc wc.drew from ae _));generalize wc.drew=wd at*;refine zup 0 (zP g) rfl ?_;refine zup 1 (zP g) rfl ?_;refine zup 2 (zP g) rfl ?_;refine zup 3 (.pointer (some ⟨g,3,none⟩)) rfl ?_;simp only[zp];refine zu 4 (zU A3 y c3) rfl (zQ ⟨by rfl,λW hW=>by obtain⟨s1,s2⟩:=hW;go_simp⟩) ?_;refine zup 5 (.pointer (some ⟨ga,2,none⟩)) rfl ?_;simp only[zp];refine zu 6 (zV j) rfl (zQ ⟨by rfl,λW hW=>by obtain⟨s1,s2⟩:=hW;go_simp⟩) ?_;simp only[zp];clear hS;refine eP 7 rfl ?_;go_wp2;have x:=ab wd (zC #[zV j] 9);replace f:=zh (f.later x);have l:(wd.alloc (zC #[zV j] 9)).cell? ⟨wd.heap.size,0,none⟩=some (zV j):=(Box.new wd 9 #[zV j]).A 0 _ rfl;clear x;refine⟨λ_=>⟨f.o.box.A 3 _ rfl,f.x.A 2 _ rfl⟩, ?_⟩;generalize wd.alloc (zC #[zV j] 9)=we,wd.heap.size=q0 at*;refine bq 8 rfl ?_;refine jK (B:=w0.heap.size) (xs:=t) (s:=j) (q:=q0) rfl _ _ rfl rfl f.o.o3 rfl l (by omega) f.o.Q.size ?_;intro v' wf U G aj;obtain⟨am,V,rfl⟩:=U.slice;have m:=zh (f.o.app3 U G aj);have R:=zh (f.o.o3.boxKept G f.x (zQ (by decide)));have P:=zh (f.k.trans (pY f.o.o3 G (by simp[wkT])));have aF:Hid ((t++[j]).length=y+1):=zh (by rw[DI,<-I];rfl);generalize a2:(t++[j]).length=m3' at*;generalize aX:t++[j]=l3' at*;clear l G aj U f aX;show bC _ _ _ _ _ _ _ _ _ _;refine bq 9 rfl ?_;go_wp2;show bC _ _ _ _ _ _ _ _ _ _;refine bq 10 rfl ?_;go_wp2;show bC _ _ _ _ _ _ _ _ _ _;have x3:wf.cell? ⟨g,3,none⟩=some (zU A3 y c3):=m.box.A 3 _ rfl;have xz:=m.box.Z 3;have xl:=m.box.lt;refine bq 11 rfl ?_;go_wp2;refine dE (by kernel_rfl) ?_ _;have Q:Hid (kj w0 W (wf.setCell ⟨g,3,none⟩ (zU am m3' V)) g ga (N+1) D1 er1 (zU am m3' V) (zU A4 E c4) l3' u #[zI zi op,zI zi J,zV j,zU A n c]):=zh ⟨m.set 3 (zU am m3' V),R.setNe ⟨g,3,none⟩ _ (af m.box R),P.trans (jY m.box (by simp[wkT]) 3 _)⟩;clear x3 xz xl m R P;go_wp2;go_meet;exact⟨am,m3',V,l3',a2.symm,by have:=aF.out;have:=I.out;have:=aC.out;omega,Q⟩
 case rest=>
 clear f I aC aH;clear t y c3 A3;obtain⟨A3,y,c3,t,Y,aH,L⟩:=hcut;have⟨f,I⟩:=zk2 L Y;clear L Y;go_upto_region 8 with fail;go_cut [76] from 7 to 103 (λbf wx=>∃q,bf=zW q/\kj w0 W wx g ga (N+1) D1 er1 (zU A3 y c3) (zU A4 E c4) t u #[zI zi op,zI zi J,zV j,zU A n c])
 case first=>
  have CH:=zh λW' (K:zL wc W')=>U0 W' _ u j ((f.o.o4.Q K).any.sl) (by omega);by_cases Z:op=3\/op=24
  .have c2:(op==3)=true\/(op==3)=false/\(op==24)=true:=by
    rcases Z with h|h
    .left;simpa using h
    right;exact⟨by simp;omega,by simpa using h⟩
   generalize Lib.containsS u j=q at*;clear Z;rcases c2 with c2|⟨c2,V⟩
   all_goals
    refine bB 17 (Kit.of [ja 15 [] (zW q)]) (Kit.of_stable ?_) (Kit.of_known ?_) ?_
    .intro z M;simp only[DS,DZ,EC] at M;rcases M with rfl
     .apply dN
    .intro z M;simp only[DS,DZ,EC] at M;rcases M with rfl
     .apply dO
    intro γ al C hC aK;have a7:γ 15=zW q:=al 15 rfl;have y0:∀p:iF wc C,p.w.cell? ⟨ga,0,none⟩=some (zI zi op):=f.x.latC (C:=C) 0 _ rfl;have y2:∀p:iF wc C,p.w.cell? ⟨ga,2,none⟩=some (zV j):=f.x.latC (C:=C) 2 _ rfl;have z4:∀p:iF wc C,p.w.cell? ⟨g,4,none⟩=some (zU A4 E c4):=f.o.box.latC (C:=C) 4 _ rfl;simp only[Ee,El,Ei,D5];iterate 15 (refine aO rfl ?_;go_big_quiet_step (fail);refine D4 ?_)
    refine wfg #[zU A4 E c4,zV j] func261 (λw' K hf=>(CH w' K).mono λe w2 ⟨he,h1⟩=>⟨_,he,rfl,h1▸DM _ _⟩) ?_;simp only[DY,Nat.reduceAdd,a7];go_simp;iterate 1 (refine aO rfl ?_;go_big_quiet_step (fail);refine D4 ?_)
    intro w3 K hF;have w:=zh (f.later K);clear hF al hC aK y0 y2 z4 a7 K;clear γ;go_wp2;go_meet;exact⟨_,rfl,w⟩
  have c2:(op==3)=false:=by simpa using λh=>Z (zQ h)
  have V:(op==24)=false:=by simpa using λh=>Z (zO h)
  have y0:wc.cell? ⟨ga,0,none⟩=some (zI zi op):=f.x.A 0 _ rfl;clear CH Z;go_quiet (fail);go_wp2;go_meet;exact⟨_,rfl,f.later (aE (DM _ _) _)⟩
 case rest=>
 clear f;obtain⟨q,rfl,L⟩:=hcut;have f:=zh L;clear L;go_upto_if 76 with fail;go_cut [6] from 7 to 103 (λ_ wx=>∃A4 E c4 u,E=List.length u/\E<=N+1/\kj w0 W wx g ga (N+1) D1 er1 (zU A3 y c3) (zU A4 E c4) t u #[zI zi op,zI zi J,zV j,zU A n c])
 case first=>
  cases q
  .go_wp2;go_meet;exact⟨A4,E,c4,u,aa,by have:=aa.out;have:=aD.out;omega,f⟩
  go_upto_region 9 with fail;have ac:SSE g ga 4 A4 E c4 j wc.drew:=by have h:=f.later (show zL wc wc.drew from ae _);exact⟨h.o.box.A 4 _ rfl,h.x.A 2 _ rfl⟩
  refine dD (S:=SSE g ga 4 A4 E c4 j) 8 (by kernel_rfl) ac (λhS=> ?_);clear ac;replace f:=zh (f.later (show zL wc wc.drew from ae _));generalize wc.drew=wd at*;refine zup 0 (zP g) rfl ?_;refine zup 1 (zP g) rfl ?_;refine zup 2 (zP g) rfl ?_;refine zup 3 (.pointer (some ⟨g,4,none⟩)) rfl ?_;simp only[zp];refine zu 4 (zU A4 E c4) rfl (zQ ⟨by rfl,λW hW=>by obtain⟨s1,s2⟩:=hW;go_simp⟩) ?_;refine zup 5 (.pointer (some ⟨ga,2,none⟩)) rfl ?_;simp only[zp];refine zu 6 (zV j) rfl (zQ ⟨by rfl,λW hW=>by obtain⟨s1,s2⟩:=hW;go_simp⟩) ?_;simp only[zp];clear hS;refine eP 7 rfl ?_;go_wp2;have x:=ab wd (zC #[zV j] 9);replace f:=zh (f.later x);have l:(wd.alloc (zC #[zV j] 9)).cell? ⟨wd.heap.size,0,none⟩=some (zV j):=(Box.new wd 9 #[zV j]).A 0 _ rfl;clear x;refine⟨λ_=>⟨f.o.box.A 4 _ rfl,f.x.A 2 _ rfl⟩, ?_⟩;generalize wd.alloc (zC #[zV j] 9)=we,wd.heap.size=q0 at*;refine bq 8 rfl ?_;refine jK (B:=w0.heap.size) (xs:=u) (s:=j) (q:=q0) rfl _ _ rfl rfl f.o.o4 rfl l (by omega) f.o.Q.size ?_;intro v' wf U G aj;obtain⟨ao,av,rfl⟩:=U.slice;have m:=zh (f.o.app4 U G aj);have R:=zh (f.o.o4.boxKept G f.x (zQ (by decide)));have P:=zh (f.k.trans (pY f.o.o4 G (by simp[wkT])));have aF:Hid ((u++[j]).length=E+1):=zh (by rw[DI,<-aa];rfl);generalize a3:(u++[j]).length=m4' at*;generalize a0:u++[j]=l4' at*;clear l G aj U f a0;show bC _ _ _ _ _ _ _ _ _ _;refine bq 9 rfl ?_;go_wp2;show bC _ _ _ _ _ _ _ _ _ _;refine bq 10 rfl ?_;go_wp2;show bC _ _ _ _ _ _ _ _ _ _;have x3:wf.cell? ⟨g,4,none⟩=some (zU A4 E c4):=m.box.A 4 _ rfl;have xz:=m.box.Z 4;have xl:=m.box.lt;refine bq 11 rfl ?_;go_wp2;refine dE (by kernel_rfl) ?_ _;have Q:Hid (kj w0 W (wf.setCell ⟨g,4,none⟩ (zU ao m4' av)) g ga (N+1) D1 er1 (zU A3 y c3) (zU ao m4' av) t l4' #[zI zi op,zI zi J,zV j,zU A n c]):=zh ⟨m.set 4 (zU ao m4' av),R.setNe ⟨g,4,none⟩ _ (af m.box R),P.trans (jY m.box (by simp[wkT]) 4 _)⟩;clear x3 xz xl m R P;go_wp2;go_meet;exact⟨ao,m4',av,l4',a3.symm,by have:=aF.out;have:=aa.out;have:=aD.out;omega,Q⟩
 case rest=>
 clear f aa aD aI;clear u E c4 A4;obtain⟨A4,E,c4,u,ah,aI,L⟩:=hcut;have F:Hid (WkS w0 wc g (N+1) D1 er1):=zh ⟨_,_,t,u,L.o,by have:=I.out;omega,by omega⟩;have XA:=zh L.x;have HK:=zh L.k;clear L I ah aH aI CW;clear A3 A4 y E c3 c4 t u;go_wp2;go_loopw [6] (λi wr=>∃k:Nat,k<=n/\i=zI zi k/\WkS w0 wr g (N+1+oJ d e k) (sF d D dep e k) (qW d er e k)/\Box wr ga #[zI zi op,zI zi J,zV j,zU A n c] 79/\dr wkT W wr) (λi _=>n-(intOf i).toNat)
 .exact⟨0,DH _,rfl,by rw[aQ,aM,aN];exact F,XA,HK⟩
 clear F XA HK aQ aM aN;obtain⟨k,hk,rfl,ak,a5,X⟩:=hrel;have⟨F,XA,HK⟩:=zk3 ak a5 X;clear ak a5 X;by_cases T:k<n
 .have⟨a1,k0⟩:=zln T;obtain⟨b,o,p,H,e2,ad,aw,l,aL, -⟩:=HX k T;subst e2;subst aw;obtain⟨Ap,cp,rfl, -⟩:=aL.slice;have x:zL w0 wr:=by have⟨_,_,_,_,h,_⟩:=F.out;exact h.Q
  have v0:=(x.cell ad).trans (l 0 _ rfl);have v1:=(x.cell ad).trans (l 1 _ rfl);have v2:=(x.cell ad).trans (l 2 _ rfl);have v3:=(x.cell ad).trans (l 3 _ rfl);rw[Eb] at v0;have y3:wr.cell? ⟨ga,3,none⟩=some (zU (some ⟨b,o,none⟩) n c):=XA.A 3 _ rfl;have l1:=aB (k+1);have l2:=ar k T;have t:=ap k T;have u:=aq k T;have ci:=aA H rfl w0 wr g (N+1+oJ (H+1) e k) (sF (H+1) D dep e k) (dep+1) (qW (H+1) er e k) (zG e.a k ex0) Ap cp F (au k T) aL (by omega) (by omega);rw[show((dep+1:Nat):Int)=(dep:Int)+1 by omega] at ci;have⟨CI,L2,L3,L4⟩:=zk4 ci l2 t u;clear ci l1 l2 t u l aL x ad aA HX ar ap aq aB au HP F;unfold exV at CI;generalize zG e.a k ex0=a at*;generalize zN a.a=an at*;go_wp2;refine CI.mono ?_;rintro r w' ⟨rfl,ak,X⟩;have F:Hid (WkS w0 w' g (N+1+oJ (H+1) e (k+1)) (sF (H+1) D dep e (k+1)) (qW (H+1) er e (k+1))):=zh (by rw[L2,L3,L4,<-Nat.add_assoc,show dep+cP (H+1) a=dep+1+cP (H+1) a-1 by omega];exact ak);have a9:=zh (X.2 _ _ _ XA (by decide));have P:=zh (HK.trans X);clear ak X XA HK L2 L3 L4 CI v0 v1 v2 v3 y3;go_wp2;go_roundw
  .exact⟨k+1,by omega,by go_num,F,a9,P⟩
  simp[intOf];omega
 have⟨a1,bc⟩:=zgq hk T;subst bc;have y3:wr.cell? ⟨ga,3,none⟩=some (zU A k c):=XA.A 3 _ rfl;have aS:Hid (WkS w0 wr g (N+K1) (max D (dep+K2-1)) (gB er K3)):=zh (by have:=F.out;rw[ay,az,Nat.add_assoc,aG] at this;exact this);clear F ay az aG aA HX ar ap aq aB au HP;go_wp2;refine bodyPost_end (v:=zY #[]) (by simp[results,results190]) rfl ?_;exact⟨rfl,aS,HK⟩
theorem UZ:∀d,Xn d
 |0=>yz 0 λa h=>by omega
 |d+1=>yz (d+1) λa h=>by
  obtain rfl:a=d:=by omega
  exact UZ a
def OvR (w:World) (N D:Nat) (er:Int) (r:Ending) (w':World):Prop:=∃g a b,r=zE (zP g)/\Box w' g (wkC N D er a b) 190/\zL w w'
def VR (w:World) (e:Ex) (d:Nat) (A:Option Addr) (c:Nat) (v:ExZ e) (u:Rs (exR d) w (zU A (zN e.a) c) e.a ah) (z:d<=900) (B:(ax (d+1) e).length<=1000):Calls zz 113 #[exV e (zU A (zN e.a) c)] w (OvR w (ax (d+1) e).length (cP (d+1) e) (aZ aT (ax (d+1) e))):=by have a:=zh fun(W:World) (g:Nat) (h:WkS w W g 0 0 0)=>UZ d w W g 0 0 1 0 e A c h v u (by omega) (by omega);rw[DY,show max 0 (1+cP (d+1) e-1)=cP (d+1) e by omega,show gB 0 (aZ aT (ax (d+1) e))=aZ aT (ax (d+1) e) by unfold gB;rw[DP rfl]] at a;generalize(ax (d+1) e).length=N,cP (d+1) e=D,aZ aT (ax (d+1) e)=er at*;unfold exV at a⊢;generalize zN e.a=n,e.op=op at*;generalize e.n=en,e.s=em at*;go_enter func113,ntmps113;go_upto_region 2 with fail;generalize b:w.alloc _=zw1 at*;generalize f:zw1.alloc _=w1 at*;have⟨o,q,s⟩:=zB2 b f;obtain⟨j,k,l,m⟩:=zc4 q;have p:Hid (WkS w w1 (w.heap.size+1) 0 0 0):=zh ⟨zU none 0 0,zU none 0 0,[],[],⟨o,by omega,s,OG.nil jE w1 w.heap.size 0 _ (by decide) (DH _),OG.nil jE w1 w.heap.size 0 _ (by decide) (DH _),zQ rfl⟩,DE _,DE _⟩;go_wp2;refine(a w1 _ p).mono ?_;rintro r w2 ⟨rfl,⟨x,y,C,E,t, -, -⟩, -⟩;have i:=zh t;go_wp2;go_ret;exact⟨_,x,y,rfl,i.box,i.Q⟩
def Tj (w:World) (e:Ex) (d:Nat) (A:Option Addr) (c:Nat) (G:ExZ e) (C:Rs (exR d) w (zU A (zN e.a) c) e.a ah) (z:d<=900) (E:(ax (d+1) e).length<=1000):Calls zz 62 #[exV e (zU A (zN e.a) c)] w (zR (zI zi (fZ (d+1) e)) w):=by
 have m:=zh λW j=>VR W e d A c G (C.Q j) z E;have o:Hid (fZ (d+1) e=if aZ aT (ax (d+1) e)=0 then(if 24<cP (d+1) e\/400<(ax (d+1) e).length then 2 else 0) else aZ aT (ax (d+1) e)):=zh rfl;have B:=mI (d+1) e;generalize fZ (d+1) e=R,(ax (d+1) e).length=N,cP (d+1) e=D,aZ aT (ax (d+1) e)=fe at*;unfold exV at m⊢;generalize zN e.a=n,e.op=op at*;generalize e.n=en,e.s=em at*;go_enter func62,ntmps62;go_upto_region 1 with fail;generalize l:w.alloc _=w1 at*;have⟨f,v⟩:=zB1 l;obtain⟨p,q,s,t⟩:=zc4 v;go_wp2;refine(m w1 f).mono ?_;rintro r w2 ⟨g,H,I,rfl,F,j⟩;have h:=zh F;replace f:=zb f j;have x0:w2.cell? ⟨g,0,none⟩=some (zI zi N):=h.A 0 _ rfl;have J:w2.cell? ⟨g,1,none⟩=some (zI zi D):=h.A 1 _ rfl;have K:w2.cell? ⟨g,2,none⟩=some (zI zi fe):=h.A 2 _ rfl;by_cases k:fe=0;case neg=>
  have u:(fe==0)=false:=by simpa using k
  have a:Hid (R=fe):=zh (by rw[o,DK k]);go_wp2;go_ret;exact⟨aU a.symm,f⟩
 subst k;have a:Hid (R=if 24<D\/400<N then 2 else 0):=zh (by rw[o,DP rfl]);by_cases i:24<D;case pos=>
  have u:(D:Int)>24:=by omega
  have b:Hid (R=2):=zh (by rw[a,DP (zQ i)]);go_wp2;go_ret;exact⟨aU b.symm,f⟩
 have u:¬(D:Int)>24:=by omega
 by_cases y:400<N;case pos=>
  have x:(N:Int)>400:=by omega
  have b:Hid (R=2):=zh (by rw[a,DP (zO y)]);go_wp2;go_ret;exact⟨aU b.symm,f⟩
 have x:¬(N:Int)>400:=by omega
 have b:Hid (R=0):=zh (by rw[a,DK (by omega)]);go_wp2;go_ret;exact⟨aU b.symm,f⟩
section
variable {e:Ex} {T:Ex->Bool} {d:Nat}
def dW (T:Ex->Bool) (d:Nat) (e:Ex):Bool:=(ax (d+1) e).any T
def vP (h:T e=true):dW T d e=true:=Ez.2 ⟨e,by unfold ax;simp,h⟩
def vQ {d k:Nat} (hk:k<zN e.a) (h:(ax d (zG e.a k ex0)).any T=true):dW T d e=true:=by have⟨x,b,a⟩:=Ez.1 h;refine Ez.2 ⟨x, ?_,a⟩;unfold ax;exact Ea _ (List.mem_flatMap.2 ⟨_,getD_in ex0 hk,b⟩)
def Br (h:T e=false) (i:∀j,j<zN e.a->(ax d (zG e.a j ex0)).any T=false):dW T d e=false:=by
 cases hq:dW T d e
 .rfl
 exfalso;have⟨x,b,c⟩:=Ez.1 hq;unfold ax at b;rcases DS.1 b with rfl|b
 .rw[h] at c;cases c
 have⟨a,k,b⟩:=List.mem_flatMap.1 b;obtain⟨j,g,rfl⟩:=D9.1 k;have:=i j g;rw[DC,DD g,EQ] at this;have f:(ax d e.a[j]).any T=true:=Ez.2 ⟨x,b,c⟩;rw[this] at f;cases f
def gJ (x:Ex):Bool:=gH x.op
def eY (vars:List Vr) (x:Ex):Bool:=ff x.op&&decide (dy vars x.s<0)
def ArC (d:Nat):Prop:=∀(w:World) (e:Ex) (A:Option Addr) (c:Nat),ExZ e->Rs (exR d) w (zU A (zN e.a) c) e.a ah->Calls zz 114 #[exV e (zU A (zN e.a) c)] w (zR (zW (dW gJ d e)) w)
def ry (d:Nat) (ih:∀x,d=x+1->ArC x):ArC d:=by
 intro w e A c X hr;have S:=zh ih;have⟨A',c',e1,hc,hx⟩:=hr.exs;simp only[DQ] at e1;obtain⟨rfl, -,rfl⟩:=e1;have Z:=zh hx;have D:=zh λk (h:k<zN e.a)=>X.a _ (getD_in ex0 h);have M:=X.len;unfold maxLen at M;have V:Hid (gJ e=true->dW gJ d e=true):=zh vP;have T:Hid (∀k,k<zN e.a->(ax d (zG e.a k ex0)).any gJ=true->dW gJ d e=true):=zh λk h h2=>vQ h h2;have B:Hid (gJ e=false->(∀j,j<zN e.a->(ax d (zG e.a j ex0)).any gJ=false)->dW gJ d e=false):=zh Br;have P:Hid (gJ e=(decide (e.op=3)||decide (e.op=24))):=zh rfl;have⟨r,K⟩:=zv (dW gJ d e);rw[<-K] at V T B⊢;generalize gJ e=t at*;unfold exV;have⟨n,hn⟩:=zv (zN e.a);rw[<-hn] at hc Z D T B M⊢;have⟨op,J⟩:=zv (e.op);have⟨em,G⟩:=zv (e.s);have⟨en,H⟩:=zv (e.n);rw[<-J] at P⊢;rw[<-G,<-H];clear X hr hx ih hn J G H K;go_enter func114,ntmps114;go_upto_region 1 with fail;generalize N:w.alloc _=w1 at*;have⟨f,l⟩:=zB1 N;clear N;have aa:=za l 0;by_cases y:op=3
 .have C:=zh (V (by rw[P,DR y];rfl));have c3:(op==3)=true:=by simpa using y
  clear y;go_wp2;go_ret;exact⟨bS C.symm,f⟩
 have c3:(op==3)=false:=by simpa using y
 by_cases g:op=24
 .have C:=zh (V (by rw[P,DR g,Bool.or_true]));have c4:(op==24)=true:=by simpa using g
  clear y g;go_wp2;go_ret;exact⟨bS C.symm,f⟩
 have c4:(op==24)=false:=by simpa using g
 replace B:=zh (B (by rw[P,DJ y,DJ g];rfl));clear y g;go_wp2;go_loopw [3] (λi wr=>∃k:Nat,k<=n/\i=zI zi k/\Hid (∀j,j<k->(ax d (zG e.a j ex0)).any gJ=false)/\Box wr w.heap.size #[zI zi op,zI zi en,zV em,zU A n c] 79/\zL w wr) (λi _=>n-(intOf i).toNat)
 .exact⟨0,DH _,rfl,zh (λj h=>by omega),l,f⟩
 obtain⟨k,hk,rfl,u,L,v⟩:=hrel;have⟨l,f⟩:=zk2 L v;clear L v;by_cases s:k<n
 .have⟨I,k0⟩:=zln s;obtain⟨b,o,p,x,e2,F,W,m,z, -⟩:=Z k s;subst e2;subst W;obtain⟨Ap,cp,rfl, -⟩:=z.slice;obtain⟨Y,v1,v2,v3⟩:=zx4 f F m;rw[Eb] at Y;have Q:=zh (S x rfl wr (zG e.a k ex0) Ap cp (D k s) (z.Q f));have U:=zh (T k s);have H2:Hid ((ax (x+1) (zG e.a k ex0)).any gJ=false->∀j,j<k+1->(ax (x+1) (zG e.a j ex0)).any gJ=false):=zh λh j hj=>by
   by_cases e:j=k
   .rw[e];exact h
   exact u j (by omega)
  unfold dW exV at Q;generalize zG e.a k ex0=a,(ax (x+1) (zG e.a k ex0)).any gJ=q at*;generalize zN a.a=an at*;clear m z F u;have E:=za l 3;cases q
  .have R:=zh (H2 rfl);go_wp2;clear Y v1 v2 v3;refine zK (Q) λw2 v=> ?_;replace⟨l,f⟩:=zb2 l f v;clear v;go_wp2;go_roundw
   .exact⟨k+1,by omega,by go_num,R,l,f⟩
   simp[intOf];omega
  have R:=zh (U rfl);have E:=za l 3;go_wp2;clear Y v1 v2 v3;refine zK (Q) λw2 v=> ?_;replace⟨l,f⟩:=zb2 l f v;clear v;go_wp2;go_ret;exact⟨bS R.symm,f⟩
 have I:=zge s;have C:=zh (B λj hj=>u j (by omega));clear u;have y3:wr.cell? ⟨w.heap.size,3,none⟩=some (zU A n c):=l.A 3 _ rfl;go_wp2;go_ret;exact⟨bS C.symm,f⟩
theorem ug:∀d,ArC d
 |0=>ry 0 λa h=>by omega
 |d+1=>ry (d+1) λa h=>by
  obtain rfl:a=d:=by omega
  exact ug a
end
def FoC (v:Value) (vars:List Vr) (d:Nat):Prop:=∀(w:World) (e:Ex) (A:Option Addr) (c:Nat),Rs vrR w v vars ah->ExZ e->Rs (exR d) w (zU A (zN e.a) c) e.a ah->Calls zz 115 #[v,exV e (zU A (zN e.a) c)] w (zR (zW (dW (eY vars) d e)) w)
def pD (v:Value) (vars:List Vr) (nv:zN vars<=1000) (d:Nat) (ih:∀z,d=z+1->FoC v vars z):FoC v vars d:=by
 intro w e A c R hz hr;have HV:=zh R;have S:=zh λW s=>wH W v vars e.s (R.Q s) nv;obtain⟨Av,cv,rfl, -⟩:=R.slice;generalize ab:zN vars=vl at*;have V:=zh ih;have⟨A',c',e1,hc,hx⟩:=hr.exs;simp only[DQ] at e1;obtain⟨rfl, -,rfl⟩:=e1;have HX:=zh hx;have E:=zh λk (h:k<zN e.a)=>hz.a _ (getD_in ex0 h);have P:=hz.len;unfold maxLen at P;have HT:Hid ((eY vars) e=true->dW (eY vars) d e=true):=zh vP;have Y:Hid (∀k,k<zN e.a->(ax d (zG e.a k ex0)).any (eY vars)=true->dW (eY vars) d e=true):=zh λk h x=>vQ h x;have y:Hid ((eY vars) e=false->(∀j,j<zN e.a->(ax d (zG e.a j ex0)).any (eY vars)=false)->dW (eY vars) d e=false):=zh Br;have D:Hid (eY vars e=(decide (e.op=2)&&decide (dy vars e.s<0))):=zh rfl;generalize dy vars e.s=ip at*;have⟨r,M⟩:=zv (dW (eY vars) d e);rw[<-M] at HT Y y⊢;generalize(eY vars) e=t at*;unfold exV;have⟨n,hn⟩:=zv (zN e.a);rw[<-hn] at hc HX E Y y P⊢;have⟨op,L⟩:=zv (e.op);have⟨em,I⟩:=zv (e.s);have⟨en,J⟩:=zv (e.n);rw[<-L] at D⊢;rw[<-I] at S⊢;rw[<-J];clear R ab hz hr hx ih hn L I J M;go_enter func115,ntmps115;go_upto_region 1 with fail;generalize Q:w.alloc _=w1 at*;have⟨f,g⟩:=zB1 Q;clear Q;by_cases x:op=2;case' pos=>
  have c2:(op==2)=true:=by simpa using x
  rw[DR x,FI] at D;clear x;obtain⟨F,ac⟩:=zd2 g 0 2;by_cases B:ip<0
  .have X:=zh (HT (by rw[D,DR B]));go_wp2;refine zJ (S _ f) ?_;go_wp2;go_ret;exact⟨bS X.symm,f⟩
  replace y:=zh (y (by rw[D,DJ B]));go_wp2;refine zJ (S _ f) ?_;go_wp2;clear B c2
 case' neg=>
  have c2:(op==2)=false:=by simpa using x
  replace y:=zh (y (by rw[D,DJ x];rfl));clear x;have F:=za g 0;go_wp2;clear c2
 all_goals
  go_loopw [5] (λi wr=>∃k:Nat,k<=n/\i=zI zi k/\Hid (∀j,j<k->(ax d (zG e.a j ex0)).any (eY vars)=false)/\Box wr w.heap.size #[zI zi op,zI zi en,zV em,zU A n c] 79/\zL w wr) (λi _=>n-(intOf i).toNat)
  .exact⟨0,DH _,rfl,zh (λj h=>by omega),g,f⟩
  obtain⟨k,hk,rfl,u,N,s⟩:=hrel;have⟨g,f⟩:=zk2 N s;clear N s;by_cases m:k<n
  .have⟨K,k0⟩:=zln m;obtain⟨b,o,p,z,e2,H,aa,l,C, -⟩:=HX k m;subst e2;subst aa;obtain⟨Ap,cp,rfl, -⟩:=C.slice;obtain⟨v0,v1,v2,v3⟩:=zx4 f H l;rw[Eb] at v0;have T:=zh (V z rfl wr (zG e.a k ex0) Ap cp (HV.Q f) (E k m) (C.Q f));have Z:=zh (Y k m);have H2:Hid ((ax (z+1) (zG e.a k ex0)).any (eY vars)=false->∀j,j<k+1->(ax (z+1) (zG e.a j ex0)).any (eY vars)=false):=zh λh j hj=>by
    by_cases e:j=k
    .rw[e];exact h
    exact u j (by omega)
   unfold dW exV at T;generalize zG e.a k ex0=a,(ax (z+1) (zG e.a k ex0)).any (eY vars)=q at*;generalize zN a.a=an at*;clear l C H u;have G:=za g 3;cases q
   .have U:=zh (H2 rfl);go_wp2;clear v0 v1 v2 v3;refine zK (T) λw2 s=> ?_;replace⟨g,f⟩:=zb2 g f s;clear s;go_wp2;go_roundw
    .exact⟨k+1,by omega,by go_num,U,g,f⟩
    simp[intOf];omega
   have U:=zh (Z rfl);have G:=za g 3;go_wp2;clear v0 v1 v2 v3;refine zK (T) λw2 s=> ?_;replace⟨g,f⟩:=zb2 g f s;clear s;go_wp2;go_ret;exact⟨bS U.symm,f⟩
  have K:=zge m;have X:=zh (y λj hj=>u j (by omega));clear u;have y3:wr.cell? ⟨w.heap.size,3,none⟩=some (zU A n c):=g.A 3 _ rfl;go_wp2;go_ret;exact⟨bS X.symm,f⟩
theorem rt (v:Value) (vars:List Vr) (b:zN vars<=1000):∀d,FoC v vars d
 |0=>pD v vars b 0 λa h=>by omega
 |d+1=>pD v vars b (d+1) λa h=>by
  obtain rfl:a=d:=by omega
  exact rt v vars b a
theorem Q6 (vars:List Vr) (d:Nat) (e:Ex):je (ai vars) (d+1) e↔fZ (d+1) e=0/\dW gJ d e=false/\dW (eY vars) d e=false:=by
 unfold je;constructor
 .rintro⟨h1,h2,h3⟩;refine⟨h1, ?_, ?_⟩
  .cases hq:dW gJ d e
   .rfl
   have⟨x,b,a⟩:=Ez.1 hq;have:x.s∈dm gH (ax (d+1) e):=fT.2 ⟨x,b,a,rfl⟩;rw[h2] at this;cases this
  cases hq:dW (eY vars) d e
  .rfl
  have⟨x,b,a⟩:=Ez.1 hq;unfold eY at a;simp only[DW,Ef] at a;have:=h3 x.s (fT.2 ⟨x,b,a.1,rfl⟩);exact absurd this (j4.1 a.2)
 rintro⟨h1,h2,h3⟩;refine⟨h1, ?_, ?_⟩
 .cases hq:dm gH (ax (d+1) e) with
  |nil=>rfl
  |cons s l=>obtain⟨x,b,a, -⟩:=fT.1 (show s∈dm gH (ax (d+1) e) by rw[hq];simp);have:dW gJ d e=true:=Ez.2 ⟨x,b,a⟩;rw[h2] at this;cases this
 intro s f;obtain⟨x,b,a,rfl⟩:=fT.1 f;refine E8 λc=> ?_;have:dW (eY vars) d e=true:=Ez.2 ⟨x,b,by unfold eY;rw[a,DR (j4.2 c)];rfl⟩;rw[h3] at this;cases this
def Tu (w:World) (v:Value) (vars:List Vr) (z:zN vars<=1000) (u:Rs vrR w v vars ah) (e:Ex) (d:Nat) (A:Option Addr) (c:Nat) (x:ExZ e) (t:Rs (exR d) w (zU A (zN e.a) c) e.a ah):Calls zz 63 #[v,exV e (zU A (zN e.a) c)] w (ErR (dW gJ d e=false/\dW (eY vars) d e=false) w):=by
 have p:=zh λW a=>ug d W e A c x (t.Q a);have q:=zh λW a=>rt v vars z d W e A c (u.Q a) x (t.Q a);have l:=zh fun(w':World) (er:Int) h he a=>ErR.no (P:=dW gJ d e=false/\dW (eY vars) d e=false) (w:=w) (w':=w') (er:=er) h he a;have o:=zh fun(w':World) h a=>ErR.yes (P:=dW gJ d e=false/\dW (eY vars) d e=false) (w:=w) (w':=w') h a;generalize y:(dW gJ d e=false/\dW (eY vars) d e=false)=P at*;have r:Hid (P↔dW gJ d e=false/\dW (eY vars) d e=false):=zh (by rw[<-y]);generalize dW gJ d e=qa,dW (eY vars) d e=qf at*;obtain⟨C,cv,rfl, -⟩:=u.slice;generalize zN vars=vl at*;unfold exV at p q⊢;generalize zN e.a=n,e.op=op at*;generalize e.n=en,e.s=em at*;go_enter func63,ntmps63;go_upto_region 1 with fail;generalize s:w.alloc _=w1 at*;have⟨b,k⟩:=zB1 s;obtain⟨f,g,i,j⟩:=zc4 k;cases qa;case true=>
  have m:=zh λw' a=>l w' 9 (λh=>by have:=(r.1 h).1;cases this) (by decide) a;go_wp2;refine zK (p _ b) λw2 a=> ?_;replace⟨k,b⟩:=zb2 k b a;go_wp2;go_ret;exact m _ b
 cases qf;case true=>
  have m:=zh λw' a=>l w' 7 (λh=>by have:=(r.1 h).2;cases this) (by decide) a;obtain⟨f,g,i,j⟩:=zc4 k;go_wp2;refine zK (p _ b) λw2 a=> ?_;replace⟨k,b⟩:=zb2 k b a;obtain⟨f,g,i,j⟩:=zc4 k;go_wp2;refine zK (q _ b) λB a=> ?_;replace b:=zb b a;go_wp2;go_ret;exact m _ b
 case false=>have m:=zh λw' a=>o w' (r.2 ⟨by trivial,by trivial⟩) a;obtain⟨f,g,i,j⟩:=zc4 k;go_wp2;refine zK (p _ b) λw2 a=> ?_;replace⟨k,b⟩:=zb2 k b a;obtain⟨f,g,i,j⟩:=zc4 k;go_wp2;refine zK (q _ b) λB a=> ?_;replace b:=zb b a;go_wp2;go_ret;exact m _ b
def yJ (w:World) (v:Value) (vars:List Vr) (nv:zN vars<=1000) (S:Rs vrR w v vars ah) (L:List Ex) (A:Option Addr) (c:Nat) (hr:Rs (exR KE) w (zU A (zN L) c) L ah) (nl:zN L<=1000) (hz:∀e∈L,Xt e):Calls zz 26 #[v,zU A (zN L) c] w (ErR (cy vars L) w):=by
 have M:=zh fun(w':World) (er:Int) h n f=>ErR.no (P:=cy vars L) (w:=w) (w':=w') (er:=er) h n f;have G:=zh fun(w':World) h f=>ErR.yes (P:=cy vars L) (w:=w) (w':=w') h f;have D:Hid (cy vars L↔∀e∈L,je (ai vars) KE e):=zh Iff.rfl;have HZ:=zh hz;generalize cy vars L=EO at*;have HV:=zh S;have Z:=zh λW f=>Tu W v vars nv (S.Q f);obtain⟨Av,cv,rfl, -⟩:=S.slice;have⟨AL,cL,e1,Q,T⟩:=hr.exs;simp only[DQ] at e1;obtain⟨rfl, -,rfl⟩:=e1;have F:=zh T;have⟨m,t⟩:=zvh (zN L);rw[<-t] at Q F nl⊢;generalize ab:zN vars=vl at*;go_enter func26,ntmps26;go_wp2;go_loopw [5,6,7] (λi _ _ wr=>∃k:Nat,k<=m/\i=zI zi k/\zL w wr/\Hid (∀j,j<k->je (ai vars) KE (zG L j ex0))) (λi _ _ _=>m-(intOf i).toNat)
 .exact⟨0,DH _,rfl,DM _ _,zh λj h=>by omega⟩
 obtain⟨k,hk,rfl,f,K⟩:=hrel;have g:=zh f;by_cases p:k<m
 .have⟨J,k0⟩:=zln p;obtain⟨b,o,u,d',e2,N,hd,y,z, -⟩:=F k p;subst e2;obtain rfl:d'=29:=by unfold KE at hd;omega
  have I:=getD_in ex0 (show k<zN L by rw[<-t];exact p);have B:=HZ _ I;have x:=zh fun(w':World) (er:Int) (h:¬je (ai vars) KE (zG L k ex0)) n f=>M w' er (λhV=>h (D.1 hV _ I)) n f;have q:Hid (je (ai vars) KE (zG L k ex0)->∀j,j<k+1->je (ai vars) KE (zG L j ex0)):=zh λh j Y=>by
   by_cases e:j=k
   .rw[e];exact h
   exact K j (by omega)
  have s:=zh (Q6 vars 29 (zG L k ex0));have l:=zh y;have d:=zh N;unfold KE at x q;generalize zG L k ex0=a at*;obtain⟨U,X,rfl,aa⟩:=z.slice;have V:=zh λW f=>Tj W a 29 U X B.z (z.Q f) (by decide) B.len;have C:=zh λW f=>Z W f a 29 U X B.z (z.Q f);generalize dW gJ 29 a=qa,dW (eY vars) 29 a=qf,fZ (29+1) a=ee,je (ai vars) (29+1) a=OK at*;unfold exV at V C;generalize zN a.a=an at*;have v0:wr.cell? ⟨b,o+k*4,none⟩=some (zI zi a.op):=(g.cell d.out).trans (l 0 _ rfl);have v1:=(g.cell d.out).trans (l 1 _ rfl);have v2:=(g.cell d.out).trans (l 2 _ rfl);have v3:=(g.cell d.out).trans (l 3 _ rfl);go_wp2;refine zK (V _ g) λw2 f=> ?_;replace g:=zb g f;by_cases n:ee=0;case neg=>
   have f1:(ee !=0)=true:=by simpa using n
   have E:=zh λw' f=>x w' ee (λh=>n (s.1 h).1) n f;go_wp2;go_ret;exact E _ g
  subst n;have v0:w2.cell? ⟨b,o+k*4,none⟩=some (zI zi a.op):=(g.cell d.out).trans (l 0 _ rfl);have v1:=(g.cell d.out).trans (l 1 _ rfl);have v2:=(g.cell d.out).trans (l 2 _ rfl);have v3:=(g.cell d.out).trans (l 3 _ rfl);go_wp2;refine(C _ g).mono ?_;rintro r w3 ⟨er,rfl,H,f⟩;replace g:=zb g f;by_cases n:er=0;case neg=>
   have f1:(er !=0)=true:=by simpa using n
   have E:=zh λw' f=>x w' er (λh=>n (H.2 (s.1 h).2)) n f;go_wp2;go_ret;exact E _ g
  have H3:=zh (q (s.2 ⟨by trivial,H.1 n⟩));subst n;go_wp2;go_roundw
  .exact⟨k+1,by omega,by go_num,g,H3⟩
  simp[intOf];omega
 have⟨J,R⟩:=zgq hk p;have E:=zh λw' f=>G w' (D.2 (ic (x0:=ex0) λj Y=>K j (by rw[R,t];exact Y))) f;go_wp2;go_ret;exact E _ g
def Ol (x:Wt):(x.lo<0/\dG x=false)\/(¬x.lo<0/\x.lo>x.hi/\dG x=false)\/(¬x.lo<0/\¬x.lo>x.hi/\x.hi>65535/\dG x=false)\/(¬x.lo<0/\¬x.lo>x.hi/\¬x.hi>65535/\x.weight<0/\dG x=false)\/(¬x.lo<0/\¬x.lo>x.hi/\¬x.hi>65535/\¬x.weight<0/\x.weight>1000/\dG x=false)\/(¬x.lo<0/\¬x.lo>x.hi/\¬x.hi>65535/\¬x.weight<0/\¬x.weight>1000/\dG x=true):=by
 unfold dG;by_cases a:x.lo<0
 .exact zQ ⟨a,by simp[a]⟩
 by_cases b:x.lo>x.hi
 .exact zO (zQ ⟨a,b,by simp[b]⟩)
 by_cases c:x.hi>65535
 .exact zO (zO (zQ ⟨a,b,c,by simp[c]⟩))
 by_cases d:x.weight<0
 .exact zO (zO (zO (zQ ⟨a,b,c,d,by simp[d]⟩)))
 by_cases e:x.weight>1000
 .exact zO (zO (zO (zO (zQ ⟨a,b,c,d,e,by simp[e]⟩))))
 exact zO (zO (zO (zO (zO ⟨a,b,c,d,e,by rw[DJ a,DJ b,DJ c,DJ d,DJ e];rfl⟩))))
theorem Tw (w:World) (vars:List Vr) (a:List Ds) (A1 A4:Option Addr) (c1 c4:Nat) (hv:Rs vrR w (zU A1 (zN vars) c1) vars ah) (hd:Rs dsR w (zU A4 (zN a) c4) a ah) (nv:zN vars<=1000) (nd:zN a<=1000) (nw:∀x∈a,zN x.ws<=1000):
  Calls zz 27 #[zU A1 (zN vars) c1,zU A4 (zN a) c4] w (ErR (cH vars a) w):=by
 have ae:=zh fun(w':World) (er:Int) h he c=>ErR.no (P:=cH vars a) (w:=w) (w':=w') (er:=er) h he c;have R:=zh fun(w':World) h c=>ErR.yes (P:=cH vars a) (w:=w) (w':=w') h c;have D:Hid (cH vars a↔∀i,i<zN a->bY vars (zG a i ds0).var=true/\(∀j,j<i->(zG a j ds0).var≠(zG a i ds0).var)/\(zG a i ds0).ws.length<=16/\∀x∈(zG a i ds0).ws,dG x=true):=zh Iff.rfl;have G:=zh λk (h:k<zN a)=>nw _ (getD_in ds0 h);generalize cH vars a=DO at*;have⟨m,hm⟩:=zv (zN a);have HM:=zh hm;have HX:Hid (∀k,k<m->∃b o u,A4=some ⟨b,o,none⟩/\b<w.heap.size/\w.cell? ⟨b,o+k*2,none⟩=some (zI zi (zG a k ds0).var)/\w.cell? ⟨b,o+k*2+1,none⟩=some u/\Rs wtR w u (zG a k ds0).ws ah):=zh λk hk=>by have⟨A',c',e1,_,ac⟩:=hd.dss;have⟨b,o,p,F,B,h0,h1,h2⟩:=ac k (by omega);simp only[DQ] at e1;exact⟨b,o,p,by rw[e1.1,F],B,h0,h1,h2⟩
 have⟨n,hn⟩:=zv (zN vars);have HN:=zh hn;have HG:Hid (∀k,k<n->∃(b o:Nat),A1=some ⟨b,o,none⟩/\b<w.heap.size/\w.cell? ⟨b,o+k*4+2,none⟩=some (zI zi (zG vars k vr0).m)):=zh λk hk=>by have⟨aC,aD,e1,_,ac⟩:=hv.vrs;have⟨bv,ov,F,B,W⟩:=ac k (by omega);simp only[DQ] at e1;exact⟨bv,ov,by rw[e1.1,F],B,W 2 _ rfl⟩
 rw[<-hm] at nd D G⊢;rw[<-hn] at nv⊢;clear hv hd hm hn nw;go_enter func27,ntmps27;go_wp2;go_loopw [5,6,7,8] (λi _ _ _ wr=>∃k:Nat,k<=m/\i=zI zi k/\zL w wr/\Hid (∀i,i<k->bY vars (zG a i ds0).var=true/\(∀j,j<i->(zG a j ds0).var≠(zG a i ds0).var)/\(zG a i ds0).ws.length<=16/\∀x∈(zG a i ds0).ws,dG x=true)) (λi _ _ _ _=>m-(intOf i).toNat)
 .exact⟨0,DH _,rfl,DM _ _,zh λj h=>by omega⟩
 obtain⟨k,hk,rfl,c,r⟩:=hrel;have g:=zh c;clear c;by_cases E:k<m;case neg=>
  have⟨au,ap⟩:=zgq hk E;have HF:Hid DO:=zh (D.out.2 λi hi=>r.out i (by rw[ap];exact hi));clear r ap HX D HG G;go_wp2;go_ret;exact R _ HF g
 have⟨au,k0⟩:=zln E;have⟨b,o,u,F,B,al,am,Z⟩:=HX.out k E;subst F;have t:=zh B;have⟨S,T⟩:=zk2 al am;obtain⟨Au,cu,rfl, -⟩:=Z.slice;have s:=zh Z;have af:=G.out k E;have d:=zh fun(w':World) (er:Int) (h:¬(bY vars (zG a k ds0).var=true/\(∀j,j<k->(zG a j ds0).var≠(zG a k ds0).var)/\(zG a k ds0).ws.length<=16/\∀x∈(zG a k ds0).ws,dG x=true)) he c=>ae.out w' er (λhV=>h (D.out.1 hV k E)) he c;have f:Hid ((bY vars (zG a k ds0).var=true/\(∀j,j<k->(zG a j ds0).var≠(zG a k ds0).var)/\(zG a k ds0).ws.length<=16/\∀x∈(zG a k ds0).ws,dG x=true)->∀i,i<k+1->bY vars (zG a i ds0).var=true/\(∀j,j<i->(zG a j ds0).var≠(zG a i ds0).var)/\(zG a i ds0).ws.length<=16/\∀x∈(zG a i ds0).ws,dG x=true):=zh λh i hi=>by
  by_cases e:i=k
  .rw[e];exact h
  exact r.out i (by omega)
 clear r al am Z B ae R D G;generalize aA:zG a k ds0=dk at*;obtain⟨y,ws⟩:=dk;simp only at S s d f af;have A:Hid (∀j,j<k->w.cell? ⟨b,o+j*2,none⟩=some (zI zi (zG a j ds0).var)):=zh λj hj=>by obtain⟨b',o',u',F, -,h0, -, -⟩:=HX.out j (by omega);simp only[DN,FK] at F;obtain⟨rfl,rfl, -⟩:=F;exact h0
 have l:Hid (bY vars y=(decide (0<=y)&&(decide (y<zN vars)&&decide ((zG vars y.toNat vr0).m≠0)))):=zh rfl;have v0:=(g.out.cell t.out).trans S;clear HX aA;by_cases aG:y<0
 .have I:=zh λw' c=>d.out w' 1 (λh=>by have:=h.1;rw[l.out,DJ (by omega)] at this;cases this) (by decide) c;clear d f l s A HG;go_wp2;go_ret;exact I _ g
 obtain⟨yn,rfl⟩:∃yn:Nat,y=yn:=⟨y.toNat,by omega⟩;have ay:=zn0 yn;by_cases ax:yn<n;case neg=>
  have f1:(yn:Int)≥(n:Int):=by omega
  have I:=zh λw' c=>d.out w' 1 (λh=>by have:=h.1;rw[l.out,DJ (show¬(yn:Int)<zN vars by have:=HN.out;omega)] at this;simp at this) (by decide) c;clear d f l s A HG;go_wp2;go_ret;exact I _ g
 have f1:¬(yn:Int)≥(n:Int):=by omega
 have aF:=zlt ax;have⟨bv,ov,F,aj,an⟩:=HG.out yn ax;subst F;have v2:=(g.out.cell aj).trans an;rw[Eh] at l;generalize(zG vars yn vr0).m=md at*;by_cases C:md=0
 .have f2:(md==0)=true:=by simpa using C
  have I:=zh λw' c=>d.out w' 1 (λh=>by have:=h.1;rw[l.out,DJ (show¬md≠0 by simpa using C)] at this;simp at this) (by decide) c;clear d f l s A HG C;go_wp2;go_ret;exact I _ g
 have f2:(md==0)=false:=by simpa using C
 have ai:Hid (bY vars (yn:Int)=true):=zh (by rw[l.out,DR ay,DR (show(yn:Int)<zN vars by have:=HN.out;omega),DR (show md≠0 from C)];rfl);clear l C an aj HG;go_wp2;clear v0 v2;go_loopw [6] (λi wr=>∃j:Nat,j<=k/\i=zI zi j/\zL w wr/\Hid (∀i,i<j->(zG a i ds0).var≠(yn:Int))) (λi _=>k-(intOf i).toNat)
 .exact⟨0,DH _,rfl,g,zh λi h=>by omega⟩
 clear g;obtain⟨j,hj,rfl,c,N⟩:=hrel;have g:=zh c;clear c;by_cases L:j<k
 .have aq:=zlt L;have aB:(j:Int)<m:=by omega
  have j0:=zn0 j;have v0:=(g.out.cell t.out).trans S;have vj:=(g.out.cell (p:=⟨b,o+j*2,none⟩) t.out).trans (A j L);have HJ:Hid ((zG a j ds0).var≠(yn:Int)->∀i,i<j+1->(zG a i ds0).var≠(yn:Int)):=zh λh i hi=>by
   by_cases e:i=j
   .rw[e];exact h
   exact N.out i (by omega)
  have V:Hid ((zG a j ds0).var=(yn:Int)->∀w',zL w w'->ErR DO w (zE (zI zi 8)) w'):=zh λh w' c=>d.out w' 8 (λhq=>hq.2.1 j L h) (by decide) c;generalize(zG a j ds0).var=z at*;clear N d f A s;by_cases hz:z=(yn:Int)
  .have I:=zh (V hz);have f3:(z==(yn:Int))=true:=by simpa using hz
   clear hz HJ V;go_upto_region 9 with fail;go_quiet (fail);go_wp2;go_ret;exact I _ (aE g _)
  have H3:=zh (HJ hz);have f3:(z==(yn:Int))=false:=by simpa using hz
  clear hz HJ V;go_upto_region 9 with fail;go_quiet (fail);go_wp2;go_roundw
  .exact⟨j+1,by omega,by go_num,aE g _,H3⟩
  simp[intOf];omega
 have⟨aq,ao⟩:=zgq hj L;have U:Hid (∀i,i<k->(zG a i ds0).var≠(yn:Int)):=zh λi hi=>N.out i (by omega);clear N A;have v1:=(g.out.cell (p:=⟨b,o+k*2+1,none⟩) t.out).trans T;by_cases K:zN ws<=16;case neg=>
  have I:=zh λw' c=>d.out w' 2 (λh=>K h.2.2.1) (by decide) c;generalize zN ws=wl at*;have g1:(wl:Int)>16:=by omega
  clear d f s K U ao;go_wp2;go_ret;exact I _ g
 have⟨Aw,cw,e3,X,aw⟩:=s.out.wts;simp only[DQ] at e3;obtain⟨rfl, -,rfl⟩:=e3;have J:=zh aw;have H:=zh fun(w':World) (i:Nat) (hi:i<zN ws) (h:dG (zG ws i wt0)=false) c=>d.out w' 1 (λhq=>by have:=hq.2.2.2 _ (getD_in wt0 hi);rw[h] at this;cases this) (by decide) c;have v:Hid ((∀i,i<zN ws->dG (zG ws i wt0)=true)->∀i,i<k+1->bY vars (zG a i ds0).var=true/\(∀j,j<i->(zG a j ds0).var≠(zG a i ds0).var)/\(zG a i ds0).ws.length<=16/\∀x∈(zG a i ds0).ws,dG x=true):=zh λh=>f.out ⟨ai,U,K,ic (x0:=wt0) h⟩;clear f d s aw U ai ao;have⟨wl,av⟩:=zv (zN ws);rw[<-av] at J H v v1 K T;clear av;have g1:¬(wl:Int)>16:=by omega
 go_wp2;clear v1;go_loopw [7,8] (λi _ wr=>∃j:Nat,j<=wl/\i=zI zi j/\zL w wr/\Hid (∀i,i<j->dG (zG ws i wt0)=true)) (λi _ _=>wl-(intOf i).toNat)
 .exact⟨0,DH _,rfl,g,zh λi h=>by omega⟩
 clear g;obtain⟨q,hq,rfl,c,r⟩:=hrel;have g:=zh c;clear c;have v1:=(g.out.cell (p:=⟨b,o+k*2+1,none⟩) t.out).trans T;by_cases M:q<wl;case neg=>
  have ar:=zge M;have H5:=zh (v λi hi=>r.out i (by omega));clear r v H J;go_wp2;go_roundw
  .exact⟨k+1,by omega,by go_num,g,H5⟩
  simp[intOf];omega
 have⟨ar,q0⟩:=zln M;have⟨bw,ow,e4,ak,X⟩:=J.out q M;subst e4;obtain⟨y0,y1,y2,y3⟩:=zx4 g ak X;rw[Eb] at y0;have Q:=zh λw' h c=>H.out w' q M h c;have H6:Hid (dG (zG ws q wt0)=true->∀i,i<q+1->dG (zG ws i wt0)=true):=zh λh i hi=>by
  by_cases e:i=q
  .rw[e];exact h
  exact r.out i (by omega)
 have az:=Ol (zG ws q wt0);clear r H X ak J v;generalize zG ws q wt0=x,dG (zG ws q wt0)=ok at*;obtain⟨lo,hi,wt,ea⟩:=x;simp only at y0 y1 y2 y3 az;rcases az with⟨a1,Y⟩|⟨a1,a2,Y⟩|⟨a1,a2,a3,Y⟩|⟨a1,a2,a3,a4,Y⟩|⟨a1,a2,a3,a4,a5,Y⟩|⟨a1,a2,a3,a4,a5,Y⟩
 all_goals
  have ag:=zh Y;clear Y;go_upto_region 17 with fail;clear y0 y1 y2 y3 v1;have XA:=zh (Box.new wr 133 #[zI zi lo,zI zi hi,zI zi wt,zW ea]);have ad:=zh (aa g (ab wr (zC #[zI zi lo,zI zi hi,zI zi wt,zW ea] 133)));generalize wr.alloc (zC #[zI zi lo,zI zi hi,zI zi wt,zW ea] 133)=w5,wr.heap.size=gq at*;obtain⟨z0,z1,z2⟩:=zc3 XA;go_wp2;first
   |(go_ret;exact Q _ ag ad)
   |(have H7:=zh (H6 ag)
     clear z0 z1 z2 XA H6 Q;go_roundw
     .exact⟨q+1,by omega,by go_num,ad,H7⟩
     simp[intOf];omega)
section
variable (n:Nat) {F:List Int} {k:Nat}
def k9 (n:Nat) (F:List Int):List Int:=(List.range n).map λi:Nat=>((F.count (i:Int):Nat):Int)
def RE:k9 n []=List.replicate n 0:=by
 unfold k9;apply Fz
 .simp
 intro i a b;simp
def kf (F:List Int):(k9 n F).length=n:=by simp[k9]
def oZ {n:Nat} (h:k<n):(k9 n F)[k]? =some ((F.count (k:Int):Nat):Int):=by simp[k9,Ed,EZ h]
def RD {n:Nat} (h:k<n):(k9 n F).set k (((F.count (k:Int):Nat):Int)+1)=k9 n (F++[(k:Int)]):=by
 apply List.ext_getElem?;intro i;by_cases hi:i<n
 .rw[oZ hi];by_cases e:k=i
  .subst e;rw[EL (by rw[kf];exact hi),List.count_append];simp
  rw[EP e,oZ hi,List.count_append];have:List.count (i:Int) [(k:Int)]=0:=by rw[List.count_eq_zero];simp only[DS,DZ,EC];omega
  rw[this,Eb]
 rw[EF (by rw[Er,kf];omega),EF (by rw[kf];omega)]
structure YQ (l:List Vr) (g:List (List Int)):Prop where
 some_:∀x∈g,x≠[]
 ran:∀i∈g.flatten,0<=i/\i<zN l
 cnt:∀i:Nat,i<zN l->g.flatten.count (i:Int)=if(zG l i vr0).m=0 then 0 else 1
def T9 (l:List Vr) (g:List (List Int)):YQ l g↔bD l g:=by
 constructor
 .intro h;have j:∀i∈g.flatten,bY l i=true:=λi hi=>by
   have⟨c,d⟩:=h.ran i hi;obtain⟨k,rfl⟩:∃k:Nat,i=k:=⟨i.toNat,by omega⟩;have b:=h.cnt k (by omega);have n:=List.count_pos_iff.2 hi;unfold bY;rw[DR c,DR d,Eh];by_cases e:(zG l k vr0).m=0
   .rw[DP e] at b;omega
   rw[DR (show(zG l k vr0).m≠0 from e)];rfl
  refine⟨h.some_,j, ?_,λi hi=> ?_⟩
  .rw[List.nodup_iff_count];intro a;by_cases f:a∈g.flatten
   .have⟨c,d⟩:=h.ran a f;obtain⟨k,rfl⟩:∃k:Nat,a=k:=⟨a.toNat,by omega⟩;rw[h.cnt k (by omega)];split<;>omega
   rw[List.count_eq_zero.2 f];omega
  unfold bY at hi;simp only[DW,Ef,Eh] at hi;have b:=h.cnt i (by omega);rw[DK hi.2.2] at b;exact List.count_pos_iff.1 (by omega)
 intro h;refine⟨h.some_,λi hi=> ?_,λi hi=> ?_⟩
 .obtain⟨k,rfl,hk⟩:=sL (h.ran i hi);omega
 have m:=(List.nodup_iff_count.1 h.nodup) (i:Int);by_cases e:(zG l i vr0).m=0
 .rw[DP e,List.count_eq_zero];intro hm;have:=h.ran _ hm;unfold bY at this;simp only[DW,Ef,Eh] at this;exact this.2.2 e
 rw[DK e];have hm:=h.all i (by unfold bY;rw[DR (by omega),DR (by omega),Eh,DR (show(zG l i vr0).m≠0 from e)];rfl);have:=List.count_pos_iff.2 hm;omega
end
section
variable {P:Prop} {w w':World}
def BoR (P:Prop) (w:World) (e:Ending) (w':World):Prop:=∃b:Bool,e=zE (zW b)/\(b=true↔P)/\zL w w'
def BoR.no (h:¬P) (b:zL w w'):BoR P w (zE (zW false)) w':=⟨false,rfl,⟨λa=>absurd a (by simp),λa=>absurd a h⟩,b⟩
def BoR.yes (h:P) (a:zL w w'):BoR P w (zE (zW true)) w':=⟨true,rfl,⟨λ_=>h,λ_=>rfl⟩,a⟩
theorem qj:∀{gs:List (List Int)},(∀x∈gs,zN x<=1000)->∀j,((gs.take j).flatten).length<=1000*j
 |[],_,j=>by simp
 |x::gs,h,0=>by simp
 |x::gs,h,j+1=>by rw[Ee,FP,DI];have b:=h x (by simp);have c:=qj (gs:=gs) (λy a=>h y (by simp[a])) j;omega
def Pr (w:World) (vars:List Vr) (gs:List (List Int)) (A1 A5:Option Addr) (c1 c5:Nat) (hv:Rs vrR w (zU A1 (zN vars) c1) vars ah) (hg:Rs ilR w (zU A5 (zN gs) c5) gs ah) (nv:zN vars<=1000) (ng:zN gs<=1000) (nr:∀x∈gs,zN x<=1000):Calls zz 28 #[zU A1 (zN vars) c1,zU A5 (zN gs) c5] w (BoR (bD vars gs) w):=by
 have G:=zh fun(w':World) h B=>BoR.no (P:=bD vars gs) (w:=w) (w':=w') h B;have am:=zh fun(w':World) h B=>BoR.yes (P:=bD vars gs) (w:=w) (w':=w') h B;have D:Hid (bD vars gs↔YQ vars gs):=zh (T9 vars gs).symm;have ag:=zh nr;have ae:=zh (qj nr);generalize bD vars gs=GO at*;have⟨n,hn⟩:=zv (zN vars);have⟨m,hm⟩:=zv (zN gs);have HN:=zh hn;have HM:=zh hm;have HG:Hid (∀k,k<m->∃(b o:Nat) (u:Value),A5=some ⟨b,o,none⟩/\b<w.heap.size/\w.cell? ⟨b,o+k,none⟩=some u/\IL w u (zG gs k [])):=zh λk hk=>by have⟨A',c',e1,_,ad⟩:=hg.ils;obtain⟨b,o,u,W,t,hu,Z, -⟩:=ad k (by omega);simp only[DQ] at e1;exact⟨b,o,u,by rw[e1.1,W],t,hu,Z⟩
 have HV:Hid (∀k,k<n->∃(b o:Nat),A1=some ⟨b,o,none⟩/\b<w.heap.size/\w.cell? ⟨b,o+k*4+2,none⟩=some (zI zi (zG vars k vr0).m)):=zh λk hk=>by have⟨aH,aI,e1,_,ad⟩:=hv.vrs;have⟨bv,ov,W,t,X⟩:=ad k (by omega);simp only[DQ] at e1;exact⟨bv,ov,by rw[e1.1,W],t,X 2 _ rfl⟩
 have MK:=fo n (by omega);rw[<-RE] at MK;rw[<-hn] at nv⊢;rw[<-hm] at ng⊢;clear hv hg hn hm nr;have aE:=MK w;clear MK;go_enter func28,ntmps28;go_upto_region 2 with fail;clear aE;have d:=zh (Box.new w 3 (iA (k9 n [])));have a:=zh (ab w (zC (iA (k9 n [])) 3));generalize w.alloc (zC (iA (k9 n [])) 3)=w2 at*;have⟨gr,Y⟩:=zv (w.heap.size);have aB:Hid (w.heap.size<=gr):=zh (by omega);rw[<-Y] at d;first|rw[<-Y]|skip
 clear Y;go_wp2;go_loopw [6,7,8] (λi _ _ wr=>∃j:Nat,j<=m/\i=zI zi j/\zL w wr/\Box wr gr (iA (k9 n (gs.take j).flatten)) 3/\Hid ((∀x∈gs.take j,x≠[])/\∀i∈(gs.take j).flatten,0<=i/\i<(n:Int))) (λi _ _ _=>m-(intOf i).toNat)
 .exact⟨0,DH _,rfl,a,d,zh ⟨λx h=>by simp at h,λi h=>by simp at h⟩⟩
 obtain⟨j,hj,rfl,B,T,y⟩:=hrel;clear a d w2;have⟨a,d⟩:=zk2 B T;clear B T;by_cases L:j<m
 .have⟨ar,j0⟩:=zln L;have z:j<zN gs:=by rw[<-HM.out];exact L
  have⟨b,o,u,W,t,hu,Z⟩:=HG.out j L;subst W;have S:=zh t;have HU:=zh hu;have aa:=getD_in [] z;have ai:=zh (ag (zG gs j []) aa);have af:=zh λq (h:q<(zG gs j []).length)=>mB z h;have V:Hid (zG gs j []=[]->¬GO):=zh λh hG=>(D.out.1 hG).some_ _ aa h;have aj:Hid ((gs.take (j+1)).flatten=(gs.take j).flatten++zG gs j []):=zh (by
   rw[Ep,DD z,List.flatten_append,DC,DD z];simp);have ak:Hid (gs.take (j+1)=gs.take j++[zG gs j []]):=zh (by
   rw[Ep,DD z,DC,DD z];rfl);have aK:=ae.out j;clear t hu aa;generalize zG gs j []=row at*;obtain⟨Ar,cr,rfl,aF,ax⟩:=Z;have aD:=zh ax;have⟨Q,N⟩:=zv (zN row);have K:=zh N;have aG:Q<=1000:=by rw[N];exact ai
  rw[<-N] at HU aF;have ay:=(a.out.cell S.out).trans HU;clear ax N;by_cases h0:Q=0
  .have g0:((Q:Int)==0)=true:=by simpa using(by omega:(Q:Int)=0)
   have H:=zh (V (Ec (by rw[<-K.out];exact h0)));clear h0 af V aj ak;go_wp2;go_ret;exact G _ H a
  have g0:((Q:Int)==0)=false:=by simpa using(by omega:¬(Q:Int)=0)
  have aC:Hid (row≠[]):=zh λh=>h0 (by rw[K.out,h];rfl);clear h0 V;go_wp2;clear ay;go_loopw [7,8] (λi _ wr=>∃q:Nat,q<=Q/\i=zI zi q/\zL w wr/\Box wr gr (iA (k9 n ((gs.take j).flatten++row.take q))) 3/\Hid (∀i∈(gs.take j).flatten++row.take q,0<=i/\i<(n:Int))) (λi _ _=>Q-(intOf i).toNat)
  .exact⟨0,DH _,rfl,a,by rw[El,EN];exact d,by rw[El,EN];exact zh y.out.2⟩
  obtain⟨q,hq,rfl,B,T,r⟩:=hrel;clear a d;have⟨a,d⟩:=zk2 B T;clear B T;have ay:=(a.out.cell S.out).trans HU;by_cases ac:q<Q;case neg=>
   have⟨av,au⟩:=zgq hq ac;have e6:row.take q=row:=by rw[au,K.out,Et]
   rw[e6,<-aj.out] at d r;have aA:Hid ((∀x∈gs.take (j+1),x≠[])/\∀i∈(gs.take (j+1)).flatten,0<=i/\i<(n:Int)):=zh ⟨λx hx=>by
    rw[ak.out] at hx;rcases EK.1 hx with hx|hx
    .exact y.out.1 x hx
    rw[ER.1 hx];exact aC,r.out⟩;clear e6 au r y;go_wp2;go_roundw
   .exact⟨j+1,by omega,by go_num,a,d,aA⟩
   simp[intOf];omega
  have⟨av,q0⟩:=zln ac;have M:q<zN row:=by rw[<-K.out];exact ac
  obtain⟨a1,rfl,aq,aw⟩:=aD.out (by omega);have y0:wr.cell? (a1.add q)=some (zI zi (zG row q 0)):=by rw[a.out.cell (by rw[bf];exact aq)];exact aw q M
  have⟨rest,I⟩:=af.out q M;have al:Hid (row.take (q+1)=row.take q++[zG row q 0]):=zh (by
   rw[Ep,DD M,DC,DD M];rfl);have E:Hid (¬(0<=zG row q 0/\zG row q 0<(n:Int))->¬GO):=zh λh hG=>by
   have:=(D.out.1 hG).ran (zG row q 0) (by rw[I];simp);rw[<-HN.out] at this;exact h this
  have J:Hid (0<=zG row q 0/\zG row q 0<(n:Int)->∀i∈(gs.take j).flatten++row.take (q+1),0<=i/\i<(n:Int)):=zh λh1 i hi=>by
   rw[al.out,<-Eg] at hi;rcases EK.1 hi with hi|hi
   .exact r.out i hi
   rw[ER.1 hi];exact h1
  have an:((gs.take j).flatten++row.take q).length<=1001000:=by rw[DI,D3];omega
  clear I r aq aw;generalize zG row q 0=v at*;generalize hF:(gs.take j).flatten++row.take q=F at*;have HF:=zh hF;clear hF;by_cases aL:v<0
  .have H:=zh (E (by omega));clear E J;go_wp2;go_ret;exact G _ H a
  by_cases aM:v≥(n:Int)
  .have H:=zh (E (by omega));clear E J;go_wp2;go_ret;exact G _ H a
  obtain⟨k,rfl⟩:∃k:Nat,v=k:=⟨v.toNat,by omega⟩;have c:k<n:=by omega
  have kn:(k:Int)<(n:Int):=by omega
  have k0:=zn0 k;have az:=zh (J ⟨k0,kn⟩);have z0:=d.out.A k _ (eH (l:=k9 n F) (k:=k) (by rw[kf];exact c));rw[DC,oZ c,EQ] at z0;have aJ:F.count (k:Int)<=1001000:=D2 (List.count_le_length) an;have h5:=d.out.set_ k (zI zi (((F.count (k:Int):Nat):Int)+1));rw[iP,RD c] at h5;have H5:=zh h5;have z1:=d.out.frozen k;have z2:=d.out.lt;clear E J h5 an;generalize F.count (k:Int)=R at*;go_wp2;go_roundw
  .have e5:(gs.take j).flatten++row.take (q+1)=F++[(k:Int)]:=by rw[al.out,<-Eg,HF.out]
   refine⟨q+1,by omega,by go_num,a.out.setCell (p:=⟨gr,k,none⟩) aB _, ?_,az⟩;rw[e5];exact H5
  simp[intOf];omega
 have ar:=zge L;have e7:gs.take j=gs:=En (by rw[<-HM.out];omega);rw[e7] at d y;clear e7 HG ae ag;go_wp2;go_loopw [9,10] (λi _ wr=>∃k:Nat,k<=n/\i=zI zi k/\zL w wr/\Box wr gr (iA (k9 n gs.flatten)) 3/\Hid (∀i:Nat,i<k->gs.flatten.count (i:Int)=if(zG vars i vr0).m=0 then 0 else 1)) (λi _ _=>n-(intOf i).toNat)
 .exact⟨0,DH _,rfl,a,d,zh λi h=>by omega⟩
 obtain⟨k,hk,rfl,B,T,s⟩:=hrel;clear a d;have⟨a,d⟩:=zk2 B T;clear B T;by_cases c:k<n;case neg=>
  have kn:=zge c;have HR:Hid GO:=zh (D.out.2 ⟨y.out.1,by rw[<-HN.out];exact y.out.2,λi hi=>s.out i (by rw[<-HN.out] at hi;omega)⟩);clear s D HV;go_wp2;go_ret;exact am _ HR a
 have⟨kn,k0⟩:=zln c;have⟨bv,ov,W,ao,ap⟩:=HV.out k c;subst W;have v2:=(a.out.cell ao).trans ap;have z0:=d.out.A k _ (eH (l:=k9 n gs.flatten) (k:=k) (by rw[kf];exact c));rw[DC,oZ c,EQ] at z0;have g:Hid (¬(gs.flatten.count (k:Int)=if(zG vars k vr0).m=0 then 0 else 1)->¬GO):=zh λh hG=>h ((D.out.1 hG).cnt k (by rw[<-HN.out];exact c));have f:Hid ((gs.flatten.count (k:Int)=if(zG vars k vr0).m=0 then 0 else 1)->∀i:Nat,i<k+1->gs.flatten.count (i:Int)=if(zG vars i vr0).m=0 then 0 else 1):=zh λh i hi=>by
  by_cases e:i=k
  .rw[e];exact h
  exact s.out i (by omega)
 clear s ap ao HV;generalize gs.flatten.count (k:Int)=R,(zG vars k vr0).m=md at*;by_cases A:md=0
 .rw[DP A] at g f;have g1:(md==0)=true:=by simpa using A
  clear A;by_cases C:R=0
  .have g2:((R:Int) !=0)=false:=by simpa using C
   have U:=zh (f C);clear g f C;go_wp2;go_roundw
   .exact⟨k+1,by omega,by go_num,a,d,U⟩
   simp[intOf];omega
  have g2:((R:Int) !=0)=true:=by simpa using C
  have U:=zh (g C);clear g f C;go_wp2;go_ret;exact G _ U a
 rw[DK A] at g f;have g1:(md==0)=false:=by simpa using A
 clear A;by_cases C:R=1
 .have g2:((R:Int) !=1)=false:=by rw[C];rfl
  have U:=zh (f C);clear g f C;go_wp2;go_roundw
  .exact⟨k+1,by omega,by go_num,a,d,U⟩
  simp[intOf];omega
 have g2:((R:Int) !=1)=true:=by simpa using(by omega:¬(R:Int)=1)
 have U:=zh (g C);clear g f C;go_wp2;go_ret;exact G _ U a
end
def Xo (p:Pb):PV p↔cB p.v/\cy p.v p.h/\cy p.v p.s/\cH p.v p.d/\bD p.v p.g:=by
 constructor
 .intro h;exact⟨h.v,λe a=>h.exprs e (EU _ a),λe a=>h.exprs e (Fd _ a),h.d,h.g⟩
 rintro⟨h1,h2,h3,h4,h5⟩;exact⟨h1,λe a=>(EK.1 a).elim (h2 e) (h3 e),h4,h5⟩
def yI {w:World} {p:Pb} {A1 A2 A3 A4 A5:Option Addr} {c1 c2 c3 c4 c5:Nat} (l:PIn w p A1 A2 A3 A4 A5 c1 c2 c3 c4 c5) (g:PSm p):Calls zz 6 #[pbV p A1 A2 A3 A4 A5 c1 c2 c3 c4 c5] w (ErR (PV p) w):=by
 have u:=zh λW h=>uf W p.v A1 c1 (l.v.Q h) g.nz;have v:=zh λW h=>yJ W _ p.v g.nv (l.v.Q h) p.h A2 c2 (l.h.Q h) g.nh λe c=>g.ex e (EU _ c);have x:=zh λW h=>yJ W _ p.v g.nv (l.v.Q h) p.s A3 c3 (l.s.Q h) g.ns λe c=>g.ex e (Fd _ c);have y:=zh λW h=>Tw W p.v p.d A1 A4 c1 c4 (l.v.Q h) (l.d.Q h) g.nv g.nd g.nw;have z:=zh λW h=>Pr W p.v p.g A1 A5 c1 c5 (l.v.Q h) (l.g.Q h) g.nv g.ng g.nr;have o:=zh (Xo p);have j:=zh fun(w':World) (er:Int) h c d=>ErR.no (P:=PV p) (w:=w) (w':=w') (er:=er) h c d;have q:=zh fun(w':World) h d=>ErR.yes (P:=PV p) (w:=w) (w':=w') h d;generalize PV p=P,cB p.v=Q1,cy p.v p.h=Q2,cy p.v p.s=Q3,cH p.v p.d=Q4,bD p.v p.g=Q5 at*;unfold pbV;generalize zN p.v=n1,zN p.h=n2,zN p.s=n3,zN p.d=n4,zN p.g=n5 at*;clear l g;go_enter func6,ntmps6;go_upto_region 1 with fail;generalize s:w.alloc _=w1 at*;have⟨f,i⟩:=zB1 s;clear s;have x0:=za i 0;go_wp2;refine(u _ f).mono ?_;rintro r w2 ⟨er,rfl,a,d⟩;clear x0;replace⟨i,f⟩:=zb2 i f d;clear d;by_cases c:er=0;case neg=>
  have t:(er !=0)=true:=by simpa using c
  have k:=zh λw' d=>j w' er (λm=>c (a.2 (by have h:=o.1 m;exact h.1))) c d;clear c a;go_wp2;go_ret;exact k _ f
 have A:=zh (a.1 c);subst c;clear a;obtain⟨x0,E⟩:=zc2 i;go_wp2;refine(v _ f).mono ?_;rintro r I ⟨er,rfl,a,d⟩;clear x0 E;replace⟨i,f⟩:=zb2 i f d;clear d;by_cases c:er=0;case neg=>
  have t:(er !=0)=true:=by simpa using c
  have k:=zh λw' d=>j w' er (λm=>c (a.2 (by have h:=o.1 m;exact h.2.1))) c d;clear c a;go_wp2;go_ret;exact k _ f
 have B:=zh (a.1 c);subst c;clear a;obtain⟨x0,F⟩:=zd2 i 0 2;go_wp2;refine(x _ f).mono ?_;rintro r J ⟨er,rfl,a,d⟩;clear x0 F;replace⟨i,f⟩:=zb2 i f d;clear d;by_cases c:er=0;case neg=>
  have t:(er !=0)=true:=by simpa using c
  have k:=zh λw' d=>j w' er (λm=>c (a.2 (by have h:=o.1 m;exact h.2.2.1))) c d;clear c a;go_wp2;go_ret;exact k _ f
 have C:=zh (a.1 c);subst c;clear a;obtain⟨x0,G⟩:=zd2 i 0 3;go_wp2;refine(y _ f).mono ?_;rintro r K ⟨er,rfl,a,d⟩;clear x0 G;replace⟨i,f⟩:=zb2 i f d;clear d;by_cases c:er=0;case neg=>
  have t:(er !=0)=true:=by simpa using c
  have k:=zh λw' d=>j w' er (λm=>c (a.2 (by have h:=o.1 m;exact h.2.2.2.1))) c d;clear c a;go_wp2;go_ret;exact k _ f
 have D:=zh (a.1 c);subst c;clear a;obtain⟨x0,H⟩:=zd2 i 0 4;go_wp2;refine(z _ f).mono ?_;rintro r L ⟨b,rfl,n,d⟩;clear x0 H;replace f:=zb f d;clear d;cases b
 .have k:=zh λw' d=>j w' 1 (λm=>by have h:=(o.1 m).2.2.2.2;have:=n.2 h;cases this) (by decide) d;clear n;go_wp2;go_ret;exact k _ f
 have k:=zh λw' d=>q w' (o.2 ⟨A,B,C,D,n.1 rfl⟩) d;clear n;go_wp2;go_ret;exact k _ f
section
variable {w:World} {p:Pb} {A1 A2 A3 A4 A5:Option Addr} {c1 c2 c3 c4 c5:Nat}
noncomputable def iD (p:Pb):List Int:=open Classical in if PV p then js p.v (zN p.v) else[]
def Pq (hp:PIn w p A1 A2 A3 A4 A5 c1 c2 c3 c4 c5) (hs:PSm p):Calls zz 58 #[pbV p A1 A2 A3 A4 A5 c1 c2 c3 c4 c5] w (IlR w (iD p)):=by
 have⟨i0,hi,E,G,H⟩:=EX jZ;have⟨HI,Y,Z,aa⟩:=zk4 hi E G H;have CV:=zh fun(W:World) (h:zL w W)=>yI (hp.Q h) hs;have⟨T,r⟩:=zv (js p.v);have S:Hid (PV p->iD p=T (zN p.v)):=zh λh=>by unfold iD;rw[DP h,r]
 have Q:Hid (¬PV p->iD p=[]):=zh λh=>by unfold iD;rw[DK h]
 have U:Hid (T 0=[]):=zh (by rw[r];rfl);have X:Hid (∀k:Nat,k<zN p.v->T (k+1)=if(zG p.v k vr0).m≠0 then T k++[(k:Int)] else T k):=zh λk hk=>by
  rw[r];show(if bY p.v (k:Nat)=true then _ else _)=_;rw[np hk];by_cases h:(zG p.v k vr0).m≠0
  .rw[DR h,DP rfl,DP h]
  rw[DJ h,DK (by simp),DK h]
 have V:Hid (∀k,(T k).length<=k):=zh λk=>by rw[r];exact jR _ k
 have HV:Hid (∀k,k<zN p.v->∃(b o:Nat),A1=some ⟨b,o,none⟩/\b<w.heap.size/\w.cell? ⟨b,o+k*4+2,none⟩=some (zI zi (zG p.v k vr0).m)):=zh λk hk=>by have⟨am,an,e1,_,ag⟩:=hp.v.vrs;have⟨bv,ov,e2,ad,n⟩:=ag k (by omega);simp only[DQ] at e1;exact⟨bv,ov,by rw[e1.1,e2],ad,n 2 _ rfl⟩
 have ao:=hs.nv;generalize iD p=R,PV p=P at*;unfold pbV at CV⊢;generalize zN p.v=n1,zN p.h=n2,zN p.s=n3,zN p.d=n4,zN p.g=n5 at*;clear hp hs r hi E G H;go_enter func58,ntmps58;go_upto_region 1 with fail;generalize I:w.alloc _=w1 at*;have⟨c,f⟩:=zB1 I;clear I;obtain⟨ah,ai,aj,ak,al⟩:=zc5 f;go_wp2;refine(CV w1 c).mono ?_;rintro e w2 ⟨er,rfl,g,s⟩;replace⟨f,c⟩:=zb2 f c s;clear s;by_cases y:er=0;case neg=>
  have f1:(er !=0)=true:=by simpa using y
  have M:Hid (R=[]):=zh (Q λh=>y (g.2 h));clear y g;go_wp2;go_ret;exact⟨_,rfl,by rw[M];exact⟨none,0,rfl,DE _,λh=>absurd h (by simp)⟩,c⟩
 have M:=zh (S (g.1 y));subst y;clear g;go_wp2;have L:=zh (OG.nil eG w2 w.heap.size 0 3 (by decide) (DH _));go_loopw [3,4] (λsl i wr=>∃k:Nat,k<=n1/\i=zI zi k/\OG eG wr w.heap.size 0 3 sl (T k)/\Box wr w.heap.size #[zU A1 n1 c1,zU A2 n2 c2,zU A3 n3 c3,zU A4 n4 c4,zU A5 n5 c5] 27/\zL w wr) (λ_ i _=>n1-(intOf i).toNat)
 .exact⟨0,DH _,rfl,by rw[U];exact L,f,c⟩
 obtain⟨k,hk,rfl,D,hx,s⟩:=hrel;have⟨c,f,a⟩:=zk3 s hx D;clear s hx D;obtain⟨A6,c6,rfl⟩:=a.slice;have x0:=za f 0;by_cases j:k<n1
 .have⟨A,k0⟩:=zln j;have q:=zh (X k j);have af:=V k;have⟨bv,ov,e2,u,v⟩:=HV k j;subst e2;have v2:=(c.cell u).trans v;generalize(zG p.v k vr0).m=md at*;have⟨tl,m⟩:=zvh ((T k).length);rw[<-m] at a af⊢;clear v u;by_cases hm:md=0
  .have f2:(md !=0)=false:=by simpa using hm
   have l:Hid (T (k+1)=T k):=zh (by rw[q,DK (by simpa using hm)]);clear hm;go_wp2;go_roundw
   .exact⟨k+1,by omega,by go_num,by rw[l];exact a,f,c⟩
   simp[intOf];omega
  have f2:(md !=0)=true:=by simpa using hm
  have l:Hid (T (k+1)=T k++[(k:Int)]):=zh (by rw[q,DP hm]);clear hm;have t:=ab wr (zC #[zI zi k] 3);have N:=zh (Rs.one (φ:=eG) (w:=wr) (F:=Ty (wr.alloc (zC #[zI zi k] 3)) 0 eG.ts) (x:=(k:Int)) (us:=[zI zi k]) rfl 3);replace⟨a,f,c⟩:=zb3 a f c t;clear t;go_wp2_with(at_builtin;refine aD (φ:=eG) (T:=3) (B:=w.heap.size) (C:=0) (xs:=T k) (ys:=[(k:Int)]) rfl _ _ 32 rfl i0 (zI zi 0) 8 underlying32 HI Y Z aa rfl rfl a (zU (some ⟨wr.heap.size,0,none⟩) 1 1) rfl N ?c1 ?c2 ?c3 ?_);case c1=>simp only[DF,D8];rw[<-m];omega
  case c2=>simp only[DF,D8];rw[<-m];unfold maxLen;omega
  case c3=>exact c.size
  intro v' w7 d z;have ac:=zh (a.boxKept z f (zQ (by decide)));have J:=zh (a.belowG z c c.size (DE _));rw[<-l] at d;obtain⟨A7,c7,rfl⟩:=d.slice;go_wp2;go_roundw
  .exact⟨k+1,by omega,by go_num,d,ac,J⟩
  simp[intOf];omega
 have⟨A,ae⟩:=zgq hk j;rw[ae] at a⊢;have K:=zh a.il;generalize(T n1).length=tl at*;go_wp2;go_ret;exact⟨_,rfl,by rw[M];exact K,c⟩
end
noncomputable def mQ (p:Pb):Int:=open Classical in if PV p then bX p.v else 0
def PC (p:Pb):(iD p).length<=zN p.v:=by
 unfold iD;split
 .exact jR _ _
 exact DH _
def PB (p:Pb):∀i∈iD p,∃j:Nat,i=j/\j<zN p.v/\bY p.v i=true:=λi h=>by
 unfold iD at h;split at h
 .exact jQ _ _ i h
 cases h
def Py (p:Pb):∀i∈iD p,1<=(zG p.v i.toNat vr0).w/\(zG p.v i.toNat vr0).w<=8:=λi h=>by
 unfold iD at h;split at h
 .rename_i hv;obtain⟨j,rfl,a, -⟩:=jQ _ _ i h;rw[Eh];exact(hv.v.ok _ (getD_in vr0 a)).2.1
 cases h
def Pz (p:Pb):hJ p.v (iD p)=mQ p:=by
 unfold iD mQ;split
 .rw[su _ _ (DE _),Et]
 rfl
section
variable {w:World} {p:Pb} {A1 A2 A3 A4 A5:Option Addr} {c1 c2 c3 c4 c5:Nat}
theorem VY (hp:PIn w p A1 A2 A3 A4 A5 c1 c2 c3 c4 c5) (hs:PSm p):Calls zz 24 #[pbV p A1 A2 A3 A4 A5 c1 c2 c3 c4 c5] w (zR (zI zi (mQ p)) w):=by
 have M:=zh fun(W:World) (h:zL w W)=>Pq (hp.Q h) hs;unfold IlR at M;have HV:=zh hp.v;have r:=zh (PB p);have ab:=PC p;have Z:=hs.nv;have u:Hid (∀i∈iD p,1<=(zG p.v i.toNat vr0).w/\(zG p.v i.toNat vr0).w<=8):=zh (Py p);have HW:Hid (hJ p.v ((iD p).take (iD p).length)=mQ p):=zh (by rw[Et];exact Pz p);have g:Hid (∀k,k<(iD p).length->hJ p.v ((iD p).take (k+1))=hJ p.v ((iD p).take k)+(zG p.v ((iD p).getD k 0).toNat vr0).w):=zh λk hk=>by unfold hJ;exact nM hk
 generalize iD p=R at*;have⟨n1,l⟩:=zv (zN p.v);have HN:=zh l;have⟨m,hm⟩:=zv (zN R);have Q:=zh hm;have ae:m<=1000:=by omega
 rw[<-hm] at HW g;have t:Hid (∀k,k<=m->0<=hJ p.v (R.take k)/\hJ p.v (R.take k)<=8*k):=zh λk=>by
  induction k with
  |zero=>intro _;exact⟨Int.le_refl _,Int.le_refl _⟩
  |succ k ih=>intro hk;have h1:=ih (by omega);rw[g.out k (by omega)];have h2:=u.out _ (getD_in 0 (show k<zN R by rw[<-Q.out];omega));omega
 unfold pbV at M⊢;rw[<-l] at M HV Z r⊢;generalize zN p.h=n2,zN p.s=n3,zN p.d=n4,zN p.g=n5,mQ p=B at*;clear hp hs l hm ab u;go_enter func24,ntmps24;go_upto_region 1 with fail;generalize L:w.alloc _=w1 at*;have⟨N,P⟩:=zB1 L;clear L;obtain⟨x,y,z,A,C⟩:=zc5 P;go_wp2;refine(M w1 N).mono ?_;rintro e w2 ⟨v,rfl,Y,hb⟩;replace⟨P,N⟩:=zb2 P N hb;clear hb;obtain⟨A6,c6,rfl,X,E⟩:=Y;have f:=zh E;rw[<-Q.out] at f X⊢;clear E;have T:Hid (hJ p.v (R.take 0)=0):=zh rfl;clear x y z A C;go_wp2;go_loopw [4,5] (λs i wr=>∃k:Nat,k<=m/\i=zI zi k/\s=zI zi (hJ p.v (R.take k))/\zL w2 wr) (λ_ i _=>m-(intOf i).toNat)
 .exact⟨0,DH _,rfl,by rw[T.out],DM _ _⟩
 obtain⟨k,hk,rfl,rfl,a⟩:=hrel;have o:=zh a;have q:=zh (aa N a);have U:=zh (P.out.Q a);clear a;by_cases d:k<m
 .have⟨I,k0⟩:=zln d;obtain⟨a1,rfl,H,J⟩:=f.out (by omega);have y0:=(o.out.cell (by rw[bf];exact H)).trans (J k d);have F:=getD_in 0 (show k<zN R by rw[<-Q.out];exact d);obtain⟨j,e,hj, -⟩:=r.out _ F;have b:=zh (g k d);have V:=t.out k hk;have a:=t.out (k+1) (by omega);rw[b.out] at a;have⟨ac,ad,e1,_,K⟩:=HV.out.vrs;have⟨bv,ov,e2,D,c⟩:=K j (by rw[<-HN.out];exact hj);obtain rfl:=zas e1 e2;have v1:=(q.out.cell D).trans (c 1 _ rfl);rw[e] at y0 b a;rw[Eh] at b a;generalize zG p.v j vr0=vr at*;obtain⟨nm,wd,md,vl⟩:=vr;simp only at v1 b a;have j0:=zn0 j;have j1:(j:Int)<(n1:Int):=by omega
  have⟨s1,n⟩:=zv (hJ p.v (R.take (k+1)));have S:=zh n;rw[<-n] at b;generalize hJ p.v (R.take k)=s0 at*;have q1:s0+wd<=9000:=by omega
  have q2:0<=s0+wd:=by omega
  clear n e1 e2 K D c H J F e V a;have x0:=za U 0;go_upto_region 6 with fail;go_quiet (fail);go_wp2;go_roundw
  .exact⟨k+1,by omega,by go_num,by rw[<-S.out,b.out]<;>go_num,aE o _⟩
  simp[intOf];omega
 have⟨I,G⟩:=zgq hk d;rw[G,HW.out];clear f G;go_wp2;go_ret;exact⟨rfl,q⟩
end
def vX.sm {p:Pb} (h:vX p) (c:PbZ p):PSm p where
 nv:=by have:=h.nv;omega
 nz:=λv j=>(c.vs v j).1
 nh:=by have:=h.nh;omega
 ns:=by have:=h.ns;omega
 ex:=λe a=>by
  have d:ExZ e/\aY 30 e<=60/\bG 26 e=true:=by
   rcases EK.1 a with a|a
   .exact⟨c.hs e a,h.hd e a⟩
   exact⟨c.ss e a,h.sf e a⟩
  obtain⟨g,k,i⟩:=d;have f:Deep 30 e:=(qC i).le (by decide);exact⟨g,f,by have:=rE 30 e (by omega) f;unfold KE;omega⟩
 nd:=by have:=h.nd;omega
 nw:=λx b=>by have:=h.dw x b;omega
 ng:=by have:=h.ng;omega
 nr:=λx b=>by have:=h.gr x b;omega
structure PRd (d:Nat) (w:World) (p:Pb) (A1 A2 A3 A4 A5:Option Addr) (c1 c2 c3 c4 c5:Nat):Prop where
 v:Rs vrR w (zU A1 (zN p.v) c1) p.v ah
 h:Rs (exR d) w (zU A2 (zN p.h) c2) p.h ah
 s:Rs (exR d) w (zU A3 (zN p.s) c3) p.s ah
 d:Rs dsR w (zU A4 (zN p.d) c4) p.d ah
 g:Rs ilR w (zU A5 (zN p.g) c5) p.g ah
section
variable {d:Nat} {w:World} {p:Pb} {A1 A2 A3 A4 A5:Option Addr} {c1 c2 c3 c4 c5:Nat}
def PRd.Q {w':World} (h:PRd d w p A1 A2 A3 A4 A5 c1 c2 c3 c4 c5) (a:zL w w'):PRd d w' p A1 A2 A3 A4 A5 c1 c2 c3 c4 c5:=⟨h.v.Q a,h.h.Q a,h.s.Q a,h.d.Q a,h.g.Q a⟩
instance {w':World}:Zm w w' (PRd d w p A1 A2 A3 A4 A5 c1 c2 c3 c4 c5) (PRd d w' p A1 A2 A3 A4 A5 c1 c2 c3 c4 c5):=⟨λhb h=>PRd.Q h hb⟩
def PRd.pin (h:PRd d w p A1 A2 A3 A4 A5 c1 c2 c3 c4 c5) (b:PSm p):PIn w p A1 A2 A3 A4 A5 c1 c2 c3 c4 c5:=⟨h.v,h.h.deep λe a=>(b.ex e (EU _ a)).deep,h.s.deep λe a=>(b.ex e (Fd _ a)).deep,h.d,h.g⟩
def YR (w:World) (p:Pb) (n:Int) (e:Ending) (w':World):Prop:=(∃b,e=zE (zW b)/\(b=true->vX p/\mQ p<=n))/\zL w w'
def Yg (o:PRd d w p A1 A2 A3 A4 A5 c1 c2 c3 c4 c5) (v:PbZ p) (n:Int):Calls zz 5 #[pbV p A1 A2 A3 A4 A5 c1 c2 c3 c4 c5,zI zi n] w (YR w p n):=by
 have s:=zh fun(W:World) (h:zL w W)=>TP (A1:=A1) (c1:=c1) (o.Q h).h (o.Q h).s (o.Q h).d (o.Q h).g v;have q:=zh fun(z:vX p) (W:World) (h:zL w W)=>VY ((o.Q h).pin (z.sm v)) (z.sm v);unfold pbV at s q⊢;generalize zN p.v=n1,zN p.h=n2,zN p.s=n3,zN p.d=n4,zN p.g=n5 at*;go_enter func5,ntmps5;go_upto_region 1 with fail;generalize x:w.alloc _=w1 at*;have⟨a,c⟩:=zB1 x;obtain⟨f,g,i,j,k⟩:=zc5 c;go_wp2;refine(s w1 a).mono ?_;rintro e w2 ⟨⟨b,rfl,m⟩,t⟩;replace⟨c,a⟩:=zb2 c a t;cases b
 .clear q s m;go_wp2;go_ret;exact⟨⟨false,rfl,λh=>by cases h⟩,a⟩
 have y:=zh (m rfl);have r:=zh (q y);obtain⟨f,g,i,j,k⟩:=zc5 c;go_wp2;refine zK (r w2 a) λC t=> ?_;replace⟨c,a⟩:=zb2 c a t;generalize l:mQ p=bp at*;by_cases u:bp<=n
 .have B:=zh u;have A:=zh l;go_wp2;go_ret;exact⟨⟨_,rfl,λ_=>⟨y,by rw[A];exact B⟩⟩,a⟩
 clear l;go_wp2;go_ret;exact⟨⟨_,rfl,λh=>absurd h (by simp;omega)⟩,a⟩
end
end
end Go.Proofs.YtdahpdnhkflnnaaGreatDoor
