/-
  Contracts and laws for the law TopChoices, part 10 of 14; made small by a program of mine out of longer texts.
-/
import Derived.Test.YtdahpdnhkflnnaaGreatDoorZ09
namespace Go.Proofs.YtdahpdnhkflnnaaGreatDoor
set_option linter.unusedVariables false
set_option linter.unusedSimpArgs false
set_option linter.defProp false
set_option maxRecDepth 100000
set_option maxHeartbeats 64000000
section
open Go.RowKit Go.Maps
def gT (w:World) (g d:Nat) (l:List Ex) (k a:Nat):Prop:=∃uss:List (List Value),uss.length=l.length/\(∀us∈uss,us.length=4)/\uss.flatten.length=l.length*4/\(∃Z:Array Value,Box w g (uss.flatten.toArray++Z) 79)/\∀j x,l[j]? =some x->(exR d).R w (uss.getD j []) x (λb=>b≠g/\(j<k->a<=b))
theorem gT.below {w w':World} {g d k B0:Nat} {l:List Ex} (h:gT w g d l k B0) (a:Below w.heap.size w w'):gT w' g d l k B0:=by
 obtain⟨uss,e,f,i,⟨Z,m⟩,n⟩:=h;exact⟨uss,e,f,i,⟨Z,m.below a⟩,λj x o=>(exR d).same (n j x o) a.size λb c _=>a.block b c⟩
instance {w w':World} {g d k B0:Nat} {l:List Ex}:Zm w w' (gT w g d l k B0) (gT w' g d l k B0):=⟨λhb h=>gT.below h hb⟩
theorem gT.at_ {w:World} {g d k q:Nat} {l:List Ex} (h:gT w g d l k q) {j:Nat} (y:j<l.length):∃f A c,d=f+1/\(∀i u,(exL (.slice A (l.getD j ex0).args.length c) (l.getD j ex0))[i]? =some u->w.cell? ⟨g,j*4+i,none⟩=some u)/\Rs (exR f) w (.slice A (l.getD j ex0).args.length c) (l.getD j ex0).args ah:=by
 obtain⟨uss,z,r,s,⟨Z,t⟩,x⟩:=h;have e:l[j]? =some (l.getD j ex0):=by rw[yj,yp y];rfl
 have n:=x j _ e
 cases d with
 |zero=>exact n.elim
 |succ f=>
  obtain⟨v,a,o,hi⟩:=n;obtain⟨A,c,rfl, -⟩:=o.slice;refine⟨f,A,c,rfl,λi u p=> ?_,o.mono λ_ _=>trivial⟩;have m:i<4:=by have:=(yJ.1 p).1;simpa [exL] using this
  rw[t.cell,Array.getElem?_append_left (by rw[AI,s];omega),y8,eb r j i m,yp (show j<uss.length by omega)];rw[yj,yp (show j<uss.length by omega)] at a;have b:uss[j]=exL (.slice A (l.getD j ex0).args.length c) (l.getD j ex0):=a;show uss[j][i]? =some u;rw[b];exact p
theorem gT.lt {w:World} {g d k a:Nat} {l:List Ex} (h:gT w g d l k a):g<w.heap.size:=by
 obtain⟨uss,c,e,f,⟨Z,b⟩,i⟩:=h;exact b.lt
theorem gT.froz {w:World} {g d k a:Nat} {l:List Ex} (h:gT w g d l k a) (i:Nat):w.frozen? ⟨g,i,none⟩=false:=by
 obtain⟨uss,c,e,f,⟨Z,b⟩,j⟩:=h;exact b.frozen i
theorem nB:∀(a:List Value) (o:Nat) (cs:Array Value),(dt cs o a).size=cs.size
 |[],_,_=>rfl
 |v::r,o,cs=>by unfold dt;rw[nB r];simp
theorem nC:∀(a:List Value) (o:Nat) (cs Z:Array Value),o+a.length<=cs.size->dt (cs++Z) o a=dt cs o a++Z
 |[],_,_,_,_=>rfl
 |v::r,o,cs,Z,h=>by
  unfold dt;simp only[yr] at h;rw[Array.setIfInBounds_append_left (by omega),nC r (o+1) _ Z (by simp;omega)]
theorem sE {uss:List (List Value)} {us':List Value} {k:Nat} (c:∀us∈uss,us.length=4) (b:us'.length=4) (hk:k<uss.length):(uss.set k us').flatten.toArray=dt uss.flatten.toArray (k*4) us':=by
 have d:∀us∈uss.set k us',us.length=4:=λus m=>by
  rcases List.mem_or_eq_of_mem_set m with h|h
  ·exact c us h
  ·rw[h];exact b
 have l:uss.flatten.length=uss.length*4:=iN c;refine Array.ext_getElem? λi=> ?_;have e:i/4*4+i%4=i:=by omega
 have f:=eb d (i/4) (i%4) (by omega);have g:=eb c (i/4) (i%4) (by omega);rw[e] at f g;rw[y8,f]
 by_cases hi:i/4=k
 ·have j:i=k*4+i%4:=by omega
  have a:=lK us' (k*4) uss.flatten.toArray (i%4) (by rw[b,AI,l];omega) (by rw[b];omega);rw[<-j] at a;rw[a,hi,AR hk]
  rfl
 ·rw[i7 us' (k*4) _ i (by rw[b];omega),y8,g,AU (BQ hi)]
theorem gT.store {w:World} {g d k m B1:Nat} {l:List Ex} (h:gT w g d l k m) (hk:k<l.length) {us':List Value} (o:us'.length=4) (z:(exR d).R w us' (l.getD k ex0) (λb=>B1<=b)) (C:m<=B1) (D:g<B1):gT (w.setCells g (k*4) us') g d l (k+1) m:=by
 obtain⟨uss,u,q,r,⟨Z,v⟩,y⟩:=h;have i:=cQ g us' (k*4) w;have s:=sE q o (show k<uss.length by omega);have a:∀b,b<w.heap.size->b≠g->(w.setCells g (k*4) us').heap[b]? =w.heap[b]? :=λb c p=>i.block b c λe=>p (Az e);refine⟨uss.set k us',by rw[As,u],λus A=> ?_, ?_, ?_,λj x t=> ?_⟩
 ·rcases List.mem_or_eq_of_mem_set A with h|h
  ·exact q us h
  ·rw[h];exact o
 ·have:=AA Array.size s;rw[nB,AI,AI,r] at this;exact this
 ·refine⟨Z, ?_⟩;rw[s,<-nC us' (k*4) _ Z (by rw[o,AI,r];omega)];exact fM _ _ _ _ v
 ·by_cases e:j=k
  ·subst e;have B:x=l.getD j ex0:=by rw[yj,t];rfl
   rw[yj,AR (by omega),B]
   exact(exR d).mono ((exR d).same z i.size λb c f=>a b c (by have n:B1<=b:=f;omega)) λb f=>by
    have n:B1<=b:=f;exact⟨by omega,λ_=>by omega⟩
  ·rw[yj,AU (BQ e),<-yj];exact(exR d).mono ((exR d).same (y j x t) i.size λb c f=>a b c f.1) λb f=>⟨f.1,λh=>f.2 (by omega)⟩
theorem gT.rs {w:World} {g d e c:Nat} {l:List Ex} (h:gT w g d l l.length e) (p:l.length<=c):Rs (exR d) w (.slice (some ⟨g,0,none⟩) l.length c) l (λb=>e<=b):=by
 obtain⟨uss,r,k,m,⟨Z,f⟩,n⟩:=h;refine⟨_,_,rfl,p,λ_=>⟨g,0,rfl,f.lt,λj x a=>⟨uss.getD j [],λi hi=> ?_,(exR d).mono (n j x a) λb o=>o.2 (yJ.1 a).1⟩⟩⟩;have q:=(yJ.1 a).1;rw[ei] at hi⊢;rw[f.cell,yH,Array.getElem?_append_left (by rw[AI,m];omega),y8,eb k j i hi,yp (show j<uss.length by omega),yj,yp (show j<uss.length by omega)]
 rfl
theorem xb {k:Nat} {e y:Ex} (h:y∈e.args):(aq k y).length<=(aq (k+1) e).length:=by
 have e1:aq (k+1) e=e::e.args.flatMap (aq k):=rfl;rw[e1,yr];have:(aq k y).length<=(e.args.flatMap (aq k)).length:=(List.sublist_flatten_of_mem (AP.2 ⟨y,h,rfl⟩):(aq k y).Sublist (e.args.map (aq k)).flatten).length_le;omega
theorem pre_args {w:World} {F:Nat->Prop} {d:Nat} {v:Value} {e:Ex} (h:Rs (exR d) w v e.args F):e.args.length<=(aq (d+1) e).length:=by
 cases d with
 |zero=>
  obtain⟨A,c, -, -,h⟩:=h
  by_cases g:0<e.args.length
  ·obtain⟨b,o, -, -,h⟩:=h g;obtain⟨us, -,h⟩:=h 0 _ (yp g);exact h.elim
  ·omega
 |succ d=>
  have e1:aq (d+1+1) e=e::e.args.flatMap (aq (d+1)):=rfl;rw[e1,yr]
  have f:∀l:List Ex,l.length<=(l.flatMap (aq (d+1))).length:=by
   intro l
   induction l with
   |nil=>simp
   |cons a r ih=>
    rw[AS,yu,yr]
    have:1<=(aq (d+1) a).length:=by
     have i:aq (d+1) a=a::a.args.flatMap (aq d):=rfl;rw[i,yr];omega
    omega
  have:=f e.args;omega
def CpR (w:World) (d:Nat) (x:Ex) (e:Ending) (w':World):Prop:=∃A c,e= .returned (exV x (.slice A x.args.length c))/\Rs (exR d) w' (.slice A x.args.length c) x.args (λb=>w.heap.size<=b)/\In (λb=>w.heap.size<=b) (.slice A x.args.length c) x.args.length/\Below w.heap.size w w'
theorem sfCopied (d:Nat):∀(w:World) (x:Ex) (A:Option Addr) (c:Nat),Rs (exR d) w (.slice A x.args.length c) x.args ah->(aq (d+1) x).length<=1000→
  Calls Tryz.prog 35 #[exV x (.slice A x.args.length c)] w (CpR w d x):=by
 induction d using Nat.strongRecOn with
 |ind d ih=>
 intro w x A c hr D;have aL:x.args.length<=1000:=yK (pre_args hr) D;obtain⟨ZC,T⟩:=zv (madeCells exZV.cells (x.args.length*4));have af:Hid (ZC.size=x.args.length*4):=zh (by rw[T,pu]);have MK:=fY x.args.length (by omega);rw[<-T] at MK;obtain⟨R,HR⟩:=zk2 MK hr;obtain⟨i0,ak,_,al,_⟩:=Bb om;have L:(Tryz.prog.info? 79).map (·.size)=some 4:=by rw[ak];simp[al]
 have Q:=zh fun(W:World) (g:Nat) (ZC:Array Value) (ty:TypeId) (hx:Box W g ZC 79) (hz:ZC.size=x.args.length*4) (f:Below w.heap.size w W)=>vX (P:=Tryz.prog) (dT:=23) (sT:=23) (ty:=ty) Tryz.underlying23 L hx hz ((mO (qE d) hr).below f);obtain⟨ad,aD⟩:=zk2 ih D;unfold exV;unfold CpR;unfold exV;obtain⟨n,hn⟩:=zv (x.args.length);have J:=zh hn;rw[<-hn] at af R HR Q aL⊢;clear hr D ih T MK ak al L hn;generalize x.op=xo at*;generalize x.n=xn at*;generalize x.name=xm at*;go_enter Tryz.func35,Tryz.ntmps35;go_upto_region 1 with fail;generalize E:w.alloc _=zw1 at*;generalize aA:zw1.alloc _=w1 at*;obtain⟨s,r,u⟩:=zB2 E aA;clear E aA;have aH:=R.out w1;clear R;have B:=za r 3 rfl;go_upto_region 2 with fail;clear B;clear aH;have aN:=s.out.size;have aQ:=u.out.lt;generalize E:w1.alloc _=w3 at*;obtain⟨I,XG⟩:=zA1 E;clear E;replace r:=zb r I;replace u:=zb u I;replace s:=zb s I;clear I;generalize w1.heap.size=g at*;obtain⟨w4,M,t,uss,av,ai,aw,U⟩:=Q.out w3 g ZC 3 XG af s;have B:=za r 3 rfl;go_upto_region 3 with(at_builtin;refine jj rfl _ _ 23 23 rfl _ _ rfl rfl M ?_);clear B;clear M Q XG
 have a:Hid (gT w4 g d x.args 0 (w.heap.size+2)):=zh ⟨uss,by rw[av,J.out],λus hu=>by
   obtain⟨j,hj,rfl⟩:=yS.1 hu;have aP:=J.out;have:=(exR d).len (U j _ (yp (by omega)));rw[yj,yp hj,ei] at this
   exact this,by rw[ai,J.out],⟨#[],by rw[Array.append_empty];exact aw⟩,λj y hj=>(exR d).mono ((exR d).same (U j y hj) t.size λb q f=>t.block b q λe=>by
    have e2:b=g:=Az e;have H:b<w.heap.size:=f
    omega) λb f=>⟨by have H:b<w.heap.size:=f;omega,λh=>by omega⟩⟩
 replace r:=zh (bK r t (by omega));replace u:=zh (bK u t (by omega));replace s:=zh (bf s s.out.size aN t);clear t av ai aw U;go_wp2_with fail
 go_loopw [15] (λi wr=>∃k:Nat,k<=n/\i= .int .i64 k/\gT wr g d x.args k (w.heap.size+2)/\Box wr w.heap.size #[.int .i64 xo,.int .i64 xn,.string xm,.slice A n c] 79/\Box wr (w.heap.size+1) #[.int .i64 0,.int .i64 0,.string ⟨#[]⟩,.slice none 0 0] 79/\Below w.heap.size w wr) (λi _=>n-(intOf i).toNat)
 case atStart=>exact⟨0,yt _,rfl,a,r,u,s⟩
 case round=>
  obtain⟨k,hk,rfl,ag,ax,ay,f⟩:=hrel;clear a r u s;obtain⟨a,r,u,s⟩:=zk4 ag ax ay f;clear ag ax ay f
  by_cases q:k<n
  ·have ao:(k:Int)<n:=by omega
   have k0:(0:Int)<=(k:Int):=by omega
   obtain⟨d',Ac,cc,aM,l,ar⟩:=a.out.at_ (j:=k) (by rw[<-J.out];exact q);subst aM;have v0:=l 0 _ rfl;have v1:=l 1 _ rfl;have v2:=l 2 _ rfl;have v3:=l 3 _ rfl;rw[yU] at v0;have F:=zh (ad d' (by omega) wr (x.args.getD k ex0) Ac cc ar ?hpre)
   case hpre=>exact yK (xb (getD_in ex0 (by rw[<-J.out];exact q))) aD
   unfold exV at F;unfold CpR at F;unfold exV at F;generalize az:x.args.getD k ex0=y at*;have aG:=zh az;clear az;obtain⟨yo,Z⟩:=zv (y.op);obtain⟨yn,Y⟩:=zv (y.n);obtain⟨ym,X⟩:=zv (y.name);obtain⟨yl,V⟩:=zv (y.args.length);have HY:=zh (And.intro Z (And.intro Y (And.intro X V)));rw[<-Z] at F v0;rw[<-Y] at F v1;rw[<-X] at F v2;rw[<-V] at F v3;clear Z Y X V l ar;go_wp2_with fail;refine F.out.mono ?_;rintro e w5 ⟨An,cn,rfl,ap,am,f⟩;have aR:=(f.cell a.out.lt).trans v0;have aS:=(f.cell a.out.lt).trans v1;have aT:=(f.cell a.out.lt).trans v2;have aU:=(f.cell a.out.lt).trans v3;have aj:=yE a.out.lt f.size;have z0:=(a.out.below f).froz (k*4);have z1:=(a.out.below f).froz (k*4+1);have z2:=(a.out.below f).froz (k*4+2);have z3:=(a.out.below f).froz (k*4+3);obtain⟨z,aE,aC⟩:=zk3 f ap am;clear v0 v1 v2 v3 F f ap am;go_wp2_with fail;have aO:g<wr.heap.size:=a.out.lt
   have au:=(a.out.below z).store (k:=k) (by rw[<-J.out];exact q) (us':=[.int .i64 yo,.int .i64 yn,.string ym,.slice An yl cn]) rfl (B1:=wr.heap.size) (by
    rw[aG.out]
    exact⟨.slice An yl cn,by unfold exL;rw[<-HY.out.1,<-HY.out.2.1,<-HY.out.2.2.1],aE,by rw[<-HY.out.2.2.2];exact aC⟩) (by have:=u.out.lt;omega) aO
   have o:=cQ g [.int .i64 yo,.int .i64 yn,.string ym,.slice An yl cn] (k*4) w5;have aI:=zh (bK (r.out.below z) o (by omega));have aJ:=zh (bK (u.out.below z) o (by omega));have aB:=zh (bf (ab s z) (ab s z).size (by omega) o);have aF:=zh au;clear au o;go_roundw
   ·exact⟨k+1,by omega,by go_num,aF,aI,aJ,aB⟩
   ·simp[intOf];omega
  ·have ao:¬(k:Int)<n:=by omega
   have an:k=n:=by omega
   have S:Hid (Rs (exR d) wr (.slice (some ⟨g,0,none⟩) n n) x.args (λb=>w.heap.size+2<=b)):=zh (by
    have h:=a.out;rw[an,J.out] at h;rw[J.out]
    exact h.rs (yq _))
   clear ad a an;have z3:=r.out.frozen 3;have x3:=za r 3 rfl;have xl:=r.out.lt;have aj:=S.out.form;go_upto_region 9 with fail;have G:=zh (r.out.set_ 3 (.slice (some ⟨g,0,none⟩) n n));have m:=zh (u.out.setNe (p:=⟨w.heap.size,3,none⟩) (by show w.heap.size≠w.heap.size+1;omega) (.slice (some ⟨g,0,none⟩) n n));have aa:=zh (s.out.setCell (p:=⟨w.heap.size,3,none⟩) (yq _) (.slice (some ⟨g,0,none⟩) n n));have N:(wr.setCell ⟨w.heap.size,3,none⟩ (.slice (some ⟨g,0,none⟩) n n)).heap.size=wr.heap.size:=by simp[World.setCell]
   have ae:=zh (iz (w':=wr.setCell ⟨w.heap.size,3,none⟩ (.slice (some ⟨g,0,none⟩) n n)) S (Nat.le_of_eq N.symm) (λ_ b _ f=>Aj wr ⟨w.heap.size,3,none⟩ _ b (by
    have e:g=b:=Az f;show b≠w.heap.size
    omega)) (λb _ f=>Aj wr ⟨w.heap.size,3,none⟩ _ b (by
    have H:w.heap.size+2<=b:=f;show b≠w.heap.size
    omega)))
   clear x3 z3 xl r u s S aj N;generalize wr.setCell ⟨w.heap.size,3,none⟩ (.slice (some ⟨g,0,none⟩) n n)=w6 at*;have y0:w6.cell? ⟨w.heap.size,0,none⟩=some (.int .i64 xo):=G.out.at_ 0 _ rfl;have y1:w6.cell? ⟨w.heap.size,1,none⟩=some (.int .i64 xn):=G.out.at_ 1 _ rfl;have y2:w6.cell? ⟨w.heap.size,2,none⟩=some (.string xm):=G.out.at_ 2 _ rfl;have y3:w6.cell? ⟨w.heap.size,3,none⟩=some (.slice (some ⟨g,0,none⟩) n n):=G.out.at_ 3 _ rfl;have r0:=za m 0 rfl;have r1:=za m 1 rfl;have r2:=za m 2 rfl;have r3:=za m 3 rfl;have q0:=m.out.frozen 0;have q1:=m.out.frozen 1;have q2:=m.out.frozen 2;have q3:=m.out.frozen 3;have ql:=m.out.lt;go_wp2_with fail;clear y0 y1 y2 y3 r0 r1 r2 r3 q0 q1 q2 q3 ql;have C:=zh (fM [.int .i64 xo,.int .i64 xn,.string xm,.slice (some ⟨g,0,none⟩) n n] 0 w6 _ m);have o:=cQ (w.heap.size+1) [.int .i64 xo,.int .i64 xn,.string xm,.slice (some ⟨g,0,none⟩) n n] 0 w6
   have K:=zh (iz ae o.size (λ_ b q f=>o.block b q (λe=>by
    have e1:g=b:=Az f;have e2:b=w.heap.size+1:=Az e
    omega)) (λb q f=>o.block b q (λe=>by
    have H:w.heap.size+2<=b:=f;have e2:b=w.heap.size+1:=Az e
    omega)))
   have ac:=zh (bf aa aa.out.size (Nat.le_succ _) o);change Hid (Box ((((w6.setCell ⟨w.heap.size+1,0,none⟩ (.int .i64 xo)).setCell ⟨w.heap.size+1,1,none⟩ (.int .i64 xn)).setCell ⟨w.heap.size+1,2,none⟩ (.string xm)).setCell ⟨w.heap.size+1,3,none⟩ (.slice (some ⟨g,0,none⟩) n n)) (w.heap.size+1) #[.int .i64 xo,.int .i64 xn,.string xm,.slice (some ⟨g,0,none⟩) n n] 79) at C;change Hid (Rs (exR d) ((((w6.setCell ⟨w.heap.size+1,0,none⟩ (.int .i64 xo)).setCell ⟨w.heap.size+1,1,none⟩ (.int .i64 xn)).setCell ⟨w.heap.size+1,2,none⟩ (.string xm)).setCell ⟨w.heap.size+1,3,none⟩ (.slice (some ⟨g,0,none⟩) n n)) _ _ _) at K;change Hid (Below w.heap.size w ((((w6.setCell ⟨w.heap.size+1,0,none⟩ (.int .i64 xo)).setCell ⟨w.heap.size+1,1,none⟩ (.int .i64 xn)).setCell ⟨w.heap.size+1,2,none⟩ (.string xm)).setCell ⟨w.heap.size+1,3,none⟩ (.slice (some ⟨g,0,none⟩) n n))) at ac;generalize(((w6.setCell ⟨w.heap.size+1,0,none⟩ (.int .i64 xo)).setCell ⟨w.heap.size+1,1,none⟩ (.int .i64 xn)).setCell ⟨w.heap.size+1,2,none⟩ (.string xm)).setCell ⟨w.heap.size+1,3,none⟩ (.slice (some ⟨g,0,none⟩) n n)=w7 at*;have c0:w7.cell? ⟨w.heap.size+1,0,none⟩=some (.int .i64 xo):=C.out.at_ 0 _ rfl;have aK:w7.cell? ⟨w.heap.size+1,1,none⟩=some (.int .i64 xn):=C.out.at_ 1 _ rfl;have c2:w7.cell? ⟨w.heap.size+1,2,none⟩=some (.string xm):=C.out.at_ 2 _ rfl;have c3:w7.cell? ⟨w.heap.size+1,3,none⟩=some (.slice (some ⟨g,0,none⟩) n n):=C.out.at_ 3 _ rfl;refine yQ (v:= .agg #[.int .i64 xo,.int .i64 xn,.string xm,.slice (some ⟨g,0,none⟩) n n]) (by simp[results,Tryz.results35,go_sem,c0,aK,c2,c3]) rfl ?_;exact⟨some ⟨g,0,none⟩,n,rfl,K.out.mono λb f=>by(have H:w.heap.size+2<=b:=f);show w.heap.size<=b;omega,λ_ b f=>by(have e1:g=b:=Az f);show w.heap.size<=b;omega,ac⟩
def ms (p:Pb):List Nat:=(kpT p p.soft.length).2.reverse
def aA (p:Pb):List Ex:=p.hard++(ms p).map λi=>p.soft.getD i ex0
theorem si (p:Pb):(∀i∈ms p,i<p.soft.length)/\(ms p).length<=p.soft.length:=by
 obtain⟨-, -,a,b⟩:=tR p p.soft.length (yq _);unfold ms;exact⟨λi hi=>a i (List.mem_reverse.1 hi),by rw[List.length_reverse];exact b⟩
theorem dL (p:Pb):(∀e∈aA p,e∈p.hard++p.soft)/\(aA p).length<=p.hard.length+p.soft.length:=by
 obtain⟨b,c⟩:=si p;unfold aA;refine⟨λe a=> ?_,by rw[yu,yD];omega⟩;rcases AQ.1 a with a|a
 ·exact AZ _ a
 ·obtain⟨i,hi,rfl⟩:=AP.1 a;exact Bn _ (getD_in ex0 (b i hi))
theorem erow_of {w:World} {B d:Nat} {v:Value} {l:List Ex} (h:OG (exB d) w B B 79 v l):l.length=0\/∃g c,v= .slice (some ⟨g,0,none⟩) l.length c/\l.length<=c/\B<=g/\gT w g d l 0 0:=by
 obtain⟨-,uss,o,m,p⟩:=h;rw[mz] at m;rcases m.2 with⟨-,q⟩|⟨g,cap,cur,rfl,r,a,k,t,u,n⟩
 ·exact .inl q
 ·have f:uss.flatten.length=l.length*4:=m.1;refine .inr ⟨g,cap,rfl,k,r,uss,o,λus y=> ?_,f,⟨(cur.toList.drop (l.length*4)).toArray, ?_⟩,λj x i=>(exR d).mono (p j x i) λb s=>⟨by have:=nZ s;omega,λh=>by omega⟩⟩
  ·obtain⟨j,i,rfl⟩:=yS.1 y;have:=(exR d).len (p j _ (yp (by omega)));rw[yj,yp i,ei] at this;exact this
  ·have e:uss.flatten.toArray++(cur.toList.drop (l.length*4)).toArray=cur:=by
    rw[<-n];apply Array.toList_inj.1;simp
   rw[e];exact a
def RlR (w:World) (p:Pb) (e:Ending) (w':World):Prop:=Below w.heap.size w w'/\((cF p p.hard=false/\e= .returned (.tuple #[.slice none 0 0,.int .i64 11]))\/(cF p p.hard=true/\∃v,e= .returned (.tuple #[v,.int .i64 0])/\Rs (exR KE) w' v (aA p) ah))
theorem qh {w:World} {p:Pb} {A1 A2 A3 A4 A5:Option Addr} {c1 c2 c3 c4 c5:Nat} (hp:PIn w p A1 A2 A3 A4 A5 c1 c2 c3 c4 c5) (hs:PSm p) (hk:KW w) (hm:cM w) (hv:PV p) (hd:p.dists=[]) (aX:aD (az p.vars)<=18) (hn:p.hard.length+p.soft.length<=1000):
  Calls Tryz.prog 9 #[pbV p A1 A2 A3 A4 A5 c1 c2 c3 c4 c5] w (RlR w p):=by
 have CK:=zh fun(W:World) (l:Below w.heap.size w W)=>sfKept (hp.below l) hs (hk.below l) (hm.below l) hv hd aX hn;have CN:=zh fun(W:World) (l:Below w.heap.size w W)=>rt (hp.below l) hs (evC (hp.below l) hs (hk.below l) (hm.below l) hv) hd;have aR:=zh hp.s;have an:=zh (si p);have bs:Hid (∀e∈p.hard++p.soft,(aq KE e).length<=1000/\Deep KE e):=zh λe he=>⟨(hs.ex e he).len,(hs.ex e he).deep⟩;have aP:=zh (dL p);obtain⟨i0,hi,bl,bm,bn⟩:=Bb om;obtain⟨HI,bA,bB,bC⟩:=zk4 hi bl bm bn;have aQ:Hid (aA p=p.hard++(ms p).map λi=>p.soft.getD i ex0):=zh rfl;have aJ:Hid ((kpT p p.soft.length).2.reverse=ms p):=zh rfl;unfold RlR;unfold KpR at CK;rw[aJ.out] at CK;unfold NdR at CN;unfold pbV at CK CN⊢;obtain⟨n2,au⟩:=zv (p.hard.length);obtain⟨n3,av⟩:=zv (p.soft.length);obtain⟨aK,aL⟩:=zk2 au av;rw[<-au] at CK CN⊢;rw[<-av] at CK CN aR an⊢;have bO:n2+n3<=1000:=by omega
 generalize p.vars.length=n1 at*;generalize p.dists.length=n4 at*;generalize p.groups.length=n5 at*;clear hp hs hk hm hv hd aX hn au av hi bl bm bn aJ;generalize ms p=K at*;obtain⟨m,hm⟩:=zv (K.length);have HM:=zh hm;have bN:m<=n3:=by rw[hm];exact an.out.2
 clear hm;obtain⟨X,hX⟩:=zv (λk=>p.hard++(K.take k).map λi=>p.soft.getD i ex0:Nat->List Ex);have aS:Hid (X 0=p.hard):=zh (by rw[hX];simp)
 have aV:Hid (∀k,k<m->X (k+1)=X k++[p.soft.getD (K.getD k 0) ex0]):=zh λk hk=>by
  rw[hX];simp only;rw[fj (d:=0) (show k<K.length by rw[<-HM.out];exact hk),Bx,<-yZ];rfl
 have aT:Hid (∀k,(X k).length<=1000):=zh λk=>by
  rw[hX];simp only;have:=HM.out;rw[yu,yD,yM,<-aK.out];omega
 have aU:Hid (X m=aA p):=zh (by rw[hX,aQ.out];simp only;rw[Ai (by rw[<-HM.out];exact yq _)]);clear hX aQ;go_enter Tryz.func9,Tryz.ntmps9;go_upto_region 1 with fail;generalize bo:w.alloc _=w1 at*;obtain⟨z,t⟩:=zB1 bo;clear bo;have P:=za t 0 rfl;have Q:=za t 1 rfl;have E:=za t 2 rfl;have R:=za t 3 rfl;have S:=za t 4 rfl;go_wp2_with fail;refine(CK w1 z).mono ?_;rintro e w2 ⟨l,bI⟩;clear P Q E R S;replace t:=zb t l;replace z:=zb z l;clear l;rcases bI with⟨h1,rfl⟩|⟨h1,v,rfl,a4⟩
 ·have H1:=zh h1;clear h1;go_wp2_with fail;go_ret2;exact⟨z,.inl ⟨H1,by trivial⟩⟩
 obtain⟨H1,aH⟩:=zk2 h1 a4;obtain⟨Ak,ck,rfl, -, -⟩:=a4;rw[aF,<-HM.out] at aH⊢;clear h1;have P:=za t 0 rfl;have Q:=za t 1 rfl;have E:=za t 2 rfl;have R:=za t 3 rfl;have S:=za t 4 rfl;go_wp2_with fail;have ap:=zh z.out.size;refine(CN w2 z).mono ?_;rintro e w3 ⟨v,rfl,V,l⟩;have L:=zh l;clear P Q E R S;replace t:=zb t l;replace z:=zb z l;clear l;clear CK CN;have af:Hid (OG (exB KE) w3 w2.heap.size w2.heap.size 79 v (X 0)):=zh (by rw[aS.out];exact V);clear V;go_wp2_with fail
 go_loopw [6,22] (λov i wr=>∃k:Nat,k<=m/\i= .int .i64 k/\OG (exB KE) wr w2.heap.size w2.heap.size 79 ov (X k)/\Below w2.heap.size w2 wr/\Box wr w.heap.size #[.slice A1 n1 c1,.slice A2 n2 c2,.slice A3 n3 c3,.slice A4 n4 c4,.slice A5 n5 c5] 27/\Below w.heap.size w wr) (λ_ i _=>m-(intOf i).toNat)
 case atStart=>exact⟨0,yt _,rfl,af,L,t,z⟩
 case round=>
  obtain⟨k,hk,rfl,V,aY,hx,l⟩:=hrel;clear af L t z;obtain⟨I,L,t,z⟩:=zk4 V aY hx l;clear V aY hx l;obtain⟨Ao,co,rfl⟩:=I.out.slice
  by_cases ar:k<m
  ·have a8:(k:Int)<m:=by omega
   have k0:(0:Int)<=(k:Int):=by omega
   obtain⟨bk,ok,ek,aZ,yk⟩:∃b o,Ak=some ⟨b,o,none⟩/\b<w2.heap.size/\w2.cell? ⟨b,o+k,none⟩=some (.int .i64 (K.getD k 0:Nat)):=by
    rcases aH.out.form with⟨A,c,h1,h2⟩|⟨b,o,c,h1, -, -,a7,h2⟩
    ·have h3:=AA List.length h2;rw[aF] at h3;have h4:K.length=0:=h3;have:=HM.out;omega
    ·have h3:=h2 k (by rw[aF,<-HM.out];exact ar);rw[eO] at h3;simp only[yA] at h1;exact⟨b,o,h1.1,a7,h3⟩
   subst ek;have y0:=(L.out.cell aZ).trans yk;have bH:K.getD k 0<n3:=an.out.1 _ (getD_in 0 (by rw[<-HM.out];exact ar));have bx:=zh (aV k ar);obtain⟨A',c',e1,_,bh⟩:=(jv (ld aR z)).exs;obtain⟨b,o,u,d',e2,bE,a0,f,bd,ai⟩:=bh (K.getD k 0) (by rw[<-aL.out];exact bH)
   have e3:A3=some ⟨b,o,none⟩:=by
    simp only[yA] at e1;rw[e1.1,e2]
   subst e3;obtain rfl:d'=29:=by unfold KE at a0;omega
   have be:=zh (bd.mono λb l=>nZ l);have aI:Hid (In (λb=>b<w.heap.size) u (p.soft.getD (K.getD k 0) ex0).args.length):=zh λh b l=>nZ (ai h b l);have v0:=f 0 _ rfl;have v1:=f 1 _ rfl;have v2:=f 2 _ rfl;have v3:=f 3 _ rfl;rw[yU] at v0;generalize p.soft.getD (K.getD k 0) ex0=a at*;obtain⟨Ap,cp,rfl, -⟩:=be.out.slice;have bi:=aT.out k;obtain⟨ol,ad⟩:=zv ((X k).length);have aM:=zh ad;have bK:ol<=1000:=by rw[ad];exact bi
   rw[<-ad] at I⊢;generalize K.getD k 0=j at*;have j0:(0:Int)<=(j:Int):=by omega
   have j1:(j:Int)<(n3:Int):=by omega
   clear e1 e2 bh f bd ai bE a0 aZ yk ad bi;have E:=za t 2 rfl;go_upto_region 8 with fail;clear y0;have U:=ac wr (.cells #[.int .i64 a.op,.int .i64 a.n,.string a.name,.slice Ap a.args.length cp] 79);have aN:=zh (Rs.one (φ:=exB KE) (w:=wr) (F:=λb=>b<w.heap.size) (x:=a) (us:=[.int .i64 a.op,.int .i64 a.n,.string a.name,.slice Ap a.args.length cp]) ⟨_,rfl,be.out,aI⟩ 79);have D:=zh (I.out.below U);have aW:=zh (t.out.below U);have al:=zh (ab z U);have J:=zh (ab L U);have aO:=zh (aN.out.mono (G:=Ty (wr.alloc (.cells #[.int .i64 a.op,.int .i64 a.n,.string a.name,.slice Ap a.args.length cp] 79)) w2.heap.size (exB KE).ts) λb l=> .inl (yE l ap));clear U aN;go_wp2_with(at_builtin;refine aC (φ:=exB KE) (T:=79) (B:=w2.heap.size) (C:=w2.heap.size) (xs:=X k) (ys:=[a]) rfl _ _ 23 rfl i0 (.agg #[.int .i64 0,.int .i64 0,.string ⟨#[]⟩,.slice none 0 0]) 56 Tryz.underlying23 HI bA (by rw[mz];exact bB) bC (by rw[mz];rfl) rfl D (.slice (some ⟨wr.heap.size,0,none⟩) 1 1) rfl aO ?c1 ?c2 ?c3 ?_)
   case c1=>simp only[yr,yR];rw[<-aM.out];omega
   case c2=>simp only[yr,yR];rw[<-aM.out];unfold maxLen;omega
   case c3=>exact J.out.size
   intro v' w7 ak aa;have bD:=zh (D.out.boxKept aa.out aW (.inl (by decide)));have bq:=zh (D.out.belowG aa.out al al.out.size ap);have aG:=zh (D.out.belowG aa.out J J.out.size (yq _));have ag:Hid (OG (exB KE) w7 w2.heap.size w2.heap.size 79 v' (X (k+1))):=zh (by rw[bx.out];exact ak.out);obtain⟨A7,c7,rfl⟩:=ag.out.slice;clear ak;generalize(X (k+1)).length=ol2 at*;clear aa D aO aW al J v0 v1 v2 v3 E;go_wp2_with fail;go_roundw
   ·exact⟨k+1,by omega,by go_num,ag,aG,bD,bq⟩
   ·simp[intOf];omega
  ·have a8:¬(k:Int)<m:=by omega
   have a6:k=m:=by omega
   rw[a6] at I⊢;have Z:=zh (erow_of I);have ao:=zh I.out.any;rw[aU.out] at Z ao⊢;obtain⟨rl,ae⟩:=zv ((aA p).length);have N:=zh ae
   have bL:rl<=1000:=by
    rw[ae];have e1:=aP.out.2;have e2:=aK.out;have e3:=aL.out;omega
   rw[<-ae] at Z ao⊢;clear a6 ae I aV aT aS aU;have H:Hid (rl=0\/∃g c,Value.slice Ao rl co= .slice (some ⟨g,0,none⟩) rl c/\rl<=c/\w2.heap.size<=g/\gT wr g KE (aA p) 0 0):=zh Z;have bt:Hid (rl=0->(aA p)=[]):=zh λh=>yV (by rw[<-N.out];exact h);clear Z ao;go_wp2_with fail
   go_loopw [37] (λi wq=>∃q:Nat,q<=rl/\i= .int .i64 q/\Hid (rl=0\/∃g c,Value.slice Ao rl co= .slice (some ⟨g,0,none⟩) rl c/\rl<=c/\w2.heap.size<=g/\gT wq g KE (aA p) q 0)/\Below w.heap.size w wq) (λi _=>rl-(intOf i).toNat)
   case atStart=>exact⟨0,yt _,rfl,H,z⟩
   case round=>
    obtain⟨q,hq,rfl,a2,l⟩:=hrel;clear H z t L;have H:=zh a2.out;have z:=zh l;clear a2 l
    by_cases aw:q<rl
    ·have ba:(q:Int)<rl:=by omega
     have q0:(0:Int)<=(q:Int):=by omega
     obtain⟨g,cg,he,bF,bG,M⟩:=H.out.resolve_left (by omega);simp only[yA,true_and] at he;obtain⟨rfl,rfl⟩:=he;have r:=zh M;obtain⟨d',Ac,cc,a1,f,bc⟩:=r.out.at_ (j:=q) (by rw[<-N.out];exact aw);obtain rfl:d'=29:=by unfold KE at a1;omega
     have v0:=f 0 _ rfl;have v1:=f 1 _ rfl;have v2:=f 2 _ rfl;have v3:=f 3 _ rfl;rw[yU] at v0;have aj:=aP.out.1 _ (getD_in ex0 (show q<(aA p).length by rw[<-N.out];exact aw));have Y:=zh (sfCopied 29 wr ((aA p).getD q ex0) Ac cc bc (bs _ aj).1);unfold exV at Y;unfold CpR at Y;unfold exV at Y;generalize bj:(aA p).getD q ex0=y at*;have bz:=zh bj;obtain⟨yo,aE⟩:=zv (y.op);obtain⟨yn,aB⟩:=zv (y.n);obtain⟨ym,ay⟩:=zv (y.name);obtain⟨yl,ax⟩:=zv (y.args.length);have HY:=zh (And.intro aE (And.intro aB (And.intro ay ax)));rw[<-aE] at Y v0;rw[<-aB] at Y v1;rw[<-ay] at Y v2;rw[<-ax] at Y v3;have bJ:=r.out.lt;clear bj aE aB ay ax f bc M a1 aj H;go_wp2_with fail;refine Y.out.mono ?_;rintro e w5 ⟨An,cn,rfl,bb,a5,l⟩;have bP:=(l.cell r.out.lt).trans v0;have bQ:=(l.cell r.out.lt).trans v1;have bR:=(l.cell r.out.lt).trans v2;have bS:=(l.cell r.out.lt).trans v3;have bM:=yE r.out.lt l.size;have z0:=(r.out.below l).froz (q*4);have z1:=(r.out.below l).froz (q*4+1);have z2:=(r.out.below l).froz (q*4+2);have z3:=(r.out.below l).froz (q*4+3);obtain⟨am,bu,br⟩:=zk3 l bb a5;clear v0 v1 v2 v3 Y l bb a5;go_wp2_with fail
     have bg:=(r.out.below am).store (k:=q) (by rw[<-N.out];exact aw) (us':=[.int .i64 yo,.int .i64 yn,.string ym,.slice An yl cn]) rfl (B1:=wr.heap.size) (by
      rw[bz.out]
      exact⟨.slice An yl cn,by unfold exL;rw[<-HY.out.1,<-HY.out.2.1,<-HY.out.2.2.1],bu,by rw[<-HY.out.2.2.2];exact br⟩) (yt _) r.out.lt
     have a3:=cQ g [.int .i64 yo,.int .i64 yn,.string ym,.slice An yl cn] (q*4) w5;have bp:=zh (bf (ab z am) (ab z am).size (by have:=ap.out;omega) a3);have bw:Hid (rl=0\/∃g' c,Value.slice (some ⟨g,0,none⟩) rl co= .slice (some ⟨g',0,none⟩) rl c/\rl<=c/\w2.heap.size<=g'/\gT _ g' KE (aA p) (q+1) 0):=zh (.inr ⟨g,co,rfl,bF,bG,bg⟩);clear bg a3;go_roundw
     ·exact⟨q+1,by omega,by go_num,bw,bp⟩
     ·simp[intOf];omega
    ·have ba:¬(q:Int)<rl:=by omega
     have a9:q=rl:=by omega
     have bv:Hid (Rs (exR KE) wr (.slice Ao rl co) (aA p) ah):=zh (by
      rcases H.out with h0|⟨g,c,he,hc, -,M⟩
      ·rw[bt.out h0,h0];exact⟨Ao,co,rfl,yt _,λh=>absurd h (by simp)⟩
      ·rw[he];rw[a9] at M;have e:=N.out;rw[e] at M hc⊢
       exact(M.rs hc).mono λ_ _=>trivial)
     clear H a9;go_wp2_with fail;go_ret2;exact⟨z,.inr ⟨H1,_,by trivial,bv⟩⟩
def lvN (d:List Nd) (n f:Nat):Nat:=min (d.getD f nd0).lv n
theorem qM (w:World) (A:Option Addr) (c n f:Nat) (d:List Nd) (hd:Rs ndR w (.slice A d.length c) d ah) (hf:f<d.length) (hl:∀x∈d,x.lv<=1000) (hn:n<=1000):
  Calls Tryz.prog 84 #[.agg #[.slice A d.length c,.int .i64 (n:Nat)],.int .i64 (f:Nat)] w λe w'=>e= .returned (.int .i64 (lvN d n f:Nat))/\Below w.heap.size w w':=by
 obtain⟨A',c',e1,hcc,h⟩:=hd;obtain⟨b,o,rfl,hb,hcl⟩:=h (by omega);simp only[yA,true_and] at e1;obtain⟨rfl,rfl⟩:=e1;obtain⟨us,hus,hR⟩:=hcl f _ (yp hf);have hR2:us=ndL d[f]:=hR;subst hR2;have hk:ndR.k=3:=rfl;rw[hk] at hus;have e:d.getD f nd0=d[f]:=by rw[yj,yp hf];rfl
 have y0:w.cell? ⟨b,o+f*3,none⟩=some (.int .i64 (d[f].lv:Nat)):=hus 0 (by decide);have hlv:=hl d[f] (AJ hf);unfold lvN;rw[e];generalize d[f].lv=lv at*;have f0:(0:Int)<=(f:Int):=by omega
 have f1:(f:Int)<(d.length:Int):=by omega
 clear hcl h hus hR e hl;clear hf;generalize d.length=N at*;go_enter Tryz.func84,Tryz.ntmps84;go_upto_region 1 with fail;generalize zq0:w.alloc _=w1 at*;obtain⟨HB,XC⟩:=zB1 zq0;clear zq0;have hbl:=yE hb HB.out.size;have y1:=(HB.out.cell hb).trans y0;have yL:=λq:Lat w1=>(q.h.cell hbl).trans y1;clear y0 y1;go_wp2_with fail;refine aL 9 (by kernel_rfl) (by kernel_rfl) ?_;have x0:=XC.out.lat 0 _ rfl;have x1:=XC.out.lat 1 _ rfl;have f2:¬((f:Int)<0):=by omega
 simp only[yX,y9,y6,yO]
 repeat(go_big_quiet_step (fail))
 refine yN ?_;intro w8 hb8;clear x0 x1 yL;replace XC:=zb XC hb8;replace HB:=zb HB hb8;clear hb8;go_wp2_with fail;go_ret;refine⟨?_,HB⟩;have e:((min lv n:Nat):Int)=min (lv:Int) (n:Int):=by omega
 rw[e]
 rfl
theorem run_max3 {P:Program} (w:World) (ts:Array TypeId) (t:TypeId) (k c d:IntKind) (x y z:Int):(Builtin.max_ ts t #[.int k x,.int c y,.int d z]).run P w= .ok (.int k (max (max x y) z)) w:=by
 have e:∀a b:Int,(if b>a then b else a)=max a b:=λa b=>by
  rw[Int.max_def]
  split<;>split<;>omega
 simp[Builtin.max_,Builtin.max2,e]
theorem ctFits1 (w:World) (d a b:Nat) (lo hi:Int):
  Calls Tryz.prog 82 #[.agg #[.int .i64 (d:Nat),.int .i64 (a:Nat),.int .i64 (b:Nat)],.int .i64 lo,.int .i64 hi] w λe w'=>e= .returned (.int .i64 (max (d:Int) (max lo hi)))/\Below w.heap.size w w':=by
 go_enter Tryz.func82,Tryz.ntmps82;go_upto_region 1 with fail;generalize c:w.alloc _=w1 at*;obtain⟨f,g⟩:=zB1 c;clear c;have x0:=za g 0 rfl;have hm:=@run_max3 Tryz.prog;go_wp2_with fail;go_ret;exact⟨rfl,f⟩
end
section
def j8 (d:List Nd) (e0 e1:Int) (comb:Nd->Int->Int->Int):Nat->Nat->Int
 |0,_=>0
 |k+1,i=>if i=0 then e0 else if i=1 then e1 else comb (d.getD i nd0) (j8 d e0 e1 comb k (d.getD i nd0).lo) (j8 d e0 e1 comb k (d.getD i nd0).hi)
def oz (d:List Nd) (e0 e1:Int) (comb:Nd->Int->Int->Int) (i:Nat):Int:=j8 d e0 e1 comb (i+1) i
def DownD (d:List Nd):Prop:=∀i,2<=i->i<d.length->(d.getD i nd0).lo<i/\(d.getD i nd0).hi<i
section
variable {d:List Nd} {e0 e1:Int} {comb:Nd->Int->Int->Int}
theorem jd (h:DownD d):∀(k a i:Nat),i<d.length->i<k->i<a->j8 d e0 e1 comb k i=j8 d e0 e1 comb a i
 |0,_,_,_,h1,_=>by omega
 |_+1,0,_,_,_,h2=>by omega
 |k+1,a+1,i,hi,h1,h2=>by
  unfold j8
  by_cases b:i=0
  ·rw[yz b,yz b]
  rw[yw b,yw b]
  by_cases c1:i=1
  ·rw[yz c1,yz c1]
  rw[yw c1,yw c1];obtain⟨c,e⟩:=h i (by omega) hi;rw[jd h k a _ (by omega) (by omega) (by omega),jd h k a (d.getD i nd0).hi (by omega) (by omega) (by omega)]
theorem tX (h:DownD d) {i:Nat} (hi:i<d.length) (b:2<=i):oz d e0 e1 comb i=comb (d.getD i nd0) (oz d e0 e1 comb (d.getD i nd0).lo) (oz d e0 e1 comb (d.getD i nd0).hi):=by
 obtain⟨c,f⟩:=h i b hi
 have e:oz d e0 e1 comb i=comb (d.getD i nd0) (j8 d e0 e1 comb i (d.getD i nd0).lo) (j8 d e0 e1 comb i (d.getD i nd0).hi):=by
  have a:oz d e0 e1 comb i=if i=0 then e0 else if i=1 then e1 else comb (d.getD i nd0) (j8 d e0 e1 comb i (d.getD i nd0).lo) (j8 d e0 e1 comb i (d.getD i nd0).hi):=rfl
  rw[a,yw (by omega),yw (by omega)]
 rw[e];unfold oz;rw[jd h i ((d.getD i nd0).lo+1) _ (by omega) (by omega) (by omega),jd h i ((d.getD i nd0).hi+1) (d.getD i nd0).hi (by omega) (by omega) (by omega)]
end
end
section
open Go.RowKit Go.Maps
def KnwT (F:Nat->Int) (kn:List Int) (dn:List Bool):Prop:=kn.length=dn.length/\∀i,i<dn.length->dn.getD i false=true->kn.getD i 0=F i
theorem xB (F:Nat->Int) (n:Nat):KnwT F (List.replicate n 0) (List.replicate n false):=⟨by simp,λi hi h=>by
 rw[Ax] at hi;rw[yj,Bg,yz hi] at h
 cases h⟩
theorem KnwT.set {F:Nat->Int} {kn:List Int} {dn:List Bool} (h:KnwT F kn dn) {k:Nat}:KnwT F (kn.set k (F k)) (dn.set k true):=⟨by rw[As,As,h.1],λi hi a=>by
 rw[As] at hi
 by_cases e:i=k
 ·subst e;rw[yj,AR (by rw[h.1];exact hi)];rfl
 ·rw[yj,AU (BQ e),<-yj] at a⊢
  exact h.2 i hi a⟩
end
section
def bV (d:List Nd):Nat->List Bool->Nat->Nat
 |_,[],f=>f
 |l,b::bs,f=>bV d (l+1) bs (if lvA d f=l then(if b=true then(ndA d f).hi else(ndA d f).lo) else f)
theorem pM (d:List Nd):∀(a cs:List Bool) (l f:Nat),bV d l (a++cs) f=bV d (l+a.length) cs (bV d l a f)
 |[],cs,l,f=>by simp[bV]
 |b::a,cs,l,f=>by
  show bV d (l+1) (a++cs) _=_;rw[pM d a cs (l+1),yr];rw[show l+1+a.length=l+(a.length+1) by omega]
  rfl
theorem oJ {d:List Nd} {n:Nat} (h:DV d) (o:n<=20) (m:Lim d n):∀(a:List Bool) (l f:Nat),f<d.length->l+a.length<=n->l<=aW d n f->bV d l a f<d.length/\l+a.length<=aW d n (bV d l a f)/\∀rest,evL d l (a++rest) f=evL d (l+a.length) rest (bV d l a f)
 |[],l,f,hf,hl,hlv=>⟨hf,by simpa [bV] using hlv,λrest=>rfl⟩
 |b::a,l,f,hf,hl,hlv=>by
  rw[yr] at hl⊢;have q:bV d l (b::a) f=bV d (l+1) a (if lvA d f=l then(if b=true then(ndA d f).hi else(ndA d f).lo) else f):=rfl;rw[q]
  by_cases e:lvA d f=l
  ·have c:lvA d f<20:=by omega
   have k:=(h.lvlt hf).1 c;obtain⟨s,t,u,_,v,w⟩:=h.pl f k hf;rw[yz e]
   have p:(if b=true then(ndA d f).hi else(ndA d f).lo)<d.length/\l+1<=aW d n (if b=true then(ndA d f).hi else(ndA d f).lo):=by
    split
    ·exact⟨by omega,by unfold aW;omega⟩
    ·exact⟨by omega,by unfold aW;omega⟩
   obtain⟨i,r,j⟩:=oJ h o m a (l+1) _ p.1 (by omega) p.2;refine⟨i,by omega,λrest=> ?_⟩;rw[List.cons_append,oF h k hf e.symm];rw[show l+(a.length+1)=l+1+a.length by omega,<-j rest]
   split<;>rfl
  ·rw[yw e];have g:l<lvA d f:=by unfold aW at hlv;omega
   obtain⟨i,r,j⟩:=oJ h o m a (l+1) f hf (by omega) (by unfold aW;omega);refine⟨i,by omega,λrest=> ?_⟩;rw[List.cons_append,jF h hf g,show l+(a.length+1)=l+1+a.length by omega,<-j rest]
def bR:List Wd->Nat
 |[]=>0
 |v::vs=>v.w+bR vs
def jr:List Wd->List Nat->List Bool
 |[],_=>[]
 |v::vs,t=>vb v.w (t.headD 0)++jr vs t.tail
theorem sO:∀(a:List Wd) (t:List Nat),(jr a t).length=bR a
 |[],_=>rfl
 |v::a,t=>by
  show(vb v.w (t.headD 0)++jr a t.tail).length=v.w+bR a;rw[yu,i5,sO a]
def fH (f:Nat->Nat) (l:List Nat):Nat:=l.foldl (λs x=>s+f x) 0
theorem qV (f:Nat->Nat):∀(l:List Nat) (s:Nat),l.foldl (λs x=>s+f x) s=s+fH f l
 |[],s=>rfl
 |x::l,s=>by
  unfold fH;rw[AM,AM,qV f l,qV f l (0+f x)];omega
theorem fS (f:Nat->Nat) (x:Nat) (l:List Nat):fH f (x::l)=f x+fH f l:=by
 show(x::l).foldl (λs x=>s+f x) 0=_;rw[AM,qV];omega
theorem mg {β:Type} (f:Nat->List β):∀(l:List Nat),(l.flatMap f).length=fH (λx=>(f x).length) l
 |[]=>rfl
 |x::l=>by rw[AS,yu,fS,mg f l]
theorem kx {f g:Nat->Nat}:∀{l:List Nat},(∀x∈l,f x=g x)->fH f l=fH g l
 |[],_=>rfl
 |x::l,h=>by rw[fS,fS,h x (by simp),kx (λy a=>h y (yT _ a))]
def lJ (d:List Nd):Nat->List Wd->Nat->Nat
 |_,[],f=>if f=0 then 0 else 1
 |l,v::vs,f=>if f=0 then 0 else fH (λx=>lJ d (l+v.w) vs (bV d l (vb v.w x) f)) (aR v)
theorem nt {d:List Nd} {n:Nat} (h:DV d) (c:n<=20) (b:Lim d n):∀(vs:List Wd) (l f:Nat),f<d.length->l<=aW d n f->n=l+bR vs->lJ d l vs f=((aK vs).filter λt=>evL d l (jr vs t) f).length
 |[],l,f,hf,hl,hm=>by
  have j:bR []=0:=rfl
  have m:f<=1:=by
   refine Nat.le_of_lt_succ (Nat.lt_of_not_le λo=> ?_);have:=b f (h.pl f (by omega) hf).1;unfold aW at hl;omega
  have:f=0\/f=1:=by omega
  rcases this with rfl|rfl<;>rfl
 |v::vs,l,f,hf,hl,hm=>by
  have j:bR (v::vs)=v.w+bR vs:=rfl;have i:lJ d l (v::vs) f=if f=0 then 0 else fH (λx=>lJ d (l+v.w) vs (bV d l (vb v.w x) f)) (aR v):=rfl
  rw[i]
  by_cases a:f=0
  ·rw[yz a,a];symm;rw[List.length_eq_zero_iff,List.filter_eq_nil_iff];intro t _;show¬(evL d l _ 0=true);unfold evL;rw[ev_0];simp
  ·rw[yw a];show _=(((aR v).flatMap λx=>(aK vs).map (x:: ·)).filter _).length;rw[eq,mg];refine kx λx _=> ?_;obtain⟨k,e,g⟩:=oJ h c b (vb v.w x) l f hf (by rw[i5];omega) hl;rw[i5] at e g;rw[BJ,yD,nt h c b vs (l+v.w) _ k e (by omega)];congr 1;refine Bp λt _=> ?_;exact(g (jr vs t)).symm
def bM (ws:List Wd):List Wd:=ws.filter λv=>decide (v.fixed=none)
def fm:List Wd->List Nat->List Nat
 |[],_=>[]
 |v::vs,t=>match v.fixed with
  |some x=>x::fm vs t
  |none=>t.headD 0::fm vs t.tail
theorem iB {v:Wd} {x:Nat} (h:v.fixed=some x) (a:List Wd) (t:List Nat):fm (v::a) t=x::fm a t:=by
 show(match v.fixed with |some x=>x::fm a t|none=>t.headD 0::fm a t.tail)=_;rw[h]
theorem iC {v:Wd} (h:v.fixed=none) (a:List Wd) (t:List Nat):fm (v::a) t=t.headD 0::fm a t.tail:=by
 show(match v.fixed with |some x=>x::fm a t|none=>t.headD 0::fm a t.tail)=_;rw[h]
theorem jO {v:Wd} {x:Nat} (h:v.fixed=some x) (vs:List Wd):bM (v::vs)=bM vs:=by
 unfold bM;rw[List.filter_cons_of_neg (by rw[h];simp)]
theorem jP {v:Wd} (h:v.fixed=none) (vs:List Wd):bM (v::vs)=v::bM vs:=by
 unfold bM;rw[List.filter_cons_of_pos (by rw[h];rfl)]
theorem wD:∀(ws:List Wd),aK ws=(aK (bM ws)).map (fm ws)
 |[]=>rfl
 |v::vs=>by
  have ih:=wD vs
  cases hf:v.fixed with
  |some x=>
   rw[jO hf];show(aR v).flatMap _=_;unfold aR;rw[hf];simp only[AS,List.flatMap_nil,AT];rw[ih,Bo];refine Bl λt _=> ?_;exact(iB hf vs t).symm
  |none=>
   rw[jP hf];show(aR v).flatMap (λx=>(aK vs).map (x:: ·))=((aR v).flatMap λx=>(aK (bM vs)).map (x:: ·)).map _;rw[List.map_flatMap];refine jD λx _=> ?_;rw[ih,Bo,Bo];refine Bl λt _=> ?_;show x::fm vs t=fm (v::vs) (x::t);rw[iC hf];rfl
theorem dD:∀(ws:List Wd),bR (bM ws)=aD ws
 |[]=>rfl
 |v::vs=>by
  have a:aD (v::vs)=(if v.fixed=none then v.w else 0)+aD vs:=rfl
  cases hf:v.fixed with
  |some x=>rw[jO hf,dD vs,a,yw (by rw[hf];simp)];omega
  |none=>
   rw[jP hf,a,yz hf];show v.w+bR (bM vs)=_;rw[dD vs]
theorem jG:∀(ws:List Wd) (t:List Nat),t∈aK (bM ws)->ej ws (jr (bM ws) t)=fm ws t
 |[],t,h=>rfl
 |v::vs,t,h=>by
  cases hf:v.fixed with
  |some x=>
   rw[jO hf] at h⊢;rw[fd hf,iB hf,jG vs t h]
  |none=>
   rw[jP hf] at h⊢
   have e:∃x t',x<2^v.w/\t'∈aK (bM vs)/\t=x::t':=by
    have a:t∈(aR v).flatMap λx=>(aK (bM vs)).map (x:: ·):=h;rw[List.mem_flatMap] at a;obtain⟨x,b,a⟩:=a;rw[AP] at a;obtain⟨t',c,rfl⟩:=a;unfold aR at b;rw[hf] at b;exact⟨x,t',BI.1 b,c,rfl⟩
   obtain⟨x,t',b,c,rfl⟩:=e;rw[ff hf,iC hf];show dj ((vb v.w x++jr (bM vs) t').take v.w)::ej vs ((vb v.w x++jr (bM vs) t').drop v.w)=x::fm vs t';have d:=i5 v.w x;rw[List.take_left' d,List.drop_left' d,v7,Bi b,jG vs t' c]
def je:List Wd->List Nat->List Wd
 |[],_=>[]
 |v::vs,[]=>v::vs
 |v::vs,x::p=>⟨v.w,some x⟩::je vs p
theorem sF:∀(a:List Wd) (p:List Nat),(je a p).length=a.length
 |[],_=>rfl
 |v::a,[]=>rfl
 |v::a,x::p=>by
  show(_::je a p).length=_;rw[yr,sF a p,yr]
theorem sG:∀(a:List Wd) (p t:List Nat),jr (je a p) t=jr a t
 |[],_,_=>rfl
 |v::a,[],t=>rfl
 |v::a,x::p,t=>by
  show vb v.w (t.headD 0)++jr (je a p) t.tail=_;rw[sG a p];rfl
theorem kZ:∀(a:List Wd) (p:List Nat),bR (je a p)=bR a
 |[],_=>rfl
 |v::a,[]=>rfl
 |v::a,x::p=>by
  show v.w+bR (je a p)=_;rw[kZ a p];rfl
theorem sH:∀(a:List Wd) (p:List Nat),p.length<=a.length->aK (je a p)=(aK (a.drop p.length)).map (p++ ·)
 |[],p,h=>by
  have:p=[]:=by simpa using h
  subst this
  rfl
 |v::a,[],h=>by
  show aK (v::a)=_;simp
 |v::a,x::p,h=>by
  show(aR ⟨v.w,some x⟩).flatMap (λy=>(aK (je a p)).map (y:: ·))=_;have:aR ⟨v.w,some x⟩=[x]:=rfl;rw[this,sH a p (by simpa using h)];simp only[AS,List.flatMap_nil,AT,Bo,yr,y6]
  rfl
theorem mN {d:List Nd} {n b:Nat} (h:DV d) (e:n<=20) (c:Lim d n) (f:b<d.length) (a:List Wd) (g:n=bR a) (p:List Nat) (hp:p.length<=a.length):
  lJ d 0 (je a p) b=((aK (a.drop p.length)).filter λt=>evL d 0 (jr a (p++t)) b).length:=by
 rw[nt h e c (je a p) 0 b f (yt _) (by rw[kZ];omega),sH a p hp,BJ,yD];congr 1;refine Bp λt _=> ?_;show evL d 0 (jr (je a p) (p++t)) b=_;rw[sG]
def chP (F:List Nat->Nat):List Nat->List Nat->Nat->List Nat
 |[],p,_=>p
 |w::ws,p,k=>chP F ws (p++[(goV (λv=>F (p++[v])) (2^w) 0 k).1]) (goV (λv=>F (p++[v])) (2^w) 0 k).2
theorem pE {c a:Nat->Nat}:∀(m v k:Nat),(∀x,v<=x->x<v+m->c x=a x)->goV c m v k=goV a m v k
 |0,v,k,h=>rfl
 |m+1,v,k,h=>by
  unfold goV;rw[h v (yq _) (by omega),pE m (v+1) _ λx b d=>h x (by omega) (by omega)]
theorem sW (F:List Nat->Nat) (P:List Nat->Bool) (a:List Nat) (b:∀p,p.length<=a.length->F p=((aK ((a.drop p.length).map λw=>(⟨w,none⟩:Wd))).filter λt=>P (p++t)).length):∀(ws p:List Nat) (k:Nat),p.length+ws.length=a.length->ws=a.drop p.length→
  chP F ws p k=p++pn (λt=>P (p++t)) ws k
 |[],p,k,h1,h2=>by show p=p++[];simp
 |w::ws,p,k,h1,h2=>by
  rw[yr] at h1
  have c:ws=a.drop (p.length+1):=by
   rw[<-List.drop_drop,<-h2];rfl
  have e:goV (λv=>F (p++[v])) (2^w) 0 k=goV (λv=>((aK (ws.map λw=>(⟨w,none⟩:Wd))).filter λt=>P (p++v::t)).length) (2^w) 0 k:=by
   refine pE _ _ _ λx _ _=> ?_;rw[b (p++[x]) (by rw[yu,y7];omega),yu,y7,<-c];congr 1;refine Bp λt _=> ?_;rw[yZ];rfl
  have e1:chP F (w::ws) p k=chP F ws (p++[(goV (λv=>F (p++[v])) (2^w) 0 k).1]) (goV (λv=>F (p++[v])) (2^w) 0 k).2:=rfl;have d:pn (λt=>P (p++t)) (w::ws) k=(goV (λv=>((aK (ws.map λw=>(⟨w,none⟩:Wd))).filter λt=>P (p++v::t)).length) (2^w) 0 k).1::pn (λt=>P (p++(goV (λv=>((aK (ws.map λw=>(⟨w,none⟩:Wd))).filter λt=>P (p++v::t)).length) (2^w) 0 k).1::t)) ws (goV (λv=>((aK (ws.map λw=>(⟨w,none⟩:Wd))).filter λt=>P (p++v::t)).length) (2^w) 0 k).2:=rfl;rw[e1,d,e];generalize goV (λv=>((aK (ws.map λw=>(⟨w,none⟩:Wd))).filter λt=>P (p++v::t)).length) (2^w) 0 k=r;rw[sW F P a b ws (p++[r.1]) r.2 (by rw[yu,y7];omega) (by rw[yu,y7];exact c),yZ]
  have f:(λt=>P (p++[r.1]++t))=λt=>P (p++r.1::t):=by
   funext t
   rw[yZ];rfl
  rw[f];rfl
theorem ran_map (ws:List Wd):(bM ws).map (λv=>(⟨v.w,none⟩:Wd))=bM ws:=by
 conv=>rhs;rw[<-List.map_id (bM ws)]
 refine Bl λv c=> ?_
 have:v.fixed=none:=by
  have:=(List.mem_filter.1 c).2;simpa using this
 obtain⟨a,b⟩:=v;simp only at this;rw[this];rfl
theorem sols_pt {a:List ByteArray} {b:List Wd} {rules:List Ex} {d:List Nd} {t:Nat} (h:o9 a b) (i:∀e∈rules,okE (λ_=>true) dep e=true) (f:dC (iM a b) rules 1 bT=some (t,d)) (l:List Bool) (g:aD b<=l.length):evL d 0 l t=gH (fo a (ej b l)) rules:=by
 obtain⟨-,j,c⟩:=ux h.bits (r6 h) rules ⟨dv0,lim0 _⟩ i (fn1 dv0) t d f;have e:evL d 0 l t=ev d (bOf l) t:=rfl;rw[e,c.val,B5];congr 1
 funext s
 exact rZ h g s
theorem rh {a:List ByteArray} {b:List Wd} {rules:List Ex} {d:List Nd} {t:Nat} (h:o9 a b) (f:∀e∈rules,okE (λ_=>true) dep e=true) (c:dC (iM a b) rules 1 bT=some (t,d)):
  de a b rules=((aK (bM b)).filter λx=>evL d 0 (jr (bM b) x) t).map (fm b):=by
 unfold de;rw[wD,BJ];congr 1;refine Bp λx g=> ?_;show gH (fo a (fm b x)) rules=_;rw[sols_pt h f c (jr (bM b) x) (by rw[sO,dD];exact yq _),jG b x g]
def qe (d:List Nd) (a:Nat) (b:List Wd) (p:List Nat):Nat:=lJ d 0 (je b p) a
theorem sumP_nil {a:List ByteArray} {b:List Wd} {rules:List Ex} {d:List Nd} {t:Nat} (h:o9 a b) (g:∀e∈rules,okE (λ_=>true) dep e=true) (f:dC (iM a b) rules 1 bT=some (t,d)):qe d t (bM b) []=(de a b rules).length:=by
 obtain⟨c,i, -⟩:=fN h g f;unfold qe;rw[mN c.dv h.bits c.lim i (bM b) (dD b).symm [] (yt _),rh h g f,yD]
 rfl
theorem yd {a:List ByteArray} {b:List Wd} {rules:List Ex} {d:List Nd} {t k:Nat} (h:o9 a b) (m:∀e∈rules,okE (λ_=>true) dep e=true) (l:dC (iM a b) rules 1 bT=some (t,d)) (hk:k<(de a b rules).length):
  (de a b rules)[k]? =some (fm b (chP (qe d t (bM b)) ((bM b).map (·.w)) [] k)):=by
 obtain⟨i,n, -⟩:=fN h m l
 have f:∀j,(((bM b).map (·.w)).drop j).map (λw=>(⟨w,none⟩:Wd))=(bM b).drop j:=λj=>by
  rw[<-List.map_drop,Bo];have:=AA (List.drop j) (ran_map b);rw[<-List.map_drop] at this;exact this
 rw[rh h m l] at hk⊢;rw[yD] at hk
 have g:=sW (qe d t (bM b)) (λx=>evL d 0 (jr (bM b) x) t) ((bM b).map (·.w)) (λp hp=>by
  rw[yD] at hp;rw[f]
  exact mN i.dv h.bits i.lim n (bM b) (dD b).symm p hp) ((bM b).map (·.w)) [] k (by simp) rfl
 rw[yW,g];have c:=f 0;rw[yO,yO] at c;have:=uV ((bM b).map (·.w)) (λx=>evL d 0 (jr (bM b) x) t) k (by rw[c];exact hk);rw[c] at this;rw[this]
 rfl
end
section
open Go.RowKit Go.Maps Go.Shelf Go.Sort
attribute [local go_sem] Oper.semAt_some
def jk (zs:List Int) (k:Nat):List Int:=(List.range k).map λj=>zs[j]?.getD 0
theorem nq (zs:List Int) (k:Nat):jk zs (k+1)=jk zs k++[zs[k]?.getD 0]:=by simp[jk,List.range_succ]
theorem wK (zs:List Int) (k:Nat):(jk zs k).length=k:=by simp[jk]
theorem np (zs:List Int) {k:Nat} (hk:k<=zs.length):jk zs k=zs.take k:=by
 apply BP
 ·simp[jk,hk]
 ·intro i a b;have:i<zs.length:=by simp[jk] at a;omega
  simp[jk,this]
theorem slVals1 (n:Nat) (H:1<=n) (l w c b d len cap:Nat) (zs:List Int) (r:len<=1000) (E:b<c) (J y:List Int->World->Prop)
  (D:∀a x W,J a W->a.length<len->YieldAt Fence.wide (n-1) Tryz.prog l #[.int .i64 x] W λe W'=>
   (e= .returned (.bool true)/\J (a++[x]) W'/\Below c W W')\/(e= .returned (.bool false)/\y (a++[x]) W'))
  (W:World) (B:W.cell? ⟨w,0,none⟩=some (.slice (some ⟨b,d,none⟩) len cap)) (F:∀j,j<len->W.cell? ⟨b,d+j,none⟩=some (.int .i64 (zs[j]?.getD 0))) (A:J [] W):
  CallsIn Fence.wide n Tryz.prog 154 #[.func (.yield l) #[] #[],.pointer (some ⟨w,0,none⟩)] W λe W'=>(∃v,e= .returned v)∧
   ((∃ys,ys=jk zs len/\J ys W')\/(∃a,(∃k,k<=len/\a=jk zs k)/\y a W')):=by
 refine callsIn_of_wp Tryz.func154 rfl trivial ?_ rfl;simp only[Tryz.ntmps154,AI,yr,yR,Nat.reduceAdd,Nat.reduceSub,Array.replicate_succ,Array.replicate_zero,List.push_toArray,List.append_toArray,List.nil_append,List.cons_append]
 gi_wp2
 gi_loopw [7] (λi wr=>∃k:Nat,k<=len/\i= .int .i64 k/\J (jk zs k) wr/\Below c W wr)
  (λi _=>len-(intOf i).toNat)
 case atStart=>exact⟨0,yt _,rfl,A,yx _ _⟩
 case round=>
  obtain⟨k,hk,rfl,f,o⟩:=hrel;have t:k<len->wr.cell? ⟨b,d+k,none⟩=some (.int .i64 (zs[k]?.getD 0)):=λh=>(o.cell (p:=⟨b,d+k,none⟩) E).trans (F k h)
  by_cases m:k<len
  ·obtain⟨fn,tmps,q,body,I,C⟩:=D _ (zs[k]?.getD 0) wr f (by rw[wK];exact m);have z:=t m
   gi_wp2
   refine C.mono ?_;rintro e G (⟨rfl,s,u⟩|⟨rfl,g⟩)
   ·gi_wp2
    go_roundw
    ·exact⟨k+1,by omega,by simp,by rw[nq];exact s,o.trans u⟩
    ·simp[intOf];omega
   ·gi_wp2
    refine yQ (results_none rfl _ _ _) rfl ?_;exact⟨⟨_,rfl⟩,.inr ⟨_,⟨k+1,by omega,(nq _ _).symm⟩,g⟩⟩
  ·obtain rfl:k=len:=by omega
   gi_wp2
   go_end0
   exact⟨⟨_,rfl⟩,.inl ⟨_,rfl,f⟩⟩
theorem slValues (n:Nat) (a:Option Addr) (len cap:Nat) (w:World):
  CallsIn Fence.wide n Tryz.prog 90 #[.slice a len cap] w λe w'=>e= .returned (.func (.func 154) #[] #[.pointer (some ⟨w.heap.size,0,none⟩)])/\w'=w.alloc (.cells #[.slice a len cap] 32):=by
 refine callsIn_of_wp Tryz.func90 rfl trivial ?_ rfl;simp only[Tryz.ntmps90,AI,yr,yR,Nat.reduceAdd,Nat.reduceSub,Array.replicate_succ,Array.replicate_zero,List.push_toArray,List.append_toArray,List.nil_append,List.cons_append]
 gi_wp2
 go_ret;exact⟨rfl,rfl⟩
theorem qg (n:Nat) (A:1<=n) (g a b d cap:Nat) (zs:List Int) (c:zs.length<=1000) (w:World) (m:g<w.heap.size) (f:a<=w.heap.size)
  (z:w.cell? ⟨g,0,none⟩=some (.slice (some ⟨b,d,none⟩) zs.length cap)) (r:b<a) (v:∀j,j<zs.length->w.cell? ⟨b,d+j,none⟩=some (.int .i64 (zs[j]?.getD 0))):
  SeqStopsK Fence.wide n Tryz.prog 154 #[.pointer (some ⟨g,0,none⟩)] (λx:Int=>#[Value.int .i64 x]) (Below a) (λys=>ys=zs) (λi=>i<+:zs) zs.length w:=λl J t W q _ _ y u=>by
 have o:=(q.cell (p:=⟨g,0,none⟩) m).trans z;refine(slVals1 n A l g a b d zs.length cap zs c r J t y W o (λj h=>((q.mono f).cell (p:=⟨b,d+j,none⟩) r).trans (v j h)) u).mono ?_;rintro e W' ⟨s,⟨ys,rfl,h⟩|⟨i,⟨k,hk,rfl⟩,h⟩⟩
 ·exact⟨s,.inl ⟨_,by rw[np zs (yq _),Ay],h⟩⟩
 ·exact⟨s,.inr ⟨_,by rw[np zs hk];exact List.take_prefix _ _,h⟩⟩
theorem infoInt:(Tryz.prog.info? 3).map (λi=>(i.zero,i.size,i.bytes))=some (some (.int .i64 0),1,8):=by kernel_rfl
theorem rm (n:Nat) (X:2<=n) (k b i cap:Nat) (zs:List Int) (g:zs.length<=1000) (w:World) (y:k<w.heap.size) (z:w.cell? ⟨k,0,none⟩=some (.slice (some ⟨b,i,none⟩) zs.length cap)) (I:b<w.heap.size)
  (N:∀j,j<zs.length->w.cell? ⟨b,i+j,none⟩=some (.int .i64 (zs[j]?.getD 0))):
  CallsIn Fence.wide n Tryz.prog 225 #[.slice none 0 0,.func (.func 154) #[] #[.pointer (some ⟨k,0,none⟩)]] w λe w'=>∃v,e= .returned v/\w'.ownsRow w.heap.size 3 1 v zs.length (zs.map (Value.int .i64))/\Below w.heap.size w w':=by
 have L:1<=n:=by omega
 obtain⟨U,hi,E,F,G⟩:=Bb infoInt;refine callsIn_of_wp_marks Tryz.func225 rfl trivial ?_ rfl;simp only[Tryz.ntmps225,AI,yr,yR,Nat.reduceAdd,Nat.reduceSub,Array.replicate_succ,Array.replicate_zero,List.push_toArray,List.append_toArray,List.nil_append,List.cons_append]
 gi_wp2
 have J:=Boxed.new w 32 (.slice none 0 0);have m:Below w.heap.size w (w.alloc (.cells #[.slice none 0 0] 32)):=(yx _ w).alloc (yq _) _
 refine wpIn_rangeFunc_ownG rfl L (gf:=154) (lb:=#[.pointer (some ⟨k,0,none⟩)]) rfl trivial (enters_of Tryz.func154 (by kernel_rfl) rfl)
  (qg (n-1) (by omega) k w.heap.size b i cap zs g _ (by simp;omega) (by simp) ((m.cell (p:=⟨k,0,none⟩) y).trans z) I (λj R=>(m.cell (p:=⟨b,i+j,none⟩) I).trans (N j R))) belowK_t (belowK_b (by simp)) (yx _ _) (λ_=>rfl)
  (fun(a:List Int) W=>(∃v,Boxed W w.heap.size 32 v/\W.ownsRow w.heap.size 3 1 v a.length (a.map (Value.int .i64))/\True)/\Below w.heap.size w W)
  (λ_ _ _=>False)
  (OwnFrom.and (Own.from (holdsRow_own w.heap.size w.heap.size 32 3 1 (fun(a:List Int)=>a.length) (λa=>a.map (Value.int .i64)) (λa v=>True)) _) (ownFrom_below (yq _) (by simp)))
  (λ_ _ _ _ _ T _ _=>T)
  ⟨⟨_,J,World.ownsRow_nil _ _ _ _,trivial⟩,m⟩
  (λx=>{tmps:=#[.slice none 0 0,.func (.func 154) #[] #[.pointer (some ⟨k,0,none⟩)],.pointer (some ⟨w.heap.size,0,none⟩),undef,.slice none 0 0,.int .i64 x,.func (.func 154) #[] #[.pointer (some ⟨k,0,none⟩)],.int .i64 x,undef,undef,undef,undef,undef],defers:=[]}) ?assign ?body ?done ?stop
 case assign=>
  intro l x W K r
  gi_wp2
  exact r
 case body=>
  rintro l a x W ⟨⟨v,u,d, -⟩,q⟩ S;have z:=u.cell
  gi_wp2_with (gi_at_builtin;refine wpListIn_append_own _ rfl _ _ 32 rfl w.heap.size 3 U (.int .i64 0) 1 8 Tryz.underlying32 hi E F G rfl (by decide) _ _ _ rfl (d.alloc _) ⟨W.heap.size,0,none⟩ 1 1 [.int .i64 x] rfl rfl (cell_one_new _ _ _) (by simp[Value.oneCell']) (by unfold maxLen;omega) (by omega) (by have:=q.size;simp;omega) ?_;intro v' w1 f o _;obtain⟨V,H,rfl⟩:=ownsRow_succ f;obtain⟨t,C,B,A,s⟩:=u.appended (by decide) d q.size (yq _) f o;have P:=t.cell;have Q:=t.frozen)
  exact⟨A.from _,s,⟨_,C,by simpa using B,trivial⟩,q.trans s⟩
 case done=>
  rintro D ys W M rfl ⟨⟨v,u,d, -⟩,q⟩ r;have z:=u.cell
  gi_wp2
  refine⟨by simp,.inl ⟨_,_,rfl,run_takeDeferred r, ?_⟩⟩;exact⟨_,results_tmp rfl _ _ _,v,rfl,ownsRow_putObj d _ r rfl,q.trans (belowK_b (w:=w) (yq _) W D _ _ (by simp at M;omega) r rfl rfl)⟩
 case stop=>
  rintro D c a W _ _ h _;exact h.elim
theorem wO (d b c cap:Nat) (zs:List Int) (a:zs.length<=1000) (w:World) (g:d<w.heap.size) (i:w.cell? ⟨d,0,none⟩=some (.slice (some ⟨b,c,none⟩) zs.length cap)) (f:b<w.heap.size)
  (h:∀j,j<zs.length->w.cell? ⟨b,c+j,none⟩=some (.int .i64 (zs[j]?.getD 0))):
  Calls Tryz.prog 152 #[.func (.func 154) #[] #[.pointer (some ⟨d,0,none⟩)]] w λe w'=>∃v,e= .returned v/\w'.ownsRow w.heap.size 3 1 v zs.length (zs.map (Value.int .i64))/\Below w.heap.size w w':=by
 have C:=callsIn_wide.1 (rm 2 (by omega) d b c cap zs a w g i f h);clear i f h;go_enter Tryz.func152,Tryz.ntmps152;go_wp2_with fail;refine C.mono ?_;rintro e w' ⟨v,rfl,k,f⟩;go_wp2_with fail;go_ret;exact⟨v,rfl,k,f⟩
theorem slSorted (m b h cap:Nat) (zs:List Int) (a:zs.length<=1000) (z:zs.Pairwise (· ≤ ·)) (w:World) (q:m<w.heap.size) (u:w.cell? ⟨m,0,none⟩=some (.slice (some ⟨b,h,none⟩) zs.length cap)) (g:b<w.heap.size)
  (t:∀j,j<zs.length->w.cell? ⟨b,h+j,none⟩=some (.int .i64 (zs[j]?.getD 0))):
  Calls Tryz.prog 89 #[.func (.func 154) #[] #[.pointer (some ⟨m,0,none⟩)]] w λe w'=>∃v,e= .returned v/\w'.ownsRow w.heap.size 3 1 v zs.length (zs.map (Value.int .i64))/\Below w.heap.size w w':=by
 have C:=zh (wO m b h cap zs a w q u g t);have s:Hid (zs.mergeSort (λx y=>decide (x<=y))=zs):=zh (List.mergeSort_of_pairwise (by simpa using z));have r:=zh a;clear u g t z a;go_enter Tryz.func89,Tryz.ntmps89;go_wp2_with fail;refine C.out.mono ?_;rintro e W ⟨v,rfl,d,g⟩;clear C;rcases d.2 with⟨rfl,K⟩|⟨I,l,cur,rfl,c,f,A,B,D,E⟩
 ·have i:=Tryz.slices_Sort_int_none none 0 W;obtain⟨p,o⟩:=zk2 d g;clear d g K;go_wp2_with fail;refine i.mono ?_;rintro e H ⟨rfl,rfl⟩;go_wp2_with fail;go_ret;exact⟨_,rfl,p,o⟩
 ·have i:=zh (Tryz.slices_Sort_int I 0 l zs W (holds_of_blockI f (by simpa using E)) (Bu.1 f).1 (by have:=r.out;omega));have k:=zh λn os=>ownsRow_sortedI (n:=n) (os:=os) (ss:=zs) (ts:=zs) rfl c f A B D;have o:=zh λn os=>g.grown (grownBy_sortedI (n:=n) (os:=os) zs.toArray) g.size (λj J=>by cases J;exact c);rw[s.out] at i;clear d g A B D E f c s r;go_wp2_with fail;refine i.out.mono ?_;rintro e H ⟨rfl,n,os,rfl⟩;have F:=zh (k n os);have G:=zh (o n os);clear k o i;go_wp2_with fail;go_ret;exact⟨_,rfl,F,G⟩
end
section
def ji (l:List Int):Prop:=∀i,i+1<l.length->l.getD i 0<l.getD (i+1) 0
theorem asc_pw:∀{l:List Int},ji l->l.Pairwise (· < ·)
 |[],_=>List.Pairwise.nil
 |[x],_=>by simp
 |x::y::l,h=>by
  have c:ji (y::l):=λi hi=>h (i+1) (by simpa using hi);have ih:=asc_pw c;have b:x<y:=h 0 (by simp);refine List.Pairwise.cons (λz a=> ?_) ih;rcases yC.1 a with rfl|a
  ·exact b
  ·exact Int.lt_trans b (Cb ih a)
theorem pw_eq:∀{l m:List Int},l.Pairwise (· < ·)->m.Pairwise (· < ·)->(∀x,x∈l↔x∈m)->l=m
 |[],[],_,_,_=>rfl
 |[],y::m,_,_,h=>by
  have:=(h y).2 (by simp);cases this
 |x::l,[],_,_,h=>by
  have:=(h x).1 (by simp);cases this
 |x::l,y::m,hl,hm,h=>by
  have e:x=y:=by
   have d:=(h x).1 (by simp);have f:=(h y).2 (by simp);rcases yC.1 d with e|d
   ·exact e
   ·rcases yC.1 f with e|f
    ·exact e.symm
    ·have a:=Cb hm d;have b:=Cb hl f;omega
  subst e;rw[pw_eq hl.of_cons hm.of_cons λz=> ?_];constructor
  ·intro c;have a:=Cb hl c;rcases yC.1 ((h z).1 (yT _ c)) with e|c
   ·omega
   ·exact c
  ·intro c;have a:=Cb hm c;rcases yC.1 ((h z).2 (yT _ c)) with e|c
   ·omega
   ·exact c
theorem mP (l:List Vr):∀k,(dY l k).Pairwise (· < ·)
 |0=>List.Pairwise.nil
 |k+1=>by
  unfold dY
  split
  ·refine List.pairwise_append.2 ⟨mP l k,by simp,λa c b d=> ?_⟩;obtain⟨j,rfl,e, -⟩:=fZ l k a c;rw[AW.1 d];omega
  ·exact mP l k
theorem rK (l:List Vr):∀(k i:Nat),i<k->bL l (i:Nat)=true->(i:Int)∈dY l k
 |0,_,h,_=>by omega
 |k+1,i,h,hr=>by
  unfold dY
  by_cases e:i=k
  ·subst e;rw[yz hr];exact Bn _ (by simp)
  ·have:=rK l k i (by omega) hr
   split
   ·exact AZ _ this
   ·exact this
theorem pq {l:List Vr} {g:List Int} (h:aZ l [g]) (e:ji g):g=dY l l.length:=by
 have d:[g].flatten=g:=by simp
 refine pw_eq (asc_pw e) (mP l _) λx=>⟨λc=> ?_,λc=> ?_⟩
 ·have b:=h.ran x (by rw[d];exact c);have a:=b;unfold bL at a;simp only[yF,yY] at a;obtain⟨n,rfl⟩:∃n:Nat,x=n:=⟨x.toNat,by omega⟩;exact rK l _ n (by omega) b
 ·obtain⟨j,rfl,f,b⟩:=fZ l _ x c;have:=h.all j b;rw[d] at this;exact this
theorem vy {l:List Vr}:∀k,k<=l.length->((dY l k).foldl (bW l) (List.replicate l.length (-1),0)).2=aU (l.take k)/\((dY l k).foldl (bW l) (List.replicate l.length (-1),0)).1.length=l.length/\∀i:Nat,i<k->bL l i=true->((dY l k).foldl (bW l) (List.replicate l.length (-1),0)).1.getD i 0=aU (l.take i)
 |0,_=>⟨rfl,by simp[dY],λi h=>by omega⟩
 |k+1,h=>by
  obtain⟨d,f,g⟩:=vy (l:=l) k (by omega);have hm:=eF (l:=l) (k:=k) (by omega);have b:=iU (l:=l) (k:=k) (by omega);unfold gX at b;unfold dY
  by_cases c:bL l (k:Nat)=true
  ·rw[yz c,BA];rw[c] at hm;rw[yz (AD hm.symm)] at b;generalize(dY l k).foldl (bW l) (List.replicate l.length (-1),0)=s at*;show(bW l s (k:Nat)).2=_/\(bW l s (k:Nat)).1.length=_/\∀i:Nat,i<k+1->_->(bW l s (k:Nat)).1.getD i 0=_;unfold bW;simp only[y5];refine⟨by rw[d,b],by rw[As];exact f,λi hi a=> ?_⟩
   by_cases e:i=k
   ·subst e;rw[yj,AR (by omega)];exact d
   ·rw[yj,AU (BQ e),<-yj];exact g i (by omega) a
  ·rw[yw c];rw[eq_false_of_ne_true c] at hm;have j:¬(l.getD k vr0).mode≠0:=of_decide_eq_false hm.symm;rw[yw j,Int.add_zero] at b;refine⟨by rw[d,b],f,λi hi a=> ?_⟩
   by_cases e:i=k
   ·subst e;exact absurd a c
   ·exact g i (by omega) a
theorem lW:∀(l:List Vr) (i:Nat),(∀v∈l,0<=v.width)->i<=l.length->(j5 (az l) i:Int)=aU (l.take i)
 |[],i,_,h=>by
  have:i=0:=by simpa using h
  subst this;rfl
 |v::l,0,_,_=>rfl
 |v::l,i+1,hw,h=>by
  have ih:=lW l i (λx d=>hw x (yT _ d)) (by simpa using h)
  have c:∀(m:List Vr) (s:Int),m.foldl (λn v=>n+gX v) s=s+aU m:=by
   intro m
   induction m with
   |nil=>intro s;simp[aU]
   |cons x m ihm=>
    intro s;unfold aU;rw[AM,AM,ihm,ihm (0+gX x)];omega
  have e1:aU ((v::l).take (i+1))=gX v+aU (l.take i):=by
   rw[yX];show(l.take i).foldl _ (0+gX v)=_;rw[c];omega
  have b:j5 (az (v::l)) (i+1)=(if(wdT v).fixed=none then(wdT v).w else 0)+j5 (az l) i:=rfl;rw[e1,b];have e:=hw v (by simp);unfold gX wdT
  by_cases a:v.mode=0
  ·rw[yw (by simp[a]),yw (by simp[a])];omega
  ·rw[yz (by simp[a]),yz a];simp only;omega
theorem vw {p:Pb} {g:List Int} (a:p.groups=[g]) (h:aZ p.vars p.groups) (b:ji g) (d:∀v∈p.vars,0<=v.width) {i:Nat} (hi:i<p.vars.length) (c:(p.vars.getD i vr0).mode≠0):(cC p).getD i 0=(j5 (az p.vars) i:Nat):=by
 rw[a] at h;have e:=pq h b;rw[lW _ _ d (by omega)];unfold cC;rw[a,show[g].flatten=g by simp,e];exact(vy p.vars.length (yq _)).2.2 i hi (by rw[eF hi];exact yB c)
theorem oE {κ:Type} [DecidableEq κ]:∀{l:List (κ×Int)} {x:κ},(∀q∈l,q.1≠x)->cq l x=none
 |[],x,h=>rfl
 |q::l,x,h=>by
  rw[c8,yw (h q (by simp)),oE λr a=>h r (yT _ a)]
theorem r9 {vars:List Vr}:∀(k:Nat) (q:ByteArray×Int),q∈lT vars k->∃i,i<k/\q.1=(vars.getD i vr0).name
 |0,q,h=>by cases h
 |k+1,q,h=>by
  rcases yC.1 h with rfl|h
  ·exact⟨k,by omega,rfl⟩
  ·obtain⟨i,hi,e⟩:=r9 k q h;exact⟨i,by omega,e⟩
theorem pB:∀{l:List ByteArray} {s:ByteArray} {i:Nat},jq l s=some i->l[i]? =some s
 |[],s,i,h=>by cases h
 |x::l,s,i,h=>by
  unfold jq at h
  by_cases e:x=s
  ·rw[yz e] at h;simp only[yy] at h;subst h;rw[e];rfl
  ·rw[yw e] at h
   cases hq:jq l s with
   |none=>rw[hq] at h;cases h
   |some j=>
    rw[hq] at h;simp only[AX,yy] at h;subst h;show l[j]? =some s;exact pB (l:=l) hq
theorem pD:∀{l:List ByteArray} {s:ByteArray},jq l s=none->s∉l
 |[],s,h=>by simp
 |x::l,s,h=>by
  unfold jq at h
  by_cases e:x=s
  ·rw[yz e] at h;cases h
  ·rw[yw e] at h;rw[yC];rintro(h1|h1)
   ·exact e h1.symm
   ·exact pD (Option.map_eq_none_iff.1 h) h1
theorem ZZ {p:Pb} {g:List Int} (r:p.groups=[g]) (h:aZ p.vars p.groups) (o:ji g) (t:∀v∈p.vars,0<=v.width)
  (f:∀a b,a<p.vars.length->b<p.vars.length->(p.vars.getD a vr0).name=(p.vars.getD b vr0).name->a=b):nmV p.vars (cC p)=iM (aw p.vars) (az p.vars):=by
 funext s
 unfold nmV iM
 cases hq:jq (aw p.vars) s with
 |none=>
  rw[oE λq hm=> ?_];obtain⟨i,hi,e⟩:=r9 _ _ hm;rw[e];intro n;refine pD hq ?_;rw[<-n];exact AP.2 ⟨_,getD_in vr0 hi,rfl⟩
 |some i=>
  have j:=pB hq;unfold aw at j;rw[yW] at j;obtain⟨v,k,e⟩:=Option.map_eq_some_iff.1 j;have hi:i<p.vars.length:=(yJ.1 k).1;have c:p.vars.getD i vr0=v:=by rw[yj,k];rfl
  have m:=jR (vars:=p.vars) (i:=i) p.vars.length f hi;rw[c,e] at m;rw[m];simp only[y5];unfold vlAt ra
  have l:(az p.vars).getD i ⟨0,some 0⟩=wdT v:=by
   unfold az;rw[yj,yW,k];rfl
  rw[l,c];unfold wdT
  by_cases d:v.mode=0
  ·rw[yz d,yz d]
  ·rw[yw d,yw d];simp only;rw[vw r h o t hi (by rw[c];exact d),y5]
end
section
open Go.RowKit
theorem eN (n:Nat) (e:n<=100000) (W:World):(Instr.makeSlice 32 (.int .i64 (n:Int)) (.int .i64 (n:Int))).run Tryz.prog W= .ok (.slice (some ⟨W.heap.size,0,none⟩) n n) (W.alloc (.cells (iA (List.replicate n 0)) 3)):=by
 obtain⟨i,hi,d,c,b⟩:=Bb jz;have a:=run_make (P:=Tryz.prog) W 32 3 i (.int .i64 0) Tryz.underlying32 hi d .i64 .i64 n n (by omega) (by omega) (by rw[b];omega) (by omega);rw[c] at a;simp only[y5] at a;rw[mR] at a;exact a
theorem rP {k:Nat} (h:k<=20):2^k<=1048576:=by
 have:=AC (n:=2) (by omega) h;simpa using this
theorem it {n:Nat} (h:n<=20):IntKind.i64.wrap (2^n)=((2^n:Nat):Int):=by
 have a:=rP h;have e:((2^n:Nat):Int)=(2:Int)^n:=by simp
 rw[<-e];generalize 2^n=m at*;exact Bt _ (by omega)
end
section
theorem uh (d:List Nd) (a:List Bool) (b:Bool) (l f:Nat):bV d l (a++[b]) f=if lvA d (bV d l a f)=l+a.length then(if b=true then(ndA d (bV d l a f)).hi else(ndA d (bV d l a f)).lo) else bV d l a f:=by
 rw[pM];rfl
theorem vb_take {w v k:Nat} (h:k<w):(vb w v).take (k+1)=(vb w v).take k++[v.testBit (w-1-k)]:=by
 rw[Am,yp (by rw[i5];exact h)];unfold vb;rw[List.getElem_map,List.getElem_range];rfl
theorem qX:∀(a b:List Wd),bR (a++b)=bR a+bR b
 |[],b=>by simp[bR]
 |v::a,b=>by
  show v.w+bR (a++b)=v.w+bR a+bR b;rw[qX a b];omega
theorem qH {α:Type} {a:List α} {x0:α} {k:Nat} (h:k<a.length):a.drop k=a.getD k x0::a.drop (k+1):=by
 rw[Aq h,yj,yp h];rfl
theorem wG {f:Nat->Nat} {b:Nat}:∀{l:List Nat},(∀x∈l,f x<=b)->fH f l<=l.length*b
 |[],_=>yt _
 |x::l,h=>by
  rw[fS,yr,Nat.succ_mul];have c:=h x (by simp);have d:=wG (f:=f) (b:=b) (l:=l) λy a=>h y (yT _ a);omega
theorem p8 (v:Wd):(aR v).length<=2^v.w:=by
 unfold aR
 cases v.fixed with
 |some x=>exact Nat.one_le_two_pow
 |none=>rw[A8];exact yq _
theorem qd {d:List Nd}:∀(a:List Wd) (l f:Nat),lJ d l a f<=2^bR a
 |[],l,f=>by
  show(if f=0 then 0 else 1)<=2^0
  split<;>simp
 |v::a,l,f=>by
  have c:lJ d l (v::a) f=if f=0 then 0 else fH (λx=>lJ d (l+v.w) a (bV d l (vb v.w x) f)) (aR v):=rfl
  rw[c]
  split
  ·exact yt _
  ·refine yK (wG (b:=2^bR a) λx _=>qd a _ _) ?_;show _<=2^(v.w+bR a);rw[Nat.pow_add];exact Nat.mul_le_mul_right _ (p8 v)
def jp:List Wd->Nat
 |[]=>0
 |v::vs=>1+(aR v).length*jp vs
theorem vz:∀(vs:List Wd),(∀v∈vs,1<=v.w)->jp vs<2^bR vs
 |[],_=>by show 0<2^0;simp
 |v::vs,h=>by
  have ih:=vz vs λx c=>h x (yT _ c);have a:=p8 v;have d:(aR v).length*jp vs<=2^v.w*jp vs:=Nat.mul_le_mul_right _ a;have b:2^v.w*(jp vs+1)<=2^v.w*2^bR vs:=Nat.mul_le_mul_left _ ih
  have e:2<=2^v.w:=by
   have:=AC (n:=2) (by omega) (h v (by simp));simpa using this
  show 1+(aR v).length*jp vs<2^(v.w+bR vs);rw[Nat.pow_add];rw[Nat.mul_add] at b;omega
def dF:Nat:=1099511627777
def kF (a b:Nat):Nat:=min (a+b) dF
def j4 (a b:Nat):Nat:=min (a*b) dF
def iW (f:Nat->Nat) (l:List Nat):Nat:=l.foldl (λs x=>kF s (f x)) 0
theorem pS (f:Nat->Nat) (x:Nat) (l:List Nat):iW f (l++[x])=kF (iW f l) (f x):=by
 unfold iW;rw[BA];rfl
theorem qW (f:Nat->Nat) (l:List Nat):iW f l<=dF:=by
 rcases List.eq_nil_or_concat l with rfl|⟨m,x,rfl⟩
 ·exact yt _
 ·rw[List.concat_eq_append,pS];exact Nat.min_le_right _ _
theorem addC_add {f:Nat->Nat}:∀{l:List Nat},fH f l<=dF->iW f l=fH f l:=by
 have a:∀(l:List Nat) (s:Nat),s+fH f l<=dF->l.foldl (λs x=>kF s (f x)) s=s+fH f l:=by
  intro l
  induction l with
  |nil=>intro s _;rfl
  |cons x l ih=>
   intro s b;rw[fS] at b⊢;rw[AM];have e:kF s (f x)=s+f x:=by unfold kF;omega
   rw[e,ih (s+f x) (by omega)];omega
 intro l h;have:=a l 0 (by omega);rw[yH] at this;exact this
def jm (d:List Nd) (wt:Nat->Nat->Nat):Nat->Nat->List Wd->Nat->Nat
 |_,_,[],f=>if f=0 then 0 else 1
 |l,i,v::vs,f=>if f=0 then 0 else iW (λx=>j4 (wt i x) (jm d wt (l+v.w) (i+1) vs (bV d l (vb v.w x) f))) (aR v)
theorem uG (d:List Nd) (wt:Nat->Nat->Nat) (a:List Wd) (l i f:Nat):jm d wt l i a f<=dF:=by
 cases a with
 |nil=>show(if f=0 then 0 else 1)<=_;split<;>(unfold dF;omega)
 |cons v a=>
  show(if f=0 then 0 else iW _ (aR v))<=_
  split
  ·exact yt _
  ·exact qW _ _
theorem re (d:List Nd):∀(vs:List Wd) (l i f:Nat),bR vs<=20->jm d (λ_ _=>1) l i vs f=lJ d l vs f
 |[],l,i,f,_=>rfl
 |v::vs,l,i,f,h=>by
  have k:bR (v::vs)=v.w+bR vs:=rfl;have c:lJ d l (v::vs) f=if f=0 then 0 else fH (λx=>lJ d (l+v.w) vs (bV d l (vb v.w x) f)) (aR v):=rfl
  have a:=qd (d:=d) (v::vs) l f;have b:2^bR (v::vs)<=2^20:=AC (by omega) h;show(if f=0 then 0 else iW (λx=>j4 1 (jm d (λ_ _=>1) (l+v.w) (i+1) vs (bV d l (vb v.w x) f))) (aR v))=_;rw[c] at a⊢
  split
  ·rfl
  ·rename_i hf;rw[yw hf] at a
   have e:(λx=>j4 1 (jm d (λ_ _=>1) (l+v.w) (i+1) vs (bV d l (vb v.w x) f)))=λx=>lJ d (l+v.w) vs (bV d l (vb v.w x) f):=by
    funext x
    rw[re d vs (l+v.w) (i+1) _ (by omega)];have g:=qd (d:=d) vs (l+v.w) (bV d l (vb v.w x) f);have j:2^bR vs<=2^20:=AC (by omega) (by omega);unfold j4 dF;omega
   rw[e];exact addC_add (by unfold dF;omega)
def mh (d:List Nd) (wt:Nat->Nat->Nat) (b:Nat) (c:List Wd) (e:List ((Int×Int)×Int)):Prop:=∀(a f:Nat) (v:Int),cq e ((a:Int),(f:Int))=some v->v=(jm d wt (b+bR (c.take a)) a (c.drop a) f:Nat)
theorem knwP_nil (d:List Nd) (wt:Nat->Nat->Nat) (b:Nat) (c:List Wd):mh d wt b c []:=λa f v h=>by cases h
theorem mh.put {d:List Nd} {wt:Nat->Nat->Nat} {b:Nat} {g:List Wd} {i:List ((Int×Int)×Int)} (h:mh d wt b g i) (a f:Nat):mh d wt b g ((((a:Int),(f:Int)),((jm d wt (b+bR (g.take a)) a (g.drop a) f:Nat):Int))::i):=λa' f' v c=>by
 rw[c8] at c
 by_cases e:((a:Int),(f:Int))=((a':Int),(f':Int))
 ·rw[yz e] at c;simp only[B4,yy] at e c;have e1:a=a':=by omega
  have j:f=f':=by omega
  rw[<-c,e1,j]
 ·rw[yw e] at c;exact h a' f' v c
end
section
open Go.RowKit Go.Maps
theorem rnPlus (w:World) (a b:Nat) (c:a<=dF) (d:b<=dF):
  Calls Tryz.prog 222 #[.int .i64 (a:Nat),.int .i64 (b:Nat)] w λe w'=>e= .returned (.int .i64 (kF a b:Nat))/\Below w.heap.size w w':=by
 unfold dF at c d;have e:min ((a:Int)+b) 1099511627777=((kF a b:Nat):Int):=by unfold kF dF;omega
 go_enter Tryz.func222,Tryz.ntmps222;go_wp2_with fail;go_ret;refine⟨?_,yx _ _⟩;rw[<-e]
 rfl
theorem rnTimes (w:World) (a b:Nat) (r:a<=dF) (s:b<=dF):
  Calls Tryz.prog 223 #[.int .i64 (a:Nat),.int .i64 (b:Nat)] w λe w'=>e= .returned (.int .i64 (j4 a b:Nat))/\Below w.heap.size w w':=by
 have i:Hid (a=0\/b=0->j4 a b=0):=zh λh=>by
  unfold j4;rcases h with rfl|rfl<;>simp
 have f:Hid (dF/b<a->b≠0->j4 a b=dF):=zh λh l=>by
  unfold j4;have:=(Nat.div_lt_iff_lt_mul (BD l)).1 h;omega
 have g:Hid (¬dF/b<a->b≠0->j4 a b=a*b/\a*b<=dF):=zh λh l=>by
  unfold j4;have:=(Nat.le_div_iff_mul_le (BD l)).1 (Nat.not_lt.1 h);omega
 unfold dF at r s f g
 by_cases p:a=0
 ·subst p;have d:=i.out (.inl rfl);rw[d];clear i f g d;go_enter Tryz.func223,Tryz.ntmps223;go_wp2_with fail;go_ret;exact⟨rfl,yx _ _⟩
 have x:((a:Int)==0)=false:=by simp;omega
 by_cases k:b=0
 ·subst k;have d:=i.out (.inr rfl);rw[d];clear i f g d;go_enter Tryz.func223,Tryz.ntmps223;go_wp2_with fail;go_ret;exact⟨rfl,yx _ _⟩
 have y:((b:Int)==0)=false:=by simp;omega
 have z:((b:Int) !=0)=true:=by simp;omega
 have A:¬(b:Int)=0:=by omega
 have j:((1099511627777:Int)/(b:Int))=((1099511627777/b:Nat):Int):=(Int.natCast_ediv 1099511627777 b).symm;obtain⟨q,d⟩:=zv (1099511627777/b:Nat);have t:q<=1099511627777:=by rw[d];exact Nat.div_le_self _ _
 rw[<-d] at j f g;have B:IntKind.i64.wrap ((1099511627777:Int)/(b:Int))=(q:Int):=by rw[j];exact Bt _ (by omega)
 clear d
 by_cases c:q<a
 ·have c1:(q:Int)<(a:Int):=by omega
  rw[f.out c k];clear i f g;go_enter Tryz.func223,Tryz.ntmps223;go_wp2_with fail;go_ret;exact⟨rfl,yx _ _⟩
 ·have c1:¬(q:Int)<(a:Int):=by omega
  obtain⟨n,v⟩:=g.out c k;rw[n];have o:(a:Int)*(b:Int)=((a*b:Nat):Int):=by simp
  obtain⟨m,hm⟩:=zv (a*b);rw[<-hm] at v o⊢;have e:min (m:Int) 1099511627777=(m:Int):=by omega
  clear i f g n hm;have u:IntKind.i64.wrap ((a:Int)*(b:Int))=(m:Int):=by rw[o];exact Bt _ (by omega)
  go_enter Tryz.func223,Tryz.ntmps223;go_wp2_with fail;go_ret;refine⟨?_,yx _ _⟩;rw[<-e]
  rfl
def spC (V H S D G e d c:Value) (b:Nat) (a:Bool) (f:Value):Array Value:=#[V,H,S,D,G,e,d,c,.int .i64 (b:Nat),.bool a,f]
theorem oK {d:List Nd} (h:DV d):∀(a:List Bool) (l f:Nat),f<d.length->l+a.length<=20->bV d l a f<d.length
 |[],l,f,hf,_=>hf
 |b::a,l,f,hf,hl=>by
  rw[yr] at hl;refine oK h a (l+1) _ ?_ (by omega)
  split
  ·rename_i he;have c:=(h.lvlt hf).1 (by omega);obtain⟨e,g,i,_⟩:=h.pl f c hf
   split<;>omega
  ·exact hf
theorem and_one1 (i:Nat) (hi:i<9223372036854775808):bits .and .i64 (i:Int) 1=((i%2:Nat):Int):=by
 have a:(1:Int)=((1:Nat):Int):=rfl;rw[a,ic _ _ (by omega) (by omega)];congr 1;exact Nat.and_one_is_mod i
theorem bit_test (v k:Nat) (h:v<65536):(bits BinOp.and IntKind.i64 ((v:Int)/2^k) 1==1)=v.testBit k:=by
 have e:((v:Int)/2^k)=((v/2^k:Nat):Int):=by rw[Int.natCast_ediv,Int.natCast_pow];rfl
 have b:v/2^k<9223372036854775808:=Nat.lt_of_le_of_lt (Nat.div_le_self _ _) (by omega);rw[e,and_one1 _ b,Nat.testBit_eq_decide_div_mod_eq];generalize v/2^k=q
 by_cases a:q%2=1
 ·rw[a];rfl
 ·have:q%2=0:=by omega
  rw[this];rfl
theorem wU (w:World) (gs:Nat) (A1 Ad:Option Addr) (c1 cd:Nat) (H S D G RU LV:Value) (T:Nat) (y:Bool) (WT:Value) (vars:List Vr) (p:List Int) (d:List Nd)
  (hx:Box w gs (spC (.slice A1 vars.length c1) H S D G RU LV (.slice Ad d.length cd) T y WT) 89) (hv:Rs vrR w (.slice A1 vars.length c1) vars ah) (hl:IL w LV p) (hd:Rs ndR w (.slice Ad d.length cd) d ah) (hD:DV d)
  (i:Nat) (hi:i<vars.length) (I:i<p.length) (wd L v a:Nat) (R:(vars.getD i vr0).width=wd) (hL:p.getD i 0=L) (am:L+wd<=20) (al:v<65536) (hn:a<d.length):
  Calls Tryz.prog 147 #[.pointer (some ⟨gs,0,none⟩),.int .i64 (a:Nat),.int .i64 (i:Nat),.int .i64 (v:Nat)] w λe w'=>e= .returned (.int .i64 (bV d L (vb wd v) a:Nat))/\Below w.heap.size w w':=by
 have ag:=hD.top;obtain⟨z,HD,an⟩:=zk3 hx hd hD;obtain⟨AL,cL,rfl, -,J⟩:=hl;obtain⟨a1,rfl,aj,Q⟩:=J (by omega);have z0:w.cell? (a1.add i)=some (.int .i64 (p.getD i 0)):=Q i I;have z1:(a1.add i).block<w.heap.size:=by rw[aP];exact aj
 rw[hL] at z0;obtain⟨A',c',e1, -,m⟩:=hv.vrs;obtain⟨b,o,e2,ap,l⟩:=m i hi;simp only[yA] at e1;obtain⟨rfl, -,rfl⟩:=e1;subst e2;have y1:w.cell? ⟨b,o+i*4+1,none⟩=some (.int .i64 ((vars.getD i vr0).width)):=l 1 _ rfl;rw[R] at y1;obtain⟨f,j⟩:=zv (λk=>bV d L ((vb wd v).take k) a:Nat->Nat);have ao:=zh j;have aa:Hid (f 0=a):=zh (by rw[j];rfl);have ab:Hid (f wd=bV d L (vb wd v) a):=zh (by rw[j];simp only;rw[Ai (by rw[i5];exact yq _)])
 have ad:Hid (∀k,k<=wd->f k<d.length):=zh λk hk=>by
  rw[j];exact oK hD _ _ _ hn (by rw[yM,i5];omega)
 have ae:Hid (∀k,k<wd->f (k+1)=if(ndA d (f k)).lv=L+k then(if v.testBit (wd-1-k)=true then(ndA d (f k)).hi else(ndA d (f k)).lo) else f k):=zh λk hk=>by
  rw[j];simp only;rw[vb_take hk,uh,yM,i5,Nat.min_eq_left (by omega)]
  rfl
 obtain⟨nv,P⟩:=zv (vars.length);obtain⟨N,hN⟩:=zv (d.length);obtain⟨M,hM⟩:=zv (p.length);have HN:=zh hN;rw[<-P] at z hi;rw[<-hN] at z HD ag hn;rw[<-hM] at z I;have i0:(0:Int)<=(i:Int):=by omega
 have i1:(i:Int)<(nv:Int):=by omega
 have i2:(i:Int)<(M:Int):=by omega
 rw[<-ab.out];clear hx hv hd hD m l J Q R hL j P hN hM;unfold spC at z;go_enter Tryz.func147,Tryz.ntmps147;have x0:=za z 0 rfl;go_wp2_with fail;clear x0 y1;rw[<-aa.out]
 go_loopw [1,22] (λnd ii wr=>∃k:Nat,k<=wd/\nd= .int .i64 (f k:Nat)/\ii= .int .i64 (k:Nat)/\Below w.heap.size w wr) (λ_ ii _=>wd-(intOf ii).toNat)
 case atStart=>exact⟨0,yt _,rfl,rfl,yx _ _⟩
 case round=>
  obtain⟨k,hk,rfl,rfl,E⟩:=hrel;have g:=zh E;clear E
  by_cases ak:k<wd
  ·have K:(k:Int)<(wd:Int):=by omega
   have k0:(0:Int)<=(k:Int):=by omega
   have s:=ad.out k hk;have c:=zh (ae k ak);obtain⟨A',c',e1, -,m⟩:=HD.out.nds;obtain⟨bd,od,e2,r,X,Y,Z⟩:=m (f k) s;simp only[yA] at e1;obtain⟨rfl, -,rfl⟩:=e1;subst e2;generalize ndA d (f k)=x at*;obtain⟨lv,lo,F⟩:=x;simp only at X Y Z c;replace X:=(g.out.cell r).trans X;replace Y:=(g.out.cell r).trans Y;replace Z:=(g.out.cell r).trans Z;have zr:=(g.out.cell z1).trans z0;have zb:=yE z1 g.out.size;have A:=zh (z.out.below g);rw[<-HN.out] at s;have n0:(0:Int)<=(f k:Int):=by omega
   have n1:(f k:Int)<(N:Int):=by omega
   generalize f k=nk at*;obtain⟨aq,n⟩:=zv (f (k+1));rw[<-n] at c;have t:=zh n;clear n;have x7:=za A 7 rfl;clear m r s;go_upto_region 6 with fail;clear x7 X Y Z;have W:=((ac wr (.cells #[.int .i64 (lv:Nat),.int .i64 (lo:Nat),.int .i64 (F:Nat)] 95)).cell zb).trans zr;have U:=yE zb (ac wr (.cells #[.int .i64 (lv:Nat),.int .i64 (lo:Nat),.int .i64 (F:Nat)] 95)).size;clear zr zb;generalize V:wr.alloc _=w3 at*;obtain⟨u,B⟩:=zA1 V;clear V;replace A:=zb A u;replace g:=zb g u;clear u;have zL:=λq:Lat w3=>(q.h.cell U).trans W;have s2:=A.out.lat 6 _ rfl;have s0:=B.out.lat 0 _ rfl;refine aJ (by kernel_rfl) (by kernel_rfl) ?_
   repeat(go_big_quiet_step (fail))
   refine yN ?_;intro w8 hb;clear zL s2 s0 W U;replace A:=zb A hb;replace B:=zb B hb;replace g:=zb g hb;clear hb;have ar:=za B 1 rfl;have au:=za B 2 rfl
   by_cases hc:lv=L+k
   ·have af:((lv:Int) !=(L:Int)+(k:Int))=false:=by
     have:(lv:Int)=(L:Int)+(k:Int):=by omega
     simp[this]
    rw[yz hc] at c;have g1:¬((wd:Int)-1-(k:Int)<0):=by omega
    have g2:((wd:Int)-1-(k:Int))=((wd-1-k:Nat):Int):=by omega
    have C:=bit_test v (wd-1-k) al
    cases s:v.testBit (wd-1-k) with
    |true=>
     rw[s] at C c;clear s g1 hc;go_wp2_with fail;go_roundw
     ·exact⟨k+1,by omega,by rw[<-t.out,c.out];rfl,by go_num,g⟩
     ·simp[intOf];omega
    |false=>
     rw[s] at C c;clear s g1 hc;go_wp2_with fail;go_roundw
     ·exact⟨k+1,by omega,by rw[<-t.out,c.out];rfl,by go_num,g⟩
     ·simp[intOf];omega
   ·have af:((lv:Int) !=(L:Int)+(k:Int))=true:=by
     have:¬(lv:Int)=(L:Int)+(k:Int):=by omega
     simp[this]
    rw[yw hc] at c;go_wp2_with fail;go_roundw
    ·exact⟨k+1,by omega,by rw[<-t.out,c.out],by go_num,g⟩
    ·simp[intOf];omega
  ·have K:¬(k:Int)<(wd:Int):=by omega
   have ai:k=wd:=by omega
   rw[ai];go_wp2_with fail;go_ret;exact⟨rfl,g⟩
def φI:dP Int 3 where
 kv:=λx=> .int .i64 x
 lit:=λx=> .int .i64 x
 ok:=λx=>(Lit.int .i64 x).wf=true
 key:=λx h=>keyOf_int_mk Tryz.underlying3 h
 K:=int_keyed Tryz.underlying3
 inj:=λx y h=>by simpa using h
theorem keyPoint:Keyed Tryz.prog 224:=Keyed.of_law (deep_law_laid n8 (m:=2) (by omega) (AD (by kernel_rfl)) (by kernel_rfl) (by rw[Tryz.underlying224]))
def lit2 (a b:Int):Lit:= .string (keyBytes [.int .i64 a,.int .i64 b])
theorem xE (a b:Int) (g:(Lit.int .i64 a).wf=true) (h:(Lit.int .i64 b).wf=true):keyOf Tryz.prog 224 (.agg #[.int .i64 a,.int .i64 b])=some (lit2 a b):=by
 have e:Tryz.prog.keyType 224=true:=by kernel_rfl
 have c:Tryz.prog.cellsOf 224=2:=by kernel_rfl
 have f:(Value.agg #[.int .i64 a,.int .i64 b]).formed Tryz.prog 224=true:=by
  simp[Value.formed,Tryz.underlying224,c]
 have c3:Tryz.prog.cellsOf 3=1:=by kernel_rfl
 have hk:∀d x,(Lit.int .i64 x).wf=true->Tryz.prog.keyLits (d+1) 3 [.int .i64 x]=some [.int .i64 x]:=λd x k=>by
  simp[Program.keyLits,Tryz.underlying3,k]
 obtain⟨d,i⟩:∃d,Tryz.prog.types.size=d+1:=⟨Tryz.prog.types.size-1,by have:0<Tryz.prog.types.size:=AD (by kernel_rfl);omega⟩;unfold keyOf;simp only[Tryz.underlying224,e,f,Bool.and_self,if_true,i];show(Tryz.prog.keyLits (d+1+1) 224 [.int .i64 a,.int .i64 b]).map _=_
 have j:Tryz.prog.keyLits (d+1+1) 224 [.int .i64 a,.int .i64 b]=some [.int .i64 a,.int .i64 b]:=by
  unfold Program.keyLits;rw[Tryz.underlying224];simp[c,c3,hk d a g,hk d b h]
 rw[j];rfl
def φP:dP (Int×Int) 224 where
 kv:=λx=> .agg #[.int .i64 x.1,.int .i64 x.2]
 lit:=λx=>lit2 x.1 x.2
 ok:=λx=>(Lit.int .i64 x.1).wf=true/\(Lit.int .i64 x.2).wf=true
 key:=λx h=>xE x.1 x.2 h.1 h.2
 K:=keyPoint
 inj:=λx y h=>by
  simp only[Value.agg.injEq,Array.mk.injEq,By,Value.int.injEq,true_and,B9] at h;exact Prod.ext h.1 h.2
theorem i4 {n:Nat} (h:n<=1000000):(Lit.int .i64 (n:Int)).wf=true:=by
 have a:IntKind.i64.min= -9223372036854775808:=rfl;have b:IntKind.i64.max=9223372036854775807:=rfl;simp[Lit.wf,a,b];omega
def FxV (w:World) (v:Value) (a:List (Int×Int)):Prop:=(v= .map none/\a=[])\/∃b,v= .map (some b)/\bY φI w b a
theorem FxV.below {w w':World} {v:Value} {fx:List (Int×Int)} (h:FxV w v fx) (d:Below w.heap.size w w'):FxV w' v fx:=by
 rcases h with h|⟨b,a,c⟩
 ·exact .inl h
 ·exact .inr ⟨b,a,c.below d⟩
instance {w w':World} {v:Value} {fx:List (Int×Int)}:Zm w w' (FxV w v fx) (FxV w' v fx):=⟨λhb h=>FxV.below h hb⟩
theorem FxV.look2 {w:World} {v:Value} {a:List (Int×Int)} (h:FxV w v a) (i:Nat) (hi:i<=1000000):(Instr.lookup 161 v (.int .i64 (i:Nat)) true).run Tryz.prog w= .ok (match cq a (i:Int) with
   |some i=> .tuple #[.int .i64 i,.bool true]
   |none=> .tuple #[.int .i64 0,.bool false]) w:=by
 rcases h with⟨rfl,rfl⟩|⟨b,rfl,h⟩
 ·exact Maps.look_nil true (int_keyed Tryz.underlying3) Tryz.underlying161 (m8 w) (keyOf_int_mk Tryz.underlying3 (i4 hi))
 ·exact h.look2 Tryz.underlying161 (x:=(i:Int)) (i4 hi)
def pd (a:List (Int×Int)) (i b:Nat):List Int:=match cq a (i:Int) with
 |some x=>[x]
 |none=>(List.range (2^b)).map λv:Nat=>(v:Int)
theorem xN {m k:Nat} (h:k<m):((List.range k).map (λv:Nat=>(v:Int))++List.replicate (m-k) 0).set k (k:Int)=(List.range (k+1)).map (λv:Nat=>(v:Int))++List.replicate (m-(k+1)) 0:=by
 have e:m-k=(m-(k+1))+1:=by omega
 rw[BO _ _ (by rw[yD,A8];exact yq _),yD,A8,AG,e,List.replicate_succ,Bq,List.range_succ,Bx,yZ]
 rfl
theorem rnValues (w:World) (gs:Nat) (A1:Option Addr) (c1:Nat) (H S D G U R Q:Value) (A:Nat) (d:Bool) (V:Value) (vars:List Vr)
  (N:Box w gs (spC (.slice A1 vars.length c1) H S D G U R Q A d V) 89) (L:Rs vrR w (.slice A1 vars.length c1) vars ah)
  (i:Nat) (hi:i<vars.length) (Z:vars.length<=1000) (wd:Nat) (y:(vars.getD i vr0).width=wd) (u:wd<=8) (J:Value) (j:List (Int×Int)) (K:FxV w J j):
  Calls Tryz.prog 221 #[.pointer (some ⟨gs,0,none⟩),.int .i64 (i:Nat),J] w λe w'=>∃g,e= .returned (.slice (some ⟨g,0,none⟩) (pd j i wd).length (pd j i wd).length)/\w.heap.size<=g/\Box w' g (iA (pd j i wd)) 3/\Below w.heap.size w w':=by
 have B:=zh N;have h:=K.look2 i (by omega);obtain⟨A',c',e1, -,q⟩:=L.vrs;obtain⟨b,o,W,X,a⟩:=q i hi;simp only[yA] at e1;obtain⟨rfl, -,rfl⟩:=e1;subst W;have P:w.cell? ⟨b,o+i*4+1,none⟩=some (.int .i64 ((vars.getD i vr0).width)):=a 1 _ rfl;rw[y] at P;obtain⟨nv,t⟩:=zv (vars.length);rw[<-t] at B hi;have i0:(0:Int)<=(i:Int):=by omega
 have i1:(i:Int)<(nv:Int):=by omega
 have C:=eN (2^wd) (yK (AC (by omega) u) (by decide));have M:=it (show wd<=20 by omega);unfold pd;clear N L K q a y t;unfold spC at B;go_enter Tryz.func221,Tryz.ntmps221
 cases hq:cq j (i:Int) with
 |some x=>
  rw[hq] at h;simp only at h⊢;clear hq C M;go_wp2_with fail;go_ret;exact⟨w.heap.size,rfl,yq _,Box.new w _ _,ac _ _⟩
 |none=>
  rw[hq] at h;simp only at h⊢;clear hq;have hm:2^wd<=256:=by have:=AC (n:=2) (by omega) u;simpa using this
  have Y:0<2^wd:=BD (by simp);generalize 2^wd=m at*;have x0:=za B 0 rfl;have T:=C w;go_upto_region 5 with fail;clear x0 T C P h M;have c:=zh (Box.new w 3 (iA (List.replicate m 0)));have f:=zh (ac w (.cells (iA (List.replicate m 0)) 3));generalize w.alloc (.cells (iA (List.replicate m 0)) 3)=w1 at*;go_wp2_with fail
  go_loopw [33] (λI wr=>∃(k:Nat),k<=m/\I= .int .i64 (k:Nat)/\Box wr w.heap.size (iA ((List.range k).map (λv:Nat=>(v:Int))++List.replicate (m-k) 0)) 3/\Below w.heap.size w wr) (λI _=>m+1-(intOf I).toNat)
  case atStart=>exact⟨0,yt _,rfl,c,f⟩
  case round=>
   obtain⟨k,hk,rfl,z,l⟩:=hrel;clear c f;obtain⟨c,f⟩:=zk2 z l;clear z l
   by_cases F:k<m
   ·have s:(k:Int)<(m:Int):=by omega
    have k0:(0:Int)<=(k:Int):=by omega
    have x0:=c.out.at_ k _ (du (by rw[yu,yD,A8,Ax];omega));have x1:=c.out.frozen k;have x2:=c.out.lt;go_wp2_with fail;go_roundw
    ·refine⟨k+1,by omega,by go_num, ?_,f.out.setCell (p:=⟨w.heap.size,k,none⟩) (yq _) _⟩;have:=c.out.set_ k (.int .i64 (k:Nat));rw[gG,xN F] at this;exact this
    ·simp[intOf];omega
   ·have s:¬(k:Int)<(m:Int):=by omega
    have r:k=m:=by omega
    have E:=zh (show Box wr w.heap.size (iA ((List.range m).map λv:Nat=>(v:Int))) 3 by
     have:=c.out;rw[r,AG,List.replicate_zero,AT] at this
     exact this)
    clear c r;go_wp2_with fail;go_ret;exact⟨w.heap.size,by first|rfl|(rw[yD,A8];rfl),yq _,E,f⟩
def fkV (gE gD gd gv gC gK:Nat):Value:= .func (.func 145) #[] #[.pointer (some ⟨gE,0,none⟩),.pointer (some ⟨gD,0,none⟩),.pointer (some ⟨gd,0,none⟩),.pointer (some ⟨gv,0,none⟩),.pointer (some ⟨gC,0,none⟩),.pointer (some ⟨gK,0,none⟩)]
structure FkS (w0:World) (gE gD gd gv gC gK bk bd fc:Nat) (cv:Array Value) (A:Option Addr) (N c n:Nat) (e0 e1:Int) (W:World):Prop where
 hb:Below w0.heap.size w0 W
 xe:Box W gE #[.int .i64 e0,.int .i64 e1] 157
 xD:Box W gD #[.slice (some ⟨bd,0,none⟩) n n] 43
 xd:Box W gd #[.slice A N c] 38
 xv:Box W gv #[fkV gE gD gd gv gC gK] 120
 xc:Box W gC #[.func (.func fc) #[] cv] 158
 xk:Box W gK #[.slice (some ⟨bk,0,none⟩) n n] 32
structure FkT (F:Nat->Int) (bk bd n:Nat) (kn:List Int) (dn:List Bool) (W:World):Prop where
 rk:Box W bk (iA kn) 3
 rd:Box W bd (bA dn) 4
 ok:KnwT F kn dn
 len:dn.length=n
structure CombC (w0:World) (fc:Nat) (cv:Array Value) (d:List Nd) (F:Nat->Int) (n:Nat):Prop where
 enter:∀args W,(callFunc fc args).run Tryz.prog W= .ok (.enter fc args) W
 call:∀i W,2<=i->i<n->Below w0.heap.size w0 W->Calls Tryz.prog fc (#[.agg #[.int .i64 ((ndA d i).lv:Nat),.int .i64 ((ndA d i).lo:Nat),.int .i64 ((ndA d i).hi:Nat)],.int .i64 (F (ndA d i).lo),.int .i64 (F (ndA d i).hi)]++cv) W λe W'=>e= .returned (.int .i64 (F i))/\Below W.heap.size W W'
section
variable {w0 W W':World} {gE gD gd gv gC gK bk bd fc:Nat} {cv:Array Value} {A:Option Addr} {N c n:Nat} {e0 e1:Int} {F:Nat->Int} {kn:List Int} {dn:List Bool}
theorem FkS.below (h:FkS w0 gE gD gd gv gC gK bk bd fc cv A N c n e0 e1 W) (hb:Below W.heap.size W W'):FkS w0 gE gD gd gv gC gK bk bd fc cv A N c n e0 e1 W':=
 ⟨ab h.hb hb,h.xe.below hb,h.xD.below hb,h.xd.below hb,h.xv.below hb,h.xc.below hb,h.xk.below hb⟩
instance:Zm W W' (FkS w0 gE gD gd gv gC gK bk bd fc cv A N c n e0 e1 W) (FkS w0 gE gD gd gv gC gK bk bd fc cv A N c n e0 e1 W'):=⟨λhb h=>FkS.below h hb⟩
theorem FkT.below (h:FkT F bk bd n kn dn W) (a:Below W.heap.size W W'):FkT F bk bd n kn dn W':=⟨h.rk.below a,h.rd.below a,h.ok,h.len⟩
instance:Zm W W' (FkT F bk bd n kn dn W) (FkT F bk bd n kn dn W'):=⟨λhb h=>FkT.below h hb⟩
theorem FkS.k2 (h:FkS w0 gE gD gd gv gC gK bk bd fc cv A N c n e0 e1 W) (hk:K2 W W' bk bd) (a:FkT F bk bd n kn dn W) (b:w0.heap.size<=bk) (d:w0.heap.size<=bd):FkS w0 gE gD gd gv gC gK bk bd fc cv A N c n e0 e1 W':=
 ⟨hk.toBelow h.hb b d,hk.box h.xe (af h.xe a.rk (by decide)) (af h.xe a.rd (by decide)),hk.box h.xD (af h.xD a.rk (by decide)) (af h.xD a.rd (by decide)),
  hk.box h.xd (af h.xd a.rk (by decide)) (af h.xd a.rd (by decide)),hk.box h.xv (af h.xv a.rk (by decide)) (af h.xv a.rd (by decide)),
  hk.box h.xc (af h.xc a.rk (by decide)) (af h.xc a.rd (by decide)),hk.box h.xk (af h.xk a.rk (by decide)) (af h.xk a.rd (by decide))⟩
theorem FkT.ne (a:FkT F bk bd n kn dn W):bk≠bd:=af a.rk a.rd (by decide)
end
def FkR (F:Nat->Int) (bk bd n k:Nat) (W:World) (e:Ending) (W':World):Prop:=e= .returned (.int .i64 (F k))/\K2 W W' bk bd/\∃kn dn,FkT F bk bd n kn dn W'
def S6N (gK gD gC gn bk bd n fc:Nat) (cv:Array Value) (a lo hi:Nat) (W:World):Prop:=Box W gK #[.slice (some ⟨bk,0,none⟩) n n] 32/\Box W gD #[.slice (some ⟨bd,0,none⟩) n n] 43/\Box W gC #[.func (.func fc) #[] cv] 158/\Box W gn #[.int .i64 (a:Nat),.int .i64 (lo:Nat),.int .i64 (hi:Nat)] 95
def SVN (gv gn:Nat) (a:Value) (b lo hi:Nat) (W:World):Prop:=Box W gv #[a] 120/\Box W gn #[.int .i64 (b:Nat),.int .i64 (lo:Nat),.int .i64 (hi:Nat)] 95
theorem ctVisit1 {w0:World} {gE gD gd gv gC gK bk bd fc:Nat} {cv:Array Value} {A:Option Addr} {c n:Nat} {e0 e1:Int} {F:Nat->Int} {d:List Nd} (hn:n<=d.length) (ap:n<=8192) (hd:Rs ndR w0 (.slice A d.length c) d ah) (hC:CombC w0 fc cv d F n) (h0:F 0=e0) (h1:F 1=e1)
  (ag:∀i,2<=i->i<n->(ndA d i).lo<i/\(ndA d i).hi<i) (ab:w0.heap.size<=bk) (l:w0.heap.size<=bd) (k:Nat) (hk:k<n)
  (IH:∀j,j<k->∀(W:World) (kn:List Int) (dn:List Bool),FkS w0 gE gD gd gv gC gK bk bd fc cv A d.length c n e0 e1 W->FkT F bk bd n kn dn W->Calls Tryz.prog 145 #[.int .i64 (j:Nat),.pointer (some ⟨gE,0,none⟩),.pointer (some ⟨gD,0,none⟩),.pointer (some ⟨gd,0,none⟩),.pointer (some ⟨gv,0,none⟩),.pointer (some ⟨gC,0,none⟩),.pointer (some ⟨gK,0,none⟩)] W (FkR F bk bd n j W))
  (W:World) (kn:List Int) (dn:List Bool) (M:FkS w0 gE gD gd gv gC gK bk bd fc cv A d.length c n e0 e1 W) (hT:FkT F bk bd n kn dn W):
  Calls Tryz.prog 145 #[.int .i64 (k:Nat),.pointer (some ⟨gE,0,none⟩),.pointer (some ⟨gD,0,none⟩),.pointer (some ⟨gd,0,none⟩),.pointer (some ⟨gv,0,none⟩),.pointer (some ⟨gC,0,none⟩),.pointer (some ⟨gK,0,none⟩)] W (FkR F bk bd n k W):=by
 have eg:=hC.enter;have J:∀args W,(callFunc 145 args).run Tryz.prog W= .ok (.enter 145 args) W:=λargs W=>by kernel_rfl
 obtain⟨a,f,HI,HC,HD,T⟩:=zk6 M hT IH hC hd ag;obtain⟨Q,P,H0,H1,HN⟩:=zk5 ab l h0 h1 hn;obtain⟨N,hN⟩:=zv (d.length);have X:=zh hN;rw[<-hN] at a HI HD;clear M hT IH hC hd ag ab l h0 h1 hn hN
 by_cases k0:k=0
 ·subst k0;have x0:=a.out.xe.at_ 0 _ rfl;clear eg J;go_enter Tryz.func145,Tryz.ntmps145;go_wp2_with fail;go_ret;exact⟨by rw[H0.out];rfl,⟨rfl,rfl,rfl,yq _,λ_ _ _ _=>rfl⟩,_,_,f⟩
 by_cases k1:k=1
 ·subst k1;have x0:=a.out.xe.at_ 1 _ rfl;clear eg J;go_enter Tryz.func145,Tryz.ntmps145;go_wp2_with fail;go_ret;exact⟨by rw[H1.out];rfl,⟨rfl,rfl,rfl,yq _,λ_ _ _ _=>rfl⟩,_,_,f⟩
 have k2:¬(k:Int)<2:=by omega
 have k3:(0:Int)<=(k:Int):=by omega
 have k4:(k:Int)<(n:Int):=by omega
 have x0:=a.out.xD.at_ 0 _ rfl;have s:k<dn.length:=by rw[f.out.len];exact hk
 have x1:=f.out.rd.at_ k _ (is (yp s));have R:Hid (dn.getD k false=dn[k]):=zh (by rw[yj,yp s];rfl);go_enter Tryz.func145,Tryz.ntmps145;generalize dn[k]=q at*
 cases q with
 |true=>
  have x2:=a.out.xk.at_ 0 _ rfl;have x3:=f.out.rk.at_ k _ (du (by rw[f.out.ok.1];exact s));rw[f.out.ok.2 k s R.out] at x3;clear eg J s;go_wp2_with fail;go_ret;exact⟨rfl,⟨rfl,rfl,rfl,yq _,λ_ _ _ _=>rfl⟩,_,_,f⟩
 |false=>
  clear R s;have x2:=a.out.xd.at_ 0 _ rfl;obtain⟨A',c',e1, -,ad⟩:=HD.out.nds;obtain⟨b,o,rfl,K,y0,y1,y2⟩:=ad k (by have:=HN.out;omega);simp only[yA] at e1;obtain⟨rfl, -,rfl⟩:=e1;replace y0:=(a.out.hb.cell K).trans y0;replace y1:=(a.out.hb.cell K).trans y1;replace y2:=(a.out.hb.cell K).trans y2;have k5:(k:Int)<(N:Int):=by have:=HN.out;have:=X.out;omega
  have CC:=zh λW' h=>HC.out.call k W' (by omega) hk h;obtain⟨l1,l2⟩:=T.out k (by omega) hk;have CL:=zh λW' L I h h'=>HI.out (ndA d k).lo l1 W' L I h h';have CH:=zh λW' L I h h'=>HI.out (ndA d k).hi l2 W' L I h h';generalize(ndA d k).lv=lv at*;generalize(ndA d k).lo=lo at*;generalize(ndA d k).hi=hi at*;clear ad l1 l2 HI HC HD T X HN;go_upto_region 5 with fail;clear x0 x1 x2 y0 y1 y2;have u:=ac W (.cells #[.int .i64 (lv:Nat),.int .i64 (lo:Nat),.int .i64 (hi:Nat)] 95);have m:=zh (Box.new W 95 #[.int .i64 (lv:Nat),.int .i64 (lo:Nat),.int .i64 (hi:Nat)]);replace a:=zb a u;replace f:=zb f u;have v:Hid (K2 W (W.alloc (.cells #[.int .i64 (lv:Nat),.int .i64 (lo:Nat),.int .i64 (hi:Nat)] 95)) bk bd):=zh ⟨u.os,u.tape,u.output,u.size,λb hb _ _=>u.block b hb⟩;clear u;generalize W.alloc (.cells #[.int .i64 (lv:Nat),.int .i64 (lo:Nat),.int .i64 (hi:Nat)] 95)=w1 at*;generalize W.heap.size=gn at*;refine Ab (S:=SVN gv gn (.func (.func 145) #[] #[.pointer (some ⟨gE,0,none⟩),.pointer (some ⟨gD,0,none⟩),.pointer (some ⟨gd,0,none⟩),.pointer (some ⟨gv,0,none⟩),.pointer (some ⟨gC,0,none⟩),.pointer (some ⟨gK,0,none⟩)]) lv lo hi) (by kernel_rfl) ⟨a.out.xv,m⟩ (λM=> ?_);have l:Below w1.heap.size w1 w1.drew:=ae _;replace a:=zb a l;replace f:=zb f l;replace v:=zb v l;replace m:=zb m l;clear l;generalize w1.drew=w2 at*;refine zt 0 (.func (.func 145) #[] #[.pointer (some ⟨gE,0,none⟩),.pointer (some ⟨gD,0,none⟩),.pointer (some ⟨gd,0,none⟩),.pointer (some ⟨gv,0,none⟩),.pointer (some ⟨gC,0,none⟩),.pointer (some ⟨gK,0,none⟩)]) rfl (Or.inl ⟨by rfl,λW r=>by have q:=r.1.at_ 0 _ rfl;go_simp⟩) ?_;simp only[zp];refine zt 1 (.pointer (some ⟨gn,1,none⟩)) rfl (Or.inl ⟨by rfl,λW r=>by go_simp⟩) ?_;simp only[zp];refine zt 2 (.int .i64 (lo:Nat)) rfl (Or.inl ⟨by rfl,λW r=>by have q:=r.2.at_ 1 _ rfl;go_simp⟩) ?_;simp only[zp];refine zt 4 (.func (.func 145) #[] #[.pointer (some ⟨gE,0,none⟩),.pointer (some ⟨gD,0,none⟩),.pointer (some ⟨gd,0,none⟩),.pointer (some ⟨gv,0,none⟩),.pointer (some ⟨gC,0,none⟩),.pointer (some ⟨gK,0,none⟩)]) rfl (Or.inl ⟨by rfl,λW r=>by have q:=r.1.at_ 0 _ rfl;go_simp⟩) ?_;simp only[zp];refine zt 5 (.pointer (some ⟨gn,2,none⟩)) rfl (Or.inl ⟨by rfl,λW r=>by go_simp⟩) ?_;simp only[zp];refine zt 6 (.int .i64 (hi:Nat)) rfl (Or.inl ⟨by rfl,λW r=>by have q:=r.2.at_ 2 _ rfl;go_simp⟩) ?_;simp only[zp];clear M;refine aB (i:=3) (by kernel_rfl) rfl ?_;go_wp2_with fail;refine(CL w2 _ _ a f).mono ?_;rintro e w3 ⟨rfl,g,aq,ao,C⟩;replace a:=zh (a.out.k2 g f Q P);replace m:=zh (g.box m (af m f.out.rk (by decide)) (af m f.out.rd (by decide)));replace v:=zh (v.out.trans g);replace f:=zh C;clear g C CL;go_wp2_with fail;refine⟨rfl,⟨a.out.xv,m⟩, ?_⟩;refine aB (i:=7) (by kernel_rfl) rfl ?_;go_wp2_with fail;refine(CH w3 _ _ a f).mono ?_;rintro e w4 ⟨rfl,g,E,B,C⟩;replace a:=zh (a.out.k2 g f Q P);replace m:=zh (g.box m (af m f.out.rk (by decide)) (af m f.out.rd (by decide)));replace v:=zh (v.out.trans g);replace f:=zh C;clear g C CH;go_wp2_with fail;refine⟨rfl,⟨a.out.xv,m⟩, ?_⟩;refine aB (i:=8) (by kernel_rfl) rfl ?_;go_wp2_with fail;refine⟨rfl,⟨a.out.xv,m⟩, ?_⟩;refine aB (i:=9) (by kernel_rfl) rfl ?_;go_wp2_with fail;refine⟨rfl,⟨a.out.xv,m⟩,AN (by kernel_rfl) ?_ _⟩;go_upto_region 6 with fail;refine Ab (S:=S6N gK gD gC gn bk bd n fc cv lv lo hi) (by kernel_rfl) ⟨a.out.xk,a.out.xD,a.out.xc,m⟩ (λM=> ?_);have l:Below w4.heap.size w4 w4.drew:=ae _;replace a:=zb a l;replace f:=zb f l;replace v:=zb v l;replace m:=zb m l;clear l;generalize w4.drew=w5 at*;refine zt 0 (.slice (some ⟨bk,0,none⟩) n n) rfl (Or.inl ⟨by rfl,λW r=>by have q:=r.1.at_ 0 _ rfl;go_simp⟩) ?_;simp only[zp];refine zt 1 (.int .i64 (k:Nat)) rfl (Or.inl ⟨by rfl,λW r=>by go_simp⟩) ?_;simp only[zp];refine zt 2 (.slice (some ⟨bd,0,none⟩) n n) rfl (Or.inl ⟨by rfl,λW r=>by have q:=r.2.1.at_ 0 _ rfl;go_simp⟩) ?_;simp only[zp];refine zt 3 (.int .i64 (k:Nat)) rfl (Or.inl ⟨by rfl,λW r=>by go_simp⟩) ?_;simp only[zp];refine zt 4 (.func (.func fc) #[] cv) rfl (Or.inl ⟨by rfl,λW r=>by have q:=r.2.2.1.at_ 0 _ rfl;go_simp⟩) ?_;simp only[zp];refine zt 5 (.agg #[.int .i64 (lv:Nat),.int .i64 (lo:Nat),.int .i64 (hi:Nat)]) rfl (Or.inl ⟨by rfl,λW r=>by have q0:=r.2.2.2.at_ 0 _ rfl;have q1:=r.2.2.2.at_ 1 _ rfl;have q2:=r.2.2.2.at_ 2 _ rfl;go_simp⟩) ?_;simp only[zp];refine zt 6 (.int .i64 (F lo)) rfl (Or.inl ⟨by rfl,λW r=>by go_simp⟩) ?_;simp only[zp];refine zt 7 (.int .i64 (F hi)) rfl (Or.inl ⟨by rfl,λW r=>by go_simp⟩) ?_;simp only[zp];clear M;refine aB (i:=8) (by kernel_rfl) rfl ?_;go_wp2_with fail;refine(CC w5 a.out.hb).mono ?_;rintro e w6 ⟨rfl,D⟩;replace a:=zb a D;replace f:=zb f D;replace v:=zb v D;replace m:=zb m D;clear D CC;go_wp2_with fail;refine⟨rfl,⟨a.out.xk,a.out.xD,a.out.xc,m⟩, ?_⟩;have ai:k<E.length:=by rw[f.out.ok.1,f.out.len];exact hk
  have g:k<B.length:=by rw[f.out.len];exact hk
  have r0:=f.out.rk.at_ k _ (du ai);have r1:=f.out.rk.frozen k;have r2:=f.out.rk.lt;have r3:=f.out.rd.at_ k _ (is (yp g));have r4:=f.out.rd.frozen k;have r5:=f.out.rd.lt;generalize B[k]=q4 at*;clear ai g;refine aB (i:=9) (by kernel_rfl) rfl ?_;go_wp2_with fail;refine⟨rfl,⟨a.out.xk,a.out.xD,a.out.xc,m⟩, ?_⟩;refine aB (i:=10) (by kernel_rfl) rfl ?_;go_wp2_with fail;have a1:=af f.out.rk a.out.xk (by decide);have a2:=af f.out.rk a.out.xD (by decide);have a3:=af f.out.rk a.out.xc (by decide);have a4:=af f.out.rk m (by decide);have a5:=f.out.ne;have y:=zh (a.out.xk.setNe (p:=⟨bk,k,none⟩) a1 (.int .i64 (F k)));have x:=zh (a.out.xD.setNe (p:=⟨bk,k,none⟩) a2 (.int .i64 (F k)));have w:=zh (a.out.xc.setNe (p:=⟨bk,k,none⟩) a3 (.int .i64 (F k)));have z:=zh (m.out.setNe (p:=⟨bk,k,none⟩) a4 (.int .i64 (F k)));have H:=zh (f.out.rk.set_ k (.int .i64 (F k)));rw[gG] at H;have t:=zh (f.out.rd.setNe (p:=⟨bk,k,none⟩) a5 (.int .i64 (F k)));have U:=zh (v.out.set (p:=⟨bk,k,none⟩) (.inl rfl) (.int .i64 (F k)));have V:=zh f.out.ok;have G:=zh f.out.len;refine⟨rfl,⟨y,x,w,z⟩, ?_⟩;clear a f v m r0 r1 r2 r3 r4 r5 a1 a2 a3 a4;generalize w6.setCell ⟨bk,k,none⟩ (.int .i64 (F k))=w7 at*;have g:k<B.length:=by rw[G.out];exact hk
  have r3:=t.out.at_ k _ (is (yp g));have r4:=t.out.frozen k;have r5:=t.out.lt;generalize B[k]=q4 at*;clear g;refine aB (i:=11) (by kernel_rfl) rfl ?_;go_wp2_with fail;refine⟨rfl,⟨y,x,w,z⟩, ?_⟩;refine aB (i:=12) (by kernel_rfl) rfl ?_;go_wp2_with fail;have a1:=af t y (by decide);have a2:=af t x (by decide);have a3:=af t w (by decide);have a4:=af t z (by decide);have Z:=zh (y.out.setNe (p:=⟨bd,k,none⟩) a1 (.bool true));have al:=zh (x.out.setNe (p:=⟨bd,k,none⟩) a2 (.bool true));have ak:=zh (w.out.setNe (p:=⟨bd,k,none⟩) a3 (.bool true));have am:=zh (z.out.setNe (p:=⟨bd,k,none⟩) a4 (.bool true));have an:=zh (H.out.setNe (p:=⟨bd,k,none⟩) (BQ a5) (.bool true));have aa:=zh (t.out.set_ k (.bool true));rw[qT] at aa;have aj:=zh (U.out.set (p:=⟨bd,k,none⟩) (.inr rfl) (.bool true));refine⟨rfl,⟨Z,al,ak,am⟩,AN (by kernel_rfl) ?_ _⟩;clear y x w z H t U r3 r4 r5 a1 a2 a3 a4 a5;generalize w7.setCell ⟨bd,k,none⟩ (.bool true)=w8 at*;have Y:Hid (FkT F bk bd n (E.set k (F k)) (B.set k true) w8):=zh ⟨an,aa,V.out.set,by rw[As];exact G⟩;have y0:=za Z 0 rfl;have s:k<(E.set k (F k)).length:=by rw[As,V.out.1,G.out];exact hk
  have y1:=Y.out.rk.at_ k _ (du s)
  have e9:(E.set k (F k)).getD k 0=F k:=by
   rw[yj,AR (by rw[As] at s;exact s)];rfl
  rw[e9] at y1;clear s e9;go_wp2_with fail;go_ret;exact⟨rfl,aj,_,_,Y⟩
theorem vV {w0:World} {gE gD gd gv gC gK bk bd fc:Nat} {cv:Array Value} {A:Option Addr} {c n:Nat} {e0 e1:Int} {F:Nat->Int} {d:List Nd} (q:n<=d.length) (f:n<=8192) (p:Rs ndR w0 (.slice A d.length c) d ah) (o:CombC w0 fc cv d F n) (g:F 0=e0) (l:F 1=e1)
  (e:∀i,2<=i->i<n->(ndA d i).lo<i/\(ndA d i).hi<i) (b:w0.heap.size<=bk) (a:w0.heap.size<=bd):∀(m k:Nat),k<m->k<n→
  ∀(W:World) (kn:List Int) (dn:List Bool),FkS w0 gE gD gd gv gC gK bk bd fc cv A d.length c n e0 e1 W->FkT F bk bd n kn dn W->Calls Tryz.prog 145 #[.int .i64 (k:Nat),.pointer (some ⟨gE,0,none⟩),.pointer (some ⟨gD,0,none⟩),.pointer (some ⟨gd,0,none⟩),.pointer (some ⟨gv,0,none⟩),.pointer (some ⟨gC,0,none⟩),.pointer (some ⟨gK,0,none⟩)] W (FkR F bk bd n k W)
 |0,k,h,_=>by omega
 |m+1,k,h,hk=>λW kn dn r s=>ctVisit1 q f p o g l e b a k hk (λj t=>vV q f p o g l e b a m j (by omega) (by omega)) W kn dn r s
theorem jl (n:Nat) (e:n<=100000) (W:World):(Instr.makeSlice 43 (.int .i64 (n:Int)) (.int .i64 (n:Int))).run Tryz.prog W= .ok (.slice (some ⟨W.heap.size,0,none⟩) n n) (W.alloc (.cells (bA (List.replicate n false)) 4)):=by
 obtain⟨i,hi,d,c,b⟩:=Bb infoB;have a:=run_make (P:=Tryz.prog) W 43 4 i (.bool false) Tryz.underlying43 hi d .i64 .i64 n n (by omega) (by omega) (by rw[b];omega) (by omega);rw[c] at a;simp only[y5] at a;rw[vp] at a;exact a
theorem ctFold {w:World} {fc:Nat} {cv:Array Value} {A:Option Addr} {c f:Nat} {e0 e1:Int} {F:Nat->Int} {d:List Nd} (hf:f<d.length) (J:d.length<=8192) (X:Rs ndR w (.slice A d.length c) d ah) (V:CombC w fc cv d F (f+1)) (S:F 0=e0) (U:F 1=e1)
  (x:∀i,2<=i->i<f+1->(ndA d i).lo<i/\(ndA d i).hi<i):
  Calls Tryz.prog 81 #[.agg #[.slice A d.length c],.int .i64 (f:Nat),.agg #[.int .i64 e0,.int .i64 e1],.func (.func fc) #[] cv] w λe w'=>e= .returned (.int .i64 (F f))/\Below w.heap.size w w':=by
 have aa:∀args W,(callFunc 145 args).run Tryz.prog W= .ok (.enter 145 args) W:=λargs W=>by kernel_rfl
 have ac:=zm;have Q:=zh λgE gD gd gv gC gK bk bd I H=>vV (gE:=gE) (gD:=gD) (gd:=gd) (gv:=gv) (gC:=gC) (gK:=gK) (bk:=bk) (bd:=bd) (show f+1<=d.length by omega) (by omega) X V S U x I H (f+1) f (by omega) (by omega);have G:=eN (f+1) (by omega);have E:=jl (f+1) (by omega);have C:=zh (xB F (f+1));have ab:f<=8192:=by omega
 generalize d.length=N at*;clear hf J X V S U x;have R:((f+1:Nat):Int)=(f:Int)+1:=by omega
 rw[R] at G E;clear R;generalize hn:f+1=n at*;have HN:=zh hn;go_enter Tryz.func81,Tryz.ntmps81;go_upto_region 1 with fail;generalize b:w.alloc _=zw1 at*;generalize j:zw1.alloc _=zw2 at*;generalize y:zw2.alloc _=w1 at*;obtain⟨l,s,r,q⟩:=zB3 b j y;clear b j y;have D:=G w1;have Z:=zh l.out.size;go_upto_region 2 with fail;clear D;generalize b:w1.alloc _=zw1 at*;generalize j:zw1.alloc _=w2 at*;obtain⟨a,k,t⟩:=zA2 b j;clear b j;replace s:=zb s a;replace r:=zb r a;replace q:=zb q a;replace l:=zb l a;clear a;have D:=E w2;have s2:=zh l.out.size;go_upto_region 3 with fail;clear D G E;generalize b:w2.alloc _=zw1 at*;generalize j:zw1.alloc _=w3 at*;obtain⟨a,o,z⟩:=zA2 b j;clear b j;replace s:=zb s a;replace r:=zb r a;replace q:=zb q a;replace k:=zb k a;replace t:=zb t a;replace l:=zb l a;clear a;have s3:=zh l.out.size;go_upto_region 4 with fail;generalize b:w3.alloc _=w4 at*;obtain⟨a,u⟩:=zA1 b;clear b;replace s:=zb s a;replace r:=zb r a;replace q:=zb q a;replace k:=zb k a;replace t:=zb t a;replace o:=zb o a;replace z:=zb z a;replace l:=zb l a;clear a;have K:=za u 0 rfl;have L:=u.out.frozen 0;have M:=u.out.lt;go_upto_region 5 with fail;have h:∀{g:Nat} {cs:Array Value} {T:TypeId},Box w4 g cs T->T≠120->Box (w4.setCell ⟨w3.heap.size,0,none⟩ (.func (.func 145) #[] #[.pointer (some ⟨w.heap.size+1,0,none⟩),.pointer (some ⟨w2.heap.size+1,0,none⟩),.pointer (some ⟨w.heap.size,0,none⟩),.pointer (some ⟨w3.heap.size,0,none⟩),.pointer (some ⟨w.heap.size+1+1,0,none⟩),.pointer (some ⟨w1.heap.size+1,0,none⟩)])) g cs T:=λY hT=>Y.setNe (p:=⟨w3.heap.size,0,none⟩) (af u Y (BQ hT)) _
 have m:Hid (FkS w (w.heap.size+1) (w2.heap.size+1) w.heap.size w3.heap.size (w.heap.size+1+1) (w1.heap.size+1) w1.heap.size w2.heap.size fc cv A N c n e0 e1 (w4.setCell ⟨w3.heap.size,0,none⟩ (.func (.func 145) #[] #[.pointer (some ⟨w.heap.size+1,0,none⟩),.pointer (some ⟨w2.heap.size+1,0,none⟩),.pointer (some ⟨w.heap.size,0,none⟩),.pointer (some ⟨w3.heap.size,0,none⟩),.pointer (some ⟨w.heap.size+1+1,0,none⟩),.pointer (some ⟨w1.heap.size+1,0,none⟩)]))):=zh
  ⟨l.out.setCell (p:=⟨w3.heap.size,0,none⟩) s3.out _,h r (by decide),h z (by decide),h s (by decide),u.out.set_ 0 _,h q (by decide),h t (by decide)⟩
 have v:Hid (FkT F w1.heap.size w2.heap.size n (List.replicate n 0) (List.replicate n false) (w4.setCell ⟨w3.heap.size,0,none⟩ (.func (.func 145) #[] #[.pointer (some ⟨w.heap.size+1,0,none⟩),.pointer (some ⟨w2.heap.size+1,0,none⟩),.pointer (some ⟨w.heap.size,0,none⟩),.pointer (some ⟨w3.heap.size,0,none⟩),.pointer (some ⟨w.heap.size+1+1,0,none⟩),.pointer (some ⟨w1.heap.size+1,0,none⟩)]))):=zh ⟨h k (by decide),h o (by decide),C,by simp⟩;clear h K L M k t o z u s r q l;generalize w4.setCell ⟨w3.heap.size,0,none⟩ (.func (.func 145) #[] #[.pointer (some ⟨w.heap.size+1,0,none⟩),.pointer (some ⟨w2.heap.size+1,0,none⟩),.pointer (some ⟨w.heap.size,0,none⟩),.pointer (some ⟨w3.heap.size,0,none⟩),.pointer (some ⟨w.heap.size+1+1,0,none⟩),.pointer (some ⟨w1.heap.size+1,0,none⟩)])=w5 at*;have x0:=m.out.xv.at_ 0 _ rfl;unfold fkV at x0;have P:=zh (Q (w.heap.size+1) (w2.heap.size+1) w.heap.size w3.heap.size (w.heap.size+1+1) (w1.heap.size+1) w1.heap.size w2.heap.size Z.out s2.out w5 _ _ m v);clear Q;go_wp2_with fail;refine P.out.mono ?_;rintro e w6 ⟨rfl,hk, -⟩;have B:=zh (hk.toBelow m.out.hb Z.out s2.out);clear hk P m v x0;go_wp2_with fail;go_ret;exact⟨rfl,B⟩
section
variable {d:List Nd} {n:Nat}
theorem qG (h:DV d):DownD d:=λi a hi=>by
 obtain⟨_,b,c,_⟩:=h.pl i a hi;exact⟨b,c⟩
def mxF (d:List Nd) (i:Nat):Int:=oz d (-1) (-1) (λx a b=>max (x.lv:Int) (max a b)) i
theorem r7 (h:DV d) {i:Nat} (hi:i<d.length) (a:2<=i):mxF d i=max ((ndA d i).lv:Int) (max (mxF d (ndA d i).lo) (mxF d (ndA d i).hi)):=tX (qG h) hi a
theorem mxF_lt (h:DV d) (c:Lim d n):∀i,i<d.length->mxF d i<n:=by
 intro i
 induction i using Nat.strongRecOn with
 |_ i ih=>
  intro hi
  by_cases a:2<=i
  ·obtain⟨e,f,g,_⟩:=h.pl i a hi;rw[r7 h hi a];have j:=ih _ f (by omega);have k:=ih _ g (by omega);have b:=c i e;unfold lvA at b;omega
  ·have:i=0\/i=1:=by omega
   rcases this with rfl|rfl
   ·show(-1:Int)<n;omega
   ·show(-1:Int)<n;omega
theorem oU (h:DV d) (c:n<=20) (a:Lim d n) {f k:Nat} (b:f<d.length) (hk:f<=k):gR d n k f=cD d n f:=by
 have i:aW d n f<=n:=by unfold aW;omega
 have e:=lL h c a k f (n-aW d n f) (aW d n f) b hk (yq _) (by omega);have g:=lL h c a f f (n-aW d n f) (aW d n f) b (yq _) (yq _) (by omega);rw[AG,Nat.pow_zero,Nat.mul_one] at e g;unfold cD;omega
theorem s5 (h:DV d) (b:n<=20) (a:Lim d n) {f:Nat} (g:f<d.length) (c:2<=f):cD d n f=cD d n (ndA d f).lo*2^(aW d n (ndA d f).lo-(ndA d f).lv-1)+cD d n (ndA d f).hi*2^(aW d n (ndA d f).hi-(ndA d f).lv-1):=by
 obtain⟨i,j,l,_⟩:=h.pl f c g;obtain⟨k,rfl⟩:∃k,f=k+1:=⟨f-1,by omega⟩
 have e:cD d n (k+1)=gR d n k (ndA d (k+1)).lo*2^(aW d n (ndA d (k+1)).lo-lvA d (k+1)-1)+gR d n k (ndA d (k+1)).hi*2^(aW d n (ndA d (k+1)).hi-lvA d (k+1)-1):=by
  show(if k+1<=1 then _ else _)=_;rw[yw (by omega)]
 rw[e,oU h b a (by omega) (by omega),oU h b a (show(ndA d (k+1)).hi<d.length by omega) (by omega)]
 rfl
theorem lx (h:DV d) (i:n<=20) (b:Lim d n) {f l:Nat} (c:f<d.length) (e:l<=aW d n f):dG d n f l<=2^(n-l):=by
 have g:aW d n f<=n:=by unfold aW;omega
 have a:=kp h i b c e (show n=l+(n-l) by omega);rw[<-a];unfold fX;refine yK (List.length_filter_le _ _) ?_;rw[oR];exact yq _
end
theorem ctFits (w:World) (A:Option Addr) (c f n:Nat) (d:List Nd) (p:Rs ndR w (.slice A d.length c) d ah) (k:DV d) (v:Lim d n) (s:f<d.length) (B:n<=20):
  Calls Tryz.prog 41 #[.agg #[.slice A d.length c],.int .i64 (f:Nat),.int .i64 (n:Nat)] w λe w'=>e= .returned (.bool true)/\Below w.heap.size w w':=by
 have r:=k.top;have l:∀args W,(callFunc 82 args).run Tryz.prog W= .ok (.enter 82 args) W:=λargs W=>by kernel_rfl
 have u:=zh fun(W:World) (h:Below w.heap.size w W)=>li W _ d k (p.below h)
 have t:=zh fun(W:World) (h:Below w.heap.size w W)=>ctFold (fc:=82) (cv:=#[]) (e0:= -1) (e1:= -1) (F:=mxF d) s r (p.below h) ⟨l,λi W' o hi _=>by
  rw[r7 k (by omega) o]
  exact ctFits1 W' _ _ _ _ _⟩ rfl rfl (λi o hi=>qG k i o (by omega))
 have x:=mxF_lt k v f s;generalize mxF d f=q at*;have y:¬((f:Int)<0):=by omega
 have z:(f:Int)<(d.length:Int):=by omega
 have C:¬((n:Int)<0):=by omega
 have D:¬((n:Int)>20):=by omega
 clear p k v s l;generalize d.length=N at*;go_enter Tryz.func41,Tryz.ntmps41;go_upto_region 1 with fail;generalize m:w.alloc _=w1 at*;obtain⟨b,j⟩:=zB1 m;clear m;have a:=za j 0 rfl;go_wp2_with fail;refine(u w1 b).mono ?_;rintro e w2 ⟨rfl,g⟩;clear a;replace j:=zb j g;replace b:=zb b g;clear g;clear u;have a:=za j 0 rfl;go_wp2_with fail;refine(t w2 b).mono ?_;rintro e E ⟨rfl,g⟩;clear a;replace j:=zb j g;replace b:=zb b g;clear g;clear t;go_wp2_with fail;go_ret;exact⟨rfl,b⟩
theorem ctBelow1 (w:World) (Q:Nat) (A:Option Addr) (c n i:Nat) (d:List Nd) (D:Box w Q #[.slice A d.length c,.int .i64 (n:Nat)] 93) (G:Rs ndR w (.slice A d.length c) d ah) (s:DV d) (u:Lim d n) (I:n<=20) (R:2<=i) (hi:i<d.length):
  Calls Tryz.prog 146 #[.agg #[.int .i64 ((ndA d i).lv:Nat),.int .i64 ((ndA d i).lo:Nat),.int .i64 ((ndA d i).hi:Nat)],.int .i64 ((cD d n (ndA d i).lo:Nat):Int),.int .i64 ((cD d n (ndA d i).hi:Nat):Int),.pointer (some ⟨Q,0,none⟩)] w λe w'=>e= .returned (.int .i64 ((cD d n i:Nat):Int))/\Below w.heap.size w w':=by
 have t:=zh D;have g:=zh (s5 s I u hi R);obtain⟨p1,p2,p3,_,p5,p6⟩:=s.pl i R hi;have H:=u i p1
 have k:∀x∈d,x.lv<=1000:=λx D=>by
  obtain⟨j,T,rfl⟩:=yS.1 D;have:=s.lvle T;unfold lvA ndA at this;rw[yj,yp T] at this;have e:(some d[j]).getD nd0=d[j]:=rfl;rw[e] at this;omega
 have K:=zh fun(W:World) (h:Below w.heap.size w W)=>qM W A c n (ndA d i).lo d (G.below h) (by omega) k (by omega);have J:=zh fun(W:World) (h:Below w.heap.size w W)=>qM W A c n (ndA d i).hi d (G.below h) (by omega) k (by omega);have o:=lx s I u (f:=(ndA d i).lo) (l:=lvA d i+1) (by omega) (by unfold aW;omega);have r:=lx s I u (f:=(ndA d i).hi) (l:=lvA d i+1) (by omega) (by unfold aW;omega);have F:2^(n-(lvA d i+1))<=1048576:=rP (by omega);have l1:(ndA d i).lv<lvN d n (ndA d i).lo:=by show _<aW d n _;unfold aW;unfold lvA at*;omega
 have l2:(ndA d i).lv<lvN d n (ndA d i).hi:=by show _<aW d n _;unfold aW;unfold lvA at*;omega
 unfold dG at o r;have e1:aW d n (ndA d i).lo-(lvA d i+1)=lvN d n (ndA d i).lo-(ndA d i).lv-1:=by show _=aW d n _-lvA d i-1;omega
 have P:aW d n (ndA d i).hi-(lvA d i+1)=lvN d n (ndA d i).hi-(ndA d i).lv-1:=by show _=aW d n _-lvA d i-1;omega
 rw[e1] at o;rw[P] at r;have l3:lvN d n (ndA d i).lo<=20:=by show aW d n _<=20;unfold aW;omega
 have l4:lvN d n (ndA d i).hi<=20:=by show aW d n _<=20;unfold aW;omega
 replace g:Hid (cD d n i=cD d n (ndA d i).lo*2^(lvN d n (ndA d i).lo-(ndA d i).lv-1)+cD d n (ndA d i).hi*2^(lvN d n (ndA d i).hi-(ndA d i).lv-1)):=g;rw[g.out];replace o:=yK o F;replace r:=yK r F;clear g D G s u p1 p2 p3 p5 p6 H k F e1 P;generalize lvN d n (ndA d i).lo=X at*;generalize lvN d n (ndA d i).hi=V at*;generalize cD d n (ndA d i).lo=a at*;generalize cD d n (ndA d i).hi=b at*;generalize(ndA d i).lv=lv at*;generalize(ndA d i).lo=lo at*;generalize(ndA d i).hi=hi' at*;generalize d.length=N at*;obtain⟨p,hp⟩:=zv (X-lv-1);obtain⟨q,U⟩:=zv (V-lv-1);rw[<-hp] at o⊢;rw[<-U] at r⊢;have g1:(X:Int)-lv-1=(p:Nat):=by omega
 have g2:(V:Int)-lv-1=(q:Nat):=by omega
 have Y:(a:Int)*2^p=((a*2^p:Nat):Int):=by simp
 have Z:(b:Int)*2^q=((b*2^q:Nat):Int):=by simp
 have w1:IntKind.i64.wrap ((a:Int)*2^p)=((a*2^p:Nat):Int):=by rw[Y];generalize a*2^p=z at*;exact Bt _ (by omega)
 have w2:IntKind.i64.wrap ((b:Int)*2^q)=((b*2^q:Nat):Int):=by rw[Z];generalize b*2^q=z at*;exact Bt _ (by omega)
 clear Y Z;obtain⟨z1,v⟩:=zv (a*2^p);obtain⟨z2,y⟩:=zv (b*2^q);rw[<-v] at w1 o⊢;rw[<-y] at w2 r⊢;clear v y hp U;go_enter Tryz.func146,Tryz.ntmps146;go_upto_region 1 with fail;have E:=zh (yx w.heap.size w);generalize B:w.alloc _=W1 at*;obtain⟨m,C⟩:=zB1 B;clear B;replace t:=zh (t.out.below m);have x0:=t.out.lat 0 _ rfl;have x1:=t.out.lat 1 _ rfl;have y0:=C.out.lat 0 _ rfl;have y1:=C.out.lat 1 _ rfl;have y2:=C.out.lat 2 _ rfl;have M:=zh λp:Lat W1=>K.out p.w (ab m p.h);have L:=zh λp:Lat W1=>J.out p.w (ab m p.h);refine aJ (by kernel_rfl) (by kernel_rfl) ?_
 repeat(go_big_quiet_step (first|(with_reducible exact bQ (M.out _))|(with_reducible exact bQ (L.out _))))
 refine yN ?_;intro w8 S;replace m:=zb m S;clear S M L x0 x1 y0 y1 y2 t C E K J;go_wp2_with fail;go_ret;exact⟨by rw[Int.natCast_add];rfl,m⟩
theorem ctBelow (w:World) (A:Option Addr) (c n f:Nat) (d:List Nd) (q:Rs ndR w (.slice A d.length c) d ah) (o:DV d) (s:Lim d n) (u:n<=20) (t:f<d.length):
  Calls Tryz.prog 83 #[.agg #[.slice A d.length c,.int .i64 (n:Nat)],.int .i64 (f:Nat)] w λe w'=>e= .returned (.int .i64 ((cD d n f:Nat):Int))/\Below w.heap.size w w':=by
 have j:=o.top;have v:=zm;have g:∀args W,(callFunc 146 args).run Tryz.prog W= .ok (.enter 146 args) W:=λargs W=>by kernel_rfl
 have r:=zh fun(W:World) (h:Below w.heap.size w W) (x:Box W w.heap.size #[.slice A d.length c,.int .i64 (n:Nat)] 93)=>ctFold (fc:=146) (cv:=#[.pointer (some ⟨w.heap.size,0,none⟩)]) (e0:=0) (e1:=1) (F:=λi=>((cD d n i:Nat):Int)) t j (q.below h) ⟨g,λi W' p hi a=>ctBelow1 W' w.heap.size A c n i d (x.below a) ((q.below h).below a) o s u p (by omega)⟩ rfl rfl (λi p hi=>qG o i p (by omega));generalize cD d n f=R at*;clear q o s u t g j;generalize d.length=N at*;go_enter Tryz.func83,Tryz.ntmps83;go_upto_region 1 with fail;generalize k:w.alloc _=w1 at*;obtain⟨l,m⟩:=zB1 k;clear k;have b:=za m 0 rfl;go_wp2_with fail;refine(r w1 l m).mono ?_;rintro e w2 ⟨rfl,a⟩;clear b;replace m:=zb m a;replace l:=zb l a;clear a;clear r;go_wp2_with fail;go_ret;exact⟨rfl,l⟩
theorem ctFrom (w:World) (A:Option Addr) (c n f l:Nat) (d:List Nd) (s:Rs ndR w (.slice A d.length c) d ah) (o:DV d) (r:Lim d n) (H:n<=20) (t:f<d.length) (u:l<=aW d n f):
  Calls Tryz.prog 42 #[.agg #[.slice A d.length c,.int .i64 (n:Nat)],.int .i64 (f:Nat),.int .i64 (l:Nat)] w λe w'=>e= .returned (.int .i64 ((dG d n f l:Nat):Int))/\Below w.heap.size w w':=by
 have i:∀x∈d,x.lv<=1000:=λx K=>by
  obtain⟨j,G,rfl⟩:=yS.1 K;have:=o.lvle G;unfold lvA ndA at this;rw[yj,yp G] at this;have e:(some d[j]).getD nd0=d[j]:=rfl;rw[e] at this;omega
 have y:=zh fun(W:World) (h:Below w.heap.size w W)=>qM W A c n f d (s.below h) t i (by omega);have v:=zh fun(W:World) (h:Below w.heap.size w W)=>ctBelow W A c n f d (s.below h) o r H t;have g:=lx o H r t u;have D:2^(n-l)<=1048576:=rP (by omega);have Q:lvN d n f<=20:=by show aW d n _<=20;unfold aW;omega
 have J:l<=lvN d n f:=u;unfold dG at g⊢;replace g:cD d n f*2^(lvN d n f-l)<=1048576:=yK g D;have E:cD d n f*2^(aW d n f-l)=cD d n f*2^(lvN d n f-l):=rfl;rw[E];clear E s o r u i D;generalize lvN d n f=L at*;generalize cD d n f=a at*;generalize d.length=N at*;obtain⟨p,hp⟩:=zv (L-l);rw[<-hp] at g⊢;have P:(L:Int)-l=(p:Nat):=by omega
 have I:(a:Int)*2^p=((a*2^p:Nat):Int):=by simp
 have w1:IntKind.i64.wrap ((a:Int)*2^p)=((a*2^p:Nat):Int):=by rw[I];generalize a*2^p=z at*;exact Bt _ (by omega)
 clear I;obtain⟨S,k⟩:=zv (a*2^p);rw[<-k] at w1 g⊢;clear k hp;go_enter Tryz.func42,Tryz.ntmps42;go_upto_region 1 with fail;generalize m:w.alloc _=W1 at*;obtain⟨b,q⟩:=zB1 m;clear m;have x0:=q.out.lat 0 _ rfl;have M:=q.out.lat 1 _ rfl;have C:=zh λp:Lat W1=>y.out p.w (ab b p.h);have B:=zh λp:Lat W1=>v.out p.w (ab b p.h);refine aJ (by kernel_rfl) (by kernel_rfl) ?_
 repeat(go_big_quiet_step (first|(with_reducible exact bQ (C.out _))|(with_reducible exact bQ (B.out _))))
 refine yN ?_;intro R F;replace b:=zb b F;clear F C B x0 M q y v;go_wp2_with fail;go_ret;exact⟨rfl,b⟩
theorem vW (w:World) (A:Option Addr) (c n f:Nat) (d:List Nd) (m:Rs ndR w (.slice A d.length c) d ah) (k:DV d) (l:Lim d n) (p:n<=20) (o:f<d.length):
  Calls Tryz.prog 30 #[.agg #[.slice A d.length c],.int .i64 (f:Nat),.int .i64 (n:Nat)] w λe w'=>e= .returned (.tuple #[.int .i64 ((dG d n f 0:Nat):Int),.int .i64 0])/\Below w.heap.size w w':=by
 have r:=zh fun(W:World) (h:Below w.heap.size w W)=>ctFits W A c f n d (m.below h) k l o p;have q:=zh fun(W:World) (h:Below w.heap.size w W)=>ctFrom W A c n f 0 d (m.below h) k l p o (yt _);generalize dG d n f 0=R at*;clear m k l p o;generalize d.length=N at*;go_enter Tryz.func30,Tryz.ntmps30;go_upto_region 1 with fail;generalize j:w.alloc _=w1 at*;obtain⟨b,i⟩:=zB1 j;clear j;have a:=za i 0 rfl;go_wp2_with fail;refine(r w1 b).mono ?_;rintro e w2 ⟨rfl,g⟩;clear a;replace i:=zb i g;replace b:=zb b g;clear g;clear r;have a:=za i 0 rfl;go_wp2_with fail;refine(q w2 b).mono ?_;rintro e s ⟨rfl,g⟩;clear a;replace i:=zb i g;replace b:=zb b g;clear g;clear q;go_wp2_with fail;go_ret2;exact⟨by trivial,b⟩
end
end Go.Proofs.YtdahpdnhkflnnaaGreatDoor
