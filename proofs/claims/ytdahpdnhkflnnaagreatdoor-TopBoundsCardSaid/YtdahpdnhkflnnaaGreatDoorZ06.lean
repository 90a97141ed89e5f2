/- Laws for TopBounds, part 6: made small by a program of mine. -/
import Derived.Test.YtdahpdnhkflnnaaGreatDoorZ03
import Derived.Test.YtdahpdnhkflnnaaGreatDoorZ05
set_option linter.unusedVariables false
set_option linter.unusedSimpArgs false
set_option linter.unusedSectionVars false
set_option linter.defProp false
set_option maxRecDepth 100000
set_option maxHeartbeats 64000000
namespace Go.Proofs.YtdahpdnhkflnnaaGreatDoor
open Value renaming int → zI, slice → zU, string → zV, bool → zW, agg → zX, tuple → zY
open IntKind renaming i64 → zi
open Ending renaming returned → zE
open Obj renaming cells → zC
open List renaming length → zN, getD → zG
open Or renaming inl → zQ, inr → zO
open Go.Proofs.Tryz
section
open Go.RowKit Go.Maps
section
variable (ts:List TypeId) {cv:Array Value} {e:Ex} {S:Type} {w w' w0 w2:World}
def dr (ts:List TypeId) (w w':World):Prop:=w.heap.size<=w'.heap.size/\∀b cs T,Box w b cs T->T∉ts->Box w' b cs T
def dr.refl (w:World):dr ts w w:=⟨DE _,λ_ _ _ h _=>h⟩
def dr.trans {ts:List TypeId} (h:dr ts w w') (a:dr ts w' w2):dr ts w w2:=⟨D2 h.1 a.1,λb cs T d c=>a.2 b cs T (h.2 b cs T d c) c⟩
def dr.of_below (h:zL w w'):dr ts w w':=⟨h.size,λ_ _ _ a _=>a.Q h⟩
def dr.Q {ts:List TypeId} (h:dr ts w w') (a:zL w' w2):dr ts w w2:=h.trans (.of_below ts a)
instance {ts:List TypeId} {w w' w2:World}:Zm w' w2 (dr ts w w') (dr ts w w2):=⟨λhb h=>dr.Q h hb⟩
def ExZ.a (h:ExZ e):∀a∈e.a,ExZ a:=by cases h;assumption
def ExZ.len (h:ExZ e):zN e.a<=maxLen:=by cases h;assumption
def ExZ.s (h:ExZ e):e.s.size<=maxLen:=by cases h;assumption
def ExZ.op (h:ExZ e):I64 e.op:=by cases h;assumption
def ExZ.n (h:ExZ e):I64 e.n:=by cases h;assumption
def exV (e:Ex) (x:Value):Value:=zX #[zI zi e.op,zI zi e.n,zV e.s,x]
structure sh {S:Type} (f:S->Ex->S×Bool) (I:S->World->Prop) (G:S->Nat->Prop) (TS:List TypeId) (w0:World) (fv:Nat) (cv:Array Value):Prop where
 h79:79∉TS
 h191:191∉TS
 Q:∀s W,I s W->zL w0 W
 later:∀s W W',I s W->zL W W'->I s W'
 room:∀s m e,G s (m+1)->G (f s e).1 m
 enter:∀args W,(callFunc fv args).run zz W= .ok (.enter fv args) W
 call:∀s m W e x d,G s (m+1)->I s W->ExZ e->Rs (exR d) w0 x e.a ah->Calls zz fv (#[exV e x]++cv) W λr W'=>r=zE (zW (f s e).2)/\I (f s e).1 W'/\dr TS W W'
def DnC (f:S->Ex->S×Bool) (I:S->World->Prop) (G:S->Nat->Prop) (a:List TypeId) (w0:World) (b:Nat) (cv:Array Value) (gv gd d:Nat):Prop:=
 ∀s m W e x,G s ((ax (d+1) e).length+m)->I s W->ExZ e->Rs (exR d) w0 x e.a ah->Box W gv #[.func (.func b) #[] cv] 191->Box W gd #[.func (.func 264) #[] #[zP gv,zP gd]] 191→
  Calls zz 264 #[exV e x,zP gv,zP gd] W λr W'=>r=zE (zW (goW f s (ax (d+1) e)).2)/\I (goW f s (ax (d+1) e)).1 W'/\dr a W W'
def AR {f:S->Ex->S×Bool} {I:S->World->Prop} {G:S->Nat->Prop} {TS:List TypeId} {fv:Nat} (hV:sh f I G TS w0 fv cv) (gv gd d:Nat) (IH:∀y,d=y+1->DnC f I G TS w0 fv cv gv gd y):DnC f I G TS w0 fv cv gv gd d:=by
 intro s m W e x hG hI hz hr bv bd;have eg:=hV.enter;have aH:∀args W,(callFunc 264 args).run zz W= .ok (.enter 264 args) W:=λargs W=>by kernel_rfl
 have⟨E,av,HG,l,HZ,HR⟩:=zk6 hV IH hG hI hz hr;have⟨v,u⟩:=zk2 bv bd;obtain⟨A,c,rfl,hc,hx⟩:=hr.exs;have HX:=zh hx;have⟨R,hR⟩:=zv (goW f s (ax (d+1) e));have ad:=zh hR;rw[<-hR];have⟨n,hn⟩:=zv (zN e.a);have HN:=zh hn;have CV:=zh λW' (h:I s W')=>hV.call s ((ax (d+1) e).length-1+m) W' e _ d (by have:=pE d e;rw[show(ax (d+1) e).length-1+m+1=(ax (d+1) e).length+m by omega];exact hG) h hz hr;rw[<-hn] at hc HX;unfold exV at CV⊢;rw[<-hn] at CV⊢;have⟨eo,ag⟩:=zv (e.op);have⟨en,af⟩:=zv (e.n);have⟨em,ae⟩:=zv (e.s);rw[<-ag,<-af,<-ae] at CV⊢;have aI:n<=9223372036854775807:=by have:=hz.len;unfold maxLen at this;omega
 clear hV hG hI hz hr bv bd hx hR hn ag af ae;go_enter func264,ntmps264;go_upto_region 1 with fail;generalize D:W.alloc _=w1 at*;have⟨j,P⟩:=zA1 D;clear D;replace⟨v,u⟩:=zb2 v u j;have w:=zh (dr.of_below TS j);replace l:=zh (E.later _ _ _ l j);clear j;generalize W.heap.size=ga at*;have aG:=za v 0;obtain⟨Z,aa,ab,C⟩:=zc4 P;go_wp2;clear aG Z aa ab C eg;refine(CV w1 l).mono ?_;rintro r w2 ⟨rfl,hi,hk⟩;have aD:=P.lt;replace w:=zh (w.trans hk);replace P:=zh (hk.2 _ _ _ P E.h79);replace v:=zh (hk.2 _ _ _ v E.h191);replace u:=zh (hk.2 _ _ _ u E.h191);replace l:=zh hi;clear hi hk;have ac:Hid (ax (d+1) e=e::br d e n):=zh (by rw[HN];exact(xU d e).symm);have H:Hid (goW f s (ax (d+1) e)=if(f s e).2=true then goW f (f s e).1 (br d e n) else((f s e).1,false)):=zh (by rw[ac];rfl);cases B:(f s e).2;case false=>
  rw[B,DK (by simp)] at H;have F:=zh (ad.trans H);clear B;go_wp2;go_ret;rw[F];exact⟨rfl,l,w⟩
 case true=>
  rw[B,DP rfl] at H;have F:=zh (ad.trans H);have ar:Hid (G (f s e).1 ((br d e n).length+m)):=zh (E.room _ _ _ (by have:=HG.out;rw[ac,DF] at this;rw[show(br d e n).length+m+1=(br d e n).length+1+m by omega];exact this));clear B;generalize(f s e).1=s1 at*;have C:=za P 3;go_wp2;clear C;go_loopw [14] (λi wr=>∃k:Nat,k<=n/\i=zI zi k/\(goW f s1 (br d e k)).2=true/\I (goW f s1 (br d e k)).1 wr/\dr TS W wr/\Box wr gv #[.func (.func fv) #[] cv] 191/\Box wr gd #[.func (.func 264) #[] #[zP gv,zP gd]] 191) (λi _=>n-(intOf i).toNat)
  .exact⟨0,DH _,rfl,by rw[vN];rfl,by rw[vN];exact l,w,v,u⟩
  obtain⟨k,hk,rfl,ah,hi,ai,ap,ak⟩:=hrel;clear aD;have⟨v,u,l,w,t⟩:=zk5 ap ak hi ai ah;clear ap ak hi ai ah;by_cases M:k<n
  .have⟨aj,k0⟩:=zln M;have X:k<zN e.a:=by rw[<-HN];exact M
   obtain⟨b,o,p,y,e2,J,K,g,Y, -⟩:=HX k M;subst e2;have z:=E.Q _ _ l;have v0:=(z.cell J).trans (g 0 _ rfl);have v1:=(z.cell J).trans (g 1 _ rfl);have v2:=(z.cell J).trans (g 2 _ rfl);have v3:=(z.cell J).trans (g 3 _ rfl);rw[Eb] at v0;have aA:Hid (br d e (k+1)=br d e k++ax (y+1) (zG e.a k ex0)):=zh (by rw[<-K];exact iK X);have az:Hid (goW f s1 (br d e (k+1))=goW f (goW f s1 (br d e k)).1 (ax (y+1) (zG e.a k ex0))):=zh (by rw[aA,s8,DP t.out]);have au:Hid (∃m',G (goW f s1 (br d e k)).1 ((ax (y+1) (zG e.a k ex0)).length+m')):=zh (by
    have h1:=xT (d:=d) X;rw[<-HN,K] at h1;have⟨q,B⟩:=FT h1;refine⟨q+m,uU E.room (br d e k) _ s1 ?_ t⟩;have:=ar.out;rw[K] at this⊢;rw[B] at this;rw[show(br (y+1) e k).length+((ax (y+1) (zG e.a k ex0)).length+(q+m))=(br (y+1) e k).length+(ax (y+1) (zG e.a k ex0)).length+q+m by omega];exact this);have aB:=zh (HZ.a _ (getD_in ex0 X));have ay:=zh Y;obtain⟨m',N⟩:=au;have N:=zh N;have aq:=zh (av y K);generalize zG e.a k ex0=a at*;obtain⟨Ap,cp,rfl,aC⟩:=Y.slice;clear g Y z;have CD:=zh fun(W':World) (h1:I (goW f s1 (br d e k)).1 W') h2 h3=>aq _ m' W' a _ N h1 aB ay h2 h3;unfold exV at CD;have⟨ao,V⟩:=zv (a.op);have⟨an,U⟩:=zv (a.n);have⟨am,T⟩:=zv (a.s);have⟨al,Q⟩:=zv (zN a.a);rw[<-V,<-U,<-T,<-Q] at CD;rw[<-V] at v0;rw[<-U] at v1;rw[<-T] at v2;rw[<-Q] at v3;clear V U T Q aC;go_upto_region 6 with fail;clear v0 v1 v2 v3;generalize D:wr.alloc _=w3 at*;have⟨j,P⟩:=zA1 D;clear D;replace⟨v,u,w⟩:=zb3 v u w j;replace l:=zh (E.later _ _ _ l j);clear j;generalize wr.heap.size=gk at*;have aF:=za u 0;obtain⟨Z,aa,ab,C⟩:=zc4 P;go_wp2;clear aF Z aa ab C;refine(CD w3 l v u).mono ?_;rintro r w4 ⟨rfl,hi,L⟩;rw[<-az] at hi⊢;replace w:=zh (w.trans L);replace v:=zh (L.2 _ _ _ v E.h191);replace u:=zh (L.2 _ _ _ u E.h191);replace l:=zh hi;clear hi L;cases B:(goW f s1 (br d e (k+1))).2;case false=>
    have aw:Hid (R=goW f s1 (br d e (k+1))):=zh (by rw[F];exact QJ ⟨by omega,by rw[<-HN];exact DE _⟩ B);go_wp2;go_ret;rw[aw,B];exact⟨rfl,l,w⟩
   case true=>
    have t:=zh B;clear B;go_wp2;go_roundw
    .exact⟨k+1,by omega,by go_num,t,l,w,v,u⟩
    simp[intOf];omega
  have⟨aj,aE⟩:=zgq hk M;rw[aE,<-F] at t l;go_wp2;go_ret;rw[t];exact⟨rfl,l,w⟩
theorem Q8 {S:Type} {f:S->Ex->S×Bool} {I:S->World->Prop} {G:S->Nat->Prop} {b:List TypeId} {w0:World} {c:Nat} {cv:Array Value} (a:sh f I G b w0 c cv) (gv gd:Nat):∀d,DnC f I G b w0 c cv gv gd d
 |0=>AR a gv gd 0 λd' h=>by omega
 |d+1=>AR a gv gd (d+1) λd' h=>by
  obtain rfl:d=d':=by omega
  exact Q8 a gv gd d
def xB {f:S->Ex->S×Bool} {I:S->World->Prop} {G:S->Nat->Prop} {y:List TypeId} {L:Nat} (C:sh f I G y w0 L cv) (d:Nat) (s:S) (W:World) (e:Ex) (A:Option Addr) (c:Nat) (M:G s (ax (d+1) e).length) (N:I s W) (T:ExZ e) (Q:Rs (exR d) w0 (zU A (zN e.a) c) e.a ah):Calls zz 196 #[exV e (zU A (zN e.a) c),.func (.func L) #[] cv] W λr W'=>r=zE (zY #[])/\I (goW f s (ax (d+1) e)).1 W'/\dr y W W':=by
 have ab:=zm;have aa:∀args W,(callFunc 264 args).run zz W= .ok (.enter 264 args) W:=λargs W=>by kernel_rfl
 have⟨X,V⟩:=zk2 C N;have q:=zh λgv gd (W':World) (h1:I s W') h2 h3=>Q8 C gv gd d s 0 W' e _ M h1 T Q h2 h3;generalize goW f s (ax (d+1) e)=R at*;unfold exV at q⊢;have⟨eo,j⟩:=zv (e.op);have⟨en,i⟩:=zv (e.n);have⟨em,h⟩:=zv (e.s);have⟨n,P⟩:=zv (zN e.a);rw[<-j,<-i,<-h,<-P] at q⊢;clear j i h P C M N T Q;go_enter func196,ntmps196;go_upto_region 2 with fail;generalize k:W.alloc _=zw1 at*;generalize l:zw1.alloc _=zw2 at*;generalize m:zw2.alloc _=w1 at*;have⟨U,Y,Z,o⟩:=zB3 k l m;clear k l m;have a:=za o 0;have J:=o.Z 0;have K:=o.lt;have u:Value:= .func (.func 264) #[] #[.pointer (some ⟨W.heap.size+1,0,none⟩),.pointer (some ⟨W.heap.size+1+1,0,none⟩)];have g:=zh (o.set_ 0 (.func (.func 264) #[] #[.pointer (some ⟨W.heap.size+1,0,none⟩),.pointer (some ⟨W.heap.size+1+1,0,none⟩)]));have B:=zh (Z.setNe ⟨W.heap.size+1+1,0,none⟩ (.func (.func 264) #[] #[.pointer (some ⟨W.heap.size+1,0,none⟩),.pointer (some ⟨W.heap.size+1+1,0,none⟩)]));have z:=zh (Y.setNe ⟨W.heap.size+1+1,0,none⟩ (.func (.func 264) #[] #[.pointer (some ⟨W.heap.size+1,0,none⟩),.pointer (some ⟨W.heap.size+1+1,0,none⟩)]));have b:=zh (U.setCell (p:=⟨W.heap.size+1+1,0,none⟩) (by show W.heap.size<=W.heap.size+1+1;omega) (.func (.func 264) #[] #[.pointer (some ⟨W.heap.size+1,0,none⟩),.pointer (some ⟨W.heap.size+1+1,0,none⟩)]));go_upto_region 3 with fail;clear a J K u;generalize w1.setCell ⟨W.heap.size+1+1,0,none⟩ (.func (.func 264) #[] #[.pointer (some ⟨W.heap.size+1,0,none⟩),.pointer (some ⟨W.heap.size+1+1,0,none⟩)])=w2 at*;have a:=za g 0;obtain⟨D,E,F,H⟩:=zc4 z;have t:=zh (X.later _ _ _ V b);go_wp2;clear a D E F H;refine(q _ _ w2 t B g).mono ?_;rintro r w3 ⟨rfl,hi,hk⟩;have w:=zh hi;have x:=zh ((dr.of_below y b).trans hk);clear hi hk;go_wp2;refine bodyPost_end (v:=zY #[]) (by simp[results,results196]) rfl ?_;exact⟨rfl,w,x⟩
end
section
variable (s:ByteArray) (w:World)
def Ut (op:Int):Calls zz 313 #[zI zi op] w (zR (zI zi (iE op)) w):=by
 have f:op=1\/op=2\/op=24\/op=3\/op=4\/op=5\/op=6\/op=25\/op=22\/op=23\/(op<1\/1<=op/\25<op\/1<=op/\op<=25)/\op≠1/\op≠2/\op≠24/\op≠3/\op≠4/\op≠5/\op≠6/\op≠25/\op≠22/\op≠23:=by omega
 rcases f with rfl|rfl|rfl|rfl|rfl|rfl|rfl|rfl|rfl|rfl|⟨h,g,i,j,k,l,m,n,o,e,b⟩
 case inr.inr.inr.inr.inr.inr.inr.inr.inr.inr=>
  have c:Hid (iE op=if op<1\/25<op then -1 else 2):=zh (by unfold iE;rw[DK (by omega),DK (by omega),DK e,DK b]);have s:(op==1)=false:=by simpa using g
  have t:(op==2)=false:=by simpa using i
  have u:(op==24)=false:=by simpa using j
  have v:(op==3)=false:=by simpa using k
  have x:(op==4)=false:=by simpa using l
  have y:(op==5)=false:=by simpa using m
  have z:(op==6)=false:=by simpa using n
  have A:(op==25)=false:=by simpa using o
  have B:(op==22)=false:=by simpa using e
  have r:(op==23)=false:=by simpa using b
  clear g i j k l m n o e b;rcases h with h|⟨d,h⟩|⟨d,h⟩
  .have a:Hid (iE op= -1):=zh (by rw[c,DP (zQ h)]);go_enter func313,ntmps313;go_wp2;go_ret;exact⟨aU a.symm,DM _ _⟩
  .have a:Hid (iE op= -1):=zh (by rw[c,DP (zO h)]);have p:¬op<1:=by omega
   have q:op>25:=h;clear d;go_enter func313,ntmps313;go_wp2;go_ret;exact⟨aU a.symm,DM _ _⟩
  have a:Hid (iE op=2):=zh (by rw[c,DK (by omega)]);have p:¬op<1:=by omega
  have q:¬op>25:=by omega
  clear d h;go_enter func313,ntmps313;go_wp2;go_ret;exact⟨aU a.symm,DM _ _⟩
 all_goals
  go_enter func313,ntmps313;go_wp2;go_ret;exact⟨aU (by decide),DM _ _⟩
def xC (e:Ex) (A:Option Addr) (c:Nat) (x:zN e.a<=maxLen):Calls zz 265 #[exV e (zU A (zN e.a) c)] w (zR (zW (kX e.op (zN e.a))) w):=by
 have q:=zh λW=>Ut W e.op;have k:Hid (kX e.op (zN e.a)=if e.op=23 then decide (zN e.a%2=1)&&(decide (3<=zN e.a)&&decide (zN e.a<=33)) else decide ((zN e.a:Int)=iE e.op)):=zh rfl;generalize kX e.op (zN e.a)=r at*;unfold exV;generalize zN e.a=n,e.op=op at*;generalize e.n=en,e.s=em,iE op=ar at*;unfold maxLen at x;by_cases h:op=23
 .subst h;have a:Hid (r=(decide (n%2=1)&&(decide (3<=n)&&decide (n<=33)))):=zh (by rw[k,DP rfl]);clear k q;have u:((n:Int)).tmod 2=((n%2:Nat):Int):=by rw[Int.tmod_eq_emod_of_nonneg (by omega)];omega
  rcases Nat.mod_two_eq_zero_or_one n with j|j
  .rw[j] at u a;go_enter func265,ntmps265;go_upto_region 1 with fail;generalize b:w.alloc _=w1 at*;have⟨g,i⟩:=zB1 b;clear b;obtain⟨d,f⟩:=zd2 i 0 3;go_wp2;go_ret;exact⟨bS (by rw[a];rfl),g⟩
  rw[j] at u a;by_cases l:3<=n
  .have v:(n:Int)≥3:=by omega
   have o:(r=true/\(n:Int)<=33)\/(r=false/\¬(n:Int)<=33):=by
    rw[a,DR l];by_cases s:n<=33
    .left;rw[DR s];exact⟨rfl,by omega⟩
    right;rw[DJ s];exact⟨rfl,by omega⟩
   clear a l j;rcases o with⟨p,o⟩|⟨p,o⟩
   all_goals
    have a:=zh p;clear p;go_enter func265,ntmps265;go_upto_region 1 with fail;generalize b:w.alloc _=w1 at*;have⟨g,i⟩:=zB1 b;clear b;obtain⟨d,f⟩:=zd2 i 0 3;go_wp2;go_ret;exact⟨bS (by rw[a]),g⟩
  have v:¬(n:Int)≥3:=by omega
  have m:Hid (r=false):=zh (by rw[a,DJ l];rfl);clear a l j;go_enter func265,ntmps265;go_upto_region 1 with fail;generalize b:w.alloc _=w1 at*;have⟨g,i⟩:=zB1 b;clear b;obtain⟨d,f⟩:=zd2 i 0 3;go_wp2;go_ret;exact⟨bS (by rw[m]),g⟩
 have a:Hid (r=decide ((n:Int)=ar)):=zh (by rw[k,DK h]);have y:(op==23)=false:=by simpa using h
 clear k h;go_enter func265,ntmps265;go_upto_region 1 with fail;generalize b:w.alloc _=w1 at*;have⟨g,i⟩:=zB1 b;clear b;obtain⟨d,f⟩:=zd2 i 0 3;go_wp2;refine zK (q w1) λw2 t=> ?_;clear d f;replace⟨i,g⟩:=zb2 i g t;clear t;go_wp2;go_ret;exact⟨bS (by rw[a,Fo];simp),g⟩
def oN (s:ByteArray):Bool:=fF 91 s&&(aQ (cO 91 s)&&(decide ((eM 91 s).size=2)&&(decide (byt (eM 91 s) 1=93)&&(decide (48<=byt (eM 91 s) 0)&&decide (byt (eM 91 s) 0<56)))))
def Rf:(oN s||aQ s)=iC s:=by
 rw[<-SK];unfold Vu oN;cases hh:fF 91 s
 .simp
 rw[DP rfl];have a:aQ s=false:=by
  refine yS (k:=ix 91 s.data.toList) ?_ ?_
  .rw[EW];exact Ey hh
  rw[tj hh];rfl
 rw[a,Bool.or_false,FI];cases aQ (cO 91 s)<;>cases decide ((eM 91 s).size=2)<;>cases decide (byt (eM 91 s) 1=93)<;>cases decide (48<=byt (eM 91 s) 0)<;>cases decide (byt (eM 91 s) 0<56)<;>rfl
def ElR (s:ByteArray) (w:World) (e:Ending) (w':World):Prop:=∃(a:ByteArray) (i:Int),e=zE (zY #[zV a,zI zi i,zW (oN s)])/\zL w w'
def ElR.mk {w w':World} {s a:ByteArray} {i:Int} {b:Bool} (h:b=oN s) (c:zL w w'):ElR s w (zE (zY #[zV a,zI zi i,zW b])) w':=⟨a,i,by rw[h],c⟩
def CJ (w:World) (z:s.size<=9223372036854775807) (h:KW w) (hm:de w):Calls zz 314 #[zV s] w (ElR s w):=by
 have p:=zh h;have k:=zh (Rz 91 s w z hm);have q:=gX 91 s;have t:=nu 91 s;have i:=ms (b:=91) s.data.toList;rw[<-EW] at i;have o:=zh (λw h=>mi (cO 91 s) w (by unfold maxLen;omega) h);have r:(eM 91 s).size<=9223372036854775807:=by omega
 have g:Hid (oN s=(fF 91 s&&(aQ (cO 91 s)&&(decide ((eM 91 s).size=2)&&(decide (byt (eM 91 s) 1=93)&&(decide (48<=byt (eM 91 s) 0)&&decide (byt (eM 91 s) 0<56))))))):=zh rfl;have l:∀b,b=oN s->Hid (b=oN s):=λb h=>zh h;generalize eM 91 s=qs,cO 91 s=ps,aQ (cO 91 s)=n2,fF 91 s=hh at*;clear h hm q t i;cases hh
 .have d:=l false (by rw[g];rfl);clear r;go_enter func314,ntmps314;go_wp2;refine zK k λw1 a=> ?_;have c:=zh a;clear a;go_wp2;go_ret3;exact .mk d c
 cases n2
 .have d:=l false (by rw[g];rfl);clear r;go_enter func314,ntmps314;go_wp2;refine zK k λw1 a=> ?_;have c:=zh a;clear a;go_wp2;refine zK (o _ (p.Q c)) λw2 a=> ?_;replace c:=zb c a;clear a;go_wp2;go_ret3;exact .mk d c
 by_cases m:qs.size=2;case neg=>
  have y:((qs.size:Int) !=2)=true:=by
   have:¬(qs.size:Int)=2:=by omega
   simpa using this
  have d:=l false (by rw[g,DJ m];rfl);clear m;go_enter func314,ntmps314;go_wp2;refine zK k λw1 a=> ?_;have c:=zh a;clear a;go_wp2;refine zK (o _ (p.Q c)) λw2 a=> ?_;replace c:=zb c a;clear a;go_wp2;go_ret3;exact .mk d c
 have y:((qs.size:Int) !=2)=false:=by simpa using(by omega:(qs.size:Int)=2)
 have l0:0<qs.size:=by omega
 have A:1<qs.size:=by omega
 have v:=iR qs 0 l0;have x:=iR qs 1 A;rw[DR m,v,x] at g;clear r m v x;have u:(((qs[1].toNat:Int) !=93)=true/\false=oN s)\/(((qs[1].toNat:Int) !=93)=false/\(qs[0].toNat:Int)<48/\false=oN s)\/(((qs[1].toNat:Int) !=93)=false/\¬(qs[0].toNat:Int)<48/\(qs[0].toNat:Int)≥56/\false=oN s)\/(((qs[1].toNat:Int) !=93)=false/\¬(qs[0].toNat:Int)<48/\¬(qs[0].toNat:Int)≥56/\true=oN s):=by
  rw[g];by_cases e:(qs[1].toNat:Int)=93
  .by_cases f:(48:Int)<=(qs[0].toNat:Int)
   .by_cases n:(qs[0].toNat:Int)<56
    .right;right;right;rw[DR e,DR f,DR n];exact⟨by simpa using e,by omega,by omega,rfl⟩
    right;right;left;rw[DR e,DR f,DJ n];exact⟨by simpa using e,by omega,by omega,rfl⟩
   right;left;rw[DR e,DJ f];exact⟨by simpa using e,by omega,rfl⟩
  left;rw[DJ e];exact⟨by simpa using e,rfl⟩
 rcases u with⟨e,j⟩|⟨e,f,j⟩|⟨e,f,n,j⟩|⟨e,f,n,j⟩
 all_goals
  have d:=l _ j;clear j;go_enter func314,ntmps314;go_wp2;refine zK k λw1 a=> ?_;have c:=zh a;clear a;go_wp2;refine zK (o _ (p.Q c)) λw2 a=> ?_;replace c:=zb c a;clear a;go_wp2
 iterate 3
  .go_ret3;exact .mk d c
 go_quiet (fail);go_wp2;go_ret3;exact .mk d (aa c (ae _))
def Ur (w:World) (g:s.size<=maxLen) (h:KW w) (hm:de w):Calls zz 266 #[zV s] w (zR (zW (iC s)) w):=by
 have k:=zh h;have d:=zh (CJ s w (by unfold maxLen at g;omega) h hm);have j:=zh (λw h=>mi s w g h);have f:=zh (Rf s);unfold ElR at d;generalize iC s=r,aQ s=n1,oN s=n2 at*;clear h hm;go_enter func266,ntmps266;go_wp2;refine d.mono ?_;rintro e w1 ⟨a,i,rfl,c⟩;have b:=zh c;clear c;cases n2
 .go_wp2;refine zK (j _ (k.Q b)) λw2 c=> ?_;replace b:=zb b c;clear c;go_wp2;go_ret;exact⟨bS (by rw[<-f];rfl),b⟩
 go_wp2;go_ret;exact⟨bS (by rw[<-f];rfl),b⟩
end
def WN (w:World) (e:Ex) (A:Option Addr) (c:Nat) (z:ExZ e) (hk:KW w) (hm:de w):Calls zz 198 #[exV e (zU A (zN e.a) c)] w (zR (zI zi (aT e)) w):=by
 have o:=zh λW=>xC W e A c z.len;have H:=zh λW l q=>Ur e.s W z.s l q;have y:=zh λW l=>mi e.s W z.s l;have⟨s,I⟩:=zk2 hk hm;have k:Hid (aT e=if e.op<1\/25<e.op then 1 else if(e.op=1/\(e.n<0\/65535<e.n))\/(e.op≠1/\e.n≠0) then 1 else if(¬(e.op=2\/e.op=3\/e.op=24)/\e.s.size≠0)\/kX e.op (zN e.a)=false then 1
  else if(e.op=2/\iC e.s=false)\/((e.op=3\/e.op=24)/\aQ e.s=false) then 7 else 0):=zh rfl;have p:=(eU e.s).1;generalize aT e=r,iC e.s=vb,aQ e.s=nb,kX e.op (zN e.a)=ob at*;unfold exV at o⊢;generalize zN e.a=m,e.op=op,e.n=n,e.s=em at*;clear z hk hm;go_enter func198,ntmps198;go_upto_region 1 with fail;generalize x:w.alloc _=w1 at*;have⟨h,i⟩:=zB1 x;clear x;obtain⟨a,b,d,f⟩:=zc4 i;by_cases J:op<1
 .have g:Hid (r=1):=zh (by rw[k];exact DP (zQ J));clear k;have C:(op==2)=false:=by simpa using(by omega:¬op=2)
  have D:(op==3)=false:=by simpa using(by omega:¬op=3)
  have E:(op==24)=false:=by simpa using(by omega:¬op=24)
  go_wp2;go_ret;exact⟨aU g.symm,h⟩
 by_cases K:op>25
 .have g:Hid (r=1):=zh (by rw[k];exact DP (zO K));clear k;have C:(op==2)=false:=by simpa using(by omega:¬op=2)
  have D:(op==3)=false:=by simpa using(by omega:¬op=3)
  have E:(op==24)=false:=by simpa using(by omega:¬op=24)
  go_wp2;go_ret;exact⟨aU g.symm,h⟩
 rw[DK (by omega)] at k;by_cases l:op=1
 .subst l;by_cases c1:n<0
  .have g:Hid (r=1):=zh (by rw[k];exact DP (zQ ⟨rfl,zQ c1⟩));clear k;go_wp2;go_ret;exact⟨aU g.symm,h⟩
  by_cases c2:n>65535
  .have g:Hid (r=1):=zh (by rw[k];exact DP (zQ ⟨rfl,zO c2⟩));clear k;go_wp2;go_ret;exact⟨aU g.symm,h⟩
  rw[DK (by omega)] at k;by_cases c3:em.size=0
  .rw[DR c3] at p;cases ob
   .have g:Hid (r=1):=zh (by rw[k];exact DP (zO rfl));clear k;go_wp2;refine zK (o w1) λw2 j=> ?_;clear a b d f;replace⟨i,h⟩:=zb2 i h j;clear j;obtain⟨a,b,d,f⟩:=zc4 i;go_wp2;go_ret;exact⟨aU g.symm,h⟩
   have g:Hid (r=0):=zh (by rw[k];rw[DK (by simp[c3]),DK (by simp)]);clear k;go_wp2;refine zK (o w1) λw2 j=> ?_;clear a b d f;replace⟨i,h⟩:=zb2 i h j;clear j;obtain⟨a,b,d,f⟩:=zc4 i;go_wp2;go_ret;exact⟨aU g.symm,h⟩
  rw[DJ c3] at p;have g:Hid (r=1):=zh (by rw[k];exact DP (zQ ⟨by decide,c3⟩));clear k;go_wp2;go_ret;exact⟨aU g.symm,h⟩
 have F:(op==1)=false:=by simpa using l
 have G:(op !=1)=true:=by simpa using l
 by_cases c1:n=0;case neg=>
  have B:Hid (r=1):=zh (by rw[k];exact DP (zO ⟨l,c1⟩));clear k;have k:=B;have L:(n !=0)=true:=by simpa using c1
  clear l;by_cases q:op=2
  .subst q;have g:=k;clear k;go_wp2;go_ret;exact⟨aU g.symm,h⟩
  by_cases t:op=3
  .subst t;have g:=k;clear k;go_wp2;go_ret;exact⟨aU g.symm,h⟩
  by_cases u:op=24
  .subst u;have g:=k;clear k;go_wp2;go_ret;exact⟨aU g.symm,h⟩
  have C:(op==2)=false:=by simpa using q
  have D:(op==3)=false:=by simpa using t
  have E:(op==24)=false:=by simpa using u
  have g:=k;clear k;go_wp2;go_ret;exact⟨aU g.symm,h⟩
 have L:(n !=0)=false:=by simpa using c1
 rw[DK (by omega)] at k;clear c1;by_cases q:op=2
 .subst q;clear F G l;cases ob
  .have g:Hid (r=1):=zh (by rw[k];exact DP (zO rfl));clear k;go_wp2;refine zK (o w1) λw2 j=> ?_;clear a b d f;replace⟨i,h⟩:=zb2 i h j;clear j;obtain⟨a,b,d,f⟩:=zc4 i;go_wp2;go_ret;exact⟨aU g.symm,h⟩
  rw[DK (by simp)] at k;cases vb
  .have g:Hid (r=7):=zh (by rw[k];exact DP (by simp));clear k;go_wp2;refine zK (o w1) λw2 j=> ?_;clear a b d f;replace⟨i,h⟩:=zb2 i h j;clear j;obtain⟨a,b,d,f⟩:=zc4 i;go_wp2;refine zK (H w2 (s.Q h) (I.Q h)) λv j=> ?_;clear a b d f;replace⟨i,h⟩:=zb2 i h j;clear j;obtain⟨a,b,d,f⟩:=zc4 i;go_wp2;go_ret;exact⟨aU g.symm,h⟩
  have g:Hid (r=0):=zh (by rw[k];exact DK (by simp));clear k;go_wp2;refine zK (o w1) λw2 j=> ?_;clear a b d f;replace⟨i,h⟩:=zb2 i h j;clear j;obtain⟨a,b,d,f⟩:=zc4 i;go_wp2;refine zK (H w2 (s.Q h) (I.Q h)) λv j=> ?_;clear a b d f;replace⟨i,h⟩:=zb2 i h j;clear j;obtain⟨a,b,d,f⟩:=zc4 i;go_wp2;go_ret;exact⟨aU g.symm,h⟩
 by_cases t:op=3
 .subst t;clear F G l;cases ob
  .have g:Hid (r=1):=zh (by rw[k];exact DP (zO rfl));clear k;go_wp2;refine zK (o w1) λw2 j=> ?_;clear a b d f;replace⟨i,h⟩:=zb2 i h j;clear j;obtain⟨a,b,d,f⟩:=zc4 i;go_wp2;go_ret;exact⟨aU g.symm,h⟩
  rw[DK (by simp)] at k;cases nb
  .have g:Hid (r=7):=zh (by rw[k];exact DP (by simp));clear k;go_wp2;refine zK (o w1) λw2 j=> ?_;clear a b d f;replace⟨i,h⟩:=zb2 i h j;clear j;obtain⟨a,b,d,f⟩:=zc4 i;go_wp2;refine zK (y w2 (s.Q h)) λv j=> ?_;clear a b d f;replace⟨i,h⟩:=zb2 i h j;clear j;obtain⟨a,b,d,f⟩:=zc4 i;go_wp2;go_ret;exact⟨aU g.symm,h⟩
  have g:Hid (r=0):=zh (by rw[k];exact DK (by simp));clear k;go_wp2;refine zK (o w1) λw2 j=> ?_;clear a b d f;replace⟨i,h⟩:=zb2 i h j;clear j;obtain⟨a,b,d,f⟩:=zc4 i;go_wp2;refine zK (y w2 (s.Q h)) λv j=> ?_;clear a b d f;replace⟨i,h⟩:=zb2 i h j;clear j;obtain⟨a,b,d,f⟩:=zc4 i;go_wp2;go_ret;exact⟨aU g.symm,h⟩
 by_cases u:op=24
 .subst u;clear F G l;cases ob
  .have g:Hid (r=1):=zh (by rw[k];exact DP (zO rfl));clear k;go_wp2;refine zK (o w1) λw2 j=> ?_;clear a b d f;replace⟨i,h⟩:=zb2 i h j;clear j;obtain⟨a,b,d,f⟩:=zc4 i;go_wp2;go_ret;exact⟨aU g.symm,h⟩
  rw[DK (by simp)] at k;cases nb
  .have g:Hid (r=7):=zh (by rw[k];exact DP (by simp));clear k;go_wp2;refine zK (o w1) λw2 j=> ?_;clear a b d f;replace⟨i,h⟩:=zb2 i h j;clear j;obtain⟨a,b,d,f⟩:=zc4 i;go_wp2;refine zK (y w2 (s.Q h)) λv j=> ?_;clear a b d f;replace⟨i,h⟩:=zb2 i h j;clear j;obtain⟨a,b,d,f⟩:=zc4 i;go_wp2;go_ret;exact⟨aU g.symm,h⟩
  have g:Hid (r=0):=zh (by rw[k];exact DK (by simp));clear k;go_wp2;refine zK (o w1) λw2 j=> ?_;clear a b d f;replace⟨i,h⟩:=zb2 i h j;clear j;obtain⟨a,b,d,f⟩:=zc4 i;go_wp2;refine zK (y w2 (s.Q h)) λv j=> ?_;clear a b d f;replace⟨i,h⟩:=zb2 i h j;clear j;obtain⟨a,b,d,f⟩:=zc4 i;go_wp2;go_ret;exact⟨aU g.symm,h⟩
 have C:(op==2)=false:=by simpa using q
 have D:(op==3)=false:=by simpa using t
 have E:(op==24)=false:=by simpa using u
 by_cases c3:em.size=0
 .rw[DR c3] at p;cases ob
  .have g:Hid (r=1):=zh (by rw[k];exact DP (zO rfl));clear k;clear l;go_wp2;refine zK (o w1) λw2 j=> ?_;clear a b d f;replace⟨i,h⟩:=zb2 i h j;clear j;obtain⟨a,b,d,f⟩:=zc4 i;go_wp2;go_ret;exact⟨aU g.symm,h⟩
  have g:Hid (r=0):=zh (by rw[k];rw[DK (by simp[c3]),DK (by omega)]);clear k;clear l;go_wp2;refine zK (o w1) λw2 j=> ?_;clear a b d f;replace⟨i,h⟩:=zb2 i h j;clear j;obtain⟨a,b,d,f⟩:=zc4 i;go_wp2;go_ret;exact⟨aU g.symm,h⟩
 rw[DJ c3] at p;have g:Hid (r=1):=zh (by rw[k];exact DP (zQ ⟨by omega,c3⟩));clear k;clear l;go_wp2;go_ret;exact⟨aU g.symm,h⟩
def TL (a b m:Nat) (h:m=max a b) (ts:Array TypeId) (t:TypeId) (W:World):(Builtin.max_ ts t #[zI zi a,zI zi b]).run zz W= .ok (zI zi m) W:=by
 have e:(Builtin.max_ ts t #[zI zi a,zI zi b]).run zz W= .ok (zI zi (if(a:Int)<b then(b:Int) else a)) W:=by simp[Builtin.max_,Builtin.max2]
 rw[e];congr 2;subst h;split<;>omega
def YP (w0:World) (g:Nat) (n:Nat) (W:World):Prop:=zL w0 W/\Box W g #[zI zi n] 3/\w0.heap.size<=g
def Vq (w0:World) (g:Nat):sh WG (YP w0 g) (λn m=>n+m<=1000) [3] w0 267 #[zP g] where
 h79:=by decide
 h191:=by decide
 Q:=λ_ _ h=>h.1
 later:=λ_ _ _ h a=>⟨aa h.1 a,h.2.1.Q a,h.2.2⟩
 room:=λs m e h=>by show s+1+m<=1000;omega
 enter:=λargs W=>by kernel_rfl
 call:=λs m W e x d t u y q=>by
  obtain⟨k,l,o⟩:=u;have⟨j,f⟩:=zk2 k l;obtain⟨A,c,rfl,w⟩:=q.slice;unfold exV;generalize zN e.a=n,e.op=op at*;generalize e.n=en,e.s=em at*;have z:(s:Int)<=1000:=by omega
  clear k l q y w t;go_enter func267,ntmps267;go_upto_region 1 with fail;have i:=ab W (zC #[zI zi op,zI zi en,zV em,zU A n c] 79);replace⟨f,j⟩:=zb2 f j i;have r:=zh (dr.of_below [3] i);clear i;generalize W.alloc (zC #[zI zi op,zI zi en,zV em,zU A n c] 79)=w1 at*;have x0:=za f 0;have B:=f.Z 0;have C:=f.lt;go_wp2;go_ret;refine⟨rfl,⟨j.setCell (p:=⟨g,0,none⟩) o _, ?_,o⟩,r.trans ⟨by simp[World.setCell],λb cs T a v=>a.setNe ⟨g,0,none⟩ _ (λe=>v ?_)⟩⟩
  .have:=f.set_ 0 (zI zi (s+1));exact this
  have e:g=b:=e;subst e;have h:=f.out;unfold Box at h a;rw[h] at a;simp only[DN,Fk] at a;simp[a.2.1.symm]
def WK (w:World) (e:Ex) (d:Nat) (A:Option Addr) (c:Nat) (q:ExZ e) (o:Rs (exR d) w (zU A (zN e.a) c) e.a ah) (y:(ax (d+1) e).length<=1000):Calls zz 200 #[exV e (zU A (zN e.a) c)] w (zR (zI zi ((ax (d+1) e).length:Nat)) w):=by have x:=zm;have f:=zh λg (W:World) (v:YP w g 0 W)=>xB (Vq w g) d 0 W e A c (by simpa using y) v q o;rw[Az] at f;simp only[DY] at f;generalize(ax (d+1) e).length=N at*;unfold exV at f⊢;generalize zN e.a=n,e.op=op at*;generalize e.n=en,e.s=em at*;clear o q;go_enter func200,ntmps200;go_upto_region 2 with fail;generalize a:w.alloc _=zw1 at*;generalize b:zw1.alloc _=w1 at*;have⟨s,t,u⟩:=zB2 a b;clear a b;obtain⟨i,j,k,l⟩:=zc4 t;go_wp2;refine(f (w.heap.size+1) w1 ⟨s,u,by omega⟩).mono ?_;rintro r w2 ⟨rfl,⟨m,p, -⟩, -⟩;have x0:=p.A 0 _ rfl;have h:=zh m;clear m p;go_wp2;go_ret;exact⟨rfl,h⟩
def Cd {f:Ex->Nat} {l:List Ex} {k:Nat} (h:k<zN l):jH f (l.take (k+1))=max (jH f (l.take k)) (f (zG l k ex0)):=by unfold jH;rw[Ep,DD h,Fp,DC,DD h];rfl
def DpC (d:Nat):Prop:=∀w e A c,ExZ e->Rs (exR d) w (zU A (zN e.a) c) e.a ah->d<=1000->Calls zz 199 #[exV e (zU A (zN e.a) c)] w (zR (zI zi (cP (d+1) e:Nat)) w)
def vf (d:Nat) (IH:∀K,d=K+1->DpC K):DpC d:=by
 intro w e A c X hr hd;have⟨N,HZ⟩:=zk2 IH X;have⟨A',c',e1,hc,hx⟩:=hr.exs;obtain⟨rfl, -,rfl⟩:A=A'/\zN e.a=zN e.a/\c=c':=by simpa using e1
 have HX:=zh hx;have⟨R,T⟩:=zv (cP (d+1) e);have z:Hid (R=jH (cP d) (e.a.take (zN e.a))+1):=zh (by rw[T,Et];rfl);rw[<-T];have⟨n,L⟩:=zv (zN e.a);have HN:=zh L;rw[<-L] at hc HX z;unfold exV;rw[<-L];have q:Hid (∀k,jH (cP d) (e.a.take k)<=d):=zh λk=>yV λa _=>mI d a;generalize e.op=eo,e.n=en,e.s=em at*;have af:n<=9223372036854775807:=by have:=X.len;unfold maxLen at this;omega
 clear X hr hx T L e1;go_enter func199,ntmps199;go_upto_region 1 with fail;generalize j:w.alloc _=w1 at*;have⟨l,B⟩:=zB1 j;clear j;have C:=za B 3;go_wp2;go_loopw [3,9] (λmx i wr=>∃k:Nat,k<=n/\i=zI zi k/\mx=zI zi (jH (cP d) (e.a.take k):Nat)/\zL w wr) (λ_ i _=>n-(intOf i).toNat)
 .exact⟨0,DH _,rfl,rfl,l⟩
 obtain⟨k,hk,rfl,rfl,D⟩:=hrel;have l:=zh D;clear D;by_cases m:k<n
 .have⟨I,k0⟩:=zln m;have G:k<zN e.a:=by rw[<-HN];exact m
  obtain⟨b,o,p,K,e2,U,F,g,x, -⟩:=HX k m;subst e2;obtain⟨Z,v1,v2,v3⟩:=zx4 l U g;rw[Eb] at Z;have y:=zh (Cd (f:=cP d) G);have S:=zh (HZ.a _ (getD_in ex0 G));have Q:=zh x;have M:=zh (N K F);have v:=q k;have W:=q (k+1);have⟨m1,h⟩:=zv (jH (cP d) (e.a.take (k+1)));have P:=zh h;rw[<-h] at y W;clear h;generalize zG e.a k ex0=a at*;obtain⟨Ap,cp,rfl,V⟩:=x.slice;clear g x;have J:=zh fun(W':World) (h1:zL w W')=>M W' a _ _ S (Q.Q h1) (by omega);unfold exV at J;rw[<-F] at J;generalize cP d a=da,jH (cP d) (e.a.take k)=Y at*;have⟨ao,u⟩:=zv (a.op);have⟨an,t⟩:=zv (a.n);have⟨am,s⟩:=zv (a.s);have⟨al,r⟩:=zv (zN a.a);rw[<-u,<-t,<-s,<-r] at J;rw[<-u] at Z;rw[<-t] at v1;rw[<-s] at v2;rw[<-r] at v3;have ae:=TL Y da m1 y;clear u t s r V;go_upto_region 5 with fail;clear Z v1 v2 v3;generalize j:wr.alloc _=w3 at*;have⟨E,B⟩:=zA1 j;clear j;replace l:=zb l E;clear E;obtain⟨aa,ab,ac,C⟩:=zc4 B;go_wp2;refine zK (J w3 l) λw4 D=> ?_;replace⟨B,l⟩:=zb2 B l D;clear D;go_wp2;go_roundw
  .exact⟨k+1,by omega,by go_num,by rw[<-P],l⟩
  simp[intOf];omega
 have⟨I,H⟩:=zgq hk m;have v:=q k;rw[H] at v⊢;generalize jH (cP d) (e.a.take n)=Y at*;have ad:(Y:Int)<=1000:=by omega
 clear H v;go_wp2;go_ret;exact⟨aU (by rw[z];omega),l⟩
theorem AS:∀d,DpC d
 |0=>vf 0 λd' h=>by omega
 |d+1=>vf (d+1) λd' h=>by
  obtain rfl:d=d':=by omega
  exact AS d
def jY {W:World} {g:Nat} {cs:Array Value} {T:TypeId} {ts:List TypeId} (c:Box W g cs T) (f:T∈ts) (i:Nat) (u:Value):dr ts W (W.setCell ⟨g,i,none⟩ u):=
 ⟨by simp[World.setCell],λb d T' a h=>a.setNe ⟨g,i,none⟩ _ (λe=>h (by have e:g=b:=e;subst e;unfold Box at c a;rw[c] at a;simp only[DN,Fk] at a;rw[<-a.2.1];exact f))⟩
def Xq (w0:World) (g:Nat) (n:Int) (W:World):Prop:=zL w0 W/\Box W g #[zI zi n] 29/\w0.heap.size<=g
def Vs (w0:World) (g:Nat) (hk:KW w0) (hm:de w0):sh Un (Xq w0 g) (λ_ _=>True) [29] w0 197 #[zP g] where
 h79:=by decide
 h191:=by decide
 Q:=λ_ _ h=>h.1
 later:=λ_ _ _ h j=>⟨aa h.1 j,h.2.1.Q j,h.2.2⟩
 room:=λs m e h=>trivial
 enter:=λargs W=>by kernel_rfl
 call:=λs m W e x d F w z y=>by obtain⟨u,v,q⟩:=w;have⟨b,a⟩:=zk2 u v;obtain⟨A,c,rfl,G⟩:=y.slice;have o:=zh fun(W':World) (h:zL w0 W')=>WN W' e A c z (hk.Q h) (hm.Q h);show Calls _ _ _ _ λr W'=>r=zE (zW (decide (aT e=0)))/\Xq w0 g (aT e) W'/\_;generalize aT e=er at*;unfold exV at o⊢;generalize zN e.a=n,e.op=op at*;generalize e.n=en,e.s=em at*;go_enter func197,ntmps197;go_upto_region 1 with fail;generalize l:W.alloc _=w1 at*;have⟨i,t⟩:=zA1 l;replace⟨a,b⟩:=zb2 a b i;have k:=zh (dr.of_below [29] i);generalize W.heap.size=ga at*;obtain⟨B,C,D,E⟩:=zc4 t;go_wp2;refine zK (o w1 b) λw2 j=> ?_;replace⟨a,b,k⟩:=zb3 a b k j;have x0:=za a 0;have H:=a.Z 0;have I:=a.lt;have f:=zh (a.set_ 0 (zI zi er));have J:=za f 0;go_wp2;go_ret;refine⟨bS (by rw[Fo];simp),⟨b.setCell (p:=⟨g,0,none⟩) q _,f,q⟩,k.trans (jY a (by simp) 0 _)⟩
def mD (w:World) (e:Ex) (d:Nat) (A:Option Addr) (c:Nat) (D:ExZ e) (hk:KW w) (hm:de w) (C:Rs (exR d) w (zU A (zN e.a) c) e.a ah) (L:d<=1000) (Q:(ax (d+1) e).length<=1000):Calls zz 120 #[exV e (zU A (zN e.a) c)] w (zR (zI zi (fZ (d+1) e)) w):=by
 have P:=zm;have x:=zh λg (W:World) (K:Xq w g 0 W)=>xB (Vs w g hk hm) d 0 W e A c trivial K D C;rw[AA _ _ (pE d e)] at x;have s:=zh λW h=>AS d W e A c D (C.Q h) L;have v:=zh λW h=>WK W e d A c D (C.Q h) Q;have G:Hid (fZ (d+1) e=if aZ aT (ax (d+1) e)=0 then(if 24<cP (d+1) e\/400<(ax (d+1) e).length then 2 else 0) else aZ aT (ax (d+1) e)):=zh rfl;have M:=mI (d+1) e;generalize fZ (d+1) e=R,cP (d+1) e=t,aZ aT (ax (d+1) e)=fe,(ax (d+1) e).length=N at*;unfold exV at x s v⊢;generalize zN e.a=n,e.op=op at*;generalize e.n=en,e.s=em at*;go_enter func120,ntmps120;go_upto_region 2 with fail;generalize E:w.alloc _=zw1 at*;generalize F:zw1.alloc _=w1 at*;have⟨a,b,f⟩:=zB2 E F;obtain⟨i,j,k,l⟩:=zc4 b;go_wp2;refine(x (w.heap.size+1) w1 ⟨a,f,by omega⟩).mono ?_;rintro r w2 ⟨rfl,⟨q,S, -⟩,B⟩;replace a:=zh q;replace f:=zh S;replace b:=zh (B.2 _ _ _ b (by decide));obtain⟨i,j,k,l⟩:=zc4 b;have p:=za f 0;by_cases z:fe=0;case neg=>
  have H:(fe==0)=false:=by simpa using z
  have m:Hid (R=fe):=zh (by rw[G,DK z]);go_wp2;go_ret;exact⟨aU m.symm,a⟩
 subst z;have m:Hid (R=if 24<t\/400<N then 2 else 0):=zh (by rw[G,DP rfl]);by_cases y:24<t;case pos=>
  have H:(t:Int)>24:=by omega
  have o:Hid (R=2):=zh (by rw[m,DP (zQ y)]);go_wp2;refine zK (s w2 a) λu q=> ?_;replace⟨b,f,a⟩:=zb3 b f a q;go_wp2;go_ret;exact⟨aU o.symm,a⟩
 have H:¬(t:Int)>24:=by omega
 by_cases J:400<N;case pos=>
  have I:(N:Int)>400:=by omega
  have o:Hid (R=2):=zh (by rw[m,DP (zO J)]);go_wp2;refine zK (s w2 a) λu q=> ?_;replace⟨b,f,a⟩:=zb3 b f a q;obtain⟨i,j,k,l⟩:=zc4 b;have p:=za f 0;go_wp2;refine zK (v u a) λT q=> ?_;replace⟨b,f,a⟩:=zb3 b f a q;go_wp2;go_ret;exact⟨aU o.symm,a⟩
 have I:¬(N:Int)>400:=by omega
 have o:Hid (R=0):=zh (by rw[m,DK (by omega)]);go_wp2;refine zK (s w2 a) λu q=> ?_;replace⟨b,f,a⟩:=zb3 b f a q;obtain⟨i,j,k,l⟩:=zc4 b;have p:=za f 0;go_wp2;refine zK (v u a) λT q=> ?_;replace⟨b,f,a⟩:=zb3 b f a q;obtain⟨i,j,k,l⟩:=zc4 b;have p:=za f 0;go_wp2;go_ret;exact⟨aU o.symm,a⟩
section
variable (w w0:World)
def tL (v:Value) (l:List Int) (x:Int) (h:IL w v l) (f:zN l<=9223372036854775807):Calls zz 293 #[v,zI zi x] w (zS (zW (l.contains x)) w):=by
 rcases h.form with⟨A,c,rfl,rfl⟩|⟨b,o,c,rfl,g,i,d,a⟩
 .exact(Tryz.slices_Contains_int_empty A c x w).mono λe w' ⟨he,hw⟩=>⟨he,hw.symm⟩
 refine(Tryz.slices_Contains_int b o (zN l) c l x w (DE _) f a).mono λe w' ⟨he,hw⟩=>⟨?_,hw.symm⟩;rw[he,Et]
def YO (w0:World) (a go:Nat) (b:Value) (c:List ByteArray) (W:World):Prop:=zL w0 W/\Box W a #[b] 32/\w0.heap.size<=go/\∃v,Box W go #[v] 188/\OG jE W w0.heap.size 0 9 v c
def pY {α:Type} {φ:Rd α} {w w':World} {B C:Nat} {T:TypeId} {v:Value} {xs:List α} {ts:List TypeId} (h:OG φ w B C T v xs) (a:w.grownBy w' v.ownBlock) (c:T∈ts):dr ts w w':=⟨a.size,λb cs T' d f=>h.boxKept a d (zQ λe=>f (e▸c))⟩
def Vp (r go:Nat) (o:Value) (b:List Int) (y:IL w0 o b) (hl:zN b<=1000):sh (QV λop=>b.contains op) (YO w0 r go o) (λa m=>zN a+m<=1000) [188,9] w0 292 #[zP r,zP go] where
 h79:=by decide
 h191:=by decide
 Q:=λ_ _ h=>h.1
 later:=λ_ _ _ ⟨X,Y,I,v,Z,M⟩ hb=>⟨aa X hb,Y.Q hb,I,v,Z.Q hb,M.Q hb⟩
 room:=λs m e h=>by
  show(if _ then _ else _:List ByteArray).length+m<=1000;split
  .rw[DI,Ej];omega
  omega
 enter:=λargs W=>by kernel_rfl
 call:=λa m W e x d hG hI hz hr=>by
  have⟨i0,hi,N,P,R⟩:=EX Ym;have⟨HI,ah,ai,aj⟩:=zk4 hi N P R;obtain⟨X,Y,I,v,Z,M⟩:=hI;have⟨q,E,D,f⟩:=zk4 X Y Z M;obtain⟨A,c,rfl,hc⟩:=hr.slice;have U:=zh fun(W':World) (h:zL w0 W')=>tL W' o b e.op (y.Q h) (by omega);have CS:=zh fun(W':World) (h:OG jE W' w0.heap.size 0 9 v a)=>pq W' v a e.s h.any.sl (by omega);have V:Hid (QV (λop=>b.contains op) a e=(if b.contains e.op=true/\e.s∉a then a++[e.s] else a,true)):=zh rfl;have J:=zh (Lib.containsS_iff a e.s);have⟨F,hF⟩:=zv (QV (λop=>b.contains op) a e);rw[<-hF] at V⊢;generalize b.contains e.op=qo at*;unfold exV;generalize zN e.a=n,e.op=op at*;generalize e.n=en,e.s=em at*;obtain⟨A1,c1,rfl⟩:=M.slice;have⟨ol,H⟩:=zv (zN a);have K:=zh H;have ao:ol<=1000:=by omega
  rw[<-H] at D f CS;obtain⟨A0,c0,an,am, -⟩:=y;subst an;have⟨ap,u⟩:=zv (zN b);rw[<-u] at E U⊢;generalize Lib.containsS a em=qs at*;clear X Y Z M hr hz hc hG hF H u am hl hi N P R;go_enter func292,ntmps292;go_upto_region 1 with fail;generalize S:W.alloc _=w1 at*;have⟨G,XA⟩:=zA1 S;clear S;replace⟨D,E,f,q⟩:=zb4 D E f q G;have HK:=zh (dr.of_below [188,9] G);clear G;generalize W.heap.size=ga at*;have av:=za E 0;have au:=za D 0;obtain⟨aq,ar⟩:=zd2 XA 0 2;cases qo
  .have k:Hid (F=(a,true)):=zh (by rw[V,DK (by simp)]);go_wp2;refine zJ (U w1 q) ?_;go_wp2;go_ret;rw[k];exact⟨rfl,⟨q,E,I,_,D,f⟩,HK⟩
  cases qs;case true=>
   have k:Hid (F=(a,true)):=zh (by rw[V,DK (λh=>h.2 (J.1 rfl))]);go_wp2;refine zJ (U w1 q) ?_;go_wp2;refine zJ (CS w1 f) ?_;go_wp2;go_ret;rw[k];exact⟨rfl,⟨q,E,I,_,D,f⟩,HK⟩
  case false=>
   have k:Hid (F=(a++[em],true)):=zh (by rw[V,DP ⟨rfl,λh=>by have:=J.2 h;cases this⟩]);go_wp2;refine zJ (U w1 q) ?_;go_wp2;refine zJ (CS w1 f) ?_;go_upto_region 2 with fail;have j:=ab w1 (zC #[zV em] 9);have ag:=zh (Rs.one (φ:=jE) (w:=w1) (F:=Ty (w1.alloc (zC #[zV em] 9)) 0 jE.ts) (us:=[zV em]) rfl 9);have g:=zh (f.Q j);have ak:=zh (D.Q j);have al:=zh (E.Q j);have z:=zh (aa q j);have ad:=zh (HK.Q j);go_wp2_with(at_builtin;refine aD (φ:=jE) (T:=9) (B:=w0.heap.size) (C:=0) (xs:=a) (ys:=[em]) rfl _ _ 188 rfl i0 (zV ⟨#[]⟩) 16 underlying188 HI ah ai aj rfl rfl g (zU (some ⟨w1.heap.size,0,none⟩) 1 1) rfl ag ?c1 ?c2 ?c3 ?_);case c1=>simp only[DF,D8];rw[<-K];omega
   case c2=>simp only[DF,D8];rw[<-K];unfold maxLen;omega
   case c3=>exact z.size
   intro v' w7 t l;have i:=zh (g.boxKept l ak (zQ (by decide)));have L:=zh (g.boxKept l al (zQ (by decide)));have ac:=zh (g.belowG l z z.size (DE _));have ae:=zh (ad.trans (pY g l (by simp)));clear j l;obtain⟨A7,c7,rfl⟩:=t.slice;generalize(a++[em]).length=l7 at*;have x0:=za i 0;have x1:=i.Z 0;have x2:=i.lt;go_wp2;go_ret;rw[k];exact⟨rfl,⟨ac.setCell (p:=⟨go,0,none⟩) I _,L.setNe ⟨go,0,none⟩ _ (af i L),I,_,i.set_ 0 _,t.setBox i (by decide) (DH _) (by decide) 0 _⟩,ae.trans (jY i (by simp) 0 _)⟩
def QB (l:List Int):IL (w.alloc (zC (l.map (Value.int .i64)).toArray 3)) (zU (some ⟨w.heap.size,0,none⟩) (zN l) (zN l)) l:=
 ⟨_,_,rfl,DE _,λ_=>⟨_,rfl,by simp,λj a=>by rw[iu,DY,cell_of_row _ _ _ _ _ (0,0) (heap_alloc_new w _)];simp[DC,DD a]⟩⟩
def NmR (w:World) (l:List ByteArray) (e:Ending) (w':World):Prop:=∃v,e=zE v/\SL w' v l/\zL w w'
def Vf (e:Ex) (d:Nat) (A:Option Addr) (c:Nat) (b:Value) (a:List Int) (g:IL w b a) (z:zN a<=1000) (D:ExZ e) (B:Rs (exR d) w (zU A (zN e.a) c) e.a ah) (L:(ax (d+1) e).length<=1000):Calls zz 228 #[exV e (zU A (zN e.a) c),b] w (NmR w (dm (λop=>a.contains op) (ax (d+1) e))):=by have K:=zm;have i:=zh λgops go (W:World) (J:YO w gops go b [] W)=>xB (Vp w gops go b a g z) d [] W e A c (by simpa using L) J D B;rw[Ay] at i;have F:Hid (dm (λop=>a.contains op) (ax (d+1) e)=pL (λop=>a.contains op) [] (ax (d+1) e)):=zh rfl;generalize dm (λop=>a.contains op) (ax (d+1) e)=R at*;rw[<-F] at i;simp only at i;obtain⟨N,Q,rfl,p, -⟩:=g;have⟨M,f⟩:=zv (zN a);rw[<-f] at i⊢;unfold exV at i⊢;generalize zN e.a=n,e.op=op at*;generalize e.n=en,e.s=em at*;clear B D p z f;go_enter func228,ntmps228;go_upto_region 2 with fail;generalize k:w.alloc _=zw1 at*;generalize l:zw1.alloc _=zw2 at*;generalize m:zw2.alloc _=w1 at*;have⟨E,G,I,H⟩:=zB3 k l m;clear k l m;obtain⟨s,t,u,x⟩:=zc4 G;go_wp2;refine(i (w.heap.size+1) (w.heap.size+1+1) w1 ⟨E,I,by omega,_,H,OG.nil jE w1 w.heap.size 0 _ (by decide) (DH _)⟩).mono ?_;rintro r w2 ⟨rfl,⟨y, -, -,v,C,h⟩, -⟩;have x0:=C.A 0 _ rfl;have o:=zh y;have q:=zh h.any.sl;obtain⟨P,S,rfl⟩:=h.slice;have⟨T,j⟩:=zv (zN R);rw[<-j] at x0 q;clear y C h j;go_wp2;go_ret;exact⟨_,rfl,q,o⟩
def mE (e:Ex) (d:Nat) (A:Option Addr) (c:Nat) (B:ExZ e) (y:Rs (exR d) w (zU A (zN e.a) c) e.a ah) (z:(ax (d+1) e).length<=1000):Calls zz 156 #[exV e (zU A (zN e.a) c)] w (NmR w (dm ff (ax (d+1) e))):=by have x:=ab w (zC #[zI zi e.op,zI zi e.n,zV e.s,zU A (zN e.a) c] 79);have b:=zh λW i (v:Value) (h:IL W v [2])=>Vf W e d A c v [2] h (by decide) B (y.Q i) z;rw[show(λop:Int=>([2]:List Int).contains op)=ff by funext op;unfold ff;rw[Fo];simp] at b;generalize dm ff (ax (d+1) e)=R at*;unfold exV at b⊢;generalize zN e.a=n,e.op=op at*;generalize e.n=en,e.s=em at*;go_enter func156,ntmps156;go_upto_region 1 with fail;generalize l:w.alloc _=w1 at*;have⟨s,u⟩:=zB1 l;have j:=ab w1 (zC #[zI zi 2] 3);have g:=zh (QB w1 [2]);have a:=zh (aa s j);obtain⟨m,o,p,q⟩:=zc4 u;go_wp2;refine(b _ a _ g).mono ?_;rintro r w2 ⟨v,rfl,k,i⟩;have t:=zh k;have f:=zh (aa a i);go_wp2;go_ret;exact⟨_,rfl,t,f⟩
def j9 (e:Ex) (d:Nat) (A:Option Addr) (c:Nat) (z:ExZ e) (x:Rs (exR d) w (zU A (zN e.a) c) e.a ah) (y:(ax (d+1) e).length<=1000):Calls zz 155 #[exV e (zU A (zN e.a) c)] w (NmR w (dm gH (ax (d+1) e))):=by have b:=zh λW i (v:Value) (h:IL W v [3,24])=>Vf W e d A c v [3,24] h (by decide) z (x.Q i) y;rw[show(λop:Int=>([3,24]:List Int).contains op)=gH by funext op;unfold gH;rw[Fo];simp] at b;generalize dm gH (ax (d+1) e)=R at*;unfold exV at b⊢;generalize zN e.a=n,e.op=op at*;generalize e.n=en,e.s=em at*;go_enter func155,ntmps155;go_upto_region 1 with fail;generalize l:w.alloc _=w1 at*;have⟨s,u⟩:=zB1 l;have j:=ab w1 (zC #[zI zi 3,zI zi 24] 3);have g:=zh (QB w1 [3,24]);have a:=zh (aa s j);obtain⟨m,o,p,q⟩:=zc4 u;go_wp2;refine(b _ a _ g).mono ?_;rintro r w2 ⟨v,rfl,k,i⟩;have t:=zh k;have f:=zh (aa a i);go_wp2;go_ret;exact⟨_,rfl,t,f⟩
end
section
variable (a:Nat) (w:World)
def wh (h:a<65536):IntKind.u16.wrap (a:Int)=(a:Nat):=by simp only[IntKind.wrap,IntKind.bits,IntKind.signed];simp;omega
def sw:IntKind.u16.wrap (a:Int)=((a%65536:Nat):Int):=by simp only[IntKind.wrap,IntKind.bits,IntKind.signed];simp
def Sh (h:a<65536):bits .and .i64 (a:Int) 65535=(a:Nat):=by have b:(65535:Int)=((65535:Nat):Int):=rfl;rw[b,fX _ _ (by omega) (by omega)];congr 1;have:a&&&(2^16-1)=a%2^16:=Nat.and_two_pow_sub_one_eq_mod a 16;rw[show(65535:Nat)=2^16-1 by decide,this];exact E9 h
def Su (h:a<65536):bits .xor .u16 IntKind.u16.max (a:Int)=((65535-a:Nat):Int):=by
 have e:bits .xor .u16 IntKind.u16.max (a:Int)=IntKind.u16.wrap ((BitVec.ofInt 16 65535^^^BitVec.ofInt 16 (a:Int)).toNat:Int):=rfl;have e1:(BitVec.ofInt 16 65535)=BitVec.allOnes 16:=by decide
 have b:(BitVec.ofInt 16 (a:Int)).toNat=a:=by rw[BitVec.ofInt_natCast,BitVec.toNat_ofNat];exact E9 h
 rw[e,e1,BitVec.allOnes_xor,BitVec.toNat_not,b];exact wh _ (by omega)
def iL (a:Nat) (b:a<65536):Calls zz 304 #[zI zi a] w (zS (.int .u16 (a:Nat)) w):=by go_enter func304,ntmps304;go_wp2;go_ret;exact⟨aU (by rw[Sh a b];exact wh a b),rfl⟩
def kp (a:Nat) (b:a<65536):Calls zz 330 #[.int .u16 (a:Nat)] w (zS (zI zi a) w):=by go_enter func330,ntmps330;go_wp2;go_ret;first|exact⟨rfl,rfl⟩|exact⟨aU (by simp[IntKind.wrap,IntKind.bits,IntKind.signed];omega),rfl⟩
def Oz (a b:Nat):Calls zz 332 #[.int .u16 (a:Nat),.int .u16 (b:Nat)] w (zS (.int .u16 ((a+b)%65536:Nat)) w):=by go_enter func332,ntmps332;go_wp2;go_ret;exact⟨aU (sw (a+b)),rfl⟩
def Oq (a b:Nat) (c:b<65536):Calls zz 350 #[.int .u16 (a:Nat),.int .u16 (b:Nat)] w (zS (.int .u16 ((a+(65536-b))%65536:Nat)) w):=by go_enter func350,ntmps350;go_wp2;go_ret;exact⟨aU (by simp only[IntKind.wrap,IntKind.bits,IntKind.signed];simp;omega),rfl⟩
def Ow (a b:Nat):Calls zz 351 #[.int .u16 (a:Nat),.int .u16 (b:Nat)] w (zS (.int .u16 ((a*b)%65536:Nat)) w):=by go_enter func351,ntmps351;go_wp2;go_ret;exact⟨aU (by rw[<-sw (a*b)];norm_cast),rfl⟩
def Ov (a:Nat) (b:a<65536):Calls zz 349 #[.int .u16 (a:Nat)] w (zS (.int .u16 ((65536-a)%65536:Nat)) w):=by go_enter func349,ntmps349;go_wp2;go_ret;exact⟨aU (by simp only[IntKind.wrap,IntKind.bits,IntKind.signed];simp;omega),rfl⟩
def Oy (a:Nat) (b:a<65536):Calls zz 348 #[.int .u16 (a:Nat)] w (zS (.int .u16 (65535-a:Nat)) w):=by
 go_enter func348,ntmps348;have c:¬IntKind.u16.signed=true:=by decide
 go_wp2;all_goals first|(rename_i h;exact absurd h c)|skip
 go_ret;exact⟨aU (Su a b),rfl⟩
def Ou (a b:Nat) (c:b<16):Calls zz 353 #[.int .u16 (a:Nat),zI zi b] w (zS (.int .u16 ((a*2^b)%65536:Nat)) w):=by go_enter func353,ntmps353;go_wp2;go_ret;exact⟨aU (by rw[<-sw (a*2^b)];norm_cast),rfl⟩
def Ot (a b:Nat) (c:b<16):Calls zz 354 #[.int .u16 (a:Nat),zI zi b] w (zS (.int .u16 ((a/2^b):Nat)) w):=by go_enter func354,ntmps354;go_wp2;go_ret;exact⟨aU (by norm_cast),rfl⟩
def sr (g:Nat) (first:Array Value) (b r:Nat) (f:b<65536) (h:r<65536) (i:∀args W,(callFunc g args).run zz W= .ok (.enter g args) W) (e:∀W,Calls zz g (first++#[.int .u16 (b:Nat)]) W (zS (.int .u16 (r:Nat)) W)):Calls zz 331 #[.func (.func g) first #[],zI zi b] w (zS (zI zi r) w):=by have a:=zh λW=>iL W b f;have c:=zh e;have d:=zh λW=>kp W r h;go_enter func331,ntmps331;go_wp2;refine zJ (a _) ?_;go_wp2;refine zJ (c _) ?_;go_wp2;refine zJ (d _) ?_;go_wp2;go_ret;exact⟨rfl,rfl⟩
def yd (g:Nat) (first:Array Value) (r:Nat) (d:r<65536) (e:∀args W,(callFunc g args).run zz W= .ok (.enter g args) W) (c:∀W,Calls zz g first W (zS (.int .u16 (r:Nat)) W)):Calls zz 347 #[.func (.func g) first #[]] w (zS (zI zi r) w):=by have a:=zh c;have b:=zh λW=>kp W r d;go_enter func347,ntmps347;go_wp2;refine zJ (a _) ?_;go_wp2;refine zJ (b _) ?_;go_wp2;go_ret;exact⟨rfl,rfl⟩
def re (g:Nat) (first:Array Value) (b r:Nat) (k:b<65536) (f:r<65536) (i:∀args W,(callFunc g args).run zz W= .ok (.enter g args) W) (e:b<16->∀W,Calls zz g (first++#[zI zi b]) W (zS (.int .u16 (r:Nat)) W)):Calls zz 352 #[.func (.func g) first #[],zI zi b] w (zS (zI zi (if b<16 then r else 0:Nat)) w):=by
 have c:=zh λW=>kp W r f;have j:¬(b:Int)<0:=by omega
 by_cases h:b<16
 .have a:=zh (e h);have d:¬(b:Int)≥16:=by omega
  rw[DP h];go_enter func352,ntmps352;go_wp2;refine zJ (a _) ?_;go_wp2;refine zJ (c _) ?_;go_wp2;go_ret;exact⟨rfl,rfl⟩
 have d:(b:Int)≥16:=by omega
 rw[DK h];go_enter func352,ntmps352;go_wp2;go_ret;exact⟨rfl,rfl⟩
def SE (a b:Nat) (e:a<65536) (f:b<65536):Calls zz 296 #[zI zi a,zI zi b] w (zS (zI zi ((a+b)%65536:Nat)) w):=by have g:=zm;have c:=zh λW=>iL W a e;have d:=zh λW=>sr W 332 #[.int .u16 (a:Nat)] b _ f (FQ _ (by decide)) (λargs W=>by kernel_rfl) (λW=>Oz W a b);go_enter func296,ntmps296;go_wp2;refine zJ (c _) ?_;go_wp2;refine zJ (d _) ?_;go_wp2;go_ret;exact⟨rfl,rfl⟩
def Sv (a b:Nat) (f:a<65536) (c:b<65536):Calls zz 336 #[zI zi a,zI zi b] w (zS (zI zi ((a+(65536-b))%65536:Nat)) w):=by have g:=zm;have d:=zh λW=>iL W a f;have e:=zh λW=>sr W 350 #[.int .u16 (a:Nat)] b _ c (FQ _ (by decide)) (λargs W=>by kernel_rfl) (λW=>Oq W a b c);go_enter func336,ntmps336;go_wp2;refine zJ (d _) ?_;go_wp2;refine zJ (e _) ?_;go_wp2;go_ret;exact⟨rfl,rfl⟩
def SA (a b:Nat) (e:a<65536) (f:b<65536):Calls zz 337 #[zI zi a,zI zi b] w (zS (zI zi ((a*b)%65536:Nat)) w):=by have g:=zm;have c:=zh λW=>iL W a e;have d:=zh λW=>sr W 351 #[.int .u16 (a:Nat)] b _ f (FQ _ (by decide)) (λargs W=>by kernel_rfl) (λW=>Ow W a b);go_enter func337,ntmps337;go_wp2;refine zJ (c _) ?_;go_wp2;refine zJ (d _) ?_;go_wp2;go_ret;exact⟨rfl,rfl⟩
def Sy (a b:Nat) (e:a<65536) (f:b<65536):Calls zz 338 #[zI zi a,zI zi b] w (zS (zI zi (if b<16 then(a*2^b)%65536 else 0:Nat)) w):=by have g:=zm;have c:=zh λW=>iL W a e;have d:=zh λW=>re W 353 #[.int .u16 (a:Nat)] b _ f (FQ _ (by decide)) (λargs W=>by kernel_rfl) (λh W=>Ou W a b h);generalize(if b<16 then(a*2^b)%65536 else 0)=r at*;go_enter func338,ntmps338;go_wp2;refine zJ (c _) ?_;go_wp2;refine zJ (d _) ?_;go_wp2;go_ret;exact⟨rfl,rfl⟩
def Sx (a b:Nat) (c:a<65536) (f:b<65536):Calls zz 339 #[zI zi a,zI zi b] w (zS (zI zi (if b<16 then a/2^b else 0:Nat)) w):=by have g:=zm;have d:=zh λW=>iL W a c;have e:=zh λW=>re W 354 #[.int .u16 (a:Nat)] b _ f (Nat.lt_of_le_of_lt (Nat.div_le_self _ _) c) (λargs W=>by kernel_rfl) (λh W=>Ot W a b h);generalize(if b<16 then a/2^b else 0)=r at*;go_enter func339,ntmps339;go_wp2;refine zJ (d _) ?_;go_wp2;refine zJ (e _) ?_;go_wp2;go_ret;exact⟨rfl,rfl⟩
def Sz (a:Nat) (b:a<65536):Calls zz 335 #[zI zi a] w (zS (zI zi ((65536-a)%65536:Nat)) w):=by have e:=zm;have c:=zh λW=>iL W a b;have d:=zh λW=>yd W 349 #[.int .u16 (a:Nat)] _ (FQ _ (by decide)) (λargs W=>by kernel_rfl) (λW=>Ov W a b);go_enter func335,ntmps335;go_wp2;refine zJ (c _) ?_;go_wp2;refine zJ (d _) ?_;go_wp2;go_ret;exact⟨rfl,rfl⟩
def SD (a:Nat) (b:a<65536):Calls zz 334 #[zI zi a] w (zS (zI zi (65535-a:Nat)) w):=by have e:=zm;have c:=zh λW=>iL W a b;have d:=zh λW=>yd W 348 #[.int .u16 (a:Nat)] _ (by omega) (λargs W=>by kernel_rfl) (λW=>Oy W a b);go_enter func334,ntmps334;go_wp2;refine zJ (c _) ?_;go_wp2;refine zJ (d _) ?_;go_wp2;go_ret;exact⟨rfl,rfl⟩
def Op (a:Nat) (b:a<65536):Calls zz 295 #[zI zi a] w (zS (zI zi a) w):=by have e:=zm;have c:=zh λW=>iL W a b;have d:=zh λW=>kp W a b;go_enter func295,ntmps295;go_wp2;refine zJ (c _) ?_;go_wp2;refine zJ (d _) ?_;go_wp2;go_ret;exact⟨rfl,rfl⟩
def U8:∀n:Fin 256,Lib.onesCount n.val=((List.range 8).map λk=>tN (n.val.testBit k)).sum:=by decide+kernel
def wM (x:Nat) (h:x<65536):jt x=Lib.onesCount (x/256)+Lib.onesCount (x%256):=by
 have c:=U8 ⟨x/256,by omega⟩;have d:=U8 ⟨x%256,by omega⟩;simp only at c d;have e1:∀k,(x/256).testBit k=x.testBit (8+k):=λk=>by have:=Nat.testBit_div_two_pow (n:=8) x k;rw[show(256:Nat)=2^8 by decide,this,Nat.add_comm]
 have a:∀k,k<8->(x%256).testBit k=x.testBit k:=λk hk=>by rw[show(256:Nat)=2^8 by decide,Nat.testBit_mod_two_pow];simp[hk]
 rw[c,d];unfold jt;have b:List.range 16=[0,1,2,3,4,5,6,7,8,9,10,11,12,13,14,15]:=by decide
 have e:List.range 8=[0,1,2,3,4,5,6,7]:=by decide
 rw[b,e];simp only[FY,List.map_nil,List.sum_cons,List.sum_nil,e1,a 0 (by decide),a 1 (by decide),a 2 (by decide),a 3 (by decide),a 4 (by decide),a 5 (by decide),a 6 (by decide),a 7 (by decide),Nat.reduceAdd];omega
def Uk:(⟨(List.append (List.append ([0,1,1,2,1,2,2,3,1,2,2,3,2,3,3,4,1,2,2,3,2,3,3,4,2,3,3,4,3,4,4,5,1,2,2,3,2,3,3,4,2,3,3,4,3,4,4,5,2,3,3,4,3,4,4,5,3,4,4,5,4,5,5,6]:List UInt8) [1,2,2,3,2,3,3,4,2,3,3,4,3,4,4,5,2,3,3,4,3,4,4,5,3,4,4,5,4,5,5,6,2,3,3,4,3,4,4,5,3,4,4,5,4,5,5,6,3,4,4,5,4,5,5,6,4,5,5,6,5,6,6,7]) (List.append [1,2,2,3,2,3,3,4,2,3,3,4,3,4,4,5,2,3,3,4,3,4,4,5,3,4,4,5,4,5,5,6,2,3,3,4,3,4,4,5,3,4,4,5,4,5,5,6,3,4,4,5,4,5,5,6,4,5,5,6,5,6,6,7] [2,3,3,4,3,4,4,5,3,4,4,5,4,5,5,6,3,4,4,5,4,5,5,6,4,5,5,6,5,6,6,7,3,4,4,5,4,5,5,6,4,5,5,6,5,6,6,7,4,5,5,6,5,6,6,7,5,6,6,7,6,7,7,8])).toArray⟩:ByteArray)=Lib.pop8tab:=by rfl
def xP (x:Nat) (h:x<65536):Calls zz 303 #[.int .u16 (x:Nat)] w (zR (zI zi (jt x:Nat)) w):=by
 rw[wM x h];go_enter func303,ntmps303;simp only[Uk];have j:bits .and .u16 (x:Int) 255=(x:Int)%256:=by
  have c:(BitVec.ofInt 16 (x:Int)).toNat=x:=by rw[BitVec.ofInt_natCast,BitVec.toNat_ofNat];exact E9 h
  have d:(BitVec.ofInt 16 (255:Int)).toNat=255:=by decide
  show IntKind.u16.wrap ((BitVec.ofInt 16 (x:Int)&&&BitVec.ofInt 16 255).toNat:Int)=_;rw[BitVec.toNat_and,c,d,show(255:Nat)=2^8-1 by decide,Nat.and_two_pow_sub_one_eq_mod,wh _ (by have:=FQ x (show 0<2^8 by decide);omega)];rfl
 have g:(0:Int)<=(x:Int)/256:=by omega
 have i:(x:Int)/256<=255:=by omega
 have k:Lib.pop8 ((x:Int)/256)=(Lib.onesCount (x/256):Nat):=Lib.pop8_eq ⟨x/256,by omega⟩;have l:Lib.pop8 ((x:Int)%256)=(Lib.onesCount (x%256):Nat):=Lib.pop8_eq ⟨x%256,by omega⟩;have e:=Lib.onesCount_le8 ⟨x/256,by omega⟩;have f:=Lib.onesCount_le8 ⟨x%256,by omega⟩;simp only at e f;generalize Lib.onesCount (x/256)=a,Lib.onesCount (x%256)=b at*;go_wp2;go_quiet (fail);go_wp2;go_ret;exact⟨aU (by push_cast;rfl),aE (DM _ _) _⟩
def tC (a:Nat) (b:a<65536):Calls zz 247 #[zI zi a] w (zR (zI zi (jt a:Nat)) w):=by have c:=zh λW=>iL W a b;have d:=zh λW=>xP W a b;go_enter func247,ntmps247;go_wp2;refine zJ (c _) ?_;go_wp2;refine zK (d _) λw' f=> ?_;have e:=zh f;go_wp2;go_ret;exact⟨rfl,e⟩
end
section
variable (w:World)
def p8 (a b:Nat) (c:a<65536) (d:b<65536):bits .or .i64 (a:Int) (b:Int)=((a|||b:Nat):Int):=by
 have e:a|||b<2^16:=Nat.or_lt_two_pow (by omega) (by omega)
 show IntKind.i64.wrap ((BitVec.ofInt 64 (a:Int)|||BitVec.ofInt 64 (b:Int)).toNat:Int)=_;rw[BitVec.toNat_or,gY a (by omega),gY b (by omega),IntKind.wrap_i64];omega
def oz (a b:Nat) (c:a<65536) (d:b<65536):bits .xor .i64 (a:Int) (b:Int)=((a^^^b:Nat):Int):=by have e:a^^^b<2^16:=Nat.xor_lt_two_pow (by omega) (by omega);show IntKind.i64.wrap ((BitVec.ofInt 64 (a:Int)^^^BitVec.ofInt 64 (b:Int)).toNat:Int)=_;rw[BitVec.toNat_xor,gY a (by omega),gY b (by omega),IntKind.wrap_i64];omega
def fA (q:Bool):Calls zz 333 #[zW q] w (zS (zI zi (tN q:Nat)) w):=by
 cases q;all_goals
  go_enter func333,ntmps333;go_wp2;go_ret;exact⟨rfl,rfl⟩
def QX (op:Int) (a:Nat) (b:a<65536) (f:op=4\/op=5\/op=6\/op=25):Calls zz 297 #[zI zi op,zI zi a] w (zR (zI zi (op1 op a:Nat)) w):=by
 rcases f with rfl|rfl|rfl|rfl
 .show Calls _ _ _ _ λe w'=>e=zE (zI zi (tN (decide (a=0)):Nat))/\_;have g:((a:Int)==0)=decide (a=0):=by rw[Fo];simp<;>omega
  have C:=zh λW=>fA W (decide (a=0));generalize decide (a=0)=q at*;go_enter func297,ntmps297;go_wp2;refine zJ (C _) ?_;go_wp2;go_ret;exact⟨rfl,DM _ _⟩
 .have C:=zh λW=>SD W a b;show Calls _ _ _ _ λe w'=>e=zE (zI zi (65535-a:Nat))/\_;generalize 65535-a=r at*;go_enter func297,ntmps297;go_wp2;refine zJ (C _) ?_;go_wp2;go_ret;exact⟨rfl,DM _ _⟩
 .have C:=zh λW=>Sz W a b;show Calls _ _ _ _ λe w'=>e=zE (zI zi ((65536-a)%65536:Nat))/\_;generalize(65536-a)%65536=r at*;go_enter func297,ntmps297;go_wp2;refine zJ (C _) ?_;go_wp2;go_ret;exact⟨rfl,DM _ _⟩
 have C:=zh λW=>tC W a b;show Calls _ _ _ _ λe w'=>e=zE (zI zi (jt a:Nat))/\_;generalize jt a=r at*;go_enter func297,ntmps297;go_wp2;refine zK (C _) λw' d=> ?_;have c:=zh d;go_wp2;go_ret;exact⟨rfl,c⟩
def Q9 (op:Int) (a b:Nat) (h:a<65536) (i:b<65536) (o:7<=op/\op<=21):Calls zz 298 #[zI zi op,zI zi a,zI zi b] w (zR (zI zi (op2 op a b:Nat)) w):=by
 have l:op=7\/op=8\/op=9\/op=10\/op=11\/op=12\/op=13\/op=14\/op=15\/op=16\/op=17\/op=18\/op=19\/op=20\/op=21:=by omega
 rcases l with rfl|rfl|rfl|rfl|rfl|rfl|rfl|rfl|rfl|rfl|rfl|rfl|rfl|rfl|rfl
 .have C:=zh λW=>SE W a b h i;show Calls _ _ _ _ λe w'=>e=zE (zI zi ((a+b)%65536:Nat))/\_;generalize(a+b)%65536=r at*;go_enter func298,ntmps298;go_wp2;refine zJ (C _) ?_;go_wp2;go_ret;exact⟨rfl,DM _ _⟩
 .have C:=zh λW=>Sv W a b h i;show Calls _ _ _ _ λe w'=>e=zE (zI zi ((a+(65536-b))%65536:Nat))/\_;generalize(a+(65536-b))%65536=r at*;go_enter func298,ntmps298;go_wp2;refine zJ (C _) ?_;go_wp2;go_ret;exact⟨rfl,DM _ _⟩
 .have C:=zh λW=>SA W a b h i;show Calls _ _ _ _ λe w'=>e=zE (zI zi ((a*b)%65536:Nat))/\_;generalize(a*b)%65536=r at*;go_enter func298,ntmps298;go_wp2;refine zJ (C _) ?_;go_wp2;go_ret;exact⟨rfl,DM _ _⟩
 .show Calls _ _ _ _ λe w'=>e=zE (zI zi (a&&&b:Nat))/\_;have m:=fX a b (by omega) (by omega);generalize a&&&b=r at*;go_enter func298,ntmps298;go_wp2;go_ret;exact⟨rfl,DM _ _⟩
 .show Calls _ _ _ _ λe w'=>e=zE (zI zi (a|||b:Nat))/\_;have m:=p8 a b h i;generalize a|||b=r at*
  go_enter func298,ntmps298;go_wp2;go_ret;exact⟨rfl,DM _ _⟩
 .show Calls _ _ _ _ λe w'=>e=zE (zI zi (a^^^b:Nat))/\_;have m:=oz a b h i;generalize a^^^b=r at*;go_enter func298,ntmps298;go_wp2;go_ret;exact⟨rfl,DM _ _⟩
 .have C:=zh λW=>Sy W a b h i;show Calls _ _ _ _ λe w'=>e=zE (zI zi (if b<16 then(a*2^b)%65536 else 0:Nat))/\_;generalize(if b<16 then(a*2^b)%65536 else 0)=r at*;go_enter func298,ntmps298;go_wp2;refine zJ (C _) ?_;go_wp2;go_ret;exact⟨rfl,DM _ _⟩
 .have C:=zh λW=>Sx W a b h i;show Calls _ _ _ _ λe w'=>e=zE (zI zi (if b<16 then a/2^b else 0:Nat))/\_;generalize(if b<16 then a/2^b else 0)=r at*;go_enter func298,ntmps298;go_wp2;refine zJ (C _) ?_;go_wp2;go_ret;exact⟨rfl,DM _ _⟩
 .show Calls _ _ _ _ λe w'=>e=zE (zI zi (tN (decide (a=b)):Nat))/\_;have n:((a:Int)==(b:Int))=decide (a=b):=by rw[Fo];simp<;>omega
  have C:=zh λW=>fA W (decide (a=b));generalize(decide (a=b))=q at*;go_enter func298,ntmps298;go_wp2;refine zJ (C _) ?_;go_wp2;go_ret;exact⟨rfl,DM _ _⟩
 .show Calls _ _ _ _ λe w'=>e=zE (zI zi (tN (!decide (a=b)):Nat))/\_;have n:((a:Int) !=(b:Int))= !decide (a=b):=by rw[Fo];simp<;>omega
  have C:=zh λW=>fA W (!decide (a=b));generalize(!decide (a=b))=q at*;go_enter func298,ntmps298;go_wp2;refine zJ (C _) ?_;go_wp2;go_ret;exact⟨rfl,DM _ _⟩
 .show Calls _ _ _ _ λe w'=>e=zE (zI zi (tN (decide (a<b)):Nat))/\_;have C:=zh λW=>fA W (decide (a<b));go_enter func298,ntmps298;go_wp2;refine zJ (C _) ?_;go_wp2;go_ret;exact⟨rfl,DM _ _⟩
 .show Calls _ _ _ _ λe w'=>e=zE (zI zi (tN (!decide (b<a)):Nat))/\_;rw[show(!decide (b<a))=decide (a<=b) by rw[Fo];simp<;>omega];have C:=zh λW=>fA W (decide (a<=b));go_enter func298,ntmps298;go_wp2;refine zJ (C _) ?_;go_wp2;go_ret;exact⟨rfl,DM _ _⟩
 .show Calls _ _ _ _ λe w'=>e=zE (zI zi (tN (decide (a≠0)&&decide (b≠0)):Nat))/\_;have g:=zh λW=>fA W true;have j:=zh λW=>fA W false;by_cases c:a=0
  .have f:((a:Int) !=0)=false:=by simpa using c
   rw[show(decide (a≠0)&&decide (b≠0))=false by simp[c]];go_enter func298,ntmps298;go_wp2;refine zJ (j _) ?_;go_wp2;go_ret;exact⟨rfl,DM _ _⟩
  by_cases d:b=0
  .have f:((a:Int) !=0)=true:=by simpa using c
   have k:((b:Int) !=0)=false:=by simpa using d
   rw[show(decide (a≠0)&&decide (b≠0))=false by simp[c,d]];go_enter func298,ntmps298;go_wp2;refine zJ (j _) ?_;go_wp2;go_ret;exact⟨rfl,DM _ _⟩
  have f:((a:Int) !=0)=true:=by simpa using c
  have k:((b:Int) !=0)=true:=by simpa using d
  rw[show(decide (a≠0)&&decide (b≠0))=true by simp[c,d]];go_enter func298,ntmps298;go_wp2;refine zJ (g _) ?_;go_wp2;go_ret;exact⟨rfl,DM _ _⟩
 .show Calls _ _ _ _ λe w'=>e=zE (zI zi (tN (decide (a≠0)||decide (b≠0)):Nat))/\_;have g:=zh λW=>fA W true;have j:=zh λW=>fA W false;by_cases c:a=0
  .by_cases d:b=0
   .have f:((a:Int) !=0)=false:=by simpa using c
    have k:((b:Int) !=0)=false:=by simpa using d
    rw[show(decide (a≠0)||decide (b≠0))=false by simp[c,d]];go_enter func298,ntmps298;go_wp2;refine zJ (j _) ?_;go_wp2;go_ret;exact⟨rfl,DM _ _⟩
   have f:((a:Int) !=0)=false:=by simpa using c
   have k:((b:Int) !=0)=true:=by simpa using d
   rw[show(decide (a≠0)||decide (b≠0))=true by simp[c,d]];go_enter func298,ntmps298;go_wp2;refine zJ (g _) ?_;go_wp2;go_ret;exact⟨rfl,DM _ _⟩
  have f:((a:Int) !=0)=true:=by simpa using c
  rw[show(decide (a≠0)||decide (b≠0))=true by simp[c]];go_enter func298,ntmps298;go_wp2;refine zJ (g _) ?_;go_wp2;go_ret;exact⟨rfl,DM _ _⟩
 show Calls _ _ _ _ λe w'=>e=zE (zI zi (tN (!decide (a≠0)||decide (b≠0)):Nat))/\_;have g:=zh λW=>fA W true;have j:=zh λW=>fA W false;by_cases c:a=0
 .have f:((a:Int)==0)=true:=by simpa using c
  rw[show(!decide (a≠0)||decide (b≠0))=true by simp[c]];go_enter func298,ntmps298;go_wp2;refine zJ (g _) ?_;go_wp2;go_ret;exact⟨rfl,DM _ _⟩
 by_cases d:b=0
 .have f:((a:Int)==0)=false:=by simpa using c
  have k:((b:Int) !=0)=false:=by simpa using d
  rw[show(!decide (a≠0)||decide (b≠0))=false by simp[c,d]];go_enter func298,ntmps298;go_wp2;refine zJ (j _) ?_;go_wp2;go_ret;exact⟨rfl,DM _ _⟩
 have f:((a:Int)==0)=false:=by simpa using c
 have k:((b:Int) !=0)=true:=by simpa using d
 rw[show(!decide (a≠0)||decide (b≠0))=true by simp[c,d]];go_enter func298,ntmps298;go_wp2;refine zJ (g _) ?_;go_wp2;go_ret;exact⟨rfl,DM _ _⟩
end
section
variable (l:List Nat)
def nI (l:List Nat):List Int:=l.map λn:Nat=>(n:Int)
def aF:(nI l).length=zN l:=by simp[nI]
def dV (j:Nat):(nI l).getD j 0=((zG l j 0:Nat):Int):=by unfold nI;rw[DC,DC,Ed];cases l[j]? <;>rfl
def Qx {x:Nat} {l:List Nat} {i:Nat} (h:i+1<zN l):eW x (l.drop i)=((decide (zG l i 0<=x)&&decide (x<=zG l (i+1) 0))||eW x (l.drop (i+2))):=by rw[Eq (by omega),Eq h,DC,DC,DD (by omega),DD h];rfl
theorem T4 {x:Nat} {l:List Nat} {i:Nat} (h:¬i+1<zN l):eW x (l.drop i)=false:=by
 have c:(l.drop i).length<=1:=by rw[ET];omega
 match hq:l.drop i,c with
 |[],_=>rfl
 |[a],_=>rfl
 |a::b::r,c=>simp at c
theorem Cz (w:World) (op:Int) (l:List Nat) (v:Value) (u:IL w v (nI l)) (C:∀x∈l,x<65536) (d:ed op (zN l)=true) (L:op≠1) (M:op≠2):
  Calls zz 233 #[zI zi op,v] w (zR (zI zi (opT op l:Nat)) w):=by
 have S:(op=22/\zN l=3)\/(op=23/\3<=zN l/\zN l<=33)\/((op=4\/op=5\/op=6\/op=25)/\zN l=1)\/((7<=op/\op<=21)/\zN l=2):=by
  unfold ed at d;rw[DK (by omega)] at d;by_cases c1:op=4\/op=5\/op=6\/op=25
  .rw[DP c1] at d;exact zO (zO (zQ ⟨c1,by simpa using d⟩))
  rw[DK c1] at d;by_cases c2:op=22
  .rw[DP c2] at d;exact zQ ⟨c2,by simpa using d⟩
  rw[DK c2] at d;by_cases c3:op=23
  .rw[DP c3] at d;simp only[DW,Ef] at d;exact zO (zQ ⟨c3,d.1.2,d.2⟩)
  rw[DK c3] at d;simp only[DW,Ef] at d;exact zO (zO (zO ⟨d.1,d.2⟩))
 clear d L M;rcases S with⟨rfl,N⟩|⟨rfl,N,P⟩|⟨d,L⟩|⟨d,M⟩
 .match l,N with
  |[x,y,z],_=>
   rcases u.form with⟨A,c,rfl,D⟩|⟨b,o,c,rfl,t, -,f,a⟩
   .cases D
   have k:=a 0 (by simp[nI]);have c1:=a 1 (by simp[nI]);have c2:=a 2 (by simp[nI]);rw[Eb] at k;change w.cell? _=some (zI zi x) at k;change w.cell? _=some (zI zi y) at c1;change w.cell? _=some (zI zi z) at c2;show Calls _ _ #[_,zU _ 3 c] _ λe w'=>e=zE (zI zi ((if x≠0 then y else z:Nat)))/\_;clear a t C u f;by_cases I:x=0
   .have f1:((x:Int) !=0)=false:=by simpa using I
    rw[DK (by omega)];clear I;go_enter func233,ntmps233;go_wp2;go_ret;exact⟨rfl,DM _ _⟩
   have f1:((x:Int) !=0)=true:=by simpa using I
   rw[DP I];clear I;go_enter func233,ntmps233;go_wp2;go_ret;exact⟨rfl,DM _ _⟩
 .have G:Hid (opT 23 l=tN (eW (zG l 0 0) (l.drop 1))):=zh (by unfold opT;rw[DK (by decide),DP rfl,List.drop_one]);rcases u.form with⟨A,c,rfl,D⟩|⟨b,o,c,rfl,t, -,f,a⟩
  .have:(nI l).length=0:=by rw[D];rfl
   rw[aF] at this;omega
  rw[aF] at a t⊢;have F:Hid (∀j,j<zN l->∀W,zL w W->W.cell? ⟨b,o+j,none⟩=some (zI zi (zG l j 0:Nat))):=zh λj X W Q=>by rw[Q.cell f,a j X,dV]
  have U:=zh λi (h:i+1<zN l)=>Qx (x:=zG l 0 0) h;have T:=zh λi (h:¬i+1<zN l)=>T4 (x:=zG l 0 0) h;have k:=F 0 (by omega) w (DM _ _);rw[Eb] at k;have J:Hid (∀W,zL w W->W.cell? ⟨b,o,none⟩=some (zI zi (zG l 0 0:Nat))):=zh λW Q=>by have:=F 0 (by omega) W Q;rwa [Eb] at this
  generalize zG l 0 0=x,opT 23 l=R at*;have⟨m,hm⟩:=zv (zN l);rw[<-hm] at N P t F U T⊢;clear u a C hm k;go_enter func233,ntmps233;go_wp2;go_loopw [5] (λi wr=>∃j:Nat,j<=40/\i=zI zi j/\R=tN (eW x (l.drop j))/\zL w wr) (λi _=>40-(intOf i).toNat)
  .exact⟨1,by decide,rfl,G,DM _ _⟩
  obtain⟨j,X,rfl,Y,s⟩:=hrel;have⟨q,H⟩:=zk2 s Y;clear s Y;by_cases r:j+1<m
  .have K:(j:Int)+1<(m:Int):=by omega
   have V:=zn0 j;have g3:(j:Int)<(m:Int):=by omega
   have g4:(0:Int)<=(j:Int)+1:=by omega
   have g5:(0:Int)<(m:Int):=by omega
   have B:=zh (H.trans (Ev tN (U j r)));have d0:=λn=>J (wr.drewN n) (aE q n);have d1:=λn=>F j (by omega) (wr.drewN n) (aE q n);have d2:=λn=>F (j+1) r (wr.drewN n) (aE q n);generalize zG l j 0=lo,zG l (j+1) 0=hi at*;by_cases Z:lo<=x
   .have e1:(lo:Int)<=(x:Int):=by omega
    by_cases k2:x<=hi
    .have e2:(x:Int)<=(hi:Int):=by omega
     have g:Hid (R=1):=zh (by rw[B,DR Z,DR k2];rfl);go_wp2;go_quiet (fail);go_wp2;go_ret;exact⟨aU (by rw[g];rfl),aE q _⟩
    have e2:¬(x:Int)<=(hi:Int):=by omega
    have g:Hid (R=tN (eW x (l.drop (j+2)))):=zh (by rw[B,DJ k2,Bool.and_false,FJ]);go_wp2;go_quiet (fail);go_wp2;go_roundw
    .exact⟨j+2,by omega,by go_num,g,aE q _⟩
    simp[intOf];omega
   have e1:¬(lo:Int)<=(x:Int):=by omega
   have g:Hid (R=tN (eW x (l.drop (j+2)))):=zh (by rw[B,DJ Z,Bool.false_and,FJ]);go_wp2;go_quiet (fail);go_wp2;go_roundw
   .exact⟨j+2,by omega,by go_num,g,aE q _⟩
   simp[intOf];omega
  have K:¬(j:Int)+1<(m:Int):=by omega
  have g:Hid (R=0):=zh (by rw[H,T j r];rfl);go_wp2;go_ret;exact⟨aU (by rw[g];rfl),q⟩
 .match l,L with
  |[x],_=>
   rcases u.form with⟨A,c,rfl,D⟩|⟨b,o,c,rfl,t, -,f,a⟩
   .cases D
   have k:=a 0 (by simp[nI]);rw[Eb] at k;change w.cell? _=some (zI zi x) at k;have E:=zh λW=>QX W op x (C x (by simp)) d;have G:Hid (opT op [x]=op1 op x):=zh (by unfold opT;rw[DK (by omega),DK (by omega),DP (show[x].length=1 from rfl)];rfl);show Calls _ _ #[_,zU _ 1 c] _ _;generalize opT op [x]=R at*;rw[<-G] at E;have K:(op==22)=false:=by simpa using(by omega:¬op=22)
   have V:(op==23)=false:=by simpa using(by omega:¬op=23)
   clear a t C u f d;go_enter func233,ntmps233;go_wp2;refine zK (E _) λw' s=> ?_;have q:=zh s;clear s;go_wp2;go_ret;exact⟨rfl,q⟩
 match l,M with
 |[x,y],_=>
  rcases u.form with⟨A,c,rfl,D⟩|⟨b,o,c,rfl,t, -,f,a⟩
  .cases D
  have k:=a 0 (by simp[nI]);have c1:=a 1 (by simp[nI]);rw[Eb] at k;change w.cell? _=some (zI zi x) at k;change w.cell? _=some (zI zi y) at c1;have l0:∀p:Lat w,p.w.cell? ⟨b,o,none⟩=some (zI zi x):=λp=>(p.h.cell f).trans k;have l1:∀p:Lat w,p.w.cell? ⟨b,o+1,none⟩=some (zI zi y):=λp=>(p.h.cell f).trans c1;have E:=zh λW=>Q9 W op x y (C x (by simp)) (C y (by simp)) d;have G:Hid (opT op [x,y]=op2 op x y):=zh (by unfold opT;rw[DK (by omega),DK (by omega),DK (by simp)];rfl);show Calls _ _ #[_,zU _ 2 c] _ _;generalize opT op [x,y]=R at*;rw[<-G] at E;have K:(op==22)=false:=by simpa using(by omega:¬op=22)
  have V:(op==23)=false:=by simpa using(by omega:¬op=23)
  clear a t C u f d k c1;go_enter func233,ntmps233;go_wp2;refine az ?_;repeat(go_big_quiet_step (with_reducible exact aG (E.out _)))
  refine D4 ?_;intro w2 s;have q:=zh s;clear s l0 l1;go_wp2;go_ret;exact⟨rfl,q⟩
end
section
variable {s:ByteArray}
abbrev Sg:=ByteArray×Nat
def sg0:Sg:=(⟨#[]⟩,0)
def sgL (x:Sg):List Value:=[zV x.1,zI zi (x.2:Nat)]
def sgR:Rd Sg where
 k:=2
 ts:=[]
 pos:=by decide
 R:=λw us x F=>us=sgL x
 len:=λh=>by rw[h];rfl
 one:=λh u a=>by rw[h] at a;unfold sgL at a;simp only[DS,DZ,EC] at a;rcases a with rfl|rfl<;>rfl
 mono:=λh _=>h
 same:=λh _ _=>h
def Rs.sgs {w:World} {v:Value} {F:Nat->Prop} {l:List Sg} (h:Rs sgR w v l F):∃(A:Option Addr) (c:Nat),v=zU A (zN l) c/\zN l<=c/\∀k,k<zN l->∃b o,A=some ⟨b,o,none⟩/\b<w.heap.size/\w.cell? ⟨b,o+k*2,none⟩=some (zV (zG l k sg0).1)/\w.cell? ⟨b,o+k*2+1,none⟩=some (zI zi ((zG l k sg0).2:Nat)):=by
 obtain⟨A,c,rfl,i,h⟩:=h;refine⟨A,c,rfl,i,λk hk=> ?_⟩;obtain⟨b,o,rfl,g,h⟩:=h (by omega);have⟨us,d,f⟩:=h k _ (DD hk);have a:us=sgL l[k]:=f;subst a;have e:zG l k sg0=l[k]:=by rw[DC,DD hk];rfl
 rw[e];exact⟨b,o,rfl,g,d 0 (by decide),d 1 (by decide)⟩
def fd:List Sg->ByteArray->Option Nat
 |[],_=>none
 |x::l,s=>if x.1=s then some x.2 else fd l s
theorem nO {s:ByteArray}:∀(l:List Sg) (k:Nat),(∀j,j<k->(zG l j sg0).1≠s)->k<=zN l->fd l s=fd (l.drop k) s
 |l,0,_,_=>rfl
 |[],k+1,_,h=>by simp at h
 |x::l,k+1,h,hk=>by
  have a:=h 0 (by omega);have e:fd (x::l) s=if x.1=s then some x.2 else fd l s:=rfl
  rw[e,DK (by simpa using a),nO l k (λj b=>h (j+1) (by omega)) (by simpa using hk)];rfl
def QU {l:List Sg} {k:Nat} (a:∀j,j<k->(zG l j sg0).1≠s) (hk:k<zN l) (h:(zG l k sg0).1=s):fd l s=some (zG l k sg0).2:=by rw[nO l k a (by omega),Eq hk];rw[DC,DD hk] at h⊢;simp only[EQ] at h⊢;show(if _ then _ else _)=_;rw[DP h]
def Cw {l:List Sg} (a:∀j,j<zN l->(zG l j sg0).1≠s):fd l s=none:=by rw[nO l (zN l) a (DE _),List.drop_length];rfl
def Q7 (w:World) (env:List Sg) (v:Value) (s:ByteArray) (hv:Rs sgR w v env ah) (hl:zN env<=1000) (r:∀x∈env,x.2<65536):Calls zz 230 #[zX #[v],zV s] w (zR (zY #[zI zi ((fd env s).getD 0:Nat),zW (fd env s).isSome]) w):=by
 obtain⟨A,c,rfl,hc,hx⟩:=hv.sgs;have G:=zh hx;have N:=zh λk V X Y=>QU (s:=s) (l:=env) (k:=k) V X Y;have P:=zh (Cw (s:=s) (l:=env));have Q:=zh r;have⟨n,t⟩:=zvh (zN env);rw[<-t] at hc hl G⊢;generalize fd env s=R at*;go_enter func230,ntmps230;go_upto_region 1 with fail;generalize g:w.alloc _=w1 at*;have⟨a,T⟩:=zB1 g;have J:=za T 0;go_wp2;go_loopw [11] (λi wr=>∃k:Nat,k<=n/\i=zI zi k/\Hid (∀j,j<k->(zG env j sg0).1≠s)/\zL w wr) (λi _=>n-(intOf i).toNat)
 .exact⟨0,DH _,rfl,zh (λj h=>by omega),a⟩
 obtain⟨k,hk,rfl,f,Z⟩:=hrel;have a:=zh Z;by_cases d:k<n
 .have⟨q,k0⟩:=zln d;have p:k<zN env:=by rw[<-t];exact d
  have⟨b,o,U,m,C,D⟩:=G k d;subst U;replace C:=(a.cell m).trans C;replace D:=(a.cell m).trans D;have E:=zh (N k f p);have F:Hid ((zG env k sg0).1≠s->∀j,j<k+1->(zG env j sg0).1≠s):=zh λh j K=>by
   by_cases e:j=k
   .rw[e];exact h
   exact f j (by omega)
  have r:=Q _ (getD_in sg0 p);generalize zG env k sg0=x at*;obtain⟨nm,vl⟩:=x;simp only at C D E F r;go_upto_region 4 with fail;generalize g:wr.alloc _=w3 at*;have⟨y,S⟩:=zA1 g;replace a:=zb a y;obtain⟨H,I⟩:=zc2 S;by_cases B:nm=s
  .subst B;have u:=zh (E rfl);have L:=zh λW=>Op W vl r;go_wp2;refine zJ (L _) ?_;go_wp2;go_ret2;rw[u];exact⟨rfl,a⟩
  have M:=zh (F B);have hq:=(ly B).1;go_wp2;go_roundw
  .exact⟨k+1,by omega,by go_num,M,a⟩
  simp[intOf];omega
 have⟨q,z⟩:=zgq hk d;have u:=zh (P λj K=>f j (by rw[z,t];exact K));go_wp2;go_ret2;rw[u];exact⟨rfl,a⟩
end
section
variable (k:Nat) {op:Int} {a b:Nat}
def Wp {c:Prop} [Decidable c] {a b n:Nat} (d:a<n) (e:b<n):(if c then a else b)<n:=by split<;>assumption
def Wb (h:a<65536):op1 op a<65536:=by
 unfold op1;have b:=OR (decide (a=0));have c:=sN a;split
 .exact b
 split
 .omega
 split
 .omega
 exact c
def Wa (d:a<65536) (i:b<65536):op2 op a b<65536:=by
 have e:a&&&b<2^16:=Nat.and_lt_two_pow _ (by omega);have f:a|||b<2^16:=Nat.or_lt_two_pow (by omega) (by omega)
 have g:a^^^b<2^16:=Nat.xor_lt_two_pow (by omega) (by omega);have h:a/2^b<65536:=Nat.lt_of_le_of_lt (Nat.div_le_self _ _) d;have c:=OR;unfold op2
 repeat' (apply Wp)
 all_goals first|exact c _|omega
theorem V9 {op:Int} {l:List Nat} (b:∀x∈l,x<65536):opT op l<65536:=by
 have a:∀k,zG l k 0<65536:=λk=>by
  rw[DC];cases h:l[k]? with
  |none=>decide
  |some x=>exact b x (List.mem_of_getElem? h)
 unfold opT;split
 .split
  .exact a 1
  exact a 2
 split
 .exact OR _
 split
 .exact Wb (a 0)
 exact Wa (a 0) (a 1)
def kc (σ:ByteArray->Nat) (k:Nat) (e:Ex):evT σ (k+1) e=if e.op=1 then e.n.toNat else if e.op=2 then σ e.s else opT e.op (e.a.map (evT σ k)):=by cases e;rfl
def jV {known:ByteArray->Bool} {k:Nat} {e:Ex} (h:okE known (k+1) e=true):ed e.op (zN e.a)=true/\(e.op=1\/e.n=0)/\0<=e.n/\e.n<=65535/\(e.op=2->known e.s=true)/\∀a∈e.a,okE known k a=true:=by cases e;exact ny h
theorem Rb {σ:ByteArray->Nat} (b:∀s,σ s<65536) {known:ByteArray->Bool}:∀(k:Nat) (e:Ex),okE known k e=true->evT σ k e<65536
 |0,_,h=>by cases h
 |k+1,e,h=>by
  have⟨_,_,g,i,_,c⟩:=jV h;rw[kc];split
  .omega
  split
  .exact b _
  refine V9 λx f=> ?_;obtain⟨a,d,rfl⟩:=EJ.1 f;exact Rb b k a (c a d)
def pJ {m:Nat} (h:ed op m=true):m<=33/\1<=op/\op<=25/\op≠3/\op≠24:=by
 unfold ed at h
 repeat' split at h
 all_goals(simp only[DW,Ef] at h;omega)
def sgV (a:List Sg) (s:ByteArray):Nat:=(fd a s).getD 0
theorem VF {a:List Sg} (b:∀y∈a,y.2<65536) (s:ByteArray):sgV a s<65536:=by
 unfold sgV;induction a with
 |nil=>exact(by decide:0<65536)
 |cons x l ih=>
  show(if x.1=s then some x.2 else fd l s).getD 0<65536;split
  .exact b x (by simp)
  exact ih λy c=>b y (Ea _ c)
def VlC (k:Nat):Prop:=∀(w:World) (a:List Sg) (known:ByteArray->Bool) (e:Ex) (b:Nat) (v x:Value),Rs sgR w v a ah->zN a<=1000->(∀y∈a,y.2<65536)->okE known k e=true->Rs (exR b) w x e.a ah→
 Calls zz 160 #[zX #[v],exV e x] w (zR (zI zi (evT (sgV a) k e:Nat)) w)
def sQ (l:List Nat) (a:Nat):nI l++[(a:Int)]=nI (l++[a]):=by simp[nI]
def QW (IH:VlC k):VlC (k+1):=by
 intro w d known e dd v x hv P G aq hr;have⟨i0,hi,ay,az,aA⟩:=EX jZ;have⟨HI,aP,aQ,aR⟩:=zk4 hi ay az aA;have⟨U,a9,ba,bb,aX,X⟩:=jV aq;have⟨aj,a7,aY,ar,Y⟩:=pJ U;have⟨aG,ad,aE,aI⟩:=zk4 IH hv G X;obtain⟨V,c0,aZ,av, -⟩:=hv.sgs;subst aZ;obtain⟨A,c,rfl,hc,hx⟩:=hr.exs;have HX:=zh hx;have HR:Hid (evT (sgV d) (k+1) e=if e.op=1 then e.n.toNat else if e.op=2 then sgV d e.s else opT e.op (e.a.map (evT (sgV d) k))):=zh (kc _ _ _);have CF:=zh λW h=>Q7 W d _ e.s (hv.Q h) P G;have aN:Hid ((fd d e.s).getD 0=sgV d e.s):=zh rfl;have CO:=zh fun(W:World) (vl:Value) (h:IL W vl (nI (e.a.map (evT (sgV d) k)))) (E:e.op≠1) (h2:e.op≠2)=>Cz W e.op _ vl h (λy hy=>by obtain⟨a,ha,rfl⟩:=EJ.1 hy;exact Rb (VF G) k a (X a ha)) (by rw[DT];exact U) E h2;generalize evT (sgV d) (k+1) e=R at*;have⟨n,HN⟩:=zvh (zN e.a);have aO:Hid (nI (e.a.map (evT (sgV d) k))=nI ((e.a.take n).map (evT (sgV d) k))):=zh (by rw[HN,Et]);rw[<-HN] at aj hc HX;unfold exV;rw[<-HN];have⟨el,ac⟩:=zvh (zN d);rw[<-ac] at CF P av ad⊢;generalize e.op=op,e.n=en,e.s=em at*;clear hv G hr hx aq U aX X hi ay az aA av;go_enter func160,ntmps160;go_upto_region 1 with fail;generalize D:w.alloc _=zw1 at*;generalize aB:zw1.alloc _=w1 at*;have⟨g,s,l⟩:=zB2 D aB;clear D aB;have a6:=za l 3;go_wp2;have aH:=zh (OG.nil eG w1 w.heap.size 0 3 (by decide) (DH _));go_loopw [5,15] (λsl i wr=>∃j:Nat,j<=n/\i=zI zi j/\OG eG wr w.heap.size 0 3 sl (nI ((e.a.take j).map (evT (sgV d) k)))/\Box wr w.heap.size #[zU V el c0] 234/\Box wr (w.heap.size+1) #[zI zi op,zI zi en,zV em,zU A n c] 79/\zL w wr) (λ_ i _=>n-(intOf i).toNat)
 .exact⟨0,DH _,rfl,aH,s,l,g⟩
 obtain⟨j,hj,rfl,ap,ax,aw,t⟩:=hrel;have⟨g,s,l,f⟩:=zk4 t ax aw ap;clear t ax aw ap;by_cases H:j<n
 .have⟨ak,j0⟩:=zln H;have S:j<zN e.a:=by rw[<-HN];exact H
  obtain⟨b,o,p,d',e2,aV,a8,u,Z, -⟩:=HX j H;subst e2;obtain⟨v0,v1,v2,v3⟩:=zx4 g aV u;rw[Eb] at v0;have aM:Hid (nI ((e.a.take j).map (evT (sgV d) k))++[((evT (sgV d) k (zG e.a j ex0):Nat):Int)]=nI ((e.a.take (j+1)).map (evT (sgV d) k))):=zh (by rw[sQ,Ep,DD S,Fl,DC,DD S];rfl);have aL:=zh Z;have aJ:=zh (aI _ (getD_in ex0 S));have J:Hid ((nI ((e.a.take j).map (evT (sgV d) k))).length=j):=zh (by rw[aF,DT,D3];omega);generalize zG e.a j ex0=a at*;obtain⟨Ap,cp,rfl,aW⟩:=Z.slice;clear u Z;have CD:=zh fun(W':World) (E:zL w W')=>aG W' d known a d' _ _ (ad.Q E) (by rw[<-ac];exact P) aE aJ (aL.Q E);unfold exV at CD;generalize evT (sgV d) k a=r,nI ((e.a.take j).map (evT (sgV d) k))=done at*;have⟨ao,N⟩:=zv (a.op);have⟨an,M⟩:=zv (a.n);have⟨am,L⟩:=zv (a.s);have⟨al,K⟩:=zv (zN a.a);rw[<-N,<-M,<-L,<-K] at CD;rw[<-N] at v0;rw[<-M] at v1;rw[<-L] at v2;rw[<-K] at v3;clear N M L K aW;have⟨A1,c1,au⟩:=f.slice;rw[J] at au;subst au;go_upto_region 5 with fail;clear v0 v1 v2 v3;replace f:=zh (f.Q (ab wr (zC #[zI zi ao,zI zi an,zV am,zU Ap al cp] 79)));generalize D:wr.alloc _=w3 at*;have⟨ag,XA⟩:=zA1 D;clear D;replace⟨s,l,g⟩:=zb3 s l g ag;clear ag;obtain⟨a0,a1,a2,a3⟩:=zc4 XA;have af:=za s 0;go_wp2;refine zK (CD w3 g) λw4 t=> ?_;replace⟨f,s,l,XA,g⟩:=zb5 f s l XA g t;clear t;have ah:=ab w4 (zC #[zI zi r] 3);have aK:=zh (Rs.one (φ:=eG) (w:=w4) (F:=Ty (w4.alloc (zC #[zI zi r] 3)) 0 eG.ts) (x:=(r:Int)) (us:=[zI zi r]) rfl 3);replace⟨f,s,l,g⟩:=zb4 f s l g ah;clear ah;go_wp2_with(at_builtin;refine aD (φ:=eG) (T:=3) (B:=w.heap.size) (C:=0) (xs:=done) (ys:=[(r:Int)]) rfl _ _ 32 rfl i0 (zI zi 0) 8 underlying32 HI aP aQ aR rfl rfl f (zU (some ⟨w4.heap.size,0,none⟩) 1 1) rfl aK ?c1 ?c2 ?c3 ?_);case c1=>simp only[DF,D8];rw[J];omega
  case c2=>simp only[DF,D8];rw[J];unfold maxLen;omega
  case c3=>exact g.size
  intro v' w7 z Q;have aT:=zh (f.boxKept Q s (zQ (by decide)));have aS:=zh (f.boxKept Q l (zQ (by decide)));have aC:=zh (f.belowG Q g g.size (DE _));rw[aM] at z;obtain⟨A7,c7,rfl⟩:=z.slice;go_wp2;go_roundw
  .exact⟨j+1,by omega,by go_num,z,aT,aS,aC⟩
  simp[intOf];omega
 have⟨ak,ai⟩:=zgq hj H;rw[ai,<-aO] at f;have ae:=zh f.il;obtain⟨A1,c1,rfl⟩:=f.slice;generalize e.a.map (evT (sgV d) k)=vals at*;have⟨vn,aa⟩:=zv ((nI vals).length);rw[<-aa] at ae;simp only[<-aa];clear aa ai;by_cases E:op=1
 .subst E;have m:Hid (R=en.toNat):=zh (by rw[HR,DP rfl]);obtain⟨I,a4⟩:=zc2 l;go_wp2;go_ret;exact⟨aU (by rw[m];omega),g⟩
 by_cases h2:op=2
 .subst h2;have m:Hid (R=sgV d em):=zh (by rw[HR,DK (by decide),DP rfl]);rw[aN] at CF;generalize sgV d em=q at*;obtain⟨I,a5⟩:=zd2 l 0 2;have af:=za s 0;go_wp2;refine zK (CF _ g) λw4 t=> ?_;replace g:=zb g t;clear t;go_wp2;go_ret;exact⟨aU (by rw[m]),g⟩
 have m:Hid (R=opT op vals):=zh (by rw[HR,DK E,DK h2]);have g1:(op==1)=false:=by simpa using E
 have g2:(op==2)=false:=by simpa using h2
 have g3:(op==3)=false:=by simpa using ar
 have g4:(op==24)=false:=by simpa using Y
 have CP:=zh λW h=>CO W (zU A1 vn c1) h E h2;generalize opT op vals=q at*;have I:=za l 0;go_wp2;refine zK (CP _ ae) λw4 t=> ?_;replace g:=zb g t;clear t;go_wp2;go_ret;exact⟨aU (by rw[m]),g⟩
theorem AQ:∀k,VlC k
 |0=>λw a known e b v x _ _ _ h=>by cases h
 |k+1=>QW k (AQ k)
end
def SL.cellF {w:World} {v:Value} {l:List ByteArray} (h:SL w v l):∃(A:Option Addr) (c:Nat),v=zU A (zN l) c/\zN l<=c/\∀k,k<zN l->∃b o,A=some ⟨b,o,none⟩/\b<w.heap.size/\w.cell? ⟨b,o+k,none⟩=some (zV (zG l k ⟨#[]⟩)):=by
 rcases h.form with⟨A,c,rfl,rfl⟩|⟨b,o,c,rfl,e,f,d,a⟩
 .exact⟨A,c,rfl,DH _,λk hk=>by simp at hk⟩
 exact⟨_,c,rfl,e,λk hk=>⟨b,o,rfl,d,a k hk⟩⟩
def Uq (w:World) (a:List Sg) (v:Value) (e:Ex) (d:Nat) (A:Option Addr) (c:Nat) (hv:Rs sgR w v a ah) (hl:zN a<=1000) (S:∀x∈a,x.2<65536) (hz:ExZ e) (hr:Rs (exR d) w (zU A (zN e.a) c) e.a ah) (L:(ax (d+1) e).length<=1000) (hA:dm gH (ax (d+1) e)=[]) (hN:∀s∈dm ff (ax (d+1) e),(fd a s).isSome=true):Calls zz 159 #[zX #[v],exV e (zU A (zN e.a) c)] w (zR (zW true) w):=by
 have M:=zh λW h=>mE W e d A c hz (hr.Q h) L;have K:=zh λW h=>j9 W e d A c hz (hr.Q h) L;rw[hA] at K;have CF:=zh fun(W:World) (s:ByteArray) (h:zL w W) (L:s∈dm ff (ax (d+1) e))=>Q7 W a v s (hv.Q h) hl S;have HF:Hid (∀s,s∈dm ff (ax (d+1) e)->(fd a s).isSome=true):=zh hN;have I:=ib ff (ax (d+1) e) [];rw[D8,DY] at I;have J:(dm ff (ax (d+1) e)).length<=1000:=D2 I L;generalize dm ff (ax (d+1) e)=ns at*;obtain⟨V,c0,rfl, -, -⟩:=hv.sgs;generalize zN a=el at*;unfold exV at M K⊢;unfold NmR at M K;generalize zN e.a=n,e.op=op at*;generalize e.n=en,e.s=em at*;go_enter func159,ntmps159;go_upto_region 1 with fail;generalize Z:w.alloc _=zw1 at*;generalize aa:zw1.alloc _=w1 at*;have⟨f,j,g⟩:=zB2 Z aa;obtain⟨D,E,F,G⟩:=zc4 g;go_wp2;refine(M w1 f).mono ?_;rintro r w2 ⟨u,rfl,y,q⟩;obtain⟨U,uc,rfl,T,R⟩:=y.cellF;have B:=zh R;have⟨m,HM⟩:=zvh (zN ns);rw[<-HM] at T B J⊢;replace⟨j,g,f⟩:=zb3 j g f q;go_wp2;go_loopw [16] (λi wr=>∃k:Nat,k<=m/\i=zI zi k/\zL w2 wr/\Box wr w.heap.size #[zU V el c0] 234/\Box wr (w.heap.size+1) #[zI zi op,zI zi en,zV em,zU A n c] 79/\zL w wr) (λi _=>m-(intOf i).toNat)
 .exact⟨0,DH _,rfl,DM _ _,j,g,f⟩
 obtain⟨k,hk,rfl,P,Y,X,q⟩:=hrel;have⟨f,p,j,g⟩:=zk4 q P Y X;by_cases t:k<m
 .have⟨H,k0⟩:=zln t;have⟨b,o,e2,Q,y0⟩:=B k t;subst e2;replace y0:=(p.cell Q).trans y0;have C:=zh (getD_in (l:=ns) ⟨#[]⟩ (k:=k) (by rw[<-HM];exact t));generalize zG ns k ⟨#[]⟩=s at*;have z:=zh λW h=>CF W s h C;have N:=zh (HF s C);rw[N] at z;generalize(fd a s).getD 0=fv at*;have ab:=za j 0;go_wp2;refine zK (z wr f) λw4 q=> ?_;replace⟨p,j,g,f⟩:=zb4 p j g f q;go_wp2;go_roundw
  .exact⟨k+1,by omega,by go_num,p,j,g,f⟩
  simp[intOf];omega
 have H:=zge t;obtain⟨D,E,F,G⟩:=zc4 g;go_wp2;refine(K wr f).mono ?_;rintro r w4 ⟨u,rfl,y,q⟩;obtain⟨U2,ad,rfl,ac, -⟩:=y.cellF;simp only[D8];replace⟨j,g,f⟩:=zb3 j g f q;go_wp2;go_loopw [32] (λi wr=>i=zI zi 0/\zL w wr) (λi _=>0)
 .exact⟨rfl,f⟩
 obtain⟨rfl,q⟩:=hrel;have f:=zh q;go_wp2;go_ret;exact⟨rfl,f⟩
def WO (w:World) (a:List Sg) (v:Value) (e:Ex) (d:Nat) (A:Option Addr) (c:Nat) (known:ByteArray->Bool) (u:Rs sgR w v a ah) (D:zN a<=1000) (p:∀x∈a,x.2<65536) (F:ExZ e) (hk:KW w) (hm:de w) (t:Rs (exR d) w (zU A (zN e.a) c) e.a ah) (J:d<=1000) (E:(ax (d+1) e).length<=1000) (G:fZ (d+1) e=0) (H:dm gH (ax (d+1) e)=[]) (I:∀s∈dm ff (ax (d+1) e),(fd a s).isSome=true) (r:okE known dep e=true):Calls zz 94 #[exV e (zU A (zN e.a) c),v] w (zR (zY #[zI zi (evT (sgV a) dep e:Nat),zI zi 0]) w):=by have q:=zh λW h=>mD W e d A c F (hk.Q h) (hm.Q h) (t.Q h) J E;rw[G] at q;have B:=zh λW h=>Uq W a v e d A c (u.Q h) D p F (t.Q h) E H I;have C:=zh λW h=>AQ dep W a known e d v (zU A (zN e.a) c) (u.Q h) D p r (t.Q h);generalize evT (sgV a) dep e=R at*;obtain⟨V,L,rfl, -, -⟩:=u.sgs;generalize zN a=el at*;unfold exV at q B C⊢;generalize zN e.a=n,e.op=op at*;generalize e.n=en,e.s=em at*;go_enter func94,ntmps94;go_upto_region 2 with fail;generalize y:w.alloc _=zw1 at*;generalize z:zw1.alloc _=w1 at*;have⟨b,f,l⟩:=zB2 y z;obtain⟨g,i,j,k⟩:=zc4 f;go_wp2;refine zK (q w1 b) λw2 o=> ?_;replace⟨f,l,b⟩:=zb3 f l b o;obtain⟨g,i,j,k⟩:=zc4 f;have m:=za l 0;go_wp2;refine zK (B w2 b) λK o=> ?_;replace⟨f,l,b⟩:=zb3 f l b o;obtain⟨g,i,j,k⟩:=zc4 f;have m:=za l 0;go_wp2;refine zK (C K b) λM o=> ?_;replace⟨f,l,b⟩:=zb3 f l b o;go_wp2;go_ret2;exact⟨rfl,b⟩
def W6 (w:World) (L:Nat) (l:List (ByteArray×Int)) (e:Ex) (d:Nat) (A:Option Addr) (c:Nat) (J:bR φS w L l) (R:ExZ e) (P:Rs (exR d) w (zU A (zN e.a) c) e.a ah) (C:(ax (d+1) e).length<=1000) (Y:dm gH (ax (d+1) e)=[]) (Z:∀s∈dm ff (ax (d+1) e),s.size<=maxLen/\∃i,bZ l s=some i):Calls zz 121 #[.map (some L),exV e (zU A (zN e.a) c)] w (zR (zI zi 0) w):=by
 have F:=zh λW h=>mE W e d A c R (P.Q h) C;have D:=zh λW h=>j9 W e d A c R (P.Q h) C;rw[Y] at D;have S:Hid (∀s,s∈dm ff (ax (d+1) e)->∃i,∀W,zL w W->(Instr.lookup 110 (.map (some L)) (zV s) true).run zz W= .ok (zY #[zI zi i,zW true]) W):=zh λs C=>by have⟨V,i,X⟩:=Z s C;refine⟨i,λW hW=> ?_⟩;have:=(J.Q hW).look2 (mT:=110) underlying110 (x:=s) V;rw[X] at this;exact this
 have z:=ib ff (ax (d+1) e) [];rw[D8,DY] at z;have B:(dm ff (ax (d+1) e)).length<=1000:=D2 z C;generalize dm ff (ax (d+1) e)=ns at*;unfold exV at F D⊢;unfold NmR at F D;generalize zN e.a=n,e.op=op at*;generalize e.n=en,e.s=em at*;go_enter func121,ntmps121;go_upto_region 1 with fail;generalize M:w.alloc _=w1 at*;have⟨f,E⟩:=zB1 M;obtain⟨p,q,t,v⟩:=zc4 E;go_wp2;refine(D w1 f).mono ?_;rintro r w2 ⟨u,rfl,g,H⟩;obtain⟨U2,ab,rfl,Q, -⟩:=g.cellF;simp only[D8];replace⟨E,f⟩:=zb2 E f H;obtain⟨p,q,t,v⟩:=zc4 E;go_wp2;refine(F w2 f).mono ?_;rintro r w3 ⟨u,rfl,g,H⟩;obtain⟨U,uc,rfl,K,I⟩:=g.cellF;have j:=zh I;have⟨m,N⟩:=zvh (zN ns);rw[<-N] at K j B⊢;replace f:=zb f H;go_wp2;go_loopw [16] (λi wr=>∃k:Nat,k<=m/\i=zI zi k/\wr=w3) (λi _=>m-(intOf i).toNat)
 .exact⟨0,DH _,rfl,rfl⟩
 obtain⟨k,hk,rfl,rfl⟩:=hrel;by_cases a:k<m
 .have⟨y,k0⟩:=zln a;have⟨b,o,T,aa,y0⟩:=j k a;subst T;have G:=zh (getD_in (l:=ns) ⟨#[]⟩ (k:=k) (by rw[<-N];exact a));generalize zG ns k ⟨#[]⟩=s at*;have⟨i,hi⟩:=S s G;have lk:=hi wr f;go_wp2;go_roundw
  .exact⟨k+1,by omega,by go_num,by trivial⟩
  simp[intOf];omega
 have y:=zge a;go_wp2;go_ret;exact⟨rfl,f⟩
def mg (vars:List Vr):Nat->List (ByteArray×Int)
 |0=>[]
 |k+1=>((zG vars k vr0).s,(k:Int))::mg vars k
theorem uC (vars:List Vr):∀k,(mg vars k).length=k
 |0=>rfl
 |k+1=>by show(mg vars k).length+1=k+1;rw[uC vars k]
theorem kF {vars:List Vr} {i:Nat}:∀(k:Nat),(∀a b,a<k->b<k->(zG vars a vr0).s=(zG vars b vr0).s->a=b)->i<k->bZ (mg vars k) (zG vars i vr0).s=some (i:Int)
 |0,_,h=>by omega
 |k+1,hn,h=>by
  show bZ (((zG vars k vr0).s,(k:Int))::mg vars k) _=_;rw[cW];by_cases e:(zG vars k vr0).s=(zG vars i vr0).s
  .obtain rfl:k=i:=hn k i (by omega) h e;rw[DP e]
  rw[DK e];have:i≠k:=λh=>e (by rw[h]);exact kF k (λa b c d=>hn a b (by omega) (by omega)) (by omega)
def rP (j:Nat) (D:List Nat) (B:Nat):FOp:=⟨j,D,λv=>∃b,v= .map (some b),λv w=>∃b,v= .map (some b)/\bR φS w b []/\B<=b⟩
def QO (j:Nat) (D:List Nat) (B:Nat):∀u w w',(rP j D B).Φ u w->zL w w'->(rP j D B).Φ u w':=λu w w' ⟨b,e,h,hB⟩ hb=>⟨b,e,h.Q hb,hB⟩
def QP (j:Nat) (D:List Nat) (B:Nat):(∀u w,(rP j D B).Φ u w->(rP j D B).S u)/\∃u,(rP j D B).S u:=⟨λu w ⟨b,e,_⟩=>⟨b,e⟩,_,0,rfl⟩
def uY {P:Program} {K:Kit} {w0:World} {γ:Nat->Value} {j:Nat} {o:Oper} {a:Act} (c:o.guard=none) (d:∀w,(execOp a.eval o).run P w= .ok (.value (.map (some w.heap.size))) (w.alloc (.map #[] 0))) (h:∀w g,w0.heap.size<=g->bR φS w g []->K.Φ j (.map (some g)) w):jB P K w0 γ j o a:=by refine⟨c,λw b e=> ?_⟩;rw[d];exact⟨h _ _ b.size (bR.new φS w),ab _ _⟩
end
section
open Go.RowKit
def bj (a:ByteArray) (i:Nat):ByteArray:=⟨a.data++#[91,UInt8.ofNat (48+i),93]⟩
def eF (s:ByteArray) (i:Nat):Bool:=decide (s=bj (cO 91 s) i)
def b9 (s:ByteArray):Bool:=aQ s||(fF 91 s&&(aQ (cO 91 s)&&(List.range 8).any (eF s)))
def dy (l:List Vr) (s:ByteArray):Int:=fh (λv=>decide (v.s=s)) l
def oM (l:List Vr) (s:ByteArray):List Nat->Bool
 |[]=>false
 |i::r=>if eF s i=true then decide (dy l (bj (cO 91 s) (i-1))<0) else oM l s r
def fL (l:List Vr) (s:ByteArray):Bool:=fF 91 s&&oM l s (List.range' 1 7)
def gM (v:Vr):Prop:=b9 v.s=true/\(1<=v.w/\v.w<=8)/\(0<=v.m/\v.m<=2)/\(0<=v.u/\v.u<2^v.w.toNat)/\(v.m≠0->v.u=0)
def oP (v:Vr):Int:=if v.m≠0 then v.w else 0
def bX (l:List Vr):Int:=l.foldl (λn v=>n+oP v) 0
structure cB (l:List Vr):Prop where
 len:zN l<=16
 ok:∀v∈l,gM v
 nodup:∀i,i<zN l->dy l (zG l i vr0).s=i
 gap:∀v∈l,fL l v.s=false
 bits:bX l<=20
def ai (l:List Vr):List ByteArray:=l.map (·.s)
def KE:Nat:=30
def cy (l:List Vr) (x:List Ex):Prop:=∀e∈x,je (ai l) KE e
def bY (l:List Vr) (i:Int):Bool:=decide (0<=i)&&(decide (i<zN l)&&decide ((zG l i.toNat vr0).m≠0))
def dG (x:Wt):Bool:= !(decide (x.lo<0)||(decide (x.lo>x.hi)||(decide (x.hi>65535)||(decide (x.weight<0)||decide (x.weight>1000)))))
def cH (l:List Vr) (d:List Ds):Prop:=∀i,i<zN d->bY l (zG d i ds0).var=true/\(∀j,j<i->(zG d j ds0).var≠(zG d i ds0).var)/\(zG d i ds0).ws.length<=16/\∀x∈(zG d i ds0).ws,dG x=true
structure bD (l:List Vr) (g:List (List Int)):Prop where
 some_:∀x∈g,x≠[]
 ran:∀i∈g.flatten,bY l i=true
 nodup:g.flatten.Nodup
 all:∀i:Nat,bY l i=true->(i:Int)∈g.flatten
structure PV (p:Pb):Prop where
 v:cB p.v
 exprs:cy p.v (p.h++p.s)
 d:cH p.v p.d
 g:bD p.v p.g
def j4 {l:List Vr} {s:ByteArray}:dy l s<0↔s∉ai l:=by
 have h:=j8 (λv:Vr=>decide (v.s=s)) l;unfold dy ai;rw[EJ];constructor
 .rintro b ⟨v,a,e⟩;rw[DJ (by omega)] at h;have:l.any (λv:Vr=>decide (v.s=s))=true:=Ez.2 ⟨v,a,by simpa using e⟩;rw[<-h] at this;cases this
 intro b;refine E8 λc=>b ?_;rw[DR (by omega)] at h;have⟨v,a,e⟩:=Ez.1 h.symm;exact⟨v,a,by simpa using e⟩
end
section
open Go.RowKit Go.Maps
def nmV (vars:List Vr) (a:List Int) (s:ByteArray):Vl:=match bZ (mg vars (zN vars)) s with
 |some i=>wm vars a i.toNat
 |none=> .val 0
structure StP (p:Pb):Prop where
 vl:zN p.v<=16
 nm:∀v∈p.v,v.s.size<=maxLen
 nd:∀a b,a<zN p.v->b<zN p.v->(zG p.v a vr0).s=(zG p.v b vr0).s->a=b
 gl:zN p.g<=1000
 gm:∀g∈p.g,zN g<=1000/\∀v∈g,0<=v/\v<zN p.v
 wd:∀x∈p.v,0<=x.w/\x.w<=65536
 vo:∀i,i<zN p.v->((zG p.v i vr0).m=0->0<=(zG p.v i vr0).u/\(zG p.v i vr0).u<65536)/\((zG p.v i vr0).m≠0->1<=(zG p.v i vr0).w/\(zG p.v i vr0).w<=8/\0<=(cF p).getD i 0/\(cF p).getD i 0+(zG p.v i vr0).w<=20)
def lI {w:World} {g:Nat} {l:List Int} (h:Box w g (iA l) 3) (n:Nat) (b:zN l=n):IL w (zU (some ⟨g,0,none⟩) n n) l:=by subst b;refine⟨_,_,rfl,DE _,λ_=>⟨_,rfl,h.lt,λj a=> ?_⟩⟩;rw[iu,DY,h.cell,eH a]
def UO (w:World) (p:Pb) (J:StP p) (d:List Nd) (hd:DV d) (Q A1 A2 A3 A4 A5:Option Addr) (nd S c1 M c2 N c3 P c4 c5:Nat) (G:Rs ndR w (zU Q nd S) d ah) (aB:NR w (zU Q nd S)) (D:Rs vrR w (zU A1 (zN p.v) c1) p.v ah) (y:Rs ilR w (zU A5 (zN p.g) c5) p.g ah) (hE:EvC w (zX #[zU A1 (zN p.v) c1,zU A2 M c2,zU A3 N c3,zU A4 P c4,zU A5 (zN p.g) c5])) (hk:KW w) (hm:de w) (e:Ex) (dd:Nat) (Ap:Option Addr) (cp:Nat) (L:ExZ e) (hr:Rs (exR dd) w (zU Ap (zN e.a) cp) e.a ah) (au:dd<=1000) (K:(ax (dd+1) e).length<=1000) (he:je (ai p.v) (dd+1) e):Calls zz 70 #[zX #[zU Q nd S],zX #[zU A1 (zN p.v) c1,zU A2 M c2,zU A3 N c3,zU A4 P c4,zU A5 (zN p.g) c5],exV e (zU Ap (zN e.a) cp)] w (YL d p.v (cF p) (nmV p.v (cF p)) (ai p.v) w):=by
 have a1:nd=zN d:=by obtain⟨A',c',e1, -⟩:=G.slice;simp only[DQ] at e1;exact e1.2.1
 subst a1;have C1:=zh λW h=>mJ W _ d hd (G.Q h);have C3:=zh λW h=>mD W e dd Ap cp L (hk.Q h) (hm.Q h) (hr.Q h) au K;rw[he.1] at C3;have C2:=zh hE;have C4:=zh λW h=>vD W p A1 A2 A3 A4 A5 M c1 c2 N c3 P c4 c5 (D.Q h) (y.Q h) (λW' aW=>hE W' (aa h aW)) (by have:=J.vl;omega) J.gl J.gm J.wd;have C5:=zh λW h (r:Nat) (aZ:bR φS W r (mg p.v (zN p.v)))=>W6 W r _ e dd Ap cp aZ L (hr.Q h) K he.2.1 (λs K=>by
  obtain⟨v,D,rfl⟩:=EJ.1 (he.2.2 s K);obtain⟨i,hi,rfl⟩:=D9.1 D;have e1:p.v[i]=zG p.v i vr0:=by rw[DC,DD hi];rfl
  rw[e1];exact⟨by rw[<-e1];exact J.nm _ D,_,kF _ J.nd hi⟩);have⟨HP,HD,HV,ae,ag⟩:=zk5 J hd D G aB;have⟨n,F⟩:=zvh (zN p.v);have⟨m,aA⟩:=zv (zN p.g);have be:n<=16:=by rw[F];exact J.vl
 have aP:Hid ((cF p).length=n):=zh (by rw[mj,F]);unfold So at C4;rw[<-F,<-aA] at C2 C4⊢;rw[<-F] at HV C5;have⟨dl,E⟩:=zvh (zN d);rw[<-E] at C1 ae ag⊢;unfold exV at C3 C5⊢;generalize zN e.a=al,e.op=op,e.n=en,e.s=em at*;have I:=@run_makeMap zz;clear J hd G aB D y hE hk hm L hr au K he aA;go_enter func70,ntmps70;go_upto_region 1 with fail;generalize B:w.alloc _=zw1 at*;generalize aH:zw1.alloc _=zw2 at*;generalize aI:zw2.alloc _=w1 at*;have⟨c,R,o,j⟩:=zB3 B aH aI;clear B aH aI;have a5:=za R 0;go_wp2;refine zK (C1 w1 c) λw2 f=> ?_;replace⟨R,o,j,c⟩:=zb4 R o j c f;clear f;obtain⟨ao,ba,bb,bc,bd⟩:=zc5 o;go_wp2;refine zK (C2 w2 c) λw3 f=> ?_;replace⟨R,o,j,c⟩:=zb4 R o j c f;clear f;obtain⟨a6,a7,a8,a9⟩:=zc4 j;go_wp2;refine zK (C3 w3 c) λw4 f=> ?_;replace⟨R,o,j,c⟩:=zb4 R o j c f;clear f;go_wp2;have am:=zh c.size;have⟨B0,U⟩:=zvh (w.heap.size);refine bB 5 (Kit.of [oC 3 [] B0 n n (iA (cF p)) 3,rP 4 [] B0]) (Kit.of_stable ?_) (Kit.of_known ?_) ?_
 .intro z L;simp only[DS,DZ,EC] at L;rcases L with rfl|rfl
  .apply qe
  apply QO
 .intro z L;simp only[DS,DZ,EC] at L;rcases L with rfl|rfl
  .apply qg
  apply QP
 intro γ ad C hC a2;obtain⟨gl,e3⟩:∃g,γ 3=zU (some ⟨g,0,none⟩) n n:=ad 3 rfl;obtain⟨r,e4⟩:∃b,γ 4= .map (some b):=ad 4 rfl;have l0:=R.latC (C:=C) 0 _ rfl;have p0:=o.latC (C:=C) 0 _ rfl;have p1:=o.latC (C:=C) 1 _ rfl;have p2:=o.latC (C:=C) 2 _ rfl;have p3:=o.latC (C:=C) 3 _ rfl;have p4:=o.latC (C:=C) 4 _ rfl;simp only[Ee,El,Ei,D5];iterate 3 (refine aO rfl ?_;go_big_quiet_step (fail);refine D4 ?_)
 refine wfc #[zX #[zU A1 n c1,zU A2 M c2,zU A3 N c3,zU A4 P c4,zU A5 m c5]] func77 (λw' f hf=>(C4 w' (aa c f)).mono λe w2 ⟨g,he,y,hx,hb2⟩=>⟨_,he,⟨g,rfl,hx,by rw[U];exact D2 am (D2 f.size y)⟩,hb2⟩) ?_;simp only[DY,Nat.reduceAdd,e3];go_simp;refine b6 rfl (uY rfl (λw=>by kernel_rfl) (λw' g y hx=>⟨g,rfl,hx,by rw[U];exact D2 am y⟩)) ?_;simp only[DY,Nat.reduceAdd,e4];go_simp;intro T f hF;have R3:∃g,γ 3=zU (some ⟨g,0,none⟩) n n/\Box T g (iA (cF p)) 3/\B0<=g:=hF 3 (by decide) rfl;have R4:∃b,γ 4= .map (some b)/\bR φS T b []/\B0<=b:=hF 4 (by decide) rfl;rw[e3] at R3;rw[e4] at R4;obtain⟨bh,ap,l,aX⟩:=R3;obtain⟨a4,aq,a,a3⟩:=R4;have X:=a.lt;have aR:Hid (w.heap.size<=a4):=zh (by rw[<-U];exact a3);have V:=l.lt;have Y:=D2 c.size f.size;simp only[DQ,DN,FK,FL,Value.map.injEq] at ap aq;subst ap aq;replace l:=zh l;replace a:=zh a;replace⟨o,j,c⟩:=zb3 o j c f;clear f;clear l0 p0 p1 p2 p3 p4 hF ad hC a2 e3 e4 I;go_upto_region 4 with fail;have q:=zh (eS (W:=T) (g:=T.heap.size) 149 #[zU Q dl S,zU A1 n c1,zU A2 M c2,zU A3 N c3,zU A4 P c4,zU A5 m c5,zU (some ⟨gl,0,none⟩) n n,.map (some r)] rfl);have t:=ab T (zC #[zU Q dl S,zU A1 n c1,zU A2 M c2,zU A3 N c3,zU A4 P c4,zU A5 m c5,zU (some ⟨gl,0,none⟩) n n,.map (some r)] 149);replace⟨l,a⟩:=zb2 l a t;have av:=l.lt;have an:=zh (show r<T.heap.size from X);replace⟨o,j,c⟩:=zb3 o j c t;clear t;generalize T.alloc (zC #[zU Q dl S,zU A1 n c1,zU A2 M c2,zU A3 N c3,zU A4 P c4,zU A5 m c5,zU (some ⟨gl,0,none⟩) n n,.map (some r)] 149)=w6 at*;have⟨g,y⟩:=zv (T.heap.size);rw[<-y] at q an⊢;have aM:Hid (w.heap.size<=g):=zh (by rw[y];exact Y);have aL:Hid (gl<g):=zh (by rw[y];exact V);clear y av;have ao:=za o 0;go_wp2;go_loopw [34] (λi wr=>∃k:Nat,k<=n/\i=zI zi k/\zL w wr/\Box wr (w.heap.size+1+1) #[zI zi op,zI zi en,zV em,zU Ap al cp] 79/\Box wr g #[zU Q dl S,zU A1 n c1,zU A2 M c2,zU A3 N c3,zU A4 P c4,zU A5 m c5,zU (some ⟨gl,0,none⟩) n n,.map (some r)] 149/\Box wr gl (iA (cF p)) 3/\bR φS wr r (mg p.v k)) (λi _=>n-(intOf i).toNat)
 .exact⟨0,DH _,rfl,c,j,q,l,a⟩
 obtain⟨k,hk,rfl,f,aD,aE,aF,I⟩:=hrel;have⟨c,j,q,l,a⟩:=zk5 f aD aE aF I;clear f aD aE aF I;by_cases H:k<n
 .have⟨ay,k0⟩:=zln H;have⟨bf,bg,e1,_,aC⟩:=HV.vrs;have⟨bv,ov,Z,ar,u⟩:=aC k (by rw[<-F];exact H);obtain rfl:=zas e1 Z;obtain⟨v0,v1,v2,v3⟩:=zx4 c ar u;rw[Eb] at v0;have af:Hid (mg p.v (k+1)=((zG p.v k vr0).s,(k:Int))::mg p.v k):=zh rfl;have ak:=zh (HP.nm _ (getD_in vr0 (show k<zN p.v by rw[<-F];exact H)));generalize zG p.v k vr0=vr at*;obtain⟨nm,wd,md,vl⟩:=vr;simp only at v0 v1 v2 v3 af ak;clear e1 Z aC ar u;go_upto_region 7 with fail;clear v0 v1 v2 v3;generalize B:wr.alloc _=w7 at*;have⟨t,XA⟩:=zA1 B;clear B;replace⟨j,q,l,a,c⟩:=zb5 j q l a c t;clear t;refine aj 7 ?_;have a0:=XA.lat 0 _ rfl;have g7:=q.lat 7 _ rfl;simp only[Ee,El,Ei,D5];repeat(go_big_quiet_step (fail))
  refine D4 ?_;intro w8 f;clear a0 g7;replace⟨j,q,l,a,XA⟩:=zb5 j q l a XA f;replace c:=zb c f;clear f;have⟨w9,hu,ac,A⟩:=a.upd (mT:=110) underlying110 (x:=nm) ak (i:=(k:Nat)) (wfN (by omega)) (by rw[uC];unfold maxLen;omega);have bi:(Instr.mapUpdate 110 (.map (some r)) (zV nm) (zI zi k)).run zz w8= .ok () w9:=hu;rw[<-af] at ac;have aQ:=zh ac;have aS:=zh (aV j A (fp a j).symm);have aT:=zh (aV q A (fp a q).symm);have aU:=zh (aV l A (fp a l).symm);have aK:=zh (aN c c.size aR A);clear ac A hu;go_wp2;go_roundw
  .exact⟨k+1,by omega,by go_num,aK,aS,aT,aU,aQ⟩
  simp[intOf];omega
 have⟨ay,aw⟩:=zgq hk H;rw[aw] at a;have aJ:=zh λW h (h2:bR φS W r (mg p.v n))=>C5 W h r h2;clear aw;go_wp2;refine az ?_;have g7:=q.lat 7 _ rfl;have e0:=j.lat 0 _ rfl;have e1:=j.lat 1 _ rfl;have Z:=j.lat 2 _ rfl;have e3:=j.lat 3 _ rfl;repeat(go_big_quiet_step (first|with_reducible exact aG (aJ.out _ (aa c.out (Lat.h _)) (a.out.Q (Lat.h _)))))
 refine D4 ?_;intro w2 f;clear g7 e0 e1 Z e3;replace⟨q,l,a,c⟩:=zb4 q l a c f;clear f;go_wp2;go_ret2;have aY:=aM.out;have aX:=aL.out;have bj:=an.out;refine⟨g,⟨zU A1 n c1,zU A2 M c2,zU A3 N c3,zU A4 P c4,zU A5 m c5,zU (some ⟨gl,0,none⟩) n n,.map (some r)⟩,aY,q.lt,c,⟨⟨Q,S,by rw[<-E];exact q,by rw[<-E];exact ae.Q c,by rw[<-E];exact ag.Q c⟩,HD⟩,⟨?_, ?_, ?_, ?_, ?_, ?_, ?_⟩,rfl⟩
 .intro W hW;rw[F];rw[F] at HV;exact iV HV (D2 c.size hW.size) (λ_ b f _=>(hW.block b (DU f c.size) (by simp only[ne_eq,DN];omega)).trans (c.block b f)) (λb f _=>(hW.block b (DU f c.size) (by simp only[ne_eq,DN];omega)).trans (c.block b f))
 .intro W hW;exact lI (aV l hW (by omega)) n aP
 .refine⟨r,rfl,λW hW=>⟨mg p.v n,a.grown hW (by simp only[ne_eq,DN];omega),λs K=> ?_⟩⟩;obtain⟨v,D,rfl⟩:=EJ.1 K;obtain⟨i,hi,rfl⟩:=D9.1 D;have e1:p.v[i]=zG p.v i vr0:=by rw[DC,DD hi];rfl
  have Z:=kF (vars:=p.v) (zN p.v) HP.nd hi;rw[e1];refine⟨i,by rw[F];exact Z,hi, ?_⟩;unfold nmV;rw[Z];rfl
 .intro s K;obtain⟨v,D,rfl⟩:=EJ.1 K;exact HP.nm v D
 .exact HP.vl
 .exact mj p
 exact HP.vo
def Deep:Nat->Ex->Prop
 |0,_=>False
 |k+1,e=>∀a∈e.a,Deep k a
theorem Deep.up:∀{k:Nat} {e:Ex},Deep k e->Deep (k+1) e
 |0,e,h=>h.elim
 |k+1,e,h=>λa b=>(h a b).up
theorem Deep.le {k a:Nat} {e:Ex} (h:Deep k e) (hk:k<=a):Deep a e:=by
 obtain⟨j,rfl⟩:=FT hk;induction j with
 |zero=>exact h
 |succ j ih=>exact(ih (by omega)).up
theorem qk {α β:Type} {l:List α} {f g:α->List β} (h:∀a∈l,f a=g a):l.flatMap f=l.flatMap g:=by
 induction l with
 |nil=>rfl
 |cons a l ih=>rw[EM,EM,h a (by simp),ih λb c=>h b (Ea _ c)]
theorem wW {f g:Ex->Nat}:∀{l:List Ex},(∀a∈l,f a=g a)->jH f l=jH g l:=by
 have b:∀(l:List Ex) (m:Nat),(∀a∈l,f a=g a)->l.foldl (λm a=>max m (f a)) m=l.foldl (λm a=>max m (g a)) m:=by
  intro l;induction l with
  |nil=>intro m _;rfl
  |cons x l ih=>intro m h;rw[EH,EH,h x (by simp),ih _ λa c=>h a (Ea _ c)]
 intro l h;exact b l 0 h
theorem rA:∀{k:Nat} {e:Ex},Deep k e->ax (k+1) e=ax k e
 |0,e,h=>h.elim
 |k+1,e,h=>by show e::e.a.flatMap (ax (k+1))=e::e.a.flatMap (ax k);rw[qk λa b=>rA (h a b)]
theorem rT:∀{k:Nat} {e:Ex},Deep k e->cP (k+1) e=cP k e
 |0,e,h=>h.elim
 |k+1,e,h=>by show jH (cP (k+1)) e.a+1=jH (cP k) e.a+1;rw[wW λa b=>rT (h a b)]
theorem Tz {k a:Nat} {e:Ex} (h:Deep k e) (hk:k<=a):ax a e=ax k e:=by
 obtain⟨j,rfl⟩:=FT hk;induction j with
 |zero=>rfl
 |succ j ih=>rw[<-Nat.add_assoc,rA (h.le (by omega)),ih (by omega)]
theorem Df {k a:Nat} {e:Ex} (h:Deep k e) (hk:k<=a):cP a e=cP k e:=by
 obtain⟨j,rfl⟩:=FT hk;induction j with
 |zero=>rfl
 |succ j ih=>rw[<-Nat.add_assoc,rT (h.le (by omega)),ih (by omega)]
theorem vd {w:World} {F:Nat->Prop}:∀{d k:Nat} {us:List Value} {e:Ex},(exR d).R w us e F->Deep k e->(exR k).R w us e F
 |0,_,_,_,h,_=>h.elim
 |d+1,0,_,_,_,h=>h.elim
 |d+1,k+1,us,e,⟨v,h1,h2,h3⟩,h=>⟨v,h1,h2.weak (by rw[dY,dY]) (λus x b a=>vd a (h x b)),h3⟩
def Rs.deep {w:World} {F:Nat->Prop} {d k:Nat} {v:Value} {l:List Ex} (h:Rs (exR d) w v l F) (hk:∀a∈l,Deep k a):Rs (exR k) w v l F:=h.weak (by rw[dY,dY]) λus x c b=>vd b (hk x c)
structure jm (names:List ByteArray) (e:Ex):Prop where
 z:ExZ e
 deep:Deep KE e
 ok:je names KE e
 len:(ax KE e).length<=1000
def jm.okE {names:List ByteArray} {e:Ex} (h:jm names e):okE (λs=>decide (s∈names)) dep e=true:=QZ h.ok (by decide)
def Vi (w:World) (p:Pb) (E:StP p) (A1 A2 A3 A4 A5 Al:Option Addr) (c1 i c2 j c3 k c4 c5 cl:Nat) (G:Rs vrR w (zU A1 (zN p.v) c1) p.v ah) (C:Rs ilR w (zU A5 (zN p.g) c5) p.g ah) (y:EvC w (zX #[zU A1 (zN p.v) c1,zU A2 i c2,zU A3 j c3,zU A4 k c4,zU A5 (zN p.g) c5])) (hk:KW w) (hm:de w) (l:List Ex) (t:Nat) (F:Rs (exR t) w (zU Al (zN l) cl) l ah) (D:zN l<=1000) (s:∀e∈l,jm (ai p.v) e):Calls zz 10 #[zX #[zU A1 (zN p.v) c1,zU A2 i c2,zU A3 j c3,zU A4 k c4,zU A5 (zN p.g) c5],zU Al (zN l) cl] w (si w cX (gL (nmV p.v (cF p)) l 1 cX)):=by
 refine UP w (nmV p.v (cF p)) l t A1 A2 A3 A4 A5 Al _ c1 i c2 j c3 k c4 _ c5 cl ?_ F D;intro W h d A n c z v x e B J m K q u;obtain⟨H,I,e1, -⟩:=u.slice;simp only[DQ] at e1;obtain⟨rfl,rfl,rfl⟩:=e1;have f:=s e B;have g:Rs (exR 29) W (zU m (zN e.a) q) e.a ah:=u.deep (f.deep:∀a∈e.a,Deep 29 a);exact Dq W d p.v (cF p) (nmV p.v (cF p)) (ai p.v) dep 29 e A A1 A2 A3 A4 A5 m n c _ c1 i c2 j c3 k c4 _ c5 q
  (λW' b=>UO W' p E d z A A1 A2 A3 A4 A5 n c c1 i c2 j c3 k c4 c5 (v.Q b) (x.Q b) (G.Q (aa h b)) (C.Q (aa h b)) (λo r=>y o (aa (aa h b) r)) (hk.Q (aa h b)) (hm.Q (aa h b)) e 29 m q f.z (g.Q b) (by decide) f.len f.ok)
  f.okE g
section
variable (w:World)
def vrV (x:Vr):Value:=zX #[zV x.s,zI zi x.w,zI zi x.m,zI zi x.u]
def wtV (x:Wt):Value:=zX #[zI zi x.lo,zI zi x.hi,zI zi x.weight,zW x.each]
def uQ (v:Value) (ts:List Vr) (Z:Rs vrR w v ts ah) (X:zN ts<=1000) (g:Nat) (lb:Array Value) (p:Vr->Bool) (eg:∀args W,(callFunc g args).run zz W= .ok (.enter g args) W) (Y:∀W t,zL w W->t∈ts->Calls zz g (#[vrV t]++lb) W (zR (zW (p t)) W)):Calls zz 229 #[v,.func (.func g) #[] lb] w (zR (zI zi (fh p ts)) w):=by
 obtain⟨A,c,rfl,U,hx⟩:=Z.vrs;have⟨F,M⟩:=zk2 hx Y;have K:=zh (λk Q R S=>jd (p:=p) (l:=ts) (k:=k) vr0 Q R S);have L:=zh (jc (p:=p) (l:=ts) vr0);have⟨N,B⟩:=zvh (zN ts);rw[<-B] at U X F⊢;generalize fh p ts=r at*;go_enter func229,ntmps229;go_wp2;go_loopw [5,8] (λ_ i wr=>∃k:Nat,k<=N/\i=zI zi k/\Hid (∀j,j<k->p (zG ts j vr0)=false)/\zL w wr) (λ_ i _=>N-(intOf i).toNat)
 .exact⟨0,DH _,rfl,(λj h=>by omega),DM _ _⟩
 obtain⟨k,hk,rfl,m,s⟩:=hrel;have n:=zh s;by_cases a:k<N
 .have⟨y,V⟩:=zln a;have u:k<zN ts:=by rw[<-B];exact a
  have D:=getD_in vr0 u;have⟨b,o,P,C,f⟩:=F k a;subst P;obtain⟨H,v1,v2,v3⟩:=zx4 n C f;rw[Eb] at H;have z:=zh (λW T=>M W (zG ts k vr0) T D);have I:=zh (K k u m);have J:Hid (p (zG ts k vr0)=false->∀j,j<k+1->p (zG ts j vr0)=false):=zh λh j G=>by
   by_cases e:j=k
   .rw[e];exact h
   exact m j (by omega)
  generalize zG ts k vr0=x at*;unfold vrV at z;obtain⟨x1,x2,x3,x4⟩:=x;simp only at H v1 v2 v3;generalize hq:p ⟨x1,x2,x3,x4⟩=qv at*;cases qv
  .have q:=zh (J rfl);go_wp2;refine zK (z _ n) λw2 s=> ?_;have d:=zh (aa n s);go_wp2;go_roundw
   .exact⟨k+1,by omega,by go_num,q,d⟩
   simp[intOf];omega
  have q:=zh (I rfl);go_wp2;refine zK (z _ n) λw2 s=> ?_;have d:=zh (aa n s);go_wp2;go_ret;exact⟨aU q.symm,d⟩
 have⟨y,E⟩:=zgq hk a;have q:=zh (L λj G=>m j (by rw[E,B];exact G));go_wp2;go_ret;exact⟨aU q.symm,n⟩
def uS (v:Value) (ts:List Vr) (a:Rs vrR w v ts ah) (h:zN ts<=1000) (g:Nat) (lb:Array Value) (p:Vr->Bool) (e:∀args W,(callFunc g args).run zz W= .ok (.enter g args) W) (i:∀W t,zL w W->t∈ts->Calls zz g (#[vrV t]++lb) W (zR (zW (p t)) W)):Calls zz 157 #[v,.func (.func g) #[] lb] w (zR (zW (ts.any p)) w):=by have b:=zh (uQ w v ts a h g lb p e i);rw[<-j8];generalize fh p ts=r at*;obtain⟨A,c,rfl, -⟩:=a.vrs;generalize zN ts=tl at*;go_enter func157,ntmps157;go_wp2;refine zK b λw2 f=> ?_;have d:=zh f;go_wp2;go_ret;exact⟨rfl,d⟩
def uP (v:Value) (ts:List Wt) (Z:Rs wtR w v ts ah) (X:zN ts<=1000) (g:Nat) (lb:Array Value) (p:Wt->Bool) (eg:∀args W,(callFunc g args).run zz W= .ok (.enter g args) W) (Y:∀W t,zL w W->t∈ts->Calls zz g (#[wtV t]++lb) W (zR (zW (p t)) W)):Calls zz 192 #[v,.func (.func g) #[] lb] w (zR (zI zi (fh p ts)) w):=by
 obtain⟨A,c,rfl,U,hx⟩:=Z.wts;have⟨F,M⟩:=zk2 hx Y;have K:=zh (λk Q R S=>jd (p:=p) (l:=ts) (k:=k) wt0 Q R S);have L:=zh (jc (p:=p) (l:=ts) wt0);have⟨N,B⟩:=zvh (zN ts);rw[<-B] at U X F⊢;generalize fh p ts=r at*;go_enter func192,ntmps192;go_wp2;go_loopw [5,8] (λ_ i wr=>∃k:Nat,k<=N/\i=zI zi k/\Hid (∀j,j<k->p (zG ts j wt0)=false)/\zL w wr) (λ_ i _=>N-(intOf i).toNat)
 .exact⟨0,DH _,rfl,(λj h=>by omega),DM _ _⟩
 obtain⟨k,hk,rfl,m,s⟩:=hrel;have n:=zh s;by_cases a:k<N
 .have⟨y,V⟩:=zln a;have u:k<zN ts:=by rw[<-B];exact a
  have D:=getD_in wt0 u;have⟨b,o,P,C,f⟩:=F k a;subst P;obtain⟨H,v1,v2,v3⟩:=zx4 n C f;rw[Eb] at H;have z:=zh (λW T=>M W (zG ts k wt0) T D);have I:=zh (K k u m);have J:Hid (p (zG ts k wt0)=false->∀j,j<k+1->p (zG ts j wt0)=false):=zh λh j G=>by
   by_cases e:j=k
   .rw[e];exact h
   exact m j (by omega)
  generalize zG ts k wt0=x at*;unfold wtV at z;obtain⟨x1,x2,x3,x4⟩:=x;simp only at H v1 v2 v3;generalize hq:p ⟨x1,x2,x3,x4⟩=qv at*;cases qv
  .have q:=zh (J rfl);go_wp2;refine zK (z _ n) λw2 s=> ?_;have d:=zh (aa n s);go_wp2;go_roundw
   .exact⟨k+1,by omega,by go_num,q,d⟩
   simp[intOf];omega
  have q:=zh (I rfl);go_wp2;refine zK (z _ n) λw2 s=> ?_;have d:=zh (aa n s);go_wp2;go_ret;exact⟨aU q.symm,d⟩
 have⟨y,E⟩:=zgq hk a;have q:=zh (L λj G=>m j (by rw[E,B];exact G));go_wp2;go_ret;exact⟨aU q.symm,n⟩
def QG (v:Value) (ts:List Wt) (a:Rs wtR w v ts ah) (h:zN ts<=1000) (g:Nat) (lb:Array Value) (p:Wt->Bool) (e:∀args W,(callFunc g args).run zz W= .ok (.enter g args) W) (i:∀W t,zL w W->t∈ts->Calls zz g (#[wtV t]++lb) W (zR (zW (p t)) W)):Calls zz 241 #[v,.func (.func g) #[] lb] w (zR (zW (ts.any p)) w):=by have b:=zh (uP w v ts a h g lb p e i);rw[<-j8];generalize fh p ts=r at*;obtain⟨A,c,rfl, -⟩:=a.wts;generalize zN ts=tl at*;go_enter func241,ntmps241;go_wp2;refine zK b λw2 f=> ?_;have d:=zh f;go_wp2;go_ret;exact⟨rfl,d⟩
def QD (v:Value) (ts:List Ds) (S:Rs dsR w v ts ah) (hn:zN ts<=1000) (g:Nat) (lb:Array Value) (p:Ds->Bool) (eg:∀args W,(callFunc g args).run zz W= .ok (.enter g args) W) (Q:∀W t (u:Value),zL w W->t∈ts->Rs wtR W u t.ws ah->Calls zz g (#[zX #[zI zi t.var,u]]++lb) W (zR (zW (p t)) W)):Calls zz 240 #[v,.func (.func g) #[] lb] w (zR (zI zi (fh p ts)) w):=by
 obtain⟨A,c,rfl,hc,T⟩:=S.dss;have⟨L,Z⟩:=zk2 T Q;have X:=zh (λk h1 h2 h3=>jd (p:=p) (l:=ts) (k:=k) ds0 h1 h2 h3);have Y:=zh (jc (p:=p) (l:=ts) ds0);have⟨N,J⟩:=zvh (zN ts);rw[<-J] at hc hn L⊢;generalize fh p ts=r at*;clear T Q S;go_enter func240,ntmps240;go_wp2;go_loopw [5,8] (λ_ i wr=>∃k:Nat,k<=N/\i=zI zi k/\Hid (∀j,j<k->p (zG ts j ds0)=false)/\zL w wr) (λ_ i _=>N-(intOf i).toNat)
 .exact⟨0,DH _,rfl,(λj h=>by omega),DM _ _⟩
 obtain⟨k,hk,rfl,a,d⟩:=hrel;have s:=zh d;by_cases n:k<N
 .have⟨H,ab⟩:=zln n;have m:k<zN ts:=by rw[<-J];exact n
  have F:=getD_in ds0 m;have⟨b,o,u,e2,f,C,D,q⟩:=L k n;subst e2;have v0:=(s.cell f).trans C;have v1:=(s.cell f).trans D;have K:=zh q;have I:=zh (λW (M:zL w W)=>Z W (zG ts k ds0) u M F (K.Q M));have U:=zh (X k m a);have V:Hid (p (zG ts k ds0)=false->∀j,j<k+1->p (zG ts j ds0)=false):=zh λh j P=>by
   by_cases e:j=k
   .rw[e];exact h
   exact a j (by omega)
  clear F;generalize zG ts k ds0=x at*;obtain⟨Au,cu,rfl, -⟩:=q.slice;generalize R:p x=qv at*;have⟨ao,B⟩:=zv (x.var);have⟨al,z⟩:=zv (zN x.ws);rw[<-B,<-z] at I;rw[<-B] at v0;rw[<-z] at v1;clear B z;cases qv
  .have E:=zh (V rfl);clear R m f C D q d a;go_wp2;refine zK (I _ s) λw2 d=> ?_;have y:=zh (aa s d);clear d;go_wp2;go_roundw
   .exact⟨k+1,by omega,by go_num,E,y⟩
   simp[intOf];omega
  have E:=zh (U rfl);clear R m f C D q d a;go_wp2;refine zK (I _ s) λw2 d=> ?_;have y:=zh (aa s d);clear d;go_wp2;go_ret;exact⟨aU E.symm,y⟩
 have⟨H,G⟩:=zgq hk n;have E:=zh (Y λj P=>a j (by rw[G,J];exact P));clear d a G;go_wp2;go_ret;exact⟨aU E.symm,s⟩
def QI (v:Value) (ts:List Ds) (a:Rs dsR w v ts ah) (h:zN ts<=1000) (g:Nat) (lb:Array Value) (p:Ds->Bool) (e:∀args W,(callFunc g args).run zz W= .ok (.enter g args) W) (i:∀W t (u:Value),zL w W->t∈ts->Rs wtR W u t.ws ah->Calls zz g (#[zX #[zI zi t.var,u]]++lb) W (zR (zW (p t)) W)):Calls zz 168 #[v,.func (.func g) #[] lb] w (zR (zW (ts.any p)) w):=by have b:=zh (QD w v ts a h g lb p e i);rw[<-j8];generalize fh p ts=r at*;obtain⟨A,c,rfl, -⟩:=a.dss;generalize zN ts=tl at*;go_enter func168,ntmps168;go_wp2;refine zK b λw2 f=> ?_;have d:=zh f;go_wp2;go_ret;exact⟨rfl,d⟩
def QC (v:Value) (ts:List ByteArray) (Y:SL w v ts) (V:zN ts<=1000) (g:Nat) (lb:Array Value) (p:ByteArray->Bool) (eg:∀args W,(callFunc g args).run zz W= .ok (.enter g args) W) (X:∀W t,zL w W->t∈ts->Calls zz g (#[zV t]++lb) W (zR (zW (p t)) W)):Calls zz 239 #[v,.func (.func g) #[] lb] w (zR (zI zi (fh p ts)) w):=by
 obtain⟨A,c,rfl,T,Z⟩:=Y.cellF;have⟨F,L⟩:=zk2 Z X;have J:=zh (λk P Q R=>jd (p:=p) (l:=ts) (k:=k) ⟨#[]⟩ P Q R);have K:=zh (jc (p:=p) (l:=ts) ⟨#[]⟩);have⟨N,y⟩:=zvh (zN ts);rw[<-y] at T V F⊢;generalize fh p ts=r at*;go_enter func239,ntmps239;go_wp2;go_loopw [5,8] (λ_ i wr=>∃k:Nat,k<=N/\i=zI zi k/\Hid (∀j,j<k->p (zG ts j ⟨#[]⟩)=false)/\zL w wr) (λ_ i _=>N-(intOf i).toNat)
 .exact⟨0,DH _,rfl,(λj h=>by omega),DM _ _⟩
 obtain⟨k,hk,rfl,f,q⟩:=hrel;have m:=zh q;by_cases a:k<N
 .have⟨u,U⟩:=zln a;have s:k<zN ts:=by rw[<-y];exact a
  have C:=getD_in ⟨#[]⟩ s;have⟨b,o,M,z,B⟩:=F k a;subst M;have v0:=(m.cell z).trans B;have E:=zh (λW S=>L W (zG ts k ⟨#[]⟩) S C);have H:=zh (J k s f);have I:Hid (p (zG ts k ⟨#[]⟩)=false->∀j,j<k+1->p (zG ts j ⟨#[]⟩)=false):=zh λh j G=>by
   by_cases e:j=k
   .rw[e];exact h
   exact f j (by omega)
  generalize zG ts k ⟨#[]⟩=x at*;generalize hq:p x=qv at*;cases qv
  .have n:=zh (I rfl);go_wp2;refine zK (E _ m) λw2 q=> ?_;have d:=zh (aa m q);go_wp2;go_roundw
   .exact⟨k+1,by omega,by go_num,n,d⟩
   simp[intOf];omega
  have n:=zh (H rfl);go_wp2;refine zK (E _ m) λw2 q=> ?_;have d:=zh (aa m q);go_wp2;go_ret;exact⟨aU n.symm,d⟩
 have⟨u,D⟩:=zgq hk a;have n:=zh (K λj G=>f j (by rw[D,y];exact G));go_wp2;go_ret;exact⟨aU n.symm,m⟩
def QH (v:Value) (ts:List ByteArray) (a:SL w v ts) (h:zN ts<=1000) (g:Nat) (lb:Array Value) (p:ByteArray->Bool) (e:∀args W,(callFunc g args).run zz W= .ok (.enter g args) W) (i:∀W t,zL w W->t∈ts->Calls zz g (#[zV t]++lb) W (zR (zW (p t)) W)):Calls zz 166 #[v,.func (.func g) #[] lb] w (zR (zW (ts.any p)) w):=by have b:=zh (QC w v ts a h g lb p e i);rw[<-j8];generalize fh p ts=r at*;obtain⟨A,c,rfl, -⟩:=a.cellF;generalize zN ts=tl at*;go_enter func166,ntmps166;go_wp2;refine zK b λw2 f=> ?_;have d:=zh f;go_wp2;go_ret;exact⟨rfl,d⟩
end
section
variable (a:ByteArray) (w:World)
def AT (i:Nat) (h:i<10):a++(⟨#[91]⟩:ByteArray)++(⟨(Lib.decDigits i).toArray⟩:ByteArray)++(⟨#[93]⟩:ByteArray)=bj a i:=by
 have e:Lib.decDigits i=[UInt8.ofNat (48+i)]:=by unfold Lib.decDigits;rw[dif_pos h]
 rw[e];refine lq ?_;simp[bj,ByteArray.data_append]
def kK (i:Nat):(bj a i).size=a.size+3:=by show(a.data++#[91,UInt8.ofNat (48+i),93]).size=_;rw[Array.size_append];rfl
def pN {s:ByteArray} (h:b9 s=true):s.size<=19:=by
 unfold b9 at h;rw[FX] at h;rcases h with h|h
 .have:=(cj.1 h).2.1;omega
 simp only[DW] at h;obtain⟨_,a,b⟩:=h;have e:=(cj.1 a).2.1;have⟨i,_,c⟩:=Ez.1 b;have d:s=bj (cO 91 s) i:=Ey c;have:=kK (cO 91 s) i;rw[<-d] at this;omega
def rS (a:ByteArray) (i:Nat) (hi:i<10) (g:a.size<=1000):Calls zz 236 #[.string a,zI zi i] w (zS (.string (bj a i)) w):=by
 rw[<-AT a i hi];have h:(⟨(Lib.decDigits i).toArray⟩:ByteArray).size=1:=by
  have e:Lib.decDigits i=[UInt8.ofNat (48+i)]:=by unfold Lib.decDigits;rw[dif_pos hi]
  rw[e];rfl
 have c:=zh λW=>Tryz.strconv_Itoa_small i (by omega) W;generalize(⟨(Lib.decDigits i).toArray⟩:ByteArray)=dg at*;have j:¬9223372036854775807<a.size+1:=by omega
 have b:(a++(⟨#[91]⟩:ByteArray)).size=a.size+1:=by rw[ByteArray.size_append];rfl
 have k:¬9223372036854775807<(a++(⟨#[91]⟩:ByteArray)).size+dg.size:=by rw[b];omega
 have d:¬9223372036854775807<a.size+1+dg.size:=by omega
 have l:¬9223372036854775807<(a++(⟨#[91]⟩:ByteArray)++dg).size+1:=by rw[ByteArray.size_append,b];omega
 have f:¬9223372036854775807<a.size+1+dg.size+1:=by omega
 clear b h g hi;go_enter func236,ntmps236;go_wp2;refine(c _).mono ?_;rintro e w' ⟨rfl,rfl⟩;go_wp2;go_ret;exact⟨rfl,rfl⟩
def Rl (v:Vr) (s:ByteArray) (g:Nat) (i:Box w g #[zV s] 9):Calls zz 237 (#[vrV v]++#[zP g]) w (zR (zW (decide (v.s=s))) w):=by
 obtain⟨b,k,l,m⟩:=v;unfold vrV;simp only;have c:=zh i;have j:((b.toList==s.toList)=decide (b=s)):=by
  by_cases h:b=s
  .subst h;simp
  rw[(ly h).1,DJ h]
 generalize decide (b=s)=q at*;show Calls _ _ #[zX #[zV b,zI zi k,zI zi l,zI zi m],zP g] _ _;go_enter func237,ntmps237;go_upto_region 1 with fail;generalize d:w.alloc _=w1 at*;have⟨a,f⟩:=zA1 d;replace c:=zb c a;have e:=zh a;have n:=za f 0;have o:=za c 0;go_wp2;go_ret;exact⟨rfl,e⟩
def tc (v:Value) (vars:List Vr) (s:ByteArray) (f:Rs vrR w v vars ah) (k:zN vars<=1000):Calls zz 162 #[v,zV s] w (zR (zI zi (dy vars s)) w):=by have j:=zm;have h:=zh λg (W:World) (d:zL w W) (l:Box W g #[zV s] 9)=>uQ W v vars (f.Q d) k 237 #[zP g] (λv=>decide (v.s=s)) (λargs W=>by kernel_rfl) (λW' t i _=>Rl W' t s g (l.Q i));unfold dy;generalize fh (λv:Vr=>decide (v.s=s)) vars=r at*;obtain⟨A,c,rfl, -⟩:=f.vrs;generalize zN vars=n at*;go_enter func162,ntmps162;go_upto_region 1 with fail;generalize e:w.alloc _=w1 at*;have⟨a,b⟩:=zB1 e;go_wp2;refine zK (h _ w1 a b) λw2 d=> ?_;replace⟨b,a⟩:=zb2 b a d;go_wp2;go_ret;exact⟨rfl,a⟩
end
section
variable (s:ByteArray) {k:Nat} {p:Nat->Bool}
def mF (a:ByteArray) (i:Nat):(s.toList==(bj a i).toList)=decide (s=bj a i):=by
 by_cases h:s=bj a i
 .rw[DR h,<-h];simp
 rw[(ly h).1,DJ h]
def vR (hk:k<8) (h:p k=true):(List.range 8).any p=true:=Ez.2 ⟨k,Fv.2 hk,h⟩
def sc (h:∀j,j<8->p j=false):(List.range 8).any p=false:=by
 cases hq:(List.range 8).any p
 .rfl
 have⟨j,b,a⟩:=Ez.1 hq;rw[h j (Fv.1 b)] at a;cases a
def UA (w:World) (F:s.size<=maxLen) (h:KW w) (hm:de w):Calls zz 161 #[zV s] w (zR (zW (b9 s)) w):=by
 have⟨f,M⟩:=zk2 h hm;have u:=zh λW c=>Rz 91 s W (by unfold maxLen at F;omega) (hm.Q c);have o:=gX 91 s;have C:=ms (b:=91) s.data.toList;rw[<-EW] at C;have p:=zh (λw h=>mi s w F h);have E:=zh (λw h=>mi (cO 91 s) w (by unfold maxLen at*;omega) h);have t:Hid (b9 s=(aQ s||(fF 91 s&&(aQ (cO 91 s)&&(List.range 8).any (eF s))))):=zh rfl;have B:Hid (aQ (cO 91 s)=true->(cO 91 s).size<=1000):=zh λh=>by have:=(cj.1 h).2.1;omega
 have x:Hid (∀i,eF s i=decide (s=bj (cO 91 s) i)):=zh λi=>rfl;generalize eM 91 s=qs,cO 91 s=ps,aQ (cO 91 s)=n2,aQ s=n1,fF 91 s=hh,b9 s=r at*;cases n1;case true=>
  have d:Hid (r=true):=zh (by rw[t];rfl);go_enter func161,ntmps161;go_wp2;refine zK (p w f) λw1 c=> ?_;have a:=zh c;go_wp2;go_ret;exact⟨bS d.symm,a⟩
 cases hh;case false=>
  have d:Hid (r=false):=zh (by rw[t];rfl);go_enter func161,ntmps161;go_wp2;refine zK (p w f) λw1 c=> ?_;have a:=zh c;go_wp2;refine zK (u w1 a) λw2 c=> ?_;replace a:=zb a c;go_wp2;go_ret;exact⟨bS d.symm,a⟩
 cases n2;case false=>
  have d:Hid (r=false):=zh (by rw[t];rfl);go_enter func161,ntmps161;go_wp2;refine zK (p w f) λw1 c=> ?_;have a:=zh c;go_wp2;refine zK (u w1 a) λw2 c=> ?_;replace a:=zb a c;go_wp2;refine zK (E w2 (f.Q a)) λG c=> ?_;replace a:=zb a c;go_wp2;go_ret;exact⟨bS d.symm,a⟩
 case true=>
  have d:Hid (r=(List.range 8).any (eF s)):=zh (by rw[t];rfl);have o:=B rfl;have H:=zh λW i h=>rS W ps i h o;have I:=zh λi=>mF s ps i;go_enter func161,ntmps161;go_wp2;refine zK (p w f) λw1 c=> ?_;have a:=zh c;go_wp2;refine zK (u w1 a) λw2 c=> ?_;replace a:=zb a c;go_wp2;refine zK (E w2 (f.Q a)) λG c=> ?_;replace a:=zb a c;go_wp2;go_loopw [22] (λi wr=>∃k:Nat,k<=8/\i=zI zi k/\wr=G/\Hid (∀j,j<k->eF s j=false)) (λi _=>8-(intOf i).toNat)
  .exact⟨0,by decide,rfl,rfl,zh λj h=>by omega⟩
  obtain⟨k,hk,rfl,rfl,n⟩:=hrel;by_cases D:k<8
  .have m:(k:Int)<8:=by omega
   have J:=I k;have v:=zh (x k);have g:=zh λW=>H W k (by omega);have l:=zh fun(h:eF s k=true)=>vR D h;have z:Hid (eF s k=false->∀j,j<k+1->eF s j=false):=zh λh j K=>by
    by_cases e:j=k
    .rw[e];exact h
    exact n j (by omega)
   rw[<-v] at J;generalize bj ps k=en,eF s k=q at*;cases q
   .have y:=zh (z rfl);go_wp2;refine zJ (g _) ?_;go_wp2;go_roundw
    .exact⟨k+1,by omega,by go_num,by trivial,y⟩
    simp[intOf];omega
   have A:=zh (l rfl);go_wp2;refine zJ (g _) ?_;go_wp2;go_ret;exact⟨bS (by rw[d,A]),a⟩
  have m:¬(k:Int)<8:=by omega
  have L:k=8:=by omega
  have A:=zh (sc λj K=>n j (by omega));go_wp2;go_ret;exact⟨bS (by rw[d,A]),a⟩
def QM {l:List Vr} {s:ByteArray} (h:k<8):oM l s (List.range' k (8-k))=if eF s k=true then decide (dy l (bj (cO 91 s) (k-1))<0) else oM l s (List.range' (k+1) (8-(k+1))):=by rw[show 8-k=(8-(k+1))+1 by omega,List.range'_succ];rfl
def Ys (w:World) (v:Value) (vars:List Vr) (s:ByteArray) (J:Rs vrR w v vars ah) (R:zN vars<=1000) (T:s.size<=1000) (hm:de w):Calls zz 164 #[v,zV s] w (zR (zW (fL vars s)) w):=by
 have F:=zh λW a=>Rz 91 s W (by omega) (hm.Q a);have S:=gX 91 s;have C:=ms (b:=91) s.data.toList;rw[<-EW] at C;have E:(cO 91 s).size<=1000:=by omega
 have K:=zh fun(W:World) (x:ByteArray) (a:zL w W)=>tc W v vars x (J.Q a) R;have H:Hid (fL vars s=(fF 91 s&&oM vars s (List.range' 1 (8-1)))):=zh rfl;have N:=zh λk h=>QM (l:=vars) (s:=s) (k:=k) h;have y:Hid (∀i,eF s i=decide (s=bj (cO 91 s) i)):=zh λi=>rfl;generalize fL vars s=r,fF 91 s=hh,cO 91 s=ps,eM 91 s=qs at*;have G:=zh λW i h=>rS W ps i h E;have L:=zh λi=>mF s ps i;obtain⟨A,c,rfl, -⟩:=J.vrs;generalize zN vars=n at*;cases hh;case false=>
  have f:Hid (r=false):=zh (by rw[H];rfl);go_enter func164,ntmps164;go_wp2;refine zK (F w (DM _ _)) λw1 a=> ?_;have d:=zh a;go_wp2;go_ret;exact⟨bS f.symm,d⟩
 case true=>
  have f:Hid (r=oM vars s (List.range' 1 (8-1))):=zh (by rw[H];rfl);go_enter func164,ntmps164;go_wp2;refine zK (F w (DM _ _)) λw1 a=> ?_;have d:=zh a;go_wp2;go_loopw [8] (λi wr=>∃k:Nat,1<=k/\k<=8/\i=zI zi k/\zL w wr/\Hid (r=oM vars s (List.range' k (8-k)))) (λi _=>8-(intOf i).toNat)
  .exact⟨1,by decide,by decide,rfl,d,f⟩
  obtain⟨k,Q,hk,rfl,a,I⟩:=hrel;have d:=zh a;by_cases D:k<8
  .have m:(k:Int)<8:=by omega
   have P:=L k;have u:=zh (y k);have g:=zh λW=>G W k (by omega);have o:=zh λW=>G W (k-1) (by omega);have j:=zh (I.trans (N k D));have B:(k:Int)-1=((k-1:Nat):Int):=by omega
   rw[<-u] at P;generalize bj ps k=en,bj ps (k-1)=ep,eF s k=q at*;cases q
   .have e:Hid (r=oM vars s (List.range' (k+1) (8-(k+1)))):=zh (by rw[j,DK (by simp)]);go_wp2;refine zJ (g _) ?_;go_wp2;go_roundw
    .exact⟨k+1,by omega,by omega,by go_num,d,e⟩
    simp[intOf];omega
   have e:Hid (r=decide (dy vars ep<0)):=zh (by rw[j,DP rfl]);have p:=zh λW h=>K W ep h;generalize dy vars ep=ip at*;go_wp2;refine zJ (g _) ?_;go_wp2;first|(rw[B])|skip
   refine zJ (o _) ?_;go_wp2;refine zK (p _ d) λU a=> ?_;have t:=zh (aa d a);go_wp2;go_ret;exact⟨bS (by rw[e]),t⟩
  have m:¬(k:Int)<8:=by omega
  have z:k=8:=by omega
  have M:Hid (r=false):=zh (by rw[I,z];rfl);go_wp2;go_ret;exact⟨bS M.symm,d⟩
end
section
variable {P:Prop} {w w':World}
def ErR (P:Prop) (w:World) (e:Ending) (w':World):Prop:=∃er:Int,e=zE (zI zi er)/\(er=0↔P)/\zL w w'
def ErR.no {er:Int} (h:¬P) (c:er≠0) (b:zL w w'):ErR P w (zE (zI zi er)) w':=⟨er,rfl,⟨λa=>absurd a c,λa=>absurd a h⟩,b⟩
def ErR.yes (h:P) (a:zL w w'):ErR P w (zE (zI zi 0)) w':=⟨0,rfl,⟨λ_=>h,λ_=>rfl⟩,a⟩
def qu (w:World) (vars:List Vr) (i:Int) (A1 A2 A3 A4 A5:Option Addr) (c1 t c2 u c3 v c4 x c5:Nat) (m:Rs vrR w (zU A1 (zN vars) c1) vars ah):Calls zz 85 #[zX #[zU A1 (zN vars) c1,zU A2 t c2,zU A3 u c3,zU A4 v c4,zU A5 x c5],zI zi i] w (zR (zW (bY vars i)) w):=by
 have f:Hid (bY vars i=(decide (0<=i)&&(decide (i<zN vars)&&decide ((zG vars i.toNat vr0).m≠0)))):=zh rfl;generalize bY vars i=r at*;have⟨y,A,e1,_,c⟩:=m.vrs;have⟨n,g⟩:=zv (zN vars);by_cases e:0<=i;case neg=>
  have d:Hid (r=false):=zh (by rw[f,DJ e];rfl);have B:¬i≥0:=e;rw[<-g];clear e1 c m g e;go_enter func85,ntmps85;go_upto_region 1 with fail;generalize a:w.alloc _=w1 at*;have⟨h,l⟩:=zB1 a;clear a;go_wp2;go_ret;exact⟨bS d.symm,h⟩
 obtain⟨k,rfl⟩:∃k:Nat,i=k:=⟨i.toNat,by omega⟩;have B:(k:Int)≥0:=e;rw[DR e,FI,Eh] at f;by_cases o:k<zN vars;case neg=>
  have d:Hid (r=false):=zh (by rw[f,DJ (by omega)];rfl);have C:¬(k:Int)<(n:Int):=by omega
  rw[<-g];clear e1 c m g e o;go_enter func85,ntmps85;go_upto_region 1 with fail;generalize a:w.alloc _=w1 at*;have⟨h,l⟩:=zB1 a;clear a;have j:=za l 0;go_wp2;go_ret;exact⟨bS d.symm,h⟩
 have C:(k:Int)<(n:Int):=by omega
 have⟨z,D,s,p,b⟩:=c k o;obtain rfl:=zas e1 s;have q:=b 2 _ rfl;rw[DR (show(k:Int)<zN vars by omega),FI] at f;generalize zG vars k vr0=vr at*;obtain⟨G,wd,md,H⟩:=vr;simp only at q f;have F:(md !=0)=r:=by rw[f,Fo];simp
 rw[<-g];clear e1 c m g e o b s;go_enter func85,ntmps85;go_upto_region 1 with fail;have E:=(ab w (zC #[zU (some ⟨z,D,none⟩) n c1,zU A2 t c2,zU A3 u c3,zU A4 v c4,zU A5 x c5] 27)).cell p|>.trans q
 generalize a:w.alloc _=w1 at*;have⟨h,l⟩:=zB1 a;clear a;have j:=za l 0;clear q;go_wp2;go_ret;exact⟨rfl,h⟩
def Uy (w:World) (v:Vr) (vars:List Vr) (A:Option Addr) (c g:Nat) (p:Rs vrR w (zU A (zN vars) c) vars ah) (o:zN vars<=1000) (i:v.s.size<=1000) (hm:de w) (j:Box w g #[zU A (zN vars) c] 22):Calls zz 163 (#[vrV v]++#[zP g]) w (zR (zW (fL vars v.s)) w):=by obtain⟨k,s,t,u⟩:=v;unfold vrV;simp only at i⊢;have l:=zh λW b=>Ys W _ vars k (p.Q b) o i (hm.Q b);generalize fL vars k=q at*;have⟨n,d⟩:=zv (zN vars);rw[<-d] at l j;have h:=zh j;clear j p o d i;show Calls _ _ #[zX #[zV k,zI zi s,zI zi t,zI zi u],zP g] _ _;go_enter func163,ntmps163;go_upto_region 1 with fail;generalize e:w.alloc _=w1 at*;have⟨a,r⟩:=zA1 e;clear e;replace h:=zb h a;have m:=zh a;have x:=za r 0;have y:=za h 0;clear a;go_wp2;refine zK (l _ m) λw2 b=> ?_;have f:=zh (aa m b);clear b;go_wp2;go_ret;exact⟨rfl,f⟩
end
def kP {l:List Vr} {k:Nat} (h:k<zN l):bX (l.take (k+1))=bX (l.take k)+oP (zG l k vr0):=by unfold bX;rw[Ep,DD h,Fp,DC,DD h];rfl
theorem qI {l:List Vr} (h:∀v∈l,gM v):∀k,k<=zN l->0<=bX (l.take k)/\bX (l.take k)<=8*k
 |0,_=>by simp[bX]
 |k+1,hk=>by have ih:=qI h k (by omega);rw[kP (by omega)];have a:=(h _ (getD_in vr0 (show k<zN l by omega))).2.1;unfold oP;split<;>omega
def WU (w:World) (vars:List Vr) (A:Option Addr) (c:Nat) (R:Rs vrR w (zU A (zN vars) c) vars ah) (hz:∀v∈vars,v.s.size<=maxLen) (hk:KW w) (hm:de w):Calls zz 97 #[zU A (zN vars) c] w (ErR (cB vars) w):=by
 have⟨HV,HK,HM,HZ⟩:=zk4 R hk hm hz;have⟨n,hn⟩:=zv (zN vars);have D:=zh hn;by_cases Y:zN vars<=16;case neg=>
  have z:=zh fun(w':World) a=>ErR.no (P:=cB vars) (w:=w) (w':=w') (er:=2) (λh=>Y h.len) (by decide) a;rw[<-hn];have f1:(n:Int)>16:=by omega
  clear R hz hk hm Y hn;go_enter func97,ntmps97;go_upto_region 1 with fail;generalize p:w.alloc _=w1 at*;have⟨d,l⟩:=zB1 p;clear p;have x:=za l 0;go_wp2;go_ret;exact z _ d
 have f1:¬(n:Int)>16:=by omega
 have am:n<=16:=by omega
 have HG:Hid (∀k,k<n->∃(b o:Nat),A=some ⟨b,o,none⟩/\b<w.heap.size/\∀i u,(vrL (zG vars k vr0))[i]? =some u->w.cell? ⟨b,o+k*4+i,none⟩=some u):=zh λk hk=>by have⟨aA,aC,e1,_,ay⟩:=R.vrs;have⟨bv,ov,e2,K,g⟩:=ay k (by omega);simp only[DQ] at e1;exact⟨bv,ov,by rw[e1.1,e2],K,g⟩
 have z:=zh fun(w':World) (er:Int) h he a=>ErR.no (P:=cB vars) (w:=w) (w':=w') (er:=er) h he a;have af:=zh fun(w':World) h a=>ErR.yes (P:=cB vars) (w:=w) (w':=w') h a;have CI:=zh fun(W:World) (s:ByteArray) (a:zL w W)=>tc W _ vars s (R.Q a) (by omega);rw[<-hn] at CI⊢;clear R hz hk hm Y hn;go_enter func97,ntmps97;go_upto_region 1 with fail;generalize p:w.alloc _=w1 at*;have⟨d,l⟩:=zB1 p;clear p;have x:=za l 0;go_wp2;go_loopw [13] (λi wr=>∃k:Nat,k<=n/\i=zI zi k/\zL w wr/\Box wr w.heap.size #[zU A n c] 22/\Hid (∀j,j<k->gM (zG vars j vr0))) (λi _=>n-(intOf i).toNat)
 .exact⟨0,DH _,rfl,d,l,zh λj h=>by omega⟩
 obtain⟨k,hk,rfl,a,hx,Q⟩:=hrel;have⟨d,l⟩:=zk2 a hx;clear a hx;by_cases r:k<n
 .have⟨N,k0⟩:=zln r;have⟨bv,ov,e2,K,g⟩:=HG k r;subst e2;obtain⟨v0,v1,v2,v3⟩:=zx4 d K g;rw[Eb] at v0;have Z:=getD_in vr0 (show k<zN vars by rw[<-D];exact r);have ag:=zh (HZ _ Z);have q:=zh fun(w':World) (er:Int) (h:¬gM (zG vars k vr0)) he a=>z w' er (λhV=>h (hV.ok _ Z)) he a;have T:Hid (gM (zG vars k vr0)->∀j,j<k+1->gM (zG vars j vr0)):=zh λh j hj=>by
   by_cases e:j=k
   .rw[e];exact h
   exact Q j (by omega)
  have m:Hid (gM (zG vars k vr0)↔b9 (zG vars k vr0).s=true/\(1<=(zG vars k vr0).w/\(zG vars k vr0).w<=8)/\(0<=(zG vars k vr0).m/\(zG vars k vr0).m<=2)/\(0<=(zG vars k vr0).u/\(zG vars k vr0).u<2^(zG vars k vr0).w.toNat)/\((zG vars k vr0).m≠0->(zG vars k vr0).u=0)):=zh Iff.rfl;generalize gM (zG vars k vr0)=VO at*;clear Z g;generalize zG vars k vr0=vr at*;obtain⟨nm,wd,md,vl⟩:=vr;simp only at v0 v1 v2 v3 ag m;have CN:=zh λW a=>UA nm W ag (HK.Q a) (HM.Q a);clear Q;go_upto_region 6 with fail;clear v0 v1 v2 v3;generalize p:wr.alloc _=w2 at*;have⟨J,G⟩:=zA1 p;clear p;replace⟨l,d⟩:=zb2 l d J;clear J;have ai:=za G 0;generalize b9 nm=nb at*;cases nb
  .have f:Hid (¬VO):=zh λh=>by have:=(m.1 h).1;cases this
   go_wp2;refine zK (CN _ d) λw3 a=> ?_;replace⟨l,G,d⟩:=zb3 l G d a;clear a;go_wp2;go_ret;exact q _ _ f (by decide) d
  go_wp2;refine zK (CN _ d) λw3 a=> ?_;replace⟨l,G,d⟩:=zb3 l G d a;clear a;obtain⟨aj,ak,az⟩:=zd3 G 1 2 3;go_wp2;by_cases a1:wd<1
  .have f:Hid (¬VO):=zh λh=>by have:=(m.1 h).2.1;omega
   go_quiet (fail);go_wp2;go_ret;exact q _ _ f (by decide) (aE d _)
  by_cases a2:wd>8
  .have f:Hid (¬VO):=zh λh=>by have:=(m.1 h).2.1;omega
   go_quiet (fail);go_wp2;go_ret;exact q _ _ f (by decide) (aE d _)
  obtain⟨wn,rfl⟩:∃wn:Nat,wd=wn:=⟨wd.toNat,by omega⟩;have aF:=zn0 wn;have hw:IntKind.i64.wrap (2^wn)=2^wn:=by
   have:wn=1\/wn=2\/wn=3\/wn=4\/wn=5\/wn=6\/wn=7\/wn=8:=by omega
   rcases this with rfl|rfl|rfl|rfl|rfl|rfl|rfl|rfl<;>decide
  rw[Eh] at m;by_cases a3:md<0
  .have f:Hid (¬VO):=zh λh=>by have:=(m.1 h).2.2.1;omega
   go_quiet (fail);go_wp2;go_ret;exact q _ _ f (by decide) (aE d _)
  by_cases a4:md>2
  .have f:Hid (¬VO):=zh λh=>by have:=(m.1 h).2.2.1;omega
   go_quiet (fail);go_wp2;go_ret;exact q _ _ f (by decide) (aE d _)
  by_cases a5:vl<0
  .have f:Hid (¬VO):=zh λh=>by have:=(m.1 h).2.2.2.1.1;omega
   go_quiet (fail);go_wp2;go_ret;exact q _ _ f (by decide) (aE d _)
  by_cases a6:(2:Int)^wn<=vl
  .have f:Hid (¬VO):=zh λh=>by have:=(m.1 h).2.2.2.1.2;omega
   go_quiet (fail);go_wp2;go_ret;exact q _ _ f (by decide) (aE d _)
  by_cases a7:md=0
  .have b7:(md !=0)=false:=by simpa using a7
   have X:=zh (T (m.2 ⟨by trivial,by omega,by omega,by omega,λh=>absurd a7 h⟩));go_quiet (fail);go_wp2;go_roundw
   .exact⟨k+1,by omega,by go_num,aE d _,l.Q (aE (DM _ _) _),X⟩
   simp[intOf];omega
  have b7:(md !=0)=true:=by simpa using a7
  by_cases a8:vl=0
  .have b8:(vl !=0)=false:=by simpa using a8
   have X:=zh (T (m.2 ⟨by trivial,by omega,by omega,by omega,λ_=>a8⟩));have H8:=zh a8;clear a8;go_quiet (fail);go_wp2;go_roundw
   .exact⟨k+1,by omega,by go_num,aE d _,l.Q (aE (DM _ _) _),X⟩
   simp[intOf];omega
  have b8:(vl !=0)=true:=by simpa using a8
  have f:Hid (¬VO):=zh λh=>by have:=(m.1 h).2.2.2.2 a7;exact a8 this
  go_quiet (fail);go_wp2;go_ret;exact q _ _ f (by decide) (aE d _)
 have⟨N,M⟩:=zgq hk r;rw[M] at Q;have U:Hid (∀v∈vars,gM v):=zh λv R=>by obtain⟨j,hj,rfl⟩:=D9.1 R;have:=Q j (by rw[D];exact hj);rw[DC,DD hj] at this;exact this
 have V:Hid (∀k,k<=n->0<=bX (vars.take k)/\bX (vars.take k)<=8*k):=zh λk hk=>qI U k (by rw[<-D];exact hk);have aB:Hid (bX (vars.take 0)=0):=zh rfl;clear M Q;have x:=za l 0;go_wp2;go_loopw [5,65] (λbt i wr=>∃k:Nat,k<=n/\i=zI zi k/\bt=zI zi (bX (vars.take k))/\zL w wr/\Box wr w.heap.size #[zU A n c] 22/\Hid (∀j,j<k->dy vars (zG vars j vr0).s=j)) (λ_ i _=>n-(intOf i).toNat)
 .exact⟨0,DH _,rfl,rfl,d,l,zh λj h=>by omega⟩
 obtain⟨k,hk,rfl,rfl,a,hx,L⟩:=hrel;have⟨d,l⟩:=zk2 a hx;clear a hx;by_cases r:k<n
 .have⟨N,k0⟩:=zln r;have⟨bv,ov,e2,K,g⟩:=HG k r;subst e2;obtain⟨v0,v1,v2,v3⟩:=zx4 d K g;rw[Eb] at v0;have al:k<zN vars:=by rw[<-D];exact r
  have q:=zh fun(w':World) (er:Int) (h:dy vars (zG vars k vr0).s≠k) he a=>z w' er (λhV=>h (hV.nodup k al)) he a;have ae:Hid (dy vars (zG vars k vr0).s=k->∀j,j<k+1->dy vars (zG vars j vr0).s=j):=zh λh j hj=>by
   by_cases e:j=k
   .rw[e];exact h
   exact L j (by omega)
  have y:=zh (kP al);have aw:=V k hk;have B:=V (k+1) (by omega);rw[y] at B;have ab:=zh λW h=>CI W (zG vars k vr0).s h;have⟨b1,I⟩:=zv (bX (vars.take (k+1)));have ac:=zh I;rw[<-I] at y;unfold oP at y B;clear I g L;generalize zG vars k vr0=vr at*;generalize dy vars vr.s=ix at*;obtain⟨nm,wd,md,vl⟩:=vr;generalize bX (vars.take k)=b0 at*;simp only at v0 v1 v2 v3 y B ab;go_upto_region 15 with fail;clear v0 v1 v2 v3;generalize p:wr.alloc _=w2 at*;have⟨J,G⟩:=zA1 p;clear p;replace⟨l,d⟩:=zb2 l d J;clear J;have ai:=za G 0;have x:=za l 0;go_wp2;refine zK (ab _ d) λw3 a=> ?_;replace⟨l,G,d⟩:=zb3 l G d a;clear a;by_cases H:ix=k;case neg=>
   have g1:(ix !=(k:Int))=true:=by simpa using H
   go_wp2;go_ret;exact q _ _ H (by decide) d
  have g1:(ix !=(k:Int))=false:=by simpa using H
  have S:=zh (ae H);clear H;obtain⟨aj,ak⟩:=zd2 G 1 2;by_cases C:md=0
  .have g2:(md !=0)=false:=by simpa using C
   have F:Hid (b1=b0):=zh (by rw[y,DK (by omega)];omega);clear B C;go_wp2;go_roundw
   .exact⟨k+1,by omega,by go_num,by rw[<-ac,F],d,l,S⟩
   simp[intOf];omega
  have g2:(md !=0)=true:=by simpa using C
  rw[DP C] at B;have F:Hid (b1=b0+wd):=zh (by rw[y,DP C]);have q1:b0+wd<=136:=by omega
  have q2:0<=b0+wd:=by omega
  clear B C aw;go_wp2;go_roundw
  .exact⟨k+1,by omega,by go_num,by rw[<-ac,F]<;>go_num,d,l,S⟩
  simp[intOf];omega
 have⟨N,M⟩:=zgq hk r;rw[M] at L⊢;rw[show bX (vars.take n)=bX vars by rw[D,Et]] at*;have aD:=zm;have ar:Hid (∀v∈vars,v.s.size<=1000):=zh λv R=>by have:=pN (U v R).1;omega
 have CF:=zh λW a (hx:Box W w.heap.size #[zU A n c] 22)=>uS W (zU A n c) vars (by have:=HV.Q a;rw[<-D] at this;exact this) (by rw[<-D];omega) 163 #[.pointer (some ⟨w.heap.size,0,none⟩)] (λv=>fL vars v.s) (λargs W=>by kernel_rfl) (λW' t hW ht=>Uy W' t vars A c w.heap.size (by have:=HV.Q (aa a hW);exact this) (by rw[<-D];omega) (ar t ht) (HM.Q (aa a hW)) (by have:=hx.Q hW;rw[D] at this;exact this));have ad:Hid (vars.any (λv=>fL vars v.s)=false↔∀v∈vars,fL vars v.s=false):=zh (by simp);have ao:Hid (zN vars<=16):=zh (by rw[<-D];exact am);have an:Hid (∀i,i<zN vars->dy vars (zG vars i vr0).s=i):=zh λi hi=>L i (by rw[D];exact hi);have au:Hid (vars.any (λv=>fL vars v.s)=false->bX vars<=20->cB vars):=zh λH h2=>⟨ao,U,an,ad.1 H,h2⟩;have aq:Hid (vars.any (λv=>fL vars v.s)=true->¬cB vars):=zh λH h=>by rw[ad.2 h.gap] at H;cases H
 have ap:Hid (20<bX vars->¬cB vars):=zh λH h=>by have:=h.bits;omega
 have ax:=V n (DE _);rw[show bX (vars.take n)=bX vars by rw[D,Et]] at ax;generalize vars.any (λv=>fL vars v.s)=ga,bX vars=bt at*;clear M L;have x:=za l 0;cases ga
 .by_cases av:bt<=20
  .have g1:¬bt>20:=by omega
   have HF:=zh (au rfl av);go_wp2;refine zK (CF _ d l) λw4 a=> ?_;have E:=zh (aa d a);clear a;go_wp2;go_ret;exact af _ HF E
  have g1:bt>20:=by omega
  have HF:=zh (ap (by omega));go_wp2;refine zK (CF _ d l) λw4 a=> ?_;have E:=zh (aa d a);clear a;go_wp2;go_ret;exact z _ _ HF (by decide) E
 have HF:=zh (aq rfl);go_wp2;refine zK (CF _ d l) λw4 a=> ?_;have E:=zh (aa d a);clear a;go_wp2;go_ret;exact z _ _ HF (by decide) E
section
variable {d:Nat} {v:Value}
def exB (d:Nat):Rd Ex:={exR d with ts:=[]}
def WQ {w:World} {l:List Ex} {F:Nat->Prop} (h:Rs (exR d) w v l F):Rs (exB d) w v l F:=h
def jr {w:World} {l:List Ex} {F:Nat->Prop} (h:Rs (exB d) w v l F):Rs (exR d) w v l F:=h
def iJ {w w':World} {l:List Ex} (h:Rs (exR d) w v l ah) (c:zL w w'):Rs (exB d) w' v l (Ty w' w.heap.size []):=WQ (((kx (nR d) h).Q c).mono λb a=>zQ a)
def oF (d:Nat):(exB d).k=4:=dY d
def lf:(zz.info? 79).map (λi=>(i.zero,i.size,i.bytes))=some (some (zX #[zI zi 0,zI zi 0,zV ⟨#[]⟩,zU none 0 0]),4,56):=by kernel_rfl
section
variable {P:Program} {ops:Array Oper} {rest:List Oper} {o:Oper} {a:Act} {w:World} {Q:Exit->Act->World->Prop}
def cR (c:o.guard=none) (s x:Operand) (t d:TypeId) (g:o.op= .call {callee:= .builtin .append,args:=#[s,x],argTypes:=#[t,d]}) (vs e:Value) (i:a.eval s=vs) (j:a.eval x=e) {v':Value} {w':World} (b:(Builtin.append_ #[t,d] o.type #[vs,e]).run P w= .ok v' w') (h:wpList P ops Q rest (a.put o.dst v') w'):wpList P ops Q (o::rest) a w:=by refine wpList_plain c λK f=> ?_;unfold Oper.wp;simp[execOp,g,resolve,invoke,builtin,i,j,b,Result.andThen];exact f _ _ h
end
def GwR (w:World) (d:Nat) (e:Ending) (w':World):Prop:=∃v,e=zE v/\OG (exB d) w' w.heap.size w.heap.size 79 v []/\zL w w'
def S9 (w:World) (d n:Nat) (z:n<=100000):Calls zz 238 #[zU none 0 0,zI zi n] w (GwR w d):=by
 have y:¬((n:Int)<0):=by omega
 by_cases r:n=0
 .subst r;go_enter func238,ntmps238;go_wp2;go_ret;exact⟨_,rfl,OG.nil (exB d) w _ _ _ (by simp[exB]) (DE _),DM _ _⟩
 have⟨i,hi,v,u,b⟩:=EX lf;have f:(Builtin.firstCells i.size 0 (zU none 0 0)).run zz w.drew= .ok (([]:List Value)).toArray w.drew:=run_firstCells_none w.drew i.size 0 0 0;have e:Builtin.nextslicecap (0+n) 0*i.bytes<=281474976710656:=growslice_fits (by omega) (by rw[b];omega);have g:=λty=>Lib.run_append_grow_zeros (P:=zz) w 23 3 ty 79 i _ .i64 .i64 underlying23 underlying3 hi v none 0 0 [] f n (by omega) (by rw[u];decide) (by omega) (by omega) (by rw[b];omega) e;have p:=grownCap_ge w (0+n) 0 79;have a:=grownCap_le_maxLen w (0+n) 0 79 (by unfold maxLen;omega);rw[DY] at g p a;have o:Hid (((([]:List Value)).toArray++Builtin.zeroCells (Value.agg #[zI zi 0,zI zi 0,zV ⟨#[]⟩,zU none 0 0]).cells n++Builtin.zeroCells (Value.agg #[zI zi 0,zI zi 0,zV ⟨#[]⟩,zU none 0 0]).cells (grownCap w n 0 79-n)).size=grownCap w n 0 79*4):=zh (by
  have l:∀(c:Array Value) k,(Builtin.zeroCells c k).size=k*c.size:=λc k=>by simp[Builtin.zeroCells]
  rw[Array.size_append,Array.size_append,l,l];simp[Value.cells];omega);generalize grownCap w n 0 79=G,((([]:List Value)).toArray++Builtin.zeroCells (Value.agg #[zI zi 0,zI zi 0,zV ⟨#[]⟩,zU none 0 0]).cells n++Builtin.zeroCells (Value.agg #[zI zi 0,zI zi 0,zV ⟨#[]⟩,zU none 0 0]).cells (grownCap w n 0 79-n))=cs at*;have t:(n:Int)>0:=by omega
 have q:G<=9223372036854775807:=by unfold maxLen at a;omega
 have m:=zh g;go_enter func238,ntmps238;go_upto_region 5 with fail;go_wp2_with(at_builtin;refine cR rfl _ _ 23 3 rfl (zU none 0 0) (zI zi n) rfl rfl (m _) ?_);go_wp2;go_ret;have s:zL w (w.drew.alloc (zC cs 79)):=aa (ae _) (ab _ _);refine⟨_,rfl,⟨⟨by simp[exB],DE _⟩,[],rfl,⟨by simp,zO ⟨w.heap.size,G,cs,rfl,DE _,heap_alloc_new w.drew _,DH _,a, ?_,by simp⟩⟩,λj x h=>by simp at h⟩,s⟩;rw[oF];exact o
end
def YS (w:World) (d:Nat) (l:List Ex) (e:Ending) (w':World):Prop:=∃v,e=zE v/\Rs (exR d) w' v l ah/\zL w w'
def BL (w:World) (d g:Nat) (H S:Value) (m A:List Ex) (o:Box w g #[H,S] 23) (Q:Rs (exR d) w H m ah) (R:Rs (exR d) w S A ah) (n1:zN m<=10000) (n2:zN A<=10000):Calls zz 165 #[zU (some ⟨g,0,none⟩) 2 2] w (YS w d (m++A)):=by
 have⟨Y,hi,K,L,M⟩:=EX lf;have⟨HI,F⟩:=zk2 hi K;have G:=zh (show Y.size=(exB d).k by rw[oF];exact L);have I:=zh M;have J:=zh (show(Value.agg #[zI zi 0,zI zi 0,zV ⟨#[]⟩,zU none 0 0]).cells.size=(exB d).k by rw[oF];rfl);obtain⟨A1,c1,rfl,U⟩:=Q.slice;obtain⟨A2,c2,rfl,V⟩:=R.slice;have⟨HA,HS⟩:=zk2 Q R;have⟨m1,y⟩:=zv (zN m);have⟨m2,z⟩:=zv (zN A);have c:=zh y;have l:=zh z;have CG:=zh fun(W:World)=>S9 W d (m1+m2) (by omega);unfold GwR at CG;rw[<-y] at HA o n1;rw[<-z] at HS o n2;have t:=zh o;have aa:=o.lt;clear Q R U V y z o hi K L M;go_enter func165,ntmps165;go_wp2;go_loopw [3,11] (λs i wr=>∃k n:Nat,k<=2/\n=(if k=0 then 0 else if k=1 then m1 else m1+m2)/\i=zI zi k/\s=zI zi n/\w=wr) (λ_ i _=>2-(intOf i).toNat)
 .exact⟨0,0,by decide,rfl,rfl,rfl,rfl⟩
 obtain⟨k,n,hk,X,rfl,rfl,rfl⟩:=hrel;obtain⟨x0,Z⟩:=zc2 t;have x:k=0\/k=1\/k=2:=by omega
 rcases x with rfl|rfl|rfl
 .obtain rfl:n=0:=X;clear hk Z;have g0:¬(m1:Int)<0:=by omega
  go_wp2;go_roundw
  .exact⟨1,m1,by decide,rfl,rfl,rfl,by trivial⟩
  simp[intOf]
 .obtain rfl:n=m1:=X;clear hk x0;have g0:¬(n:Int)+(m2:Int)<0:=by omega
  have g1:(n:Int)+(m2:Int)<=20000:=by omega
  go_wp2;go_roundw
  .exact⟨2,n+m2,by decide,rfl,rfl,by go_num,by trivial⟩
  simp[intOf]
 obtain rfl:n=m1+m2:=X;clear hk x0 Z;go_wp2;refine(CG _).mono ?_;rintro e w2 ⟨v,rfl,h,E⟩;have⟨a,b⟩:=zk2 h E;have P:=zh (t.Q E);clear h E;go_wp2;go_loopw [6,27] (λr i D=>∃k:Nat,k<=2/\i=zI zi k/\OG (exB d) D w.heap.size w.heap.size 79 r (if k=0 then[] else if k=1 then m else m++A)/\zL w D/\Box D g #[zU A1 m1 c1,zU A2 m2 c2] 23) (λ_ i _=>2-(intOf i).toNat)
 .exact⟨0,by decide,rfl,a,b,P⟩
 obtain⟨k,hk,rfl,h,E,o⟩:=hrel;have⟨a,b,t⟩:=zk3 h E o;clear h E o;have x:k=0\/k=1\/k=2:=by omega
 rcases x with rfl|rfl|rfl
 .have x0:=za t 0 rfl;rw[DP rfl] at a;have q:=zh (iJ HA b);obtain⟨A3,c3,rfl⟩:=a.slice;simp only[D8];clear hk;go_wp2_with(at_builtin;refine aD (φ:=exB d) (T:=79) (B:=w.heap.size) (C:=w.heap.size) (xs:=[]) (ys:=m) rfl _ _ 23 rfl Y (zX #[zI zi 0,zI zi 0,zV ⟨#[]⟩,zU none 0 0]) 56 underlying23 HI F G I J rfl a (zU A1 m1 c1) rfl q ?c1 ?c2 ?c3 ?_);case c1=>
   try simp only[D8]
   try rw[<-c]
   try rw[<-l]
   omega
  case c2=>
   try simp only[D8]
   try rw[<-c]
   try rw[<-l]
   unfold maxLen;omega
  case c3=>exact b.size
  intro v' w7 j f;have u:=zh (a.boxKept f t (zQ (by decide)));have p:=zh (a.belowG f b b.size (DE _));go_wp2;go_roundw
  .exact⟨1,by decide,rfl,by simpa using j.out,p,u⟩
  simp[intOf]
 .have Z:=za t 1 rfl;rw[DK (by decide),DP rfl] at a;have q:=zh (iJ HS b);obtain⟨A3,c3,rfl⟩:=a.slice;rw[<-c] at a⊢;clear hk;go_wp2_with(at_builtin;refine aD (φ:=exB d) (T:=79) (B:=w.heap.size) (C:=w.heap.size) (xs:=m) (ys:=A) rfl _ _ 23 rfl Y (zX #[zI zi 0,zI zi 0,zV ⟨#[]⟩,zU none 0 0]) 56 underlying23 HI F G I J rfl a (zU A2 m2 c2) rfl q ?c1 ?c2 ?c3 ?_);case c1=>
   try simp only[D8]
   try rw[<-c]
   try rw[<-l]
   omega
  case c2=>
   try simp only[D8]
   try rw[<-c]
   try rw[<-l]
   unfold maxLen;omega
  case c3=>exact b.size
  intro v' w7 j f;have u:=zh (a.boxKept f t (zQ (by decide)));have p:=zh (a.belowG f b b.size (DE _));go_wp2;go_roundw
  .exact⟨2,by decide,rfl,by simpa using j.out,p,u⟩
  simp[intOf]
 rw[DK (by decide),DK (by decide)] at a;clear hk;have N:=zh a.any;obtain⟨A3,c3,rfl⟩:=a.slice;generalize(m++A).length=ml at*;go_wp2;go_ret;exact⟨_,rfl,jr N,b⟩
structure Xt (e:Ex):Prop where
 z:ExZ e
 deep:Deep KE e
 len:(ax KE e).length<=1000
def Rn (w:World) (s:ByteArray) (vars:List Vr) (A1 A2 A3 A4 A5:Option Addr) (c1 h c2 i c3 j c4 k c5 g:Nat) (e:Rs vrR w (zU A1 (zN vars) c1) vars ah) (d:zN vars<=1000) (f:Box w g #[zU A1 (zN vars) c1,zU A2 h c2,zU A3 i c3,zU A4 j c4,zU A5 k c5] 27):Calls zz 167 (#[zV s]++#[zP g]) w (zR (zW (decide (dy vars s<0))) w):=by have a:=zh (tc w _ vars s e d);generalize dy vars s=ix,zN vars=n at*;have x0:=f.A 0 _ rfl;show Calls _ _ #[zV s,zP g] _ _;go_enter func167,ntmps167;go_wp2;refine zK a λw2 c=> ?_;have b:=zh c;go_wp2;go_ret;exact⟨rfl,b⟩
def UB (w:World) (p:Pb) (A1 A2 A3 A4 A5:Option Addr) (c1 c2 c3 n4 c4 n5 c5:Nat) (hv:Rs vrR w (zU A1 (zN p.v) c1) p.v ah) (hh:Rs (exR KE) w (zU A2 (zN p.h) c2) p.h ah) (hs:Rs (exR KE) w (zU A3 (zN p.s) c3) p.s ah) (nv:zN p.v<=1000) (nh:zN p.h<=1000) (ns:zN p.s<=1000) (hz:∀e∈p.h++p.s,Xt e) (hk:KW w) (hm:de w):Calls zz 99 #[zX #[zU A1 (zN p.v) c1,zU A2 (zN p.h) c2,zU A3 (zN p.s) c3,zU A4 n4 c4,zU A5 n5 c5]] w (ErR (cy p.v (p.h++p.s)) w):=by
 have aK:=zm;have⟨HV,HK,HM,HZ⟩:=zk4 hv hk hm hz;have CC:=zh λg (W:World) (c:zL w W) (Z:Box W g #[zU A2 (zN p.h) c2,zU A3 (zN p.s) c3] 23)=>BL W KE g _ _ p.h p.s Z (hh.Q c) (hs.Q c) (by omega) (by omega);have C1:=zh fun(W:World) (s:ByteArray) (g:Nat) (c:zL w W) Z=>Rn W s p.v A1 A2 A3 A4 A5 c1 (zN p.h) c2 (zN p.s) c3 n4 c4 n5 c5 g (hv.Q c) nv Z;have aC:(p.h++p.s).length<=2000:=by rw[DI];omega
 have ay:=zh fun(w':World) (er:Int) h C c=>ErR.no (P:=cy p.v (p.h++p.s)) (w:=w) (w':=w') (er:=er) h C c;have af:=zh fun(w':World) h c=>ErR.yes (P:=cy p.v (p.h++p.s)) (w:=w) (w':=w') h c;have ac:Hid (cy p.v (p.h++p.s)↔∀e∈p.h++p.s,je (ai p.v) KE e):=zh Iff.rfl;unfold YS at CC;generalize p.h++p.s=L,cy p.v (p.h++p.s)=EO at*;have⟨n1,aw⟩:=zvh (zN p.v);rw[<-aw] at C1⊢;generalize zN p.h=n2,zN p.s=n3 at*;clear hv hh hs hz hk hm;go_enter func99,ntmps99;go_upto_region 1 with fail;generalize B:w.alloc _=w1 at*;have⟨f,n⟩:=zB1 B;clear B;have T:=ab w1 (zC #[zU A2 n2 c2,zU A3 n3 c3] 23);have XB:=zh (Box.new w1 23 #[zU A2 n2 c2,zU A3 n3 c3]);have aB:=zh (n.Q T);have d:=zh (aa f T);obtain⟨aH,aI⟩:=zd2 n 1 2;go_wp2;refine(CC _ _ d XB).mono ?_;rintro e w2 ⟨v,rfl,hr,c⟩;replace n:=zh (aB.Q c);replace f:=zh (aa d c);clear T c;obtain⟨AL,cL,rfl,aE,av⟩:=hr.exs;have ae:=zh av;have⟨m,K⟩:=zvh (zN L);rw[<-K] at aE ae aC⊢;clear hr av;go_wp2;go_loopw [13] (λi wr=>∃k:Nat,k<=m/\i=zI zi k/\zL w2 wr/\zL w wr/\Box wr w.heap.size #[zU A1 n1 c1,zU A2 n2 c2,zU A3 n3 c3,zU A4 n4 c4,zU A5 n5 c5] 27/\Hid (∀j,j<k->je (ai p.v) KE (zG L j ex0))) (λi _=>m-(intOf i).toNat)
 .exact⟨0,DH _,rfl,DM _ _,f,n,zh λj h=>by omega⟩
 obtain⟨k,hk,rfl,aj,c,Z,F⟩:=hrel;have⟨d,f,n⟩:=zk3 aj c Z;clear c aj Z;by_cases E:k<m
 .have⟨aq,k0⟩:=zln E;obtain⟨b,o,u,d',e2,aD,hd,z,au, -⟩:=ae k E;subst e2;obtain rfl:d'=29:=by unfold KE at hd;omega
  obtain⟨v0,v1,v2,v3⟩:=zx4 d aD z;rw[Eb] at v0;have V:=getD_in ex0 (show k<zN L by rw[<-K];exact E);have l:=HZ _ V;have A:=au.Q d;have M:=zh fun(w':World) (er:Int) (h:¬je (ai p.v) KE (zG L k ex0)) C c=>ay w' er (λhV=>h (ac.1 hV _ V)) C c;have ad:Hid (je (ai p.v) KE (zG L k ex0)->∀j,j<k+1->je (ai p.v) KE (zG L j ex0)):=zh λh j hj=>by
   by_cases e:j=k
   .rw[e];exact h
   exact F j (by omega)
  clear V z F au;generalize zG L k ex0=a at*;obtain⟨Ap,cp,rfl,aF⟩:=A.slice;have CV:=zh fun(W:World) (c:zL wr W)=>mD W a 29 Ap cp l.z (HK.Q (aa f c)) (HM.Q (aa f c)) (A.Q c) (by decide) l.len;have CA:=zh fun(W:World) (c:zL wr W)=>j9 W a 29 Ap cp l.z (A.Q c) l.len;have CN:=zh fun(W:World) (c:zL wr W)=>mE W a 29 Ap cp l.z (A.Q c) l.len;have Y:=ib ff (ax (29+1) a) [];have ar:(dm ff (ax (29+1) a)).length<=1000:=by rw[D8,DY] at Y;exact D2 Y l.len
  have X:=ib gH (ax (29+1) a) [];have aJ:(dm gH (ax (29+1) a)).length<=1000:=by rw[D8,DY] at X;exact D2 X l.len
  have D:Hid (je (ai p.v) KE a↔fZ (29+1) a=0/\dm gH (ax (29+1) a)=[]/\(dm ff (ax (29+1) a)).any (λs=>decide (dy p.v s<0))=false):=zh (by
   unfold je KE;refine and_congr_right λ_=>and_congr_right λ_=> ?_;simp only[List.any_eq_false,Ef];refine forall_congr' λs=>imp_congr_right λ_=> ?_;rw[j4];exact Classical.not_not.symm);unfold NmR at CA CN;unfold exV at CV CA CN;generalize je (ai p.v) KE a=AO,fZ (29+1) a=er,dm gH (ax (29+1) a)=na,dm ff (ax (29+1) a)=nv at*;have⟨ao,S⟩:=zv (a.op);have⟨an,R⟩:=zv (a.n);have⟨am,Q⟩:=zv (a.s);have⟨al,N⟩:=zv (zN a.a);rw[<-S,<-R,<-Q,<-N] at CV CA CN;rw[<-S] at v0;rw[<-R] at v1;rw[<-Q] at v2;rw[<-N] at v3;clear S R Q N aF A l Y X;go_upto_region 4 with fail;clear v0 v1 v2 v3;have ag:=zh (DM wr.heap.size wr);have x:=ag;clear ag;generalize B:wr.alloc _=w3 at*;have⟨ak,y⟩:=zA1 B;clear B;replace⟨n,d,x,f⟩:=zb4 n d x f ak;clear ak;obtain⟨G,H,I,J⟩:=zc4 y;go_wp2;refine zK (CV w3 x) λw4 c=> ?_;replace⟨d,x,n,y,f⟩:=zb5 d x n y f c;clear c;by_cases C:er=0;case neg=>
   have g1:(er !=0)=true:=by simpa using C
   have q:Hid (¬AO):=zh λh=>C (D.1 h).1;go_wp2;go_ret;exact M _ _ q C f
  subst C;obtain⟨G,H,I,J⟩:=zc4 y;go_wp2;refine(CA w4 x).mono ?_;rintro e w5 ⟨va,rfl,r,c⟩;obtain⟨U,uc,rfl,aG, -⟩:=r.cellF;replace⟨d,x⟩:=zb2 d x c;clear r;replace⟨n,y,f⟩:=zb3 n y f c;clear c;by_cases ha:na=[];case neg=>
   have g1:(zN na:Int)>0:=by have:zN na≠0:=λh=>ha (Ec h);omega
   have q:Hid (¬AO):=zh λh=>ha (D.1 h).2.1;generalize zN na=nal at*;go_wp2;go_ret;exact M _ _ q (by decide) f
  subst ha;simp only[D8] at aG⊢;obtain⟨G,H,I,J⟩:=zc4 y;go_wp2;refine(CN w5 x).mono ?_;rintro e w6 ⟨vn,rfl,r,c⟩;have aA:=zh r;obtain⟨U2,aL,rfl, -, -⟩:=r.cellF;replace⟨d,x⟩:=zb2 d x c;clear r;replace⟨n,y,f⟩:=zb3 n y f c;clear c;have CF:=zh (QH w6 _ nv aA ar 167 #[.pointer (some ⟨w.heap.size,0,none⟩)] (λs=>decide (dy p.v s<0)) (λargs W=>by kernel_rfl) (λW t hW _=>C1 W t w.heap.size (aa f hW) (n.Q hW)));generalize nv.any (λs=>decide (dy p.v s<0))=bad,zN nv=nvl at*;cases bad
  .have q:Hid AO:=zh (D.2 ⟨by trivial,by trivial,by trivial⟩);have az:=zh (ad q);go_wp2;refine zK CF λw7 c=> ?_;replace⟨d,n,y,f⟩:=zb4 d n y f c;clear c;go_wp2;go_roundw
   .exact⟨k+1,by omega,by go_num,d,f,n,az⟩
   simp[intOf];omega
  have q:Hid (¬AO):=zh λh=>by have:=(D.1 h).2.2;cases this
  go_wp2;refine zK CF λw7 c=> ?_;replace f:=zb f c;clear c;go_wp2;go_ret;exact M _ _ q (by decide) f
 have⟨aq,ap⟩:=zgq hk E;have HF:Hid EO:=zh (ac.2 λe C=>by obtain⟨j,hj,rfl⟩:=D9.1 C;have:=F j (by rw[ap,K];exact hj);rw[DC,DD hj] at this;exact this);clear F ap;go_wp2;go_ret;exact af _ HF f
section
variable (w:World)
def xF (x:Wt):Calls zz 242 #[wtV x] w (zR (zW (!dG x)) w):=by
 have j:Hid ((!dG x)=(decide (x.lo<0)||(decide (x.lo>x.hi)||(decide (x.hi>65535)||(decide (x.weight<0)||decide (x.weight>1000)))))):=zh (by unfold dG;rw[Bool.not_not]);generalize(!dG x)=r at*;obtain⟨lo,hi,wt,m⟩:=x;unfold wtV;simp only at j⊢;have i:(lo<0/\r=true)\/(¬lo<0/\lo>hi/\r=true)\/(¬lo<0/\¬lo>hi/\hi>65535/\r=true)\/(¬lo<0/\¬lo>hi/\¬hi>65535/\wt<0/\r=true)\/(¬lo<0/\¬lo>hi/\¬hi>65535/\¬wt<0/\wt>1000/\r=true)\/(¬lo<0/\¬lo>hi/\¬hi>65535/\¬wt<0/\¬wt>1000/\r=false):=by
  rw[j];by_cases a:lo<0
  .exact zQ ⟨a,by rw[DR a];rfl⟩
  by_cases b:lo>hi
  .exact zO (zQ ⟨a,b,by rw[DJ a,DR b];rfl⟩)
  by_cases c:hi>65535
  .exact zO (zO (zQ ⟨a,b,c,by rw[DJ a,DJ b,DR c];rfl⟩))
  by_cases d:wt<0
  .exact zO (zO (zO (zQ ⟨a,b,c,d,by rw[DJ a,DJ b,DJ c,DR d];rfl⟩)))
  by_cases f:wt>1000
  .exact zO (zO (zO (zO (zQ ⟨a,b,c,d,f,by rw[DJ a,DJ b,DJ c,DJ d,DR f];rfl⟩))))
  exact zO (zO (zO (zO (zO ⟨a,b,c,d,f,by rw[DJ a,DJ b,DJ c,DJ d,DJ f];rfl⟩))))
 rcases i with⟨a,e⟩|⟨a,b,e⟩|⟨a,b,c,e⟩|⟨a,b,c,d,e⟩|⟨a,b,c,d,f,e⟩|⟨a,b,c,d,f,e⟩
 all_goals
  have h:=zh e;clear e;go_enter func242,ntmps242;go_upto_region 1 with fail;generalize g:w.alloc _=w1 at*;have⟨k,l⟩:=zB1 g;clear g;obtain⟨x0,n,o⟩:=zc3 l;go_wp2;go_ret;exact⟨bS h.symm,k⟩
def C9 (v:Value) (ws:List Wt) (a:Rs wtR w v ws ah) (g:zN ws<=1000):Calls zz 170 #[v] w (zR (zW (ws.all dG)) w):=by have b:=zh (QG w v ws a g 242 #[] (λx=> !dG x) (λargs W=>by kernel_rfl) (λW t _ _=>xF W t));have e:Hid (ws.all dG= !ws.any (λx=> !dG x)):=zh (by rw[List.all_eq_not_any_not]);generalize ws.all dG=r,ws.any (λx=> !dG x)=q at*;obtain⟨A,c,rfl, -⟩:=a.wts;generalize zN ws=n at*;go_enter func170,ntmps170;go_wp2;refine zK b λw2 f=> ?_;have d:=zh f;go_wp2;go_ret;exact⟨bS e.symm,d⟩
def Ro (x:Int) (u u2:Value) (y:Int) (A:Option Addr) (n c:Nat) (h:u=zU A n c) (g:Nat) (i:Box w g #[zI zi y,u2] 126):Calls zz 169 (#[zX #[zI zi x,u]]++#[zP g]) w (zR (zW (decide (x=y))) w):=by
 subst h;have b:=zh i;have k:(x==y)=decide (x=y):=by rw[Fo];simp
 generalize decide (x=y)=q at*;show Calls _ _ #[zX #[zI zi x,zU A n c],zP g] _ _;go_enter func169,ntmps169;go_upto_region 1 with fail;generalize d:w.alloc _=w1 at*;have⟨a,f⟩:=zA1 d;replace b:=zb b a;have e:=zh a;have x0:=za f 0;have j:=za b 0;go_wp2;go_ret;exact⟨rfl,e⟩
def UC (vars:List Vr) (ds:List Ds) (A1 A2 A3 A4 A5:Option Addr) (c1 n2 c2 n3 c3 c4 n5 c5:Nat) (hv:Rs vrR w (zU A1 (zN vars) c1) vars ah) (Z:Rs dsR w (zU A4 (zN ds) c4) ds ah) (nd:zN ds<=1000) (nw:∀x∈ds,zN x.ws<=1000):Calls zz 101 #[zX #[zU A1 (zN vars) c1,zU A2 n2 c2,zU A3 n3 c3,zU A4 (zN ds) c4,zU A5 n5 c5]] w (ErR (cH vars ds) w):=by
 have ar:=zm;have HD:=zh Z;have ac:=zh fun(w':World) (er:Int) h he a=>ErR.no (P:=cH vars ds) (w:=w) (w':=w') (er:=er) h he a;have K:=zh fun(w':World) h a=>ErR.yes (P:=cH vars ds) (w:=w) (w':=w') h a;have⟨D,E⟩:=zv (λi=>bY vars (zG ds i ds0).var=true/\(∀j,j<i->(zG ds j ds0).var≠(zG ds i ds0).var)/\(zG ds i ds0).ws.length<=16/\∀x∈(zG ds i ds0).ws,dG x=true:Nat->Prop);have af:=zh E;have H:Hid (cH vars ds↔∀i,i<zN ds->D i):=zh (by rw[E];exact Iff.rfl);have CR:=zh fun(W:World) (i:Int) (a:Below w.heap.size w W)=>qu W vars i A1 A2 A3 A4 A5 c1 n2 c2 n3 c3 (zN ds) c4 n5 c5 (hv.Q a);have ad:=zh nw;generalize cH vars ds=DO at*;have⟨m,hm⟩:=zv (zN ds);have I:=zh hm;have HX:Hid (∀k,k<m->∃b o u,A4=some ⟨b,o,none⟩/\b<w.heap.size/\w.cell? ⟨b,o+k*2,none⟩=some (zI zi (zG ds k ds0).var)/\w.cell? ⟨b,o+k*2+1,none⟩=some u/\Rs wtR w u (zG ds k ds0).ws ah):=zh λk hk=>by have⟨A',c',e1,_,ak⟩:=Z.dss;have⟨b,o,p,e2,z,h0,h1,h2⟩:=ak k (by omega);simp only[DQ] at e1;exact⟨b,o,p,by rw[e1.1,e2],z,h0,h1,h2⟩
 have aq:m<=c4:=by have⟨A',c',e1,h,_⟩:=Z.dss;simp only[DQ] at e1;omega
 have F:c4<=9223372036854775807\/True:=zO trivial;generalize zN vars=nv at*;rw[<-hm] at CR HD nd⊢;clear hv Z hm E nw F;go_enter func101,ntmps101;go_upto_region 1 with fail;generalize q:w.alloc _=w1 at*;have⟨c,f⟩:=zB1 q;clear q;have B:=za f 3;go_wp2;go_loopw [8] (λi wr=>∃k:Nat,k<=m/\i=zI zi k/\Below w.heap.size w wr/\Box wr w.heap.size #[zU A1 nv c1,zU A2 n2 c2,zU A3 n3 c3,zU A4 m c4,zU A5 n5 c5] 27/\Hid (∀j,j<k->D j)) (λi _=>m-(intOf i).toNat)
 .exact⟨0,DH _,rfl,c,f,zh λj h=>by omega⟩
 obtain⟨k,hk,rfl,a,G,A⟩:=hrel;have⟨c,f⟩:=zk2 a G;clear a G;by_cases n:k<m
 .have⟨V,k0⟩:=zln n;have k1:(k:Int)<=(c4:Int):=by omega
  have k2:k<=c4:=by omega
  have⟨b,o,u,e2,z,Q,R,Y⟩:=HX k n;subst e2;have v0:=(c.cell z).trans Q;have v1:=(c.cell z).trans R;have C:=zh (Y.Q c);have T:=getD_in ds0 (show k<zN ds by rw[<-I];exact n);have X:=ad _ T;have r:=zh fun(w':World) (er:Int) (h:¬D k) he a=>ac w' er (λhV=>h (H.1 hV k (by rw[<-I];exact n))) he a;have J:Hid (D k->∀j,j<k+1->D j):=zh λh j hj=>by
   by_cases e:j=k
   .rw[e];exact h
   exact A j (by omega)
  have ag:=zh (HD.takeA k hk);have ai:Hid ((ds.take k).length=k):=zh (by rw[D3,<-I];omega);have l:Hid (D k↔bY vars (zG ds k ds0).var=true/\(ds.take k).any (λx=>decide (x.var=(zG ds k ds0).var))=false/\(zG ds k ds0).ws.length<=16/\(zG ds k ds0).ws.all dG=true):=zh (by
   rw[af];refine and_congr_right λ_=>and_congr ?_ (and_congr_right λ_=>by rw[Fa]);simp only[List.any_eq_false,Ef];constructor
   .intro h x G;obtain⟨j,hj,rfl⟩:=D9.1 G;rw[D3] at hj;have:=h j (by omega);rw[List.getElem_take];rw[DC,DD (show j<zN ds by omega)] at this;exact this
   intro h j hj;have aj:j<zN ds:=by rw[<-I];omega
   rw[DC,DD aj];refine h _ (D9.2 ⟨j,by rw[D3];omega, ?_⟩);rw[List.getElem_take];rfl);clear T Q R Y A;obtain⟨Au,cu,rfl, -⟩:=C.slice;generalize zG ds k ds0=dk at*;obtain⟨y,ws⟩:=dk;simp only at v0 v1 C l X;have ab:=zh λW h=>CR W y h;have CW:=zh fun(W:World) (a:Below wr.heap.size wr W)=>C9 W _ ws (C.Q a) X;have CF:=zh fun(W:World) (g:Nat) (a:Below w.heap.size w W) (G:Box W g #[zI zi y,zU Au (zN ws) cu] 126)=>QI W (zU (some ⟨b,o,none⟩) k c4) (ds.take k) (ag.Q a) (by rw[ai];omega) 169 #[zP g] (λx=>decide (x.var=y)) (λargs W=>by kernel_rfl) (λW' t u hW _ hu=>by
   obtain⟨At,ct,rfl, -⟩:=hu.slice;exact Ro W' t.var _ _ y At _ ct rfl g (G.Q hW));generalize bY vars y=rv,(ds.take k).any (λx=>decide (x.var=y))=dup,ws.all dG=wok,zN ws=wl,D k=AO at*;go_upto_region 4 with fail;clear v0 v1;have s:=zh (DM wr.heap.size wr);generalize q:wr.alloc _=w3 at*;have⟨N,v⟩:=zA1 q;clear q;replace⟨f,s,c⟩:=zb3 f s c N;clear N;generalize S:wr.heap.size=ga at*;obtain⟨al,L⟩:=zc2 v;obtain⟨am,an,ao,B,ap⟩:=zc5 f;go_wp2;refine zK (ab w3 c) λw4 a=> ?_;replace s:=zh (Below.trans s (a.mono (by rw[<-S];exact s.size)));replace⟨f,v,c⟩:=zb3 f v c a;clear a;cases rv
  .have d:Hid (¬AO):=zh λh=>by have:=(l.1 h).1;cases this
   go_wp2;go_ret;exact r _ _ d (by decide) c
  have aa:=zh (CF w4 ga c v);have B:=za f 3;go_wp2;refine zK aa λw5 a=> ?_;replace s:=zh (Below.trans s (a.mono (by rw[<-S];exact s.size)));replace⟨f,v,c⟩:=zb3 f v c a;clear a;cases dup;case true=>
   have d:Hid (¬AO):=zh λh=>by have:=(l.1 h).2.1;cases this
   go_wp2;go_ret;exact r _ _ d (by decide) c
  have L:=za v 1;by_cases M:wl<=16;case neg=>
   have g1:(wl:Int)>16:=by omega
   have d:Hid (¬AO):=zh λh=>M (l.1 h).2.2.1;go_wp2;go_ret;exact r _ _ d (by decide) c
  have g1:¬(wl:Int)>16:=by omega
  go_wp2;refine zK (CW w5 s) λw6 a=> ?_;replace⟨f,v,c⟩:=zb3 f v c a;clear a;cases wok
  .have d:Hid (¬AO):=zh λh=>by have:=(l.1 h).2.2.2;cases this
   go_wp2;go_ret;exact r _ _ d (by decide) c
  have ae:=zh (J (l.2 ⟨by trivial,by trivial,M,by trivial⟩));go_wp2;go_roundw
  .exact⟨k+1,by omega,by go_num,c,f,ae⟩
  simp[intOf];omega
 have⟨V,U⟩:=zgq hk n;have HF:Hid DO:=zh (H.2 λi hi=>A i (by rw[U,I];exact hi));clear A U;go_wp2;go_ret;exact K _ HF c
end
section
variable (l:List Bool) (n:Nat) {F:List Int} {k:Nat}
def bA (l:List Bool):Array Value:=(l.map Value.bool).toArray
def Sd (k:Nat) (v:Bool):(bA l).setIfInBounds k (zW v)=bA (l.set k v):=by unfold bA;rw[E1,List.map_set]
def nW {l:List Bool} {q:Bool} (h:l[k]? =some q):(bA l)[k]? =some (zW q):=by simp[bA,h]
def yZ:madeCells (Value.bool false).cells (n*1)=bA (List.replicate n false):=by
 apply Array.ext
 .simp[madeCells,bA]
 intro i a b;simp[madeCells,bA,Value.cells,Nat.mod_one]
def Vd:(zz.info? 4).map (λi=>(i.zero,i.size,i.bytes))=some (some (zW false),1,1):=by kernel_rfl
def py (e:n<=1000) (W:World):(Instr.makeSlice 43 (zI zi (n:Int)) (zI zi (n:Int))).run zz W= .ok (zU (some ⟨W.heap.size,0,none⟩) n n) (W.alloc (zC (bA (List.replicate n false)) 4)):=by have⟨i,hi,d,c,b⟩:=EX Vd;have a:=run_make (P:=zz) W 43 4 i (zW false) underlying43 hi d .i64 .i64 n n (by omega) (by omega) (by rw[b];omega) (by omega);rw[c] at a;simp only[Eh] at a;rw[yZ] at a;exact a
def iH (n:Nat) (F:List Int):List Bool:=(List.range n).map λi:Nat=>decide ((i:Int)∈F)
def BQ:iH n []=List.replicate n false:=by
 unfold iH;apply Fz
 .simp
 intro i a b;simp
def jO {n:Nat} (h:k<n):(iH n F)[k]? =some (decide ((k:Int)∈F)):=by simp[iH,Ed,EZ h]
def BP {n:Nat} (h:k<n):(iH n F).set k true=iH n (F++[(k:Int)]):=by
 apply List.ext_getElem?;intro i;by_cases hi:i<n
 .rw[jO hi];by_cases e:k=i
  .subst e;rw[EL (by simpa [iH] using hi)];simp
  rw[EP e,jO hi];congr 1;rw[Fo];simp only[Ef,EK,DS,DZ,EC];exact⟨.inl,λh=>h.resolve_right (by omega)⟩
 have a:(iH n F).length=n:=by simp[iH]
 have b:(iH n (F++[(k:Int)])).length=n:=by simp[iH]
 rw[EF (by rw[Er,a];omega),EF (by rw[b];omega)]
def sL {l:List Vr} {i:Int} (h:bY l i=true):∃k:Nat,i=k/\k<zN l:=by unfold bY at h;simp only[DW,Ef] at h;exact⟨i.toNat,by omega,by omega⟩
structure GrP (l:List Vr) (gs:List (List Int)) (F:List Int):Prop where
 some_:∀x∈gs,x≠[]
 ran:∀i∈F,bY l i=true
 nodup:F.Nodup
def mB {gs:List (List Int)} {j q:Nat} (a:j<zN gs) (b:q<(zG gs j []).length):∃r,gs.flatten=(gs.take j).flatten++(zG gs j []).take q++(zG gs j []).getD q 0::r:=by
 have e1:gs=gs.take j++zG gs j []::gs.drop (j+1):=by
  conv=>lhs;rw[<-List.take_append_drop j gs,Eq a]
  rw[DC,DD a];rfl
 have c:zG gs j []=(zG gs j []).take q++(zG gs j []).getD q 0::(zG gs j []).drop (q+1):=by
  conv=>lhs;rw[<-List.take_append_drop q (zG gs j []),Eq b]
  rw[DC (l:=zG gs j []),DD b];rfl
 refine⟨(zG gs j []).drop (q+1)++(gs.drop (j+1)).flatten, ?_⟩;conv=>lhs;rw[e1]
 rw[List.flatten_append,FP];conv=>lhs;rw[c]
 simp[Eg]
def Rm (w:World) (vars:List Vr) (gs:List (List Int)) (A1 A2 A3 A4 A5:Option Addr) (c1 n2 c2 n3 c3 n4 c4 c5:Nat) (hv:Rs vrR w (zU A1 (zN vars) c1) vars ah) (hg:Rs ilR w (zU A5 (zN gs) c5) gs ah) (nv:zN vars<=1000) (ng:zN gs<=1000) (nr:∀x∈gs,zN x<=1000):Calls zz 103 #[zX #[zU A1 (zN vars) c1,zU A2 n2 c2,zU A3 n3 c3,zU A4 n4 c4,zU A5 (zN gs) c5]] w (ErR (bD vars gs) w):=by
 have HG:=zh hg;have Q:=zh fun(w':World) (er:Int) h he r=>ErR.no (P:=bD vars gs) (w:=w) (w':=w') (er:=er) h he r;have af:=zh fun(w':World) h r=>ErR.yes (P:=bD vars gs) (w:=w) (w':=w') h r;have N:Hid (bD vars gs->(∀x∈gs,x≠[])/\(∀i∈gs.flatten,bY vars i=true)/\gs.flatten.Nodup/\∀i:Nat,bY vars i=true->(i:Int)∈gs.flatten):=zh λh=>⟨h.some_,h.ran,h.nodup,h.all⟩;have ay:Hid (GrP vars gs gs.flatten->(∀i:Nat,bY vars i=true->(i:Int)∈gs.flatten)->bD vars gs):=zh λh h2=>⟨h.some_,h.ran,h.nodup,h2⟩;have CR:=zh fun(W:World) (i:Int) (r:zL w W)=>qu W vars i A1 A2 A3 A4 A5 c1 n2 c2 n3 c3 n4 c4 (zN gs) c5 (hv.Q r);have aB:=zh nr;generalize bD vars gs=GO at*;have⟨n,hn⟩:=zv (zN vars);have⟨m,hm⟩:=zv (zN gs);have HN:=zh hn;have HM:=zh hm;have MK:=py n (by omega);rw[<-BQ] at MK;rw[<-hn] at CR nv⊢;rw[<-hm] at HG CR ng⊢;clear hv hg hn hm nr;go_enter func103,ntmps103;go_upto_region 1 with fail;generalize M:w.alloc _=w1 at*;have⟨f,l⟩:=zB1 M;clear M;have aD:=zh l.lt;have t:=za l 0;have aN:=MK w1;go_upto_region 2 with fail;generalize M:w1.alloc _=w2 at*;have⟨ag,s⟩:=zA1 M;clear M;replace⟨l,f⟩:=zb2 l f ag;clear ag;have aO:w.heap.size<w1.heap.size:=aD;generalize w1.heap.size=gr at*;have D:=za l 4;go_wp2;go_loopw [16] (λi wr=>∃j:Nat,j<=m/\i=zI zi j/\zL w wr/\Box wr w.heap.size #[zU A1 n c1,zU A2 n2 c2,zU A3 n3 c3,zU A4 n4 c4,zU A5 m c5] 27/\Box wr gr (bA (iH n (gs.take j).flatten)) 4/\Hid (GrP vars (gs.take j) (gs.take j).flatten)) (λi _=>m-(intOf i).toNat)
 .exact⟨0,DH _,rfl,f,l,s,zh ⟨λx h=>by simp at h,λi h=>by simp at h,by simp⟩⟩
 obtain⟨j,hj,rfl,r,C,L,K⟩:=hrel;have⟨f,l,s⟩:=zk3 r C L;clear r C L;by_cases S:j<m
 .have⟨ak,j0⟩:=zln S;have G:j<zN gs:=by rw[<-HM];exact S
  have⟨A',c',e1,_,aq⟩:=HG.ils;obtain⟨b,o,u,e2,ai,hu,aK, -⟩:=aq j (by rw[<-HM];exact S);obtain rfl:=zas e1 e2;have Z:=getD_in [] G;have ad:=zh (aB (zG gs j []) Z);have ap:=(f.cell ai).trans hu;have ar:=zh λq (h:q<(zG gs j []).length)=>mB G h;have aG:Hid (zG gs j []=[]->¬GO):=zh λh Y=>(N Y).1 _ Z h;have aH:Hid ((gs.take (j+1)).flatten=(gs.take j).flatten++zG gs j []):=zh (by
   rw[Ep,DD G,List.flatten_append,DC,DD G];simp);have aI:Hid (gs.take (j+1)=gs.take j++[zG gs j []]):=zh (by
   rw[Ep,DD G,DC,DD G];rfl);clear e1 e2 aq ai hu Z;generalize zG gs j []=row at*;obtain⟨Ar,cr,rfl,aJ,ao⟩:=aK;have aE:=zh ao;have⟨V,U⟩:=zv (zN row);have R:=zh U;have aM:V<=1000:=by rw[U];exact ad
  rw[<-U] at ap aJ;clear ao U;by_cases h0:V=0
  .have g0:((V:Int)==0)=true:=by simpa using(by omega:(V:Int)=0)
   have z:=zh (aG (Ec (by rw[<-R];exact h0)));clear h0;go_wp2;go_ret;exact Q _ _ z (by decide) f
  have g0:((V:Int)==0)=false:=by simpa using(by omega:¬(V:Int)=0)
  have aA:Hid (row≠[]):=zh λh=>h0 (by rw[R,h];rfl);clear h0;go_wp2;clear ap;go_loopw [25] (λi wr=>∃q:Nat,q<=V/\i=zI zi q/\zL w wr/\Box wr w.heap.size #[zU A1 n c1,zU A2 n2 c2,zU A3 n3 c3,zU A4 n4 c4,zU (some ⟨b,o,none⟩) m c5] 27/\Box wr gr (bA (iH n ((gs.take j).flatten++row.take q))) 4/\Hid (GrP vars (gs.take j) ((gs.take j).flatten++row.take q))) (λi _=>V-(intOf i).toNat)
  .exact⟨0,DH _,rfl,f,l,by rw[El,EN];exact s,by rw[El,EN];exact K⟩
  obtain⟨q,hq,rfl,r,C,L,g⟩:=hrel;clear K;have⟨f,l,s⟩:=zk3 r C L;clear r C L;by_cases aa:q<V
  .have⟨am,q0⟩:=zln aa;have T:q<zN row:=by rw[<-R];exact aa
   obtain⟨a1,rfl,aj,an⟩:=aE (by omega);have y0:wr.cell? (a1.add q)=some (zI zi (zG row q 0)):=by rw[f.cell (by rw[bf];exact aj)];exact an q T
   have⟨rest,B⟩:=ar q T;have ae:Hid (row.take (q+1)=row.take q++[zG row q 0]):=zh (by
    rw[Ep,DD T,DC,DD T];rfl);have ac:Hid (bY vars (zG row q 0)=false->¬GO):=zh λh Y=>by
    have:=(N Y).2.1 (zG row q 0) (by rw[B];simp);rw[h] at this;cases this
   have az:Hid (zG row q 0∈(gs.take j).flatten++row.take q->¬GO):=zh λh Y=>by have:=(N Y).2.2.1;rw[B,List.nodup_append] at this;exact this.2.2 _ h _ (by simp) rfl
   have aF:Hid (bY vars (zG row q 0)=true->∃k:Nat,zG row q 0=k/\k<n):=zh λh=>by rw[HN];exact sL h
   have y:=zh λW h=>CR W (zG row q 0) h;have au:Hid (bY vars (zG row q 0)=true->zG row q 0∉(gs.take j).flatten++row.take q->GrP vars (gs.take j) ((gs.take j).flatten++row.take (q+1))):=zh λh1 h2=>by
    rw[ae,<-Eg];refine⟨g.some_,λi hi=> ?_, ?_⟩
    .rcases EK.1 hi with hi|hi
     .exact g.ran i hi
     rw[ER.1 hi];exact h1
    rw[List.nodup_append];refine⟨g.nodup,by simp,λa ha c hc e=> ?_⟩;rw[ER.1 hc] at e;exact h2 (e▸ha)
   clear B g aj an;generalize zG row q 0=v at*;generalize hF:(gs.take j).flatten++row.take q=F at*;have HF:=zh hF;clear hF;cases hrv:bY vars v
   .rw[hrv] at y ac;have z:=zh (ac rfl);clear hrv;obtain⟨t,H,I,J,D⟩:=zc5 l;go_wp2;refine zK (y _ f) λw4 r=> ?_;replace⟨l,s,f⟩:=zb3 l s f r;clear r;go_wp2;go_ret;exact Q _ _ z (by decide) f
   rw[hrv] at y;obtain⟨k,rfl,A⟩:=aF hrv;have av:=zh (au hrv);clear hrv;have kn:(k:Int)<(n:Int):=by omega
   have k0:=zn0 k;obtain⟨t,H,I,J,D⟩:=zc5 l;go_wp2;refine zK (y _ f) λw4 r=> ?_;replace⟨l,s,f⟩:=zb3 l s f r;clear r;have X:=s.A k _ (nW (jO A));by_cases d:(k:Int)∈F
   .rw[DR d] at X;have z:=zh (az d);clear d;go_wp2;go_ret;exact Q _ _ z (by decide) f
   rw[DJ d] at X;have aw:=zh (av d);have z1:=s.frozen k;have z2:=s.lt;clear d;go_wp2;go_roundw
   .have e5:(gs.take j).flatten++row.take (q+1)=F++[(k:Int)]:=by rw[ae,<-Eg,HF]
    refine⟨q+1,by omega,by go_num,f.setCell (p:=⟨gr,k,none⟩) (by show w.heap.size<=gr;omega) _,l.setNe ⟨gr,k,none⟩ _, ?_,aw⟩;have h5:=s.set_ k (zW true);rw[Sd,BP A,<-e5] at h5;exact h5
   simp[intOf];omega
  have⟨am,al⟩:=zgq hq aa;have e6:row.take q=row:=by rw[al,R,Et]
  rw[e6,<-aH] at s g;have ax:Hid (GrP vars (gs.take (j+1)) (gs.take (j+1)).flatten):=zh ⟨λx C=>by
   rw[aI] at C;rcases EK.1 C with C|C
   .exact g.some_ x C
   rw[ER.1 C];exact aA,g.ran,g.nodup⟩;clear e6 al g;go_wp2;go_roundw
  .exact⟨j+1,by omega,by go_num,f,l,s,ax⟩
  simp[intOf];omega
 have ak:=zge S;have e7:gs.take j=gs:=En (by rw[<-HM];omega);rw[e7] at s K;clear e7;have t:=za l 0;go_wp2;go_loopw [47] (λi wr=>∃k:Nat,k<=n/\i=zI zi k/\zL w wr/\Box wr w.heap.size #[zU A1 n c1,zU A2 n2 c2,zU A3 n3 c3,zU A4 n4 c4,zU A5 m c5] 27/\Box wr gr (bA (iH n gs.flatten)) 4/\Hid (∀i:Nat,i<k->bY vars i=true->(i:Int)∈gs.flatten)) (λi _=>n-(intOf i).toNat)
 .exact⟨0,DH _,rfl,f,l,s,zh λi h=>by omega⟩
 obtain⟨k,hk,rfl,r,C,L,E⟩:=hrel;have⟨f,l,s⟩:=zk3 r C L;clear r C L;by_cases A:k<n
 .have⟨kn,k0⟩:=zln A;have y:=zh λW h=>CR W (k:Nat) h;have aC:Hid (bY vars (k:Nat)=true->(k:Int)∉gs.flatten->¬GO):=zh λh1 h2 Y=>h2 ((N Y).2.2.2 k h1);have ab:Hid ((bY vars (k:Nat)=true->(k:Int)∈gs.flatten)->∀i:Nat,i<k+1->bY vars i=true->(i:Int)∈gs.flatten):=zh λh i hi L=>by
   by_cases e:i=k
   .subst e;exact h L
   exact E i (by omega) L
  clear E;generalize bY vars (k:Nat)=rv at*;have X:=s.A k _ (nW (jO A));cases rv
  .have HA:=zh (ab λh=>by cases h);clear X;obtain⟨t,H,I,J,D⟩:=zc5 l;go_wp2;refine zK (y _ f) λw4 r=> ?_;replace⟨l,s,f⟩:=zb3 l s f r;clear r;go_wp2;go_roundw
   .exact⟨k+1,by omega,by go_num,f,l,s,HA⟩
   simp[intOf];omega
  clear X;obtain⟨t,H,I,J,D⟩:=zc5 l;go_wp2;refine zK (y _ f) λw4 r=> ?_;replace⟨l,s,f⟩:=zb3 l s f r;clear r;have X:=s.A k _ (nW (jO A));by_cases d:(k:Int)∈gs.flatten
  .rw[DR d] at X;have HA:=zh (ab λ_=>d);clear d;go_wp2;go_roundw
   .exact⟨k+1,by omega,by go_num,f,l,s,HA⟩
   simp[intOf];omega
  rw[DJ d] at X;have z:=zh (aC (by trivial) d);clear d;go_wp2;go_ret;exact Q _ _ z (by decide) f
 have aL:=zge A;have HF:Hid GO:=zh (ay K λi hi=>E i (by
  have⟨k',e,h⟩:=sL hi;have:i=k':=by omega
  rw[<-HN] at h;omega) hi);clear E K;go_wp2;go_ret;exact af _ HF f
end
def fcV (f:Nat×Array Value):Value:= .func (.func f.1) #[] f.2
def Rp (w:World) (g:Nat) (fs:List (Nat×Array Value)) (P:Nat->Prop) (G:Box w g (fs.map fcV).toArray 173) (M:zN fs<=1000) (F:∀k f,fs[k]? =some f->(∀args W,(callFunc f.1 args).run zz W= .ok (.enter f.1 args) W)/\∀W,zL w W->Calls zz f.1 f.2 W (ErR (P k) W)):Calls zz 95 #[zU (some ⟨g,0,none⟩) (zN fs) (zN fs)] w (ErR (∀k,k<zN fs->P k) w):=by
 have⟨J,H⟩:=zk2 G F;have⟨n,o⟩:=zv (zN fs);have I:=zh o;have z:=zh fun(w':World) (er:Int) h d b=>ErR.no (P:=∀k,k<zN fs->P k) (w:=w) (w':=w') (er:=er) h d b;have r:=zh fun(w':World) h b=>ErR.yes (P:=∀k,k<zN fs->P k) (w:=w) (w':=w') h b;have D:Hid (∀k,k<n->(∀k,k<zN fs->P k)->P k):=zh λk hk h=>h k (by omega);have C:Hid ((∀k,k<n->P k)->∀k,k<zN fs->P k):=zh λh k hk=>h k (by omega);generalize(∀k,k<zN fs->P k)=A at*;rw[<-o] at M⊢;clear G F o;go_enter func95,ntmps95;go_wp2;go_loopw [8] (λi wr=>∃k:Nat,k<=n/\i=zI zi k/\zL w wr/\Hid (∀j,j<k->P j)) (λi _=>n-(intOf i).toNat)
 .exact⟨0,DH _,rfl,DM _ _,zh λj h=>by omega⟩
 obtain⟨k,hk,rfl,b,a⟩:=hrel;have m:=zh b;clear b;by_cases c:k<n
 .have⟨u,S⟩:=zln c;have s:k<zN fs:=by rw[<-I];exact c
  have⟨K,E⟩:=H k _ (DD s);have x0:=(J.Q m).A k (fcV fs[k]) (by simp[Ed,DD s]);have v:=zh (E wr m);have y:=zh fun(w':World) (er:Int) (h:¬P k) d b=>z w' er (λL=>h (D k c L)) d b;have q:Hid (P k->∀j,j<k+1->P j):=zh λh j R=>by
   by_cases e:j=k
   .rw[e];exact h
   exact a j (by omega)
  generalize fs[k]=f at*;obtain⟨gf,N⟩:=f;unfold fcV at x0;simp only at x0 K v;unfold ErR at v;clear E a;go_wp2;refine v.mono ?_;rintro e w2 ⟨er,rfl,l,b⟩;have p:=zh l;replace m:=zb m b;clear l b x0;by_cases d:er=0
  .subst d;have x:=zh (q (p.1 rfl));go_wp2;go_roundw
   .exact⟨k+1,by omega,by go_num,m,x⟩
   simp[intOf];omega
  have Q:(er !=0)=true:=by simpa using d
  have B:=zh λh=>d (p.2 h);go_wp2;go_ret;exact y _ _ B d m
 have⟨u,t⟩:=zgq hk c;rw[t] at a;have x:=zh (C a);clear t a;go_wp2;go_ret;exact r _ x m
structure PSm (p:Pb):Prop where
 nv:zN p.v<=1000
 nz:∀v∈p.v,v.s.size<=maxLen
 nh:zN p.h<=1000
 ns:zN p.s<=1000
 ex:∀e∈p.h++p.s,Xt e
 nd:zN p.d<=1000
 nw:∀x∈p.d,zN x.ws<=1000
 ng:zN p.g<=1000
 nr:∀x∈p.g,zN x<=1000
structure PIn (w:World) (p:Pb) (A1 A2 A3 A4 A5:Option Addr) (c1 c2 c3 c4 c5:Nat):Prop where
 v:Rs vrR w (zU A1 (zN p.v) c1) p.v ah
 h:Rs (exR KE) w (zU A2 (zN p.h) c2) p.h ah
 s:Rs (exR KE) w (zU A3 (zN p.s) c3) p.s ah
 d:Rs dsR w (zU A4 (zN p.d) c4) p.d ah
 g:Rs ilR w (zU A5 (zN p.g) c5) p.g ah
def PIn.Q {w w':World} {p:Pb} {A1 A2 A3 A4 A5:Option Addr} {c1 c2 c3 c4 c5:Nat} (h:PIn w p A1 A2 A3 A4 A5 c1 c2 c3 c4 c5) (a:zL w w'):PIn w' p A1 A2 A3 A4 A5 c1 c2 c3 c4 c5:=⟨h.v.Q a,h.h.Q a,h.s.Q a,h.d.Q a,h.g.Q a⟩
instance {w w':World} {p:Pb} {A1 A2 A3 A4 A5:Option Addr} {c1 c2 c3 c4 c5:Nat}:Zm w w' (PIn w p A1 A2 A3 A4 A5 c1 c2 c3 c4 c5) (PIn w' p A1 A2 A3 A4 A5 c1 c2 c3 c4 c5):=⟨λhb h=>PIn.Q h hb⟩
def pbV (p:Pb) (A1 A2 A3 A4 A5:Option Addr) (c1 c2 c3 c4 c5:Nat):Value:=zX #[zU A1 (zN p.v) c1,zU A2 (zN p.h) c2,zU A3 (zN p.s) c3,zU A4 (zN p.d) c4,zU A5 (zN p.g) c5]
def pbC (p:Pb) (A1 A2 A3 A4 A5:Option Addr) (c1 c2 c3 c4 c5:Nat):Array Value:=#[zU A1 (zN p.v) c1,zU A2 (zN p.h) c2,zU A3 (zN p.s) c3,zU A4 (zN p.d) c4,zU A5 (zN p.g) c5]
def ErR.mono {P Q:Prop} {w:World} {e:Ending} {w':World} (h:ErR P w e w') (hi:P↔Q):ErR Q w e w':=by obtain⟨er,a,b,c⟩:=h;exact⟨er,a,b.trans hi,c⟩
section
variable {w:World} {p:Pb} {A1 A2 A3 A4 A5:Option Addr} {c1 c2 c3 c4 c5 g:Nat}
def Rk (k:PIn w p A1 A2 A3 A4 A5 c1 c2 c3 c4 c5) (l:PSm p) (hk:KW w) (hm:de w) (b:Box w g (pbC p A1 A2 A3 A4 A5 c1 c2 c3 c4 c5) 27):Calls zz 96 #[zP g] w (ErR (cB p.v) w):=by have a:=zh λW h=>WU W p.v A1 c1 (k.v.Q h) l.nz (hk.Q h) (hm.Q h);unfold pbC at b;have m:=zh fun(e:Ending) (w':World) (h:ErR (cB p.v) w e w')=>h;generalize(cB p.v)=Q at*;unfold ErR at a;generalize zN p.v=n1,zN p.h=n2,zN p.s=n3,zN p.d=n4,zN p.g=n5 at*;have f:=zh b;go_enter func96,ntmps96;obtain⟨x0,n,o,q,r⟩:=zc5 f;go_wp2;refine(a w (DM _ _)).mono ?_;rintro e w2 ⟨er,rfl,i,j⟩;have⟨c,d⟩:=zk2 i j;go_wp2;go_ret;exact⟨er,rfl,c,d⟩
def Rj (b:PIn w p A1 A2 A3 A4 A5 c1 c2 c3 c4 c5) (a:PSm p) (hk:KW w) (hm:de w) (d:Box w g (pbC p A1 A2 A3 A4 A5 c1 c2 c3 c4 c5) 27):Calls zz 98 #[zP g] w (ErR (cy p.v (p.h++p.s)) w):=by have c:=zh λW h=>UB W p A1 A2 A3 A4 A5 c1 c2 c3 (zN p.d) c4 (zN p.g) c5 (b.v.Q h) (b.h.Q h) (b.s.Q h) a.nv a.nh a.ns a.ex (hk.Q h) (hm.Q h);unfold pbC at d;have m:=zh fun(e:Ending) (w':World) (h:ErR (cy p.v (p.h++p.s)) w e w')=>h;generalize(cy p.v (p.h++p.s))=Q at*;unfold ErR at c;generalize zN p.v=n1,zN p.h=n2,zN p.s=n3,zN p.d=n4,zN p.g=n5 at*;have j:=zh d;go_enter func98,ntmps98;obtain⟨x0,n,o,q,r⟩:=zc5 j;go_wp2;refine(c w (DM _ _)).mono ?_;rintro e w2 ⟨er,rfl,k,l⟩;have⟨f,i⟩:=zk2 k l;go_wp2;go_ret;exact⟨er,rfl,f,i⟩
def Ri (b:PIn w p A1 A2 A3 A4 A5 c1 c2 c3 c4 c5) (c:PSm p) (hk:KW w) (hm:de w) (d:Box w g (pbC p A1 A2 A3 A4 A5 c1 c2 c3 c4 c5) 27):Calls zz 100 #[zP g] w (ErR (cH p.v p.d) w):=by have a:=zh λW h=>UC W p.v p.d A1 A2 A3 A4 A5 c1 (zN p.h) c2 (zN p.s) c3 c4 (zN p.g) c5 (b.v.Q h) (b.d.Q h) c.nd c.nw;unfold pbC at d;have m:=zh fun(e:Ending) (w':World) (h:ErR (cH p.v p.d) w e w')=>h;generalize(cH p.v p.d)=Q at*;unfold ErR at a;generalize zN p.v=n1,zN p.h=n2,zN p.s=n3,zN p.d=n4,zN p.g=n5 at*;have j:=zh d;go_enter func100,ntmps100;obtain⟨x0,n,o,q,r⟩:=zc5 j;go_wp2;refine(a w (DM _ _)).mono ?_;rintro e w2 ⟨er,rfl,k,l⟩;have⟨f,i⟩:=zk2 k l;go_wp2;go_ret;exact⟨er,rfl,f,i⟩
def Rh (c:PIn w p A1 A2 A3 A4 A5 c1 c2 c3 c4 c5) (a:PSm p) (hk:KW w) (hm:de w) (d:Box w g (pbC p A1 A2 A3 A4 A5 c1 c2 c3 c4 c5) 27):Calls zz 102 #[zP g] w (ErR (bD p.v p.g) w):=by have b:=zh λW h=>Rm W p.v p.g A1 A2 A3 A4 A5 c1 (zN p.h) c2 (zN p.s) c3 (zN p.d) c4 c5 (c.v.Q h) (c.g.Q h) a.nv a.ng a.nr;unfold pbC at d;have m:=zh fun(e:Ending) (w':World) (h:ErR (bD p.v p.g) w e w')=>h;generalize(bD p.v p.g)=Q at*;unfold ErR at b;generalize zN p.v=n1,zN p.h=n2,zN p.s=n3,zN p.d=n4,zN p.g=n5 at*;have j:=zh d;go_enter func102,ntmps102;obtain⟨x0,n,o,q,r⟩:=zc5 j;go_wp2;refine(b w (DM _ _)).mono ?_;rintro e w2 ⟨er,rfl,k,l⟩;have⟨f,i⟩:=zk2 k l;go_wp2;go_ret;exact⟨er,rfl,f,i⟩
theorem V5:(∀k,k<4->(match k with |0=>cB p.v|1=>cy p.v (p.h++p.s)|2=>cH p.v p.d|_=>bD p.v p.g))↔PV p:=by
 constructor
 .intro h;exact⟨h 0 (by decide),h 1 (by decide),h 2 (by decide),h 3 (by decide)⟩
 rintro⟨h1,h2,h3,h4⟩ k hk;match k,hk with
 |0,_=>exact h1
 |1,_=>exact h2
 |2,_=>exact h3
 |3,_=>exact h4
theorem Uz (m:PIn w p A1 A2 A3 A4 A5 c1 c2 c3 c4 c5) (n:PSm p) (hk:KW w) (hm:de w):Calls zz 48 #[pbV p A1 A2 A3 A4 A5 c1 c2 c3 c4 c5] w (ErR (PV p) w):=by
 have A:=zm;have l:=zh fun(W:World) (g c:Nat) (a:zL w W) (d:Box W c (pbC p A1 A2 A3 A4 A5 c1 c2 c3 c4 c5) 27) (B:Box W g #[.func (.func 96) #[] #[zP c],.func (.func 98) #[] #[zP c],.func (.func 100) #[] #[zP c],.func (.func 102) #[] #[zP c]] 173)=>
  Rp W g [(96,#[zP c]),(98,#[zP c]),(100,#[zP c]),(102,#[zP c])]
   (λk=>match k with |0=>cB p.v|1=>cy p.v (p.h++p.s)|2=>cH p.v p.d|_=>bD p.v p.g) B (show 4<=1000 by decide) (λk f b=>by
   match k,b with
   |0,b=>obtain rfl:=Eu b;exact⟨λargs W=>by kernel_rfl,λW' h=>Rk (m.Q (aa a h)) n (hk.Q (aa a h)) (hm.Q (aa a h)) (d.Q h)⟩
   |1,b=>obtain rfl:=Eu b;exact⟨λargs W=>by kernel_rfl,λW' h=>Rj (m.Q (aa a h)) n (hk.Q (aa a h)) (hm.Q (aa a h)) (d.Q h)⟩
   |2,b=>obtain rfl:=Eu b;exact⟨λargs W=>by kernel_rfl,λW' h=>Ri (m.Q (aa a h)) n (hk.Q (aa a h)) (hm.Q (aa a h)) (d.Q h)⟩
   |3,b=>obtain rfl:=Eu b;exact⟨λargs W=>by kernel_rfl,λW' h=>Rh (m.Q (aa a h)) n (hk.Q (aa a h)) (hm.Q (aa a h)) (d.Q h)⟩
   |k+4,b=>simp at b);have o:=zh (V5 (p:=p));simp only[DF,D8,DY,Nat.reduceAdd] at l;generalize(∀k,k<4->(match k with |0=>cB p.v|1=>cy p.v (p.h++p.s)|2=>cH p.v p.d|_=>bD p.v p.g))=PA,PV p=PX at*;unfold ErR at l;unfold pbC at l;unfold pbV;generalize zN p.v=n1,zN p.h=n2,zN p.s=n3,zN p.d=n4,zN p.g=n5 at*;go_enter func48,ntmps48;go_upto_region 1 with fail;generalize r:w.alloc _=w1 at*;have⟨u,x⟩:=zB1 r;have j:=ab w1 (zC #[.func (.func 96) #[] #[.pointer (some ⟨w.heap.size,0,none⟩)],.func (.func 98) #[] #[.pointer (some ⟨w.heap.size,0,none⟩)],.func (.func 100) #[] #[.pointer (some ⟨w.heap.size,0,none⟩)],.func (.func 102) #[] #[.pointer (some ⟨w.heap.size,0,none⟩)]] 173);have v:=zh (Box.new w1 173 #[.func (.func 96) #[] #[.pointer (some ⟨w.heap.size,0,none⟩)],.func (.func 98) #[] #[.pointer (some ⟨w.heap.size,0,none⟩)],.func (.func 100) #[] #[.pointer (some ⟨w.heap.size,0,none⟩)],.func (.func 102) #[] #[.pointer (some ⟨w.heap.size,0,none⟩)]]);have q:=zh (x.Q j);have i:=zh (aa u j);go_wp2;refine(l _ _ _ i q v).mono ?_;rintro e w2 ⟨er,rfl,y,z⟩;have s:=zh y;have t:=zh (aa i z);go_wp2;go_ret;exact⟨er,rfl,s.trans o,t⟩
end
def js (l:List Vr):Nat->List Int
 |0=>[]
 |k+1=>if bY l (k:Nat)=true then js l k++[(k:Int)] else js l k
theorem jR (l:List Vr):∀k,(js l k).length<=k
 |0=>DE _
 |k+1=>by
  have:=jR l k;unfold js;split
  .rw[DI,Ej];omega
  omega
theorem jQ (l:List Vr):∀k,∀i∈js l k,∃j:Nat,i=j/\j<k/\bY l i=true
 |0,i,h=>by cases h
 |k+1,i,h=>by
  unfold js at h;split at h
  .rename_i hr;rcases EK.1 h with h|h
   .have⟨j,e,b,a⟩:=jQ l k i h;exact⟨j,e,by omega,a⟩
   rw[ER.1 h];exact⟨k,rfl,by omega,hr⟩
  have⟨j,e,b,a⟩:=jQ l k i h;exact⟨j,e,by omega,a⟩
def np {l:List Vr} {k:Nat} (h:k<zN l):bY l (k:Nat)=decide ((zG l k vr0).m≠0):=by unfold bY;rw[DR (show(0:Int)<=(k:Int) by omega),DR (show(k:Int)<zN l by omega),Eh];rfl
def hJ (l:List Vr) (r:List Int):Int:=r.foldl (λn i=>n+(zG l i.toNat vr0).w) 0
theorem su (l:List Vr):∀k,k<=zN l->hJ l (js l k)=bX (l.take k)
 |0,_=>rfl
 |k+1,h=>by
  rw[kP (by omega)];have ih:=su l k (by omega);have hm:=np (l:=l) (k:=k) (by omega);unfold js oP;rw[hm];by_cases a:(zG l k vr0).m≠0
  .rw[DR a,DP rfl,DP a];unfold hJ at ih⊢;rw[Fp,ih];rfl
  rw[DJ a,DK (by simp),DK a,ih,Int.add_zero]
section
variable {w:World} {p:Pb} {A1 A2 A3 A4 A5:Option Addr} {c1 c2 c3 c4 c5:Nat}
def evC (b:PIn w p A1 A2 A3 A4 A5 c1 c2 c3 c4 c5) (c:PSm p) (hk:KW w) (hm:de w) (d:PV p):EvC w (pbV p A1 A2 A3 A4 A5 c1 c2 c3 c4 c5):=λW a=>
 (Uz (b.Q a) c (hk.Q a) (hm.Q a)).mono λe w' ⟨er,h1,h2,h3⟩=>⟨by rw[h1,h2.2 d],h3⟩
def IlR (w:World) (l:List Int) (e:Ending) (w':World):Prop:=∃v,e=zE v/\IL w' v l/\zL w w'
def Da (hp:PIn w p A1 A2 A3 A4 A5 c1 c2 c3 c4 c5) (hs:PSm p) (Z:EvC w (pbV p A1 A2 A3 A4 A5 c1 c2 c3 c4 c5)):Calls zz 43 #[pbV p A1 A2 A3 A4 A5 c1 c2 c3 c4 c5] w (IlR w (js p.v (zN p.v))):=by
 have⟨i0,hi,z,A,D⟩:=EX jZ;have⟨HI,Q,R,S,Y⟩:=zk5 hi z A D Z;have CR:=zh fun(W:World) (i:Int) (h:zL w W)=>qu W p.v i A1 A2 A3 A4 A5 c1 (zN p.h) c2 (zN p.s) c3 (zN p.d) c4 (zN p.g) c5 (hp.v.Q h);have⟨T,r⟩:=zv (js p.v);have M:Hid (T 0=[]):=zh (by rw[r];rfl);have P:Hid (∀k:Nat,T (k+1)=if bY p.v (k:Nat)=true then T k++[(k:Int)] else T k):=zh λk=>by rw[r];rfl
 have N:Hid (∀k,(T k).length<=k):=zh λk=>by rw[r];exact jR _ k
 rw[<-r];have aa:=hs.nv;unfold pbV at Y⊢;generalize zN p.v=n1,zN p.h=n2,zN p.s=n3,zN p.d=n4,zN p.g=n5 at*;clear hp hs Z r hi z A D;go_enter func43,ntmps43;go_upto_region 1 with fail;generalize E:w.alloc _=w1 at*;have⟨b,c⟩:=zB1 E;clear E;obtain⟨e,m,n,o,q⟩:=zc5 c;go_wp2;refine zK (Y w1 b) λw2 f=> ?_;replace⟨c,b⟩:=zb2 c b f;clear f;have e:=za c 0;go_wp2;have K:=zh (OG.nil eG w2 w.heap.size 0 3 (by decide) (DH _));go_loopw [3,11] (λsl i wr=>∃k:Nat,k<=n1/\i=zI zi k/\OG eG wr w.heap.size 0 3 sl (T k)/\Box wr w.heap.size #[zU A1 n1 c1,zU A2 n2 c2,zU A3 n3 c3,zU A4 n4 c4,zU A5 n5 c5] 27/\zL w wr) (λ_ i _=>n1-(intOf i).toNat)
 .exact⟨0,DH _,rfl,by rw[M];exact K,c,b⟩
 obtain⟨k,hk,rfl,y,hx,f⟩:=hrel;have⟨b,c,a⟩:=zk3 f hx y;clear f hx y;obtain⟨A6,c6,rfl⟩:=a.slice;by_cases u:k<n1
 .have⟨v,k0⟩:=zln u;have H:=zh λW h=>CR W (k:Nat) h;have l:=zh (P k);have X:=N k;generalize bY p.v (k:Nat)=rv at*;have⟨tl,j⟩:=zvh ((T k).length);rw[<-j] at a X⊢;obtain⟨e,m,n,o,q⟩:=zc5 c;go_wp2;refine zK (H _ b) λG f=> ?_;replace⟨a,c,b⟩:=zb3 a c b f;clear f;cases rv
  .have g:Hid (T (k+1)=T k):=zh (by rw[l,DK (by simp)]);go_wp2;go_roundw
   .exact⟨k+1,by omega,by go_num,by rw[g];exact a,c,b⟩
   simp[intOf];omega
  have g:Hid (T (k+1)=T k++[(k:Int)]):=zh (by rw[l,DP rfl]);have s:=ab G (zC #[zI zi k] 3);have L:=zh (Rs.one (φ:=eG) (w:=G) (F:=Ty (G.alloc (zC #[zI zi k] 3)) 0 eG.ts) (x:=(k:Int)) (us:=[zI zi k]) rfl 3);replace⟨a,c,b⟩:=zb3 a c b s;clear s;go_wp2_with(at_builtin;refine aD (φ:=eG) (T:=3) (B:=w.heap.size) (C:=0) (xs:=T k) (ys:=[(k:Int)]) rfl _ _ 32 rfl i0 (zI zi 0) 8 underlying32 HI Q R S rfl rfl a (zU (some ⟨G.heap.size,0,none⟩) 1 1) rfl L ?c1 ?c2 ?c3 ?_);case c1=>simp only[DF,D8];rw[<-j];omega
  case c2=>simp only[DF,D8];rw[<-j];unfold maxLen;omega
  case c3=>exact b.size
  intro v' w7 d t;have U:=zh (a.boxKept t c (zQ (by decide)));have I:=zh (a.belowG t b b.size (DE _));rw[<-g] at d;obtain⟨A7,c7,rfl⟩:=d.slice;go_wp2;go_roundw
  .exact⟨k+1,by omega,by go_num,d,U,I⟩
  simp[intOf];omega
 have⟨v,V⟩:=zgq hk u;rw[V] at a⊢;have J:=zh a.il;generalize(T n1).length=tl at*;go_wp2;go_ret;exact⟨_,rfl,J,b⟩
theorem Rq (S:PIn w p A1 A2 A3 A4 A5 c1 c2 c3 c4 c5) (U:PSm p) (hE:EvC w (pbV p A1 A2 A3 A4 A5 c1 c2 c3 c4 c5)) (hv:cB p.v):Calls zz 13 #[pbV p A1 A2 A3 A4 A5 c1 c2 c3 c4 c5] w (zR (zI zi (bX p.v)) w):=by
 have E:=zh fun(W:World) (h:zL w W)=>Da (S.Q h) U (λW' h'=>hE W' (aa h h'));unfold IlR at E;have V:=zh S.v;have f:=zh (jQ p.v (zN p.v));have T:=jR p.v (zN p.v);have Q:=U.nv;have J:=zh λv h=>(hv.ok v h).2.1;have X:Hid (hJ p.v ((js p.v (zN p.v)).take (js p.v (zN p.v)).length)=bX p.v):=zh (by rw[Et,su _ _ (DE _),Et]);have g:Hid (∀k,k<(js p.v (zN p.v)).length->hJ p.v ((js p.v (zN p.v)).take (k+1))=hJ p.v ((js p.v (zN p.v)).take k)+(zG p.v ((js p.v (zN p.v)).getD k 0).toNat vr0).w):=zh λk hk=>by unfold hJ;exact nM hk
 generalize js p.v (zN p.v)=R at*;have⟨n1,l⟩:=zv (zN p.v);have HN:=zh l;have⟨m,hm⟩:=zv (zN R);have G:=zh hm;have ag:m<=1000:=by omega
 rw[<-hm] at X g;have r:Hid (∀k,k<=m->0<=hJ p.v (R.take k)/\hJ p.v (R.take k)<=8*k):=zh λk=>by
  induction k with
  |zero=>intro _;exact⟨Int.le_refl _,Int.le_refl _⟩
  |succ k ih=>intro hk;have h1:=ih (by omega);rw[g k (by omega)];have⟨j,e,N,_⟩:=f _ (getD_in 0 (show k<zN R by rw[<-G];omega));have h2:=J _ (getD_in vr0 (show(zG R k 0).toNat<zN p.v by rw[e];simpa using N));omega
 unfold pbV at E⊢;rw[<-l] at E V Q f⊢;generalize zN p.h=n2,zN p.s=n3,zN p.d=n4,zN p.g=n5,bX p.v=B at*;clear S U hE hv l hm T;go_enter func13,ntmps13;go_upto_region 1 with fail;generalize D:w.alloc _=w1 at*;have⟨o,F⟩:=zB1 D;clear D;obtain⟨Y,Z,ab,ac,ad⟩:=zc5 F;go_wp2;refine(E w1 o).mono ?_;rintro e w2 ⟨v,rfl,M,hb⟩;replace⟨F,o⟩:=zb2 F o hb;clear hb;obtain⟨A6,c6,rfl,L,u⟩:=M;have q:=zh u;rw[<-G] at q L⊢;clear u;have I:Hid (hJ p.v (R.take 0)=0):=zh rfl;go_wp2;go_loopw [3,9] (λs i wr=>∃k:Nat,k<=m/\i=zI zi k/\s=zI zi (hJ p.v (R.take k))/\w2=wr) (λ_ i _=>m-(intOf i).toNat)
 .exact⟨0,DH _,rfl,by rw[I],rfl⟩
 obtain⟨k,hk,rfl,rfl,rfl⟩:=hrel;by_cases d:k<m
 .have⟨z,k0⟩:=zln d;obtain⟨a1,rfl,P,A⟩:=q (by omega);have y0:=A k d;have x:=getD_in 0 (show k<zN R by rw[<-G];exact d);obtain⟨j,e,N, -⟩:=f _ x;have a:=zh (g k d);have K:=r k hk;have b:=r (k+1) (by omega);rw[a] at b;have⟨ae,af,e1,_,C⟩:=V.vrs;have⟨bv,ov,e2,t,c⟩:=C j (by rw[<-HN];exact N);obtain rfl:=zas e1 e2;have v1:=(o.cell t).trans (c 1 _ rfl);rw[e] at y0 a b;rw[Eh] at a b;generalize zG p.v j vr0=vr at*;obtain⟨nm,wd,md,vl⟩:=vr;simp only at v1 a b;have j0:=zn0 j;have j1:(j:Int)<(n1:Int):=by omega
  have⟨s1,n⟩:=zv (hJ p.v (R.take (k+1)));have H:=zh n;rw[<-n] at a;generalize hJ p.v (R.take k)=s0 at*;have q1:s0+wd<=9000:=by omega
  have q2:0<=s0+wd:=by omega
  clear n e1 e2 C t c P A x e K b;have x0:=za F 0;go_wp2;go_roundw
  .exact⟨k+1,by omega,by go_num,by rw[<-H,a]<;>go_num,by trivial⟩
  simp[intOf];omega
 have⟨z,y⟩:=zgq hk d;rw[y,X];clear y;go_wp2;go_ret;exact⟨rfl,o⟩
end
section
variable (l:List Vr)
def gh (l:List Vr) (a:List Nat) (k:Nat):List Sg:=(List.range k).map λi=>((zG l i vr0).s,zG a i 0)
def ke (a:List Nat) (k:Nat):(gh l a k).length=k:=by simp[gh]
def C7 (a:List Nat) (k:Nat):gh l a (k+1)=gh l a k++[((zG l k vr0).s,zG a k 0)]:=by unfold gh;rw[List.range_succ,Fl];rfl
def Y7:(zz.info? 170).map (λi=>(i.zero,i.size,i.bytes))=some (some (zX #[zV ⟨#[]⟩,zI zi 0]),2,24):=by kernel_rfl
def SEn (ga b o k:Nat) (c:ByteArray) (d e f:Int) (a:Nat) (W:World):Prop:=Box W ga #[zV c,zI zi d,zI zi e,zI zi f] 98/\W.cell? ⟨b,o+k,none⟩=some (zI zi a)
def EnR (w:World) (l:List Sg) (e:Ending) (w':World):Prop:=∃v,e=zE v/\OG sgR w' w.heap.size 0 170 v l/\zL w w'
def Yt {w:World} {p:Pb} {A1 A2 A3 A4 A5:Option Addr} {c1 c2 c3 c4 c5:Nat} (hp:PIn w p A1 A2 A3 A4 A5 c1 c2 c3 c4 c5) (hs:PSm p) (a:List Nat) (va:Value) (ha:IL w va (nI a)) (hl:zN a=zN p.v):Calls zz 92 #[pbV p A1 A2 A3 A4 A5 c1 c2 c3 c4 c5,va] w (EnR w (gh p.v a (zN p.v))):=by
 have⟨i0,hi,U,V,X⟩:=EX Y7;have⟨HI,ah,ai,aj⟩:=zk4 hi U V X;have HV:=zh hp.v;have al:=hs.nv;have J:=zh (C7 p.v a);have y:=zh (ke p.v a);have I:Hid (gh p.v a 0=[]):=zh rfl;have⟨T,hT⟩:=zv (gh p.v a);rw[<-hT] at J y I⊢;have E:Hid (∀k,k<zN p.v->∃b o c,va=zU (some ⟨b,o,none⟩) (zN p.v) c/\b<w.heap.size/\w.cell? ⟨b,o+k,none⟩=some (zI zi (zG a k 0:Nat))):=zh λk hk=>by
  rcases ha.form with⟨A,c,rfl,hq⟩|⟨b,o,c,rfl,hc, -,j,P⟩
  .have h1:(nI a).length=0:=by rw[hq];rfl
   rw[aF] at h1;omega
  rw[aF] at P⊢;exact⟨b,o,c,by rw[hl],j,by rw[P k (by omega),dV]⟩
 obtain⟨Aa,ca,z, -, -⟩:=ha;rw[aF,hl] at z;have⟨D,HN⟩:=zvh (zN p.v);unfold pbV;rw[<-HN] at HV E z al⊢;subst z;generalize zN p.h=n2,zN p.s=n3,zN p.d=n4,zN p.g=n5 at*;have g0:((D:Int) !=(D:Int))=false:=by simp
 clear hp hs hl hT hi U V X;go_enter func92,ntmps92;go_upto_region 1 with fail;generalize s:w.alloc _=w1 at*;have⟨g,XP⟩:=zB1 s;clear s;have am:=za XP 0;go_wp2;have af:=zh (OG.nil sgR w1 w.heap.size 0 170 (by decide) (DH _));go_loopw [5,17] (λsl i wr=>∃k:Nat,k<=D/\i=zI zi k/\OG sgR wr w.heap.size 0 170 sl (T k)/\zL w wr) (λ_ i _=>D-(intOf i).toNat)
 .exact⟨0,DH _,rfl,by rw[I];exact af,g⟩
 obtain⟨k,hk,rfl,R,hb⟩:=hrel;have⟨g,d⟩:=zk2 hb R;clear hb R;obtain⟨A6,c6,rfl⟩:=d.slice;rw[y] at d⊢;by_cases j:k<D
 .have⟨Q,k0⟩:=zln j;have⟨an,ao,e1,_,S⟩:=HV.vrs;have⟨bv,ov,e2,N,n⟩:=S k (by rw[<-HN];exact j);obtain rfl:=zas e1 e2;obtain⟨v0,v1,v2,v3⟩:=zx4 g N n;rw[Eb] at v0;have⟨b,o,c',e4,h,L⟩:=E k j;obtain⟨rfl,rfl⟩:Aa=some ⟨b,o,none⟩/\ca=c':=by simpa using e4
  have ac:=zh ((g.cell h).trans L);have H:=zh (J k);have G:=zh (y k);generalize zG p.v k vr0=vr at*;obtain⟨l,Y,Z,x4⟩:=vr;simp only at v0 v1 v2 v3 H;generalize zG a k 0=av at*;have m:=h;clear e1 e2 e4 S N n L h;go_upto_region 7 with fail;clear v0 v1 v2 v3;replace d:=zh (d.Q (ab wr (zC #[zV l,zI zi Y,zI zi Z,zI zi x4] 98)));have f:Hid ((wr.alloc (zC #[zV l,zI zi Y,zI zi Z,zI zi x4] 98)).cell? ⟨b,o+k,none⟩=some (zI zi av)):=zh (((ab wr (zC #[zV l,zI zi Y,zI zi Z,zI zi x4] 98)).cell (DU m g.size)).trans ac);generalize s:wr.alloc _=w3 at*;have⟨M,v⟩:=zA1 s;clear s;replace g:=zb g M;clear M;generalize wr.heap.size=ga at*;refine zhd (SEn ga b o k l Y Z x4 av) ⟨v,f⟩ (λhS=> ?_);replace d:=zh (d.Q (ae (w0:=w3) (w3.drawn+1)));replace v:=zh (v.Q (ae (w0:=w3) (w3.drawn+1)));replace f:Hid (w3.drew.cell? ⟨b,o+k,none⟩=some (zI zi av)):=f;replace g:=zh (aa g (ae (w0:=w3) (w3.drawn+1)));change Hid (OG sgR w3.drew _ _ _ _ _) at d;change Hid (Box w3.drew _ _ _) at v;change Hid (Below _ _ w3.drew) at g;generalize w3.drew=w4 at*;refine zta 0 (zU A6 k c6) rfl ?_;refine zta 1 (zP ga) rfl ?_;simp only[zp];refine zt 2 (zV l) rfl (zQ ⟨by rfl,λW hW=>by have q:=hW.1.A 0 _ rfl;go_simp⟩) ?_;refine zta 3 (zU (some ⟨b,o,none⟩) D ca) rfl ?_;refine zta 4 (zI zi k) rfl ?_;refine zta 5 (.pointer (some ⟨b,o+k,none⟩)) rfl ?_;simp only[zp];refine zt 6 (zI zi av) rfl (zQ ⟨by rfl,λW hW=>by have q:=hW.2;go_simp⟩) ?_;refine zta 7 (zX #[zV l,zI zi av]) rfl ?_;simp only[zp];clear hS;refine ay 8 rfl ?_;go_wp2;have h:=ab w4 (zC #[zV l,zI zi av] 170);have ag:=zh (Rs.one (φ:=sgR) (w:=w4) (F:=Ty (w4.alloc (zC #[zV l,zI zi av] 170)) 0 sgR.ts) (x:=(l,av)) (us:=[zV l,zI zi av]) rfl 170);replace⟨d,v⟩:=zb2 d v h;replace f:Hid ((w4.alloc (zC #[zV l,zI zi av] 170)).cell? ⟨b,o+k,none⟩=some (zI zi av)):=zh ((h.cell (DU m g.size)).trans f);replace g:=zb g h;refine⟨rfl,⟨v,f⟩, ?_⟩;refine ay 9 rfl ?_;refine aD (φ:=sgR) (T:=170) (B:=w.heap.size) (C:=0) (xs:=T k) (ys:=[(l,av)]) rfl _ _ 167 rfl i0 (zX #[zV ⟨#[]⟩,zI zi 0]) 24 underlying167 HI ah ai aj rfl rfl d (zU (some ⟨w4.heap.size,0,none⟩) 1 1) rfl ag ?c1 ?c2 ?c3 ?_;case c1=>simp only[DF,D8];rw[G];omega
  case c2=>simp only[DF,D8];rw[G];unfold maxLen;omega
  case c3=>exact g.size
  intro v' w7 r t;have u:Hid (w7.cell? ⟨b,o+k,none⟩=some (zI zi av)):=zh (by rw[<-f];exact World.cell?_of_block (a:=⟨b,o+k,none⟩) (t.block b (DU m g.size) λe=>by have:=d.blk b e.symm;omega));have K:=zh (d.boxKept t v (zQ (by decide)));have ad:=zh (d.belowG t g g.size (DE _));rw[<-H] at r;obtain⟨A7,c7,rfl⟩:=r.slice;refine(show noQ _ _ _ _ from⟨rfl,⟨K,u⟩, ?_⟩);clear t h;simp only[zp];refine ay 10 rfl ?_;go_wp2;refine⟨rfl,⟨K,u⟩,zdn ?_⟩;go_wp2;go_roundw
  .exact⟨k+1,by omega,by go_num,r,ad⟩
  simp[intOf];omega
 have⟨Q,ak⟩:=zgq hk j;rw[ak] at d⊢;go_wp2;go_ret;exact⟨_,rfl,d,g⟩
section
open Go.RowKit
instance {w w':World} {P Q:Prop} [Zm w w' P Q]:Zm w w' (Hid P) (Hid Q):=⟨λhb h=>Zm.mv (P:=P) hb h⟩
end
end
end
end Go.Proofs.YtdahpdnhkflnnaaGreatDoor
