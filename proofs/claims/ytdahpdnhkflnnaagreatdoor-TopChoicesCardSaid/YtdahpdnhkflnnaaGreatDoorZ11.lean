/-
  Contracts and laws for the law TopChoices, part 11 of 14; made small by a program of mine out of longer texts.
-/
import Derived.Test.YtdahpdnhkflnnaaGreatDoorZ10
namespace Go.Proofs.YtdahpdnhkflnnaaGreatDoor
set_option linter.unusedVariables false
set_option linter.unusedSimpArgs false
set_option linter.defProp false
set_option maxRecDepth 100000
set_option maxHeartbeats 64000000
section
open Go.RowKit Go.Maps
theorem pr (d:List Nd) (n m l f k lo hi:Nat) (a:lo=if lvA d f=l then(ndA d f).lo else f) (b:hi=if lvA d f=l then(ndA d f).hi else f):ja d n (m+1) l f k=if dG d n lo (l+1)<=k then true::ja d n m (l+1) hi (k-dG d n lo (l+1)) else false::ja d n m (l+1) lo k:=by
 rw[a,b];rfl
theorem wh {a:List Bool} {n L:Nat} (b:a.length=L) (h:L<n) (q:Bool):(a++List.replicate (n-L) false).set L q=a++[q]++List.replicate (n-(L+1)) false:=by
 have e:n-L=(n-(L+1))+1:=by omega
 rw[BO _ _ (by omega),b,AG,e,List.replicate_succ,Bq,yZ];rfl
theorem v8 {a:List Bool} {n L:Nat} (h:L<n):a++List.replicate (n-L) false=a++[false]++List.replicate (n-(L+1)) false:=by
 have e:n-L=(n-(L+1))+1:=by omega
 rw[e,List.replicate_succ,yZ];rfl
def BL (w:World) (v:Value) (l:List Bool):Prop:=∃g,v= .slice (some ⟨g,0,none⟩) l.length l.length/\Box w g (bA l) 4
theorem BL.below {w w':World} {v:Value} {l:List Bool} (h:BL w v l) (a:Below w.heap.size w w'):BL w' v l:=by
 obtain⟨g,e,b⟩:=h;exact⟨g,e,b.below a⟩
instance {w w':World} {v:Value} {l:List Bool}:Zm w w' (BL w v l) (BL w' v l):=⟨λhb h=>BL.below h hb⟩
theorem ctNth (w:World) (A:Option Addr) (c n K P:Nat) (d:List Nd) (hd:Rs ndR w (.slice A d.length c) d ah) (hD:DV d) (hL:Lim d n) (hn:n<=20) (hf:K<d.length) (aH:P<dG d n K 0):
  Calls Tryz.prog 12 #[.agg #[.slice A d.length c],.int .i64 (K:Nat),.int .i64 (n:Nat),.int .i64 (P:Nat)] w λe w'=>∃v,e= .returned (.tuple #[v,.int .i64 0])/\BL w' v (ja d n n 0 K P)/\Below w.heap.size w w':=by
 have CT:=zh fun(W:World) (h:Below w.heap.size w W)=>ctFits W A c K n d (hd.below h) hD hL hf hn;have CF:=zh fun(W:World) (h:Below w.heap.size w W) (f l:Nat) (hf:f<d.length) (hl:l<=aW d n f)=>ctFrom W A c n f l d (hd.below h) hD hL hn hf hl;have hR:=lx hD hn hL hf (yt (aW d n K));have aD:2^(n-0)<=1048576:=rP (by omega);have aI:P<=1048576:=by omega
 have C0:=zh fun(W:World) (h:Below w.heap.size w W)=>CF.out W h K 0 hf (yt _);obtain⟨HD,ag,aL⟩:=zk3 hd hD hL;have aF:=hD.top;have MB:=jl n (by omega);obtain⟨N,hN⟩:=zv (d.length);have aa:=zh hN;rw[<-hN] at CT CF C0 HD hf aF⊢;obtain⟨R,ao⟩:=zv (dG d n K 0);rw[<-ao] at C0 aH;have q0:¬((P:Int)<0):=by omega
 have q1:¬((R:Int)<=(P:Int)):=by omega
 have q2:decide (R<=P)=false:=by simp;omega
 have q3:decide ((P:Int)<0)=false:=by simp
 clear hd hD hL hN hR aD ao;go_enter Tryz.func12,Tryz.ntmps12;go_upto_region 1 with fail;generalize C:w.alloc _=w1 at*;obtain⟨j,t⟩:=zB1 C;clear C;have D:=za t 0 rfl;go_wp2_with fail;refine(CT w1 j).mono ?_;rintro e w2 ⟨rfl,g⟩;clear D;replace t:=zb t g;replace j:=zb j g;clear g;clear CT;have D:=za t 0 rfl;go_upto_region 4 with fail;clear D;generalize C:w2.alloc _=w3 at*;obtain⟨x,s⟩:=zA1 C;clear C;replace t:=zb t x;replace j:=zb j x;clear x;have am:=za s 0 rfl;have an:=za s 1 rfl;go_wp2_with fail;refine(C0 w3 j).mono ?_;rintro e S ⟨rfl,g⟩;clear am an;replace t:=zb t g;replace s:=zb s g;replace j:=zb j g;clear g;clear C0;have M1:=MB S;go_upto_region 7 with fail;clear M1 MB;have al:=zh j.out.size;generalize C:S.alloc _=w5 at*;obtain⟨x,m⟩:=zA1 C;clear C;replace t:=zb t x;replace s:=zb s x;replace j:=zb j x;clear x;go_wp2_with fail
 go_loopw [1,3,37] (λfv kv iv wr=>∃(L:Nat) (T:List Bool) (f k:Nat),L<=n/\iv= .int .i64 (L:Nat)/\fv= .int .i64 (f:Nat)/\kv= .int .i64 (k:Nat)/\T.length=L/\Hid (T++ja d n (n-L) L f k=ja d n n 0 K P)/\f<N/\Hid (L<=aW d n f)/\k<=1048576/\Box wr S.heap.size (bA (T++List.replicate (n-L) false)) 4/\Box wr w.heap.size #[.slice A N c] 38/\Box wr w2.heap.size #[.slice A N c,.int .i64 (n:Nat)] 93/\Below w.heap.size w wr) (λ_ _ iv _=>n+1-(intOf iv).toNat)
 case atStart=>exact⟨0,[],K,P,yt _,rfl,rfl,rfl,rfl,zh rfl,hf,zh (yt _),aI,m,t,s,j⟩
 case round=>
  obtain⟨L,T,f,k,aO,rfl,rfl,rfl,ap,y,aQ,aC,aR,az,ay,ax,aq⟩:=hrel;clear m t s j;obtain⟨m,t,s,j,u⟩:=zk5 az ay ax aq ap;clear az ay ax aq ap
  by_cases U:L<n
  ·have aw:(L:Int)<(n:Int):=by omega
   have l0:(0:Int)<=(L:Int):=by omega
   have aM:(0:Int)<=(f:Int):=by omega
   have aN:(f:Int)<(N:Int):=by omega
   obtain⟨A',c',e1, -,ar⟩:=HD.out.nds;obtain⟨b,o,rfl,ac,y0,y1,y2⟩:=ar f (by have:=aa.out;omega);simp only[yA] at e1;obtain⟨rfl, -,rfl⟩:=e1;replace y0:=(j.out.cell ac).trans y0;replace y1:=(j.out.cell ac).trans y1;replace y2:=(j.out.cell ac).trans y2;obtain⟨Q,a⟩:=zv (if lvA d f=L then(ndA d f).lo else f);obtain⟨ae,r⟩:=zv (if lvA d f=L then(ndA d f).hi else f);have ak:=zh (pr d n (n-(L+1)) L f k Q ae a r)
   have M:(Q<N/\L+1<=aW d n Q)/\(ae<N/\L+1<=aW d n ae):=by
    have aK:=aC.out;have aP:=aa.out
    by_cases he:lvA d f=L
    ·rw[yz he] at a r;have h2:=(ag.out.lvlt (i:=f) (by omega)).1 (by omega);obtain⟨p1,p2,p3,_,p5,p6⟩:=ag.out.pl f h2 (by omega);rw[a,r];exact⟨⟨by omega,by unfold aW;omega⟩,⟨by omega,by unfold aW;omega⟩⟩
    ·rw[yw he] at a r;rw[a,r];unfold aW at aK⊢;exact⟨⟨by omega,by omega⟩,⟨by omega,by omega⟩⟩
   have Y:=zh M.1.2;have aj:=zh M.2.2;have av:=M.1.1;have au:=M.2.1;have V:=zh λW h=>CF.out W h Q (L+1) (by have:=aa.out;omega) Y;rw[show n-L=(n-(L+1))+1 by omega,ak.out] at y;obtain⟨Z,hZ⟩:=zv (dG d n Q (L+1));rw[<-hZ] at V y;have J:((L+1:Nat):Int)=(L:Int)+1:=by omega
   rw[J] at V;have X:Hid (lvA d f=(ndA d f).lv):=zh rfl;rw[X.out] at a r;generalize(ndA d f).lv=lv at*;generalize(ndA d f).lo=lo at*;generalize(ndA d f).hi=hi' at*;clear M ar hZ ak J X;have D:=za t 0 rfl;go_upto_region 12 with fail;clear D;clear y0 y1 y2;generalize C:wr.alloc _=w6 at*;obtain⟨x,H⟩:=zA1 C;clear C;replace t:=zb t x;replace s:=zb s x;replace m:=zb m x;replace j:=zb j x;clear x
   by_cases he:lv=L
   ·have aG:((lv:Int)==(L:Int))=true:=by simp;omega
    rw[yz he] at a r;clear he;obtain⟨B,z⟩:=zk2 a r;rw[a] at V;clear a r;have I:=za H 0 rfl;go_upto_region 13 with fail;clear I;have x1:=H.out.lat 1 _ rfl;have x2:=H.out.lat 2 _ rfl;refine aJ (by kernel_rfl) (by kernel_rfl) ?_
    repeat(go_big_quiet_step (fail))
    refine yN ?_;intro aA g;clear x1 x2;replace t:=zb t g;replace s:=zb s g;replace m:=zb m g;replace H:=zb H g;replace j:=zb j g;clear g;go_upto_region 14 with fail
    by_cases E:Z<=k
    ·have ad:(Z:Int)<=(k:Int):=by omega
     rw[yz E] at y;have x0:=m.out.at_ L _ (is (q:=false) (by rw[yG (by rw[u.out];exact yq _),u.out,AG,Bg,yz (by omega)]));have x1:=m.out.frozen L;have x2:=m.out.lt;have F:=za s 0 rfl;have G:=za s 1 rfl;go_wp2_with fail;clear F G x0 x1 x2;refine(V aA j).mono ?_;rintro e w7 ⟨rfl,g⟩;replace t:=zb t g;replace s:=zb s g;replace m:=zb m g;replace H:=zb H g;replace j:=zb j g;clear g;have x0:=m.out.at_ L _ (is (q:=false) (by rw[yG (by rw[u.out];exact yq _),u.out,AG,Bg,yz (by omega)]));have x1:=m.out.frozen L;have x2:=m.out.lt;go_wp2_with fail;go_roundw
     ·refine⟨L+1,T++[true],hi',k-Z,by omega,by go_num,rfl,by rw[Int.natCast_sub E],by rw[yu,u.out];rfl,zh (by rw[<-y.out,yZ,z.out];rfl),by rw[<-z.out];exact au,by rw[<-z.out];exact aj,by omega, ?_,t.out.setNe (p:=⟨S.heap.size,L,none⟩) (af m t (by decide)) _,s.out.setNe (p:=⟨S.heap.size,L,none⟩) (af m s (by decide)) _,j.out.setCell (p:=⟨S.heap.size,L,none⟩) al _⟩;have:=m.out.set_ L (.bool true);rw[qT,wh u.out U] at this;exact this
     ·simp[intOf];omega
    ·have ad:¬(Z:Int)<=(k:Int):=by omega
     rw[yw E] at y;have F:=za s 0 rfl;have G:=za s 1 rfl;go_wp2_with fail;clear F G;refine(V aA j).mono ?_;rintro e w7 ⟨rfl,g⟩;replace t:=zb t g;replace s:=zb s g;replace m:=zb m g;replace H:=zb H g;replace j:=zb j g;clear g;go_wp2_with fail;go_roundw
     ·refine⟨L+1,T++[false],lo,k,by omega,by go_num,rfl,rfl,by rw[yu,u.out];rfl,zh (by rw[<-y.out,yZ,B.out];rfl),by rw[<-B.out];exact av,by rw[<-B.out];exact Y,by omega, ?_,t,s,j⟩;have:=m.out;rw[v8 U] at this;exact this
     ·simp[intOf];omega
   ·have aG:((lv:Int)==(L:Int))=false:=by simp;omega
    rw[yw he] at a r;clear he;obtain⟨B,z⟩:=zk2 a r;rw[a] at V;clear a r;have I:=za H 0 rfl;go_upto_region 14 with fail;clear I
    by_cases E:Z<=k
    ·have ad:(Z:Int)<=(k:Int):=by omega
     rw[yz E] at y;have x0:=m.out.at_ L _ (is (q:=false) (by rw[yG (by rw[u.out];exact yq _),u.out,AG,Bg,yz (by omega)]));have x1:=m.out.frozen L;have x2:=m.out.lt;have F:=za s 0 rfl;have G:=za s 1 rfl;go_wp2_with fail;clear F G x0 x1 x2;refine(V w6 j).mono ?_;rintro e w7 ⟨rfl,g⟩;replace t:=zb t g;replace s:=zb s g;replace m:=zb m g;replace H:=zb H g;replace j:=zb j g;clear g;have x0:=m.out.at_ L _ (is (q:=false) (by rw[yG (by rw[u.out];exact yq _),u.out,AG,Bg,yz (by omega)]));have x1:=m.out.frozen L;have x2:=m.out.lt;go_wp2_with fail;go_roundw
     ·refine⟨L+1,T++[true],f,k-Z,by omega,by go_num,rfl,by rw[Int.natCast_sub E],by rw[yu,u.out];rfl,zh (by rw[<-y.out,yZ,z.out];rfl),by rw[<-z.out];exact au,by rw[<-z.out];exact aj,by omega, ?_,t.out.setNe (p:=⟨S.heap.size,L,none⟩) (af m t (by decide)) _,s.out.setNe (p:=⟨S.heap.size,L,none⟩) (af m s (by decide)) _,j.out.setCell (p:=⟨S.heap.size,L,none⟩) al _⟩;have:=m.out.set_ L (.bool true);rw[qT,wh u.out U] at this;exact this
     ·simp[intOf];omega
    ·have ad:¬(Z:Int)<=(k:Int):=by omega
     rw[yw E] at y;have F:=za s 0 rfl;have G:=za s 1 rfl;go_wp2_with fail;clear F G;refine(V w6 j).mono ?_;rintro e w7 ⟨rfl,g⟩;replace t:=zb t g;replace s:=zb s g;replace m:=zb m g;replace H:=zb H g;replace j:=zb j g;clear g;go_wp2_with fail;go_roundw
     ·refine⟨L+1,T++[false],f,k,by omega,by go_num,rfl,rfl,by rw[yu,u.out];rfl,zh (by rw[<-y.out,yZ,B.out];rfl),by rw[<-B.out];exact av,by rw[<-B.out];exact Y,by omega, ?_,t,s,j⟩;have:=m.out;rw[v8 U] at this;exact this
     ·simp[intOf];omega
  ·have aw:¬(L:Int)<(n:Int):=by omega
   have ab:L=n:=by omega
   rw[ab,AG] at y m
   have ai:Hid (T=ja d n n 0 K P):=zh (by
    have:=y.out;rw[show ja d n 0 n f k=[] from rfl,AT] at this
    exact this)
   rw[List.replicate_zero,AT] at m;have aB:=zh ab;clear y ab;go_wp2_with fail;go_ret2;have aE:T.length=n:=by rw[u.out,aB.out]
   refine⟨.slice (some ⟨S.heap.size,0,none⟩) n n,rfl,⟨S.heap.size, ?_,by rw[<-ai.out];exact m⟩,j⟩;rw[<-ai.out,aE]
theorem sumC_0 (d:List Nd) (wt:Nat->Nat->Nat) (l i:Nat) (a:List Wd):jm d wt l i a 0=0:=by cases a<;>rfl
structure GrS (w:World) (vars:List Vr) (lev:List Int) (fx:List (Int×Int)) (off:Nat) (gn:List Nat) (vs:List Wd):Prop where
 vl:vars.length<=16
 ll:lev.length=vars.length
 gl:gn.length=vs.length
 gl2:gn.length<=16
 at_:∀j,j<gn.length->gn.getD j 0<vars.length/\(vars.getD (gn.getD j 0) vr0).width=((vs.getD j ⟨0,none⟩).w:Nat)/\(1<=(vs.getD j ⟨0,none⟩).w/\(vs.getD j ⟨0,none⟩).w<=8)/\lev.getD (gn.getD j 0) 0=((off+bR (vs.take j):Nat):Int)/\off+bR (vs.take j)+(vs.getD j ⟨0,none⟩).w<=20/\cq fx ((gn.getD j 0:Nat):Int)=(vs.getD j ⟨0,none⟩).fixed.map (λx:Nat=>(x:Int))/\∀x,(vs.getD j ⟨0,none⟩).fixed=some x->x<2^(vs.getD j ⟨0,none⟩).w
structure WtC (w:World) (fw:Nat) (cw:Array Value) (gn:List Nat) (wt:Nat->Nat->Nat):Prop where
 enter:∀args W,(callFunc fw args).run Tryz.prog W= .ok (.enter fw args) W
 le:∀j v,wt j v<=dF
 call:∀j v W,j<gn.length->v<256->Below w.heap.size w W->Calls Tryz.prog fw (#[.int .i64 ((gn.getD j 0:Nat):Int),.int .i64 (v:Nat)]++cw) W λe W'=>e= .returned (.int .i64 ((wt j v:Nat):Int))/\Below W.heap.size W W'
theorem wf_lim {n:Nat} (h:n<=dF):(Lit.int .i64 (n:Int)).wf=true:=by
 unfold dF at h;have a:IntKind.i64.min= -9223372036854775808:=rfl;have b:IntKind.i64.max=9223372036854775807:=rfl;simp[Lit.wf,a,b];omega
theorem vals_fx {a:List (Int×Int)} {i:Nat} {v:Wd} (h:cq a (i:Int)=v.fixed.map (λx:Nat=>(x:Int))):pd a i v.w=nI (aR v):=by
 unfold pd aR;rw[h]
 cases v.fixed with
 |some x=>rfl
 |none=>rfl
theorem vals_256 {v:Wd} (b:v.w<=8) (c:∀x,v.fixed=some x->x<2^v.w):∀x∈aR v,x<256:=by
 have hp:2^v.w<=256:=by have:=AC (n:=2) (by omega) b;simpa using this
 intro x a;unfold aR at a
 cases hq:v.fixed with
 |some y=>
  rw[hq] at a;have:=c y hq;rw[AW.1 a];omega
 |none=>
  rw[hq] at a;have:=BI.1 a;omega
theorem rb {v:Wd} (a:v.w<=8):(aR v).length<=256:=by
 have hp:2^v.w<=256:=by have:=AC (n:=2) (by omega) a;simpa using this
 exact yK (p8 v) hp
def SmR (d:List Nd) (wt:Nat->Nat->Nat) (f:Nat) (g:List Wd) (a c h:Nat) (i:List ((Int×Int)×Int)) (W:World) (e:Ending) (W':World):Prop:=
 e= .returned (.int .i64 ((jm d wt (f+bR (g.take a)) a (g.drop a) c:Nat):Int))/\W.grownBy W' (some h)/\∃b,bY φP W' h b/\mh d wt f g b/\b.length<=i.length+jp (g.drop a)
theorem jg {w W W':World} {a:Nat} (b:Below w.heap.size w W) (c:W.grownBy W' (some a)) (hk:w.heap.size<=a):Below w.heap.size w W':=b.grown c b.size (λk e=>by cases e;exact hk)
def SQ1 (b a f:Nat) (W:World):Prop:=Box W b #[.int .i64 (a:Nat),.int .i64 (f:Nat)] 224
theorem pi (w:World) (gs:Nat) (A1 Ad:Option Addr) (c1 cd:Nat) (H S D G RU LV:Value) (Q:Nat) (z:Bool) (fw:Nat) (cw:Array Value) (vars:List Vr) (az:List Int) (d:List Nd) (wt:Nat->Nat->Nat)
  (hx:Box w gs (spC (.slice A1 vars.length c1) H S D G RU LV (.slice Ad d.length cd) Q z (.func (.func fw) #[] cw)) 89) (hv:Rs vrR w (.slice A1 vars.length c1) vars ah) (hl:IL w LV az) (hd:Rs ndR w (.slice Ad d.length cd) d ah) (hD:DV d)
  (gn:List Nat) (c:List Wd) (vg:Value) (bw:IL w vg (nI gn)) (fv:Value) (fx:List (Int×Int)) (aY:FxV w fv fx) (g:Nat) (hG:GrS w vars az fx g gn c) (u:WtC w fw cw gn wt)
  (at_:Nat) (bq:at_<=gn.length)
  (IH:at_<gn.length->∀(W:World) (r a:Nat) (s:List ((Int×Int)×Int)),Below w.heap.size w W->w.heap.size<=r->bY φP W r s->mh d wt g c s->s.length+jp (c.drop (at_+1))<=2000000->a<d.length→
   Calls Tryz.prog 148 #[.pointer (some ⟨gs,0,none⟩),vg,fv,.map (some r),.agg #[.int .i64 ((at_:Int)+1),.int .i64 (a:Nat)]] W (SmR d wt g c (at_+1) a r s W))
  (W:World) (r a:Nat) (s:List ((Int×Int)×Int)) (f:Below w.heap.size w W) (aZ:w.heap.size<=r) (hm:bY φP W r s) (a6:mh d wt g c s) (af:s.length+jp (c.drop at_)<=2000000) (hn:a<d.length):
  Calls Tryz.prog 148 #[.pointer (some ⟨gs,0,none⟩),vg,fv,.map (some r),.agg #[.int .i64 (at_:Nat),.int .i64 (a:Nat)]] W (SmR d wt g c at_ a r s W):=by
 have bC:=hD.top;have eg:=u.enter;obtain⟨HV,HX,HL,HD,ak,aH⟩:=zk6 hv hx hl hd hD aY;obtain⟨HG,HW,HI,m,n,o⟩:=zk6 hG u IH f hm a6;obtain⟨Z,HN⟩:=zk2 af hn;obtain⟨Ag,cg,rfl, -,au⟩:=bw;have a4:(nI gn).length=gn.length:=aF _;rw[a4] at au HI⊢;have aK:=zh au;have a7:=hG.gl2;obtain⟨gl,K⟩:=zv (gn.length);have C:=zh K;rw[<-K] at bq a7 HI aK⊢;have bD:=hm.lt;clear hx hv hl hd hD aY hG u IH f hm a6 af au a4 K;have a0:(0:Int)<=(at_:Int):=by omega
 go_enter Tryz.func148,Tryz.ntmps148;go_upto_region 1 with fail;generalize bi:W.alloc _=w1 at*;obtain⟨U,j⟩:=zA1 bi;clear bi;have b:=zh (aI (row:=some r) U);replace m:=zb m U;replace n:=zb n U;clear U;have bg:=za j 0 rfl;have bh:=za j 1 rfl
 by_cases n0:a=0
 ·subst n0;clear eg;go_wp2_with fail;go_ret;exact⟨by rw[sumC_0];rfl,b,s,n,o,Nat.le_add_right _ _⟩
 have n1:((a:Int)==0)=false:=by simp;omega
 by_cases ha:at_=gl
 ·subst ha
  have HE:Hid (jm d wt (g+bR (c.take at_)) at_ (c.drop at_) a=1):=zh (by
   rw[List.drop_of_length_le (by rw[<-HG.out.gl,<-C.out];exact yq _)];show(if a=0 then 0 else 1)=1
   rw[yw n0])
  clear eg;go_wp2_with fail;go_ret;exact⟨by rw[HE.out];rfl,b,s,n,o,Nat.le_add_right _ _⟩
 have a1:((at_:Int)==(gl:Int))=false:=by simp;omega
 have a2:at_<gl:=by omega
 have a3:(at_:Int)<(gl:Int):=by omega
 have I:(Instr.lookup 222 (.map (some r)) (.agg #[.int .i64 (at_:Nat),.int .i64 (a:Nat)]) true).run Tryz.prog w1= .ok (match cq s ((at_:Int),(a:Int)) with
   |some i=> .tuple #[.int .i64 i,.bool true]
   |none=> .tuple #[.int .i64 0,.bool false]) w1:=n.out.look2 (mT:=222) Tryz.underlying222 (x:=((at_:Int),(a:Int))) ⟨i4 (by omega),i4 (by omega)⟩
 cases hq:cq s ((at_:Int),(a:Int)) with
 |some y=>
  rw[hq] at I;simp only at I;have HE:=zh (o at_ a y hq);clear hq eg;go_wp2_with fail;go_ret;exact⟨by rw[HE.out];rfl,b,s,n,o,Nat.le_add_right _ _⟩
 |none=>
  rw[hq] at I;simp only at I;clear hq;have aJ:=zh (HG.out.at_ at_ (by rw[<-C.out];exact a2));obtain⟨ag,rfl,aW,aV⟩:=aK.out (by omega);have bf:=aV at_ a2;have aT:(nI gn).getD at_ 0=((gn.getD at_ 0:Nat):Int):=eO _ _;rw[aT] at bf;have aG:=zh fun(x:Nat) (W':World) (hx:x<256) (h:Below w.heap.size w W')=>HW.out.call at_ x W' (by rw[<-C.out];exact a2) hx h;have aq:c.drop at_=c.getD at_ ⟨0,none⟩::c.drop (at_+1):=qH (by rw[<-HG.out.gl,<-C.out];exact a2)
  have bt:bR (c.take (at_+1))=bR (c.take at_)+(c.getD at_ ⟨0,none⟩).w:=by
   have a8:at_<c.length:=by rw[<-HG.out.gl,<-C.out];exact a2
   rw[Am,yp a8,qX,yj,yp a8]
   rfl
  have T:=zh (HI a2);clear aT aV;generalize gn.getD at_ 0=ix at*;generalize bv:c.getD at_ ⟨0,none⟩=v at*;clear bv;obtain⟨g1,g2,g3,g4,g5,g6,g7⟩:=aJ.out;obtain⟨L,ao⟩:=zv (g+bR (c.take at_));have aU:g+bR (c.take (at_+1))=L+v.w:=by omega
  rw[<-ao] at g4 g5;have R:=zh fun(W':World) (h:Below w.heap.size w W')=>rnValues W' gs A1 c1 H S D G RU LV (.slice Ad d.length cd) Q z (.func (.func fw) #[] cw) vars (HX.out.below h) (HV.out.below h) ix g1 (by have:=HG.out.vl;omega) v.w g2 g3.2 fv fx (aH.out.below h);rw[vals_fx g6,aF] at R;have aC:=zh fun(W':World) (h:Below w.heap.size w W') (x:Nat) (hx:x<256)=>wU W' gs A1 Ad c1 cd H S D G RU LV Q z (.func (.func fw) #[] cw) vars az d (HX.out.below h) (HV.out.below h) (HL.out.below h) (HD.out.below h) ak ix g1 (by rw[HG.out.ll];exact g1) v.w L x a g2 g4 g5 (by omega) HN;obtain⟨A,ar⟩:=zv (λx=>j4 (wt at_ x) (jm d wt (L+v.w) (at_+1) (c.drop (at_+1)) (bV d L (vb v.w x) a)):Nat->Nat);have bk:Hid (∀x,A x=j4 (wt at_ x) (jm d wt (L+v.w) (at_+1) (c.drop (at_+1)) (bV d L (vb v.w x) a))):=zh λx=>by rw[ar]
  have J:Hid (jm d wt (g+bR (c.take at_)) at_ (c.drop at_) a=iW A (aR v)):=zh (by
   rw[aq,<-ao,ar];show(if a=0 then 0 else _)=_
   rw[yw n0])
  have F:Hid (jp (c.drop at_)=1+(aR v).length*jp (c.drop (at_+1))):=zh (by rw[aq];rfl);have an:=zh (vals_256 g3.2 g7);have al:=rb (v:=v) g3.2;have bj:Hid (∀x,bV d L (vb v.w x) a<d.length):=zh λx=>oK ak _ _ _ HN (by rw[i5];exact g5);have aN:Hid (∀x,jm d wt (L+v.w) (at_+1) (c.drop (at_+1)) (bV d L (vb v.w x) a)<=dF):=zh λx=>uG _ _ _ _ _ _;have bn:Hid (∀x,wt at_ x<=dF):=zh λx=>HW.out.le at_ x
  have aO:Hid (∀l,mh d wt g c l->mh d wt g c ((((at_:Int),(a:Int)),((iW A (aR v):Nat):Int))::l)):=zh λl h=>by
   have:=h.put at_ a;rw[J.out] at this;exact this
  replace T:Hid (∀(W:World) (a:Nat) (s:List ((Int×Int)×Int)),Below w.heap.size w W->bY φP W r s->mh d wt g c s->s.length+jp (c.drop (at_+1))<=2000000->a<d.length->Calls Tryz.prog 148 #[.pointer (some ⟨gs,0,none⟩),.slice (some ag) gl cg,fv,.map (some r),.agg #[.int .i64 ((at_:Int)+1),.int .i64 (a:Nat)]] W (λe W'=>
    e= .returned (.int .i64 ((jm d wt (L+v.w) (at_+1) (c.drop (at_+1)) a:Nat):Int))/\W.grownBy W' (some r)/\∃l,bY φP W' r l/\mh d wt g c l/\l.length<=s.length+jp (c.drop (at_+1)))):=zh λW' nd l h1 h2 h3 h4 h5=>by
   have:=T.out W' r nd l h1 aZ h2 h3 h4 h5;unfold SmR at this;rw[aU] at this;exact this
  have E:Hid (s.length+(1+(aR v).length*jp (c.drop (at_+1)))<=2000000):=zh (by rw[<-F.out];exact Z);have bo:w.cell? ⟨gs,10,none⟩=some (.func (.func fw) #[] cw):=HX.out.at_ 10 _ rfl;have a5:=HX.out.lt;clear HI aJ HW aq bt g1 g2 g3 g4 g5 g6 g7 aU ao ar Z HV HX HL HD ak aH HG;generalize aR v=vl at*;generalize jp (c.drop (at_+1))=ins at*;generalize jm d wt (L+v.w) (at_+1) (c.drop (at_+1))=SC at*;obtain⟨vn,ax⟩:=zv (vl.length);have aS:=zh ax;rw[<-ax] at R al E F;clear ax;have y0:=(m.out.cell (by rw[aP];exact aW)).trans bf;have br:=n.out.lt;go_wp2_with fail;clear y0 bg bh I;refine(R w1 m).mono ?_;rintro e w2 ⟨g9,rfl,V,P,f⟩;have t:=zh P;have bA:r≠g9:=by omega
  replace j:=zb j f;replace n:=zb n f;replace b:=zh (ap b (aI f));replace m:=zb m f;clear f P R br V;have bB:r≠W.heap.size:=by omega
  generalize W.heap.size=gq at*;go_wp2_with fail
  go_loopw [13,46] (λsv iv wr=>∃(k:Nat) (l:List ((Int×Int)×Int)),k<=vn/\iv= .int .i64 (k:Nat)/\sv= .int .i64 ((iW A (vl.take k):Nat):Int)/\Box wr g9 (iA (nI vl)) 3/\Box wr gq #[.int .i64 (at_:Nat),.int .i64 (a:Nat)] 224/\bY φP wr r l/\mh d wt g c l/\l.length<=s.length+k*ins/\Below w.heap.size w wr/\W.grownBy wr (some r)) (λ_ iv _=>vn+1-(intOf iv).toNat)
  case atStart=>exact⟨0,s,yt _,rfl,rfl,t,j,n,o,by omega,m,b⟩
  case round=>
   obtain⟨k,ay,hk,rfl,rfl,P,be,Y,ac,ai,aX,ab⟩:=hrel;clear t j n o m b;obtain⟨t,j,n,o,am,m⟩:=zk6 P be Y ac ai aX;have b:=zh ab;clear P be Y ac ai aX ab
   by_cases a9:k<vn
   ·have ba:(k:Int)<(vn:Int):=by omega
    have k0:(0:Int)<=(k:Int):=by omega
    have X:k<vl.length:=by rw[<-aS.out];exact a9
    have x0:=t.out.at_ k _ (du (by rw[aF];exact X));rw[eO] at x0;have N:=an.out (vl.getD k 0) (getD_in 0 X)
    have aQ:Hid (iW A (vl.take (k+1))=kF (iW A (vl.take k)) (j4 (wt at_ (vl.getD k 0)) (SC (bV d L (vb v.w (vl.getD k 0)) a)))):=zh (by
     rw[fj (d:=0) X,pS,bk.out])
    have aa:=bj.out (vl.getD k 0);have bs:=aN.out (vl.getD k 0);have Y:=bn.out (vl.getD k 0);have aA:=zh λW' h=>aC.out W' h (vl.getD k 0) N;have aE:=zh λW' h=>aG.out (vl.getD k 0) W' N h;have bp:=qW A (vl.take k);obtain⟨s1,aw⟩:=zv (iW A (vl.take (k+1)));have bm:=zh aw;rw[<-aw] at aQ;clear aw;generalize iW A (vl.take k)=s0 at*;generalize wt at_ (vl.getD k 0)=wx at*;generalize vl.getD k 0=x at*;generalize bV d L (vb v.w x) a=nd at*
    have aD:=zh fun(W':World) (h:Below w.heap.size w W') (hm:bY φP W' r ay)=>T.out W' nd ay h hm o (by
     have h1:=E.out;have h2:=am.out;have h3:k*ins+ins<=vn*ins:=by rw[<-Nat.succ_mul];exact Nat.mul_le_mul_right _ a9
     omega) aa
    clear aC aG T X aa;go_upto_region 13 with fail;clear x0;refine Ab (S:=SQ1 gq at_ a) (by kernel_rfl) j (λhS=> ?_);have B:Below wr.heap.size wr wr.drew:=ae _;replace t:=zb t B;replace j:=zb j B;replace n:=zb n B;replace b:=zh (ap b (aI B));replace m:=zb m B;clear B;generalize wr.drew=w3 at*;refine zt 0 (.pointer (some ⟨gs,0,none⟩)) rfl (Or.inl ⟨by rfl,λW u=>by go_simp⟩) ?_;simp only[zp];refine zt 1 (.slice (some ag) gl cg) rfl (Or.inl ⟨by rfl,λW u=>by go_simp⟩) ?_;simp only[zp];refine zt 2 (fv) rfl (Or.inl ⟨by rfl,λW u=>by go_simp⟩) ?_;simp only[zp];refine zt 3 (.map (some r)) rfl (Or.inl ⟨by rfl,λW u=>by go_simp⟩) ?_;simp only[zp];refine zt 4 (.pointer (some ⟨gq,0,none⟩)) rfl (Or.inl ⟨by rfl,λW u=>by go_simp⟩) ?_;simp only[zp];refine zt 5 (.int .i64 (at_:Nat)) rfl (Or.inl ⟨by rfl,λW u=>by have q:=u.at_ 0 _ rfl;go_simp⟩) ?_;simp only[zp];refine zt 6 (.int .i64 ((at_:Int)+1)) rfl (Or.inl ⟨by rfl,λW u=>by have q:IntKind.i64.wrap ((at_:Int)+1)=(at_:Int)+1:=Bt _ (by omega);go_simp⟩) ?_;simp only[zp];refine zt 7 (.pointer (some ⟨gs,0,none⟩)) rfl (Or.inl ⟨by rfl,λW u=>by go_simp⟩) ?_;simp only[zp];refine zt 8 (.pointer (some ⟨gq,1,none⟩)) rfl (Or.inl ⟨by rfl,λW u=>by go_simp⟩) ?_;simp only[zp];refine zt 9 (.int .i64 (a:Nat)) rfl (Or.inl ⟨by rfl,λW u=>by have q:=u.at_ 1 _ rfl;go_simp⟩) ?_;simp only[zp];refine zt 10 (.int .i64 (ix:Nat)) rfl (Or.inl ⟨by rfl,λW u=>by go_simp⟩) ?_;simp only[zp];refine zt 11 (.int .i64 (x:Nat)) rfl (Or.inl ⟨by rfl,λW u=>by go_simp⟩) ?_;simp only[zp];clear hS;refine aB (i:=12) (by kernel_rfl) rfl ?_;go_wp2_with fail;refine(aA w3 m).mono ?_;rintro e w4 ⟨rfl,f⟩;replace t:=zb t f;replace j:=zb j f;replace n:=zb n f;replace b:=zh (ap b (aI f));replace m:=zb m f;clear f aA;go_wp2_with fail;refine⟨rfl,j, ?_⟩;refine aB (i:=13) (by kernel_rfl) rfl ?_;go_wp2_with fail;refine⟨rfl,j, ?_⟩;refine aB (i:=14) (by kernel_rfl) rfl ?_;go_wp2_with fail;refine(aD w4 m n).mono ?_;rintro e w5 ⟨rfl,hg,bx,bb,ad,bz⟩;replace t:=zg t hg (by omega);replace j:=zg j hg (by omega);replace n:=zh bb;replace o:=zh ad;replace b:=zh (ap b hg);replace m:=zh (jg m hg aZ);clear hg bb ad aD;go_wp2_with fail;refine⟨rfl,j, ?_⟩;refine aB (i:=15) (by kernel_rfl) rfl ?_;go_wp2_with fail;refine⟨rfl,j,AN (by kernel_rfl) ?_ _⟩;have xg:=(m.out.cell (p:=⟨gs,10,none⟩) a5).trans bo;go_wp2_with fail;clear xg;refine(aE w5 m).mono ?_;rintro e w6 ⟨rfl,f⟩;replace t:=zb t f;replace j:=zb j f;replace n:=zb n f;replace b:=zh (ap b (aI f));replace m:=zb m f;clear f aE;have CT:=zh (rnTimes w6 wx (SC nd) Y bs);have bd:j4 wx (SC nd)<=dF:=Nat.min_le_right _ _;generalize j4 wx (SC nd)=mm at*;generalize SC nd=sn at*;go_wp2_with fail;refine CT.out.mono ?_;rintro e w7 ⟨rfl,f⟩;replace t:=zb t f;replace j:=zb j f;replace n:=zb n f;replace b:=zh (ap b (aI f));replace m:=zb m f;clear f CT;have CP:=zh (rnPlus w7 s0 mm bp bd);rw[<-aQ.out] at CP;go_wp2_with fail;refine CP.out.mono ?_;rintro e w8 ⟨rfl,f⟩;replace t:=zb t f;replace j:=zb j f;replace n:=zb n f;replace b:=zh (ap b (aI f));replace m:=zb m f;clear f CP;go_wp2_with fail;go_roundw
    ·exact⟨k+1,bx,by omega,by go_num,by rw[bm.out],t,j,n,o,by have:=am.out;rw[Nat.succ_mul];omega,m,b⟩
    ·simp[intOf];omega
   ·have ba:¬(k:Int)<(vn:Int):=by omega
    have av:k=vn:=by omega
    have HF:Hid (iW A (vl.take k)=iW A vl):=zh (by rw[av,aS.out,Ay]);rw[HF.out];have M:ay.length+1<=s.length+(1+vn*ins):=by have:=am.out;rw[av] at this;omega
    obtain⟨w9,hu,bc,V⟩:=n.out.upd (mT:=222) Tryz.underlying222 (x:=((at_:Int),(a:Int))) ⟨i4 (by omega),i4 (by omega)⟩ (i:=((iW A vl:Nat):Int)) (wf_lim (qW _ _)) (by have:=E.out;unfold maxLen;omega);have bu:(Instr.mapUpdate 222 (.map (some r)) (.agg #[.int .i64 (at_:Nat),.int .i64 (a:Nat)]) (.int .i64 ((iW A vl:Nat):Int))).run Tryz.prog wr= .ok () w9:=hu;have bg:=za j 0 rfl;have bh:=za j 1 rfl;obtain⟨aM,bl,aL⟩:=zk3 bc V M;clear hu bc V M av;obtain⟨bE,aj⟩:=zv (iW A vl);rw[<-aj] at bu aM J aO⊢;clear aj;go_wp2_with fail;go_ret;exact⟨by rw[J.out];rfl,ap b bl,_,aM,aO _ o,by rw[F.out];exact aL⟩
theorem rD (w:World) (gs:Nat) (A1 s:Option Addr) (c1 u:Nat) (H S D G B t:Value) (f:Nat) (c:Bool) (y:Nat) (v:Array Value) (vars:List Vr) (j:List Int) (d:List Nd) (wt:Nat->Nat->Nat)
  (N:Box w gs (spC (.slice A1 vars.length c1) H S D G B t (.slice s d.length u) f c (.func (.func y) #[] v)) 89) (M:Rs vrR w (.slice A1 vars.length c1) vars ah) (K:IL w t j) (J:Rs ndR w (.slice s d.length u) d ah) (C:DV d)
  (gn:List Nat) (r:List Wd) (A:Value) (q:IL w A (nI gn)) (x:Value) (z:List (Int×Int)) (n:FxV w x z) (g:Nat) (E:GrS w vars j z g gn r) (F:WtC w y v gn wt):∀(m a:Nat),a+m=gn.length→
  ∀(W:World) (k b:Nat) (l:List ((Int×Int)×Int)),Below w.heap.size w W->w.heap.size<=k->bY φP W k l->mh d wt g r l->l.length+jp (r.drop a)<=2000000->b<d.length→
  Calls Tryz.prog 148 #[.pointer (some ⟨gs,0,none⟩),A,x,.map (some k),.agg #[.int .i64 (a:Nat),.int .i64 (b:Nat)]] W (SmR d wt g r a b k l W)
 |0,a,h=>λW k b l I o hm p i L=>pi w gs A1 s c1 u H S D G B t f c y v vars j d wt N M K J C gn r A q x z n g E F a (by omega) (λh=>by omega) W k b l I o hm p i L
 |m+1,a,h=>λW k b l I o hm p i L=>pi w gs A1 s c1 u H S D G B t f c y v vars j d wt N M K J C gn r A q x z n g E F a (by omega) (λP=>by
   have:=rD w gs A1 s c1 u H S D G B t f c y v vars j d wt N M K J C gn r A q x z n g E F m (a+1) (by omega);have e:((a+1:Nat):Int)=(a:Int)+1:=by omega
   rw[e] at this
   exact this) W k b l I o hm p i L
theorem insW_le {a:List Wd} (h:∀v∈a,1<=v.w) (b:bR a<=20):jp a<=1048576:=by
 have c:=vz a h;have d:=rP b;omega
theorem rnSum0 (w:World) (gs:Nat) (A1 r A5:Option Addr) (c1 u c5:Nat) (H S D K t:Value) (a:Nat) (z:Nat) (x:Array Value) (vars:List Vr) (f:List Int) (d:List Nd) (wt:Nat->Nat->Nat)
  (F:Box w gs (spC (.slice A1 vars.length c1) H S D (.slice A5 1 c5) K t (.slice r d.length u) a true (.func (.func z) #[] x)) 89) (q:Rs vrR w (.slice A1 vars.length c1) vars ah) (U:IL w t f) (P:Rs ndR w (.slice r d.length u) d ah) (M:DV d) (hr:a<d.length)
  (gn:List Nat) (h:List Wd) (k:Rs ilR w (.slice A5 1 c5) [nI gn] ah) (y:Value) (A:List (Int×Int)) (i:FxV w y A) (p:GrS w vars f A 0 gn h) (N:WtC w z x gn wt) (m:bR h<=20) (va:Value):
  Calls Tryz.prog 87 #[.pointer (some ⟨gs,0,none⟩),.int .i64 0,va,y] w λe w'=>e= .returned (.int .i64 ((jm d wt 0 0 h a:Nat):Int))/\Below w.heap.size w w':=by
 have R:jp h<=1048576:=insW_le (λv q=>by
  obtain⟨j,T,rfl⟩:=yS.1 q;have:=(p.at_ j (by rw[p.gl];exact T)).2.2.1.1;rw[yj,yp T] at this
  exact this) m
 have n:=zh F;obtain⟨A',c',e1, -,L⟩:=k.ils;obtain⟨b,o,X,e2,aa,V,l, -⟩:=L 0 (by simp);simp only[yA] at e1;obtain⟨rfl, -,rfl⟩:=e1;subst e2;have c:IL w X (nI gn):=l;have g:=zh fun(W:World) (hb:Below w.heap.size w W) (B:Nat) (C:w.heap.size<=B) (hm:bY φP W B [])=>rD w gs A1 r c1 u H S D (.slice (some ⟨b,o,none⟩) 1 c5) K t a true z x vars f d wt F q U P M gn h X c y A i 0 p N gn.length 0 (by omega) W B a [] hb C hm (knwP_nil _ _ _ _) (by simp;omega) hr;obtain⟨Y,Z,rfl, -, -⟩:=c;have e3:o+0*1=o:=by omega
 have E:w.cell? ⟨b,o,none⟩=some (.slice Y (nI gn).length Z):=by
  have:=V;simpa using this
 rw[aF] at E g;generalize gn.length=gl at*;have J:Hid (0+bR (h.take 0)=0):=zh (by simp[bR]);unfold SmR at g;rw[J.out,yO] at g;have ez:((0:Nat):Int)=0:=rfl;rw[ez] at g;have ab:=@run_makeMap Tryz.prog;clear F q U P M k i p N L l V e3 J;unfold spC at n;have x4:=za n 4 rfl;have x8:=za n 8 rfl;have x9:=za n 9 rfl;go_enter Tryz.func87,Tryz.ntmps87;go_wp2_with fail;clear x4
 go_loopw [10,44] (λnv iv wr=>nv= .int .i64 (a:Nat)/\iv= .int .i64 0/\w=wr) (λ_ _ _=>0)
 case atStart=>exact⟨rfl,rfl,rfl⟩
 case round=>
  obtain⟨rfl,rfl,rfl⟩:=hrel;go_wp2_with fail;have G:=zh (g (w.alloc (.map #[] 0)) (ac w _) w.heap.size (yq _) (bY.new φP w));have I:=zh (ac w (.map #[] 0));clear g;generalize w.alloc (.map #[] 0)=w1 at*;refine G.out.mono ?_;rintro e w2 ⟨rfl,Q, -⟩;have s:=zh (jg I Q (yq _));clear Q G I;go_wp2_with fail;go_ret;exact⟨rfl,s⟩
theorem wV (w:World) (gs:Nat) (A1:Option Addr) (c1:Nat) (H S D G RU LV DG:Value) (E:Nat) (r:Bool) (WT:Value) (vars:List Vr)
  (W:Box w gs (spC (.slice A1 vars.length c1) H S D G RU LV DG E r WT) 89) (V:Rs vrR w (.slice A1 vars.length c1) vars ah) (a:List Nat) (va:Value) (ha:IL w va (nI a)) (l:a.length=vars.length) (P:vars.length<=16)
  (B:∀i,i<vars.length->(0<=(vars.getD i vr0).width/\(vars.getD i vr0).width<=8)/\((vars.getD i vr0).mode=0->((a.getD i 0:Nat):Int)=(vars.getD i vr0).value)/\a.getD i 0<2^(vars.getD i vr0).width.toNat):
  Calls Tryz.prog 86 #[.pointer (some ⟨gs,0,none⟩),va] w λe w'=>e= .returned (.bool true)/\Below w.heap.size w w':=by
 obtain⟨L,T,K⟩:=zk3 W V B;obtain⟨Aa,ca,rfl, -,u⟩:=ha;have g:=zh u;rw[aF,l] at g;rw[aF,l];obtain⟨nv,p⟩:=zv (vars.length);have t:=zh p;rw[<-p] at L g T P⊢;clear W V B u l p;unfold spC at L;have x0:=za L 0 rfl;go_enter Tryz.func86,Tryz.ntmps86;go_wp2_with fail;clear x0
 go_loopw [22] (λQ wr=>∃k:Nat,k<=nv/\Q= .int .i64 (k:Nat)/\Below w.heap.size w wr) (λQ _=>nv+1-(intOf Q).toNat)
 case atStart=>exact⟨0,yt _,rfl,yx _ _⟩
 case round=>
  obtain⟨k,hk,rfl,x⟩:=hrel;have d:=zh x;clear x
  by_cases n:k<nv
  ·have A:(k:Int)<(nv:Int):=by omega
   have k0:(0:Int)<=(k:Int):=by omega
   obtain⟨A',c',e1, -,y⟩:=T.out.vrs;obtain⟨b,o,U,f,c⟩:=y k (by rw[<-t.out];exact n)
   have e3:A1=some ⟨b,o,none⟩:=by
    simp only[yA] at e1;rw[e1.1,U]
   subst e3;obtain⟨a1,rfl,z,C⟩:=g.out (by omega);have F:=C k n;rw[eO] at F;have s:(a1.add k).block<w.heap.size:=by rw[aP];exact z
   have R:=(d.out.cell f).trans (c 0 _ rfl);have y1:=(d.out.cell f).trans (c 1 _ rfl);have y2:=(d.out.cell f).trans (c 2 _ rfl);have y3:=(d.out.cell f).trans (c 3 _ rfl);rw[yU] at R;replace F:=(d.out.cell s).trans F;replace s:=yE s d.out.size;obtain⟨o1,Y,J⟩:=K.out k (by rw[<-t.out];exact n);generalize vars.getD k vr0=vr at*;obtain⟨X,wd,md,vl⟩:=vr;simp only at o1 Y J R y1 y2 y3;obtain⟨wn,rfl⟩:∃wn:Nat,wd=wn:=⟨wd.toNat,by omega⟩;rw[y5] at J;generalize a.getD k 0=j at*;have hw:=it (show wn<=20 by omega);have p1:¬((j:Int)<0):=by omega
   have p2:decide ((j:Int)<0)=false:=by simp
   have p3:((j:Int)<((2^wn:Nat):Int)):=Int.ofNat_lt.2 J;clear e1 U y c z C J;go_upto_region 6 with fail;clear R y1 y2 y3;have z2:=((ac wr (.cells #[.string X,.int .i64 (wn:Nat),.int .i64 md,.int .i64 vl] 98)).cell s).trans F;have z3:=yE s (ac wr (.cells #[.string X,.int .i64 (wn:Nat),.int .i64 md,.int .i64 vl] 98)).size;clear F s;generalize I:wr.alloc _=w3 at*;obtain⟨v,M⟩:=zA1 I;clear I;replace d:=zb d v;clear v;have zL:=λq:Lat w3=>(q.h.cell z3).trans z2;have Z:=M.out.lat 1 _ rfl;have s2:=M.out.lat 2 _ rfl;have s3:=M.out.lat 3 _ rfl;generalize 2^wn=m at*
   by_cases hm:md=0
   ·subst hm;have hq:=Y rfl;subst hq;have q1:((j:Int) !=(j:Int))=false:=by simp
    have q4:¬((m:Int)<=(j:Int)):=by omega
    refine aJ (by kernel_rfl) (by kernel_rfl) ?_
    repeat(go_big_quiet_step (fail))
    refine yN ?_;intro w8 N;clear zL Z s2 s3;replace d:=zb d N;go_wp2_with fail;go_roundw
    ·exact⟨k+1,by omega,by go_num,d⟩
    ·simp[intOf];omega
   ·have q1:(md==0)=false:=by simpa using hm
    have q4:¬((m:Int)<=(j:Int)):=by omega
    refine aJ (by kernel_rfl) (by kernel_rfl) ?_
    repeat(go_big_quiet_step (fail))
    refine yN ?_;intro w8 N;clear zL Z s2 s3;replace d:=zb d N;go_wp2_with fail;go_roundw
    ·exact⟨k+1,by omega,by go_num,d⟩
    ·simp[intOf];omega
  ·have A:¬(k:Int)<(nv:Int):=by omega
   go_wp2_with fail;go_ret;exact⟨rfl,d⟩
theorem rnTotal0 (w:World) (gs:Nat) (V H S D p o n:Value) (A5:Option Addr) (c5:Nat) (d:Nat) (b:Bool) (q:Value) (va:Value) (a:Nat) (t:a≠0) (r:a<dF)
  (m:Box w gs (spC V H S D (.slice A5 1 c5) p o n d b q) 89)
  (k:∀W,Below w.heap.size w W->Calls Tryz.prog 86 #[.pointer (some ⟨gs,0,none⟩),va] W λe w'=>e= .returned (.bool true)/\Below W.heap.size W w')
  (l:∀W,Below w.heap.size w W->Calls Tryz.prog 87 #[.pointer (some ⟨gs,0,none⟩),.int .i64 0,va,.map none] W λe w'=>e= .returned (.int .i64 ((a:Nat):Int))/\Below W.heap.size W w'):
  Calls Tryz.prog 44 #[.pointer (some ⟨gs,0,none⟩),.int .i64 0,va] w λe w'=>e= .returned (.tuple #[.int .i64 ((a:Nat):Int),.int .i64 0])/\Below w.heap.size w w':=by
 unfold dF at r;have u:((a:Int)==0)=false:=by simp;omega
 have v:((a:Int)==1099511627777)=false:=by simp;omega
 obtain⟨j,h,i⟩:=zk3 m k l;clear m k l;unfold spC at j;have s:=za j 4 rfl;go_enter Tryz.func44,Tryz.ntmps44;go_wp2_with fail;refine(h w (yx _ _)).mono ?_;rintro e w2 ⟨rfl,c⟩;have f:=zh c;have g:=zh (i w2 c);clear c h i s;go_wp2_with fail;refine g.out.mono ?_;rintro e x ⟨rfl,c⟩;replace f:=zb f c;clear c g;go_wp2_with fail;go_ret2;exact⟨by trivial,f⟩
def mi (a:List (Int×Int)) (gn p:List Nat):Prop:=∀j,j<gn.length->cq a ((gn.getD j 0:Nat):Int)=(p[j]?).map (λx:Nat=>(x:Int))
theorem fxOk_nil (gn:List Nat):mi [] gn []:=λj h=>rfl
theorem mi.put {a:List (Int×Int)} {gn p:List Nat} (h:mi a gn p) (f:gn.Nodup) (hp:p.length<gn.length) (x:Nat):mi ((((gn.getD p.length 0:Nat):Int),(x:Int))::a) gn (p++[x]):=λj c=>by
 rw[c8]
 by_cases e:j=p.length
 ·subst e;rw[yz rfl,yG (yq _),AG];rfl
 ·have g:gn.getD p.length 0≠gn.getD j 0:=λb=>by
   rw[yj,yj,yp c,yp hp] at b;exact e ((List.getElem_inj f).1 b).symm
  rw[yw (by show¬((gn.getD p.length 0:Nat):Int)=((gn.getD j 0:Nat):Int);omega),h j c]
  by_cases d:j<p.length
  ·rw[yP d]
  ·rw[AK (by omega),AK (by rw[yu,y7];omega)]
def yi (a:List (Int×Int)) (gn p:List Nat):Prop:=∀j,j<gn.length->j≠p.length->cq a ((gn.getD j 0:Nat):Int)=(p[j]?).map (λx:Nat=>(x:Int))
theorem mi.up {a:List (Int×Int)} {gn p:List Nat} (h:mi a gn p):yi a gn p:=λj b _=>h j b
theorem yi.put {a:List (Int×Int)} {gn p:List Nat} (h:yi a gn p) (f:gn.Nodup) (hp:p.length<gn.length) (x:Nat):mi ((((gn.getD p.length 0:Nat):Int),(x:Int))::a) gn (p++[x]):=λj c=>by
 rw[c8]
 by_cases e:j=p.length
 ·subst e;rw[yz rfl,yG (yq _),AG];rfl
 ·have g:gn.getD p.length 0≠gn.getD j 0:=λb=>by
   rw[yj,yj,yp c,yp hp] at b;exact e ((List.getElem_inj f).1 b).symm
  rw[yw (by show¬((gn.getD p.length 0:Nat):Int)=((gn.getD j 0:Nat):Int);omega),h j c e]
  by_cases d:j<p.length
  ·rw[yP d]
  ·rw[AK (by omega),AK (by rw[yu,y7];omega)]
theorem mi.back {a:List (Int×Int)} {gn p:List Nat} {x:Nat} (h:mi a gn (p++[x])):yi a gn p:=λj c d=>by
 rw[h j c]
 by_cases b:j<p.length
 ·rw[yP b]
 ·rw[AK (by rw[yu,y7];omega),AK (by omega)]
def fC (a:List Nat):List Nat->List Nat->List Nat
 |[],_=>a
 |_,[]=>a
 |g::gs,x::p=>fC (a.set g x) gs p
theorem fV:∀(gs p a:List Nat),(fC a gs p).length=a.length
 |[],_,_=>by simp[fC]
 |_::_,[],_=>by simp[fC]
 |g::gs,x::p,a=>by
  show(fC (a.set g x) gs p).length=_;rw[fV gs p,As]
theorem pf:∀(gs p a:List Nat) (x:Nat),p.length<gs.length->fC a gs (p++[x])=(fC a gs p).set (gs.getD p.length 0) x
 |[],p,a,x,h=>by simp at h
 |g::gs,[],a,x,h=>by
  show fC (a.set g x) gs []=_;cases gs<;>rfl
 |g::gs,y::p,a,x,h=>by
  show fC (a.set g y) gs (p++[x])=_;rw[pf gs p (a.set g y) x (by simpa using h)]
  rfl
theorem goV_next {c:Nat->Nat} {m v k:Nat} (h:v<m) (hk:¬k<c v):goV c (m-v) v k=goV c (m-(v+1)) (v+1) (k-c v):=by
 have e:m-v=(m-(v+1))+1:=by omega
 rw[e];show(if k<c v then(v,k) else goV c (m-(v+1)) (v+1) (k-c v))=_;rw[yw hk]
theorem goV_here {c:Nat->Nat} {m v k:Nat} (h:v<m) (hk:k<c v):goV c (m-v) v k=(v,k):=by
 have e:m-v=(m-(v+1))+1:=by omega
 rw[e];show(if k<c v then(v,k) else goV c (m-(v+1)) (v+1) (k-c v))=_;rw[yz hk]
theorem uy {c:Nat->Nat} {m v:Nat} (h:v<m):fH c (List.range' v (m-v))=c v+fH c (List.range' (v+1) (m-(v+1))):=by
 have e:m-v=(m-(v+1))+1:=by omega
 rw[e,List.range'_succ,fS]
def OI (cur:Array Value) (l:List Nat):Prop:=∀i,i<l.length->cur[i]? =some (.int .i64 ((l.getD i 0:Nat):Int))
theorem own_oi {w:World} {B:Nat} {v:Value} {l:List Nat} (h:w.ownsRow B 3 1 v l.length ((nI l).map (Value.int .i64))) (j:0<l.length):∃g cap cur,v= .slice (some ⟨g,0,none⟩) l.length cap/\B<=g/\l.length<=cap/\Box w g cur 3/\OI cur l:=by
 rcases h.2 with⟨rfl,k⟩|⟨e,cap,cur,rfl,a,b,f,m,n,d⟩
 ·omega
 ·refine⟨e,cap,cur,rfl,a,f,b,λi hi=> ?_⟩;rw[Nat.mul_one] at d;have c:(cur.toList.take l.length)[i]? =cur.toList[i]? :=Bc hi;rw[d] at c;rw[<-Array.getElem?_toList,<-c];unfold nI;rw[yW,yW,yp hi,yj,yp hi]
  rfl
theorem OI.set {cur:Array Value} {l:List Nat} (h:OI cur l) (k x:Nat):OI (cur.setIfInBounds k (.int .i64 (x:Nat))) (l.set k x):=λi hi=>by
 rw[As] at hi
 by_cases e:k=i
 ·subst e
  have a:k<cur.size:=by
   have:=h k hi;exact(Bu.1 this).1
  rw[Array.getElem?_setIfInBounds_self_of_lt a,yj,AR hi];rfl
 ·rw[BM e,yj,AU e,<-yj];exact h i hi
theorem oi_il {w:World} {g cap:Nat} {cur:Array Value} {l:List Nat} (a:Box w g cur 3) (h:OI cur l) (c:l.length<=cap):IL w (.slice (some ⟨g,0,none⟩) l.length cap) (nI l):=by
 refine⟨some ⟨g,0,none⟩,cap,by rw[aF],by rw[aF];exact c,λd=>⟨_,rfl,a.lt,λj b=> ?_⟩⟩;rw[aF] at b;rw[fA,yH,a.cell,h j b,eO]
theorem rnChoose (w:World) (gs:Nat) (A1 A5:Option Addr) (c1 c5:Nat) (H S D RU LV DG:Value) (bk:Nat) (aP:Bool) (WT:Value) (vars:List Vr)
  (hx:Box w gs (spC (.slice A1 vars.length c1) H S D (.slice A5 1 c5) RU LV DG bk aP WT) 89) (hv:Rs vrR w (.slice A1 vars.length c1) vars ah) (gn:List Nat) (a7:Rs ilR w (.slice A5 1 c5) [nI gn] ah)
  (bD:vars.length<=16) (bx:gn.length<=16) (aJ:0<gn.length) (aw:(nI gn).Pairwise (· ≤ ·)) (be:gn.Nodup) (ws:List Nat) (bj:ws.length=gn.length)
  (a5:∀j,j<gn.length->gn.getD j 0<vars.length/\(vars.getD (gn.getD j 0) vr0).width=((ws.getD j 0:Nat):Int)/\1<=ws.getD j 0/\ws.getD j 0<=8)
  (a:List Nat) (va:Value) (ha:IL w va (nI a)) (aj:a.length=vars.length) (F:List Nat->Nat) (a3:∀p,F p<=dF) (hF:∀p,p.length<gn.length->F p<=fH (λx=>F (p++[x])) (List.range' 0 (2^ws.getD p.length 0)))
  (av:∀W fv fx p,Below w.heap.size w W->FxV W fv fx->mi fx gn p->p.length<=gn.length->(∀j,j<p.length->p.getD j 0<2^ws.getD j 0)->Calls Tryz.prog 87 #[.pointer (some ⟨gs,0,none⟩),.int .i64 0,va,fv] W λe w'=>e= .returned (.int .i64 ((F p:Nat):Int))/\Below W.heap.size W w')
  (k0:Nat) (bA:k0<F []):
  Calls Tryz.prog 45 #[.pointer (some ⟨gs,0,none⟩),.int .i64 0,va,.int .i64 (k0:Nat)] w λe w'=>∃v,e= .returned v/\IL w' v (nI (fC a gn (chP F ws [] k0)))/\Below w.heap.size w w':=by
 obtain⟨HX,HV,ae,HF,aS,aq⟩:=zk6 hx hv a5 hF a3 av;obtain⟨bn,a0⟩:=zk2 be bj;have L:=zh fun(W:World) (h:Below w.heap.size w W)=>rj W va (nI a) (ha.below h) (by rw[aF];omega);rw[aF,aj] at L;obtain⟨A',c',e1, -,h1⟩:=a7.ils;obtain⟨b,o,vg,e2,a4,hu,a8, -⟩:=h1 0 (by simp);simp only[yA] at e1;obtain⟨rfl, -,rfl⟩:=e1;subst e2;have az:IL w vg (nI gn):=a8
 have aO:w.cell? ⟨b,o,none⟩=some vg:=by
  have:=hu;simpa using this
 obtain⟨K,og,cg,rfl,bw,a9,bd,ax⟩:∃K og cg,vg= .slice (some ⟨K,og,none⟩) gn.length cg/\gn.length<=cg/\K<w.heap.size/\True/\∀j,j<gn.length->w.cell? ⟨K,og+j,none⟩=some (.int .i64 (((nI gn)[j]?).getD 0)):=by
  rcases az.form with⟨A,c,h1,h2⟩|⟨b,o,c,h1,h2,h3,h4,h5⟩
  ·have h3:gn.length=0:=by rw[<-aF gn,h2];rfl
   omega
  ·rw[aF] at h1 h2;exact⟨b,o,c,h1,h2,h4,trivial,λj hj=>by rw[<-yj];exact h5 j (by rw[aF];exact hj)⟩
 have aa:=zh fun(W:World) (Bv:Nat) (h:Below w.heap.size w W) (hB:Bv<W.heap.size) (hc:W.cell? ⟨Bv,0,none⟩=some (.slice (some ⟨K,og,none⟩) gn.length cg))=>slSorted Bv K og cg (nI gn) (by rw[aF];omega) aw W hB (by rw[aF];exact hc) (yE a9 h.size) (λj hj=>(h.cell (p:=⟨K,og+j,none⟩) a9).trans (ax j (by rw[<-aF];exact hj)));have aD:=zh λW=>callsIn_wide.1 (slValues 1 (some ⟨K,og,none⟩) gn.length cg W);rw[aF] at aa;obtain⟨gl,V⟩:=zv (gn.length);obtain⟨nv,am⟩:=zv (vars.length);obtain⟨E,t,C⟩:=zk3 V am aj;rw[<-V] at aa aD aO bx aJ ae;rw[<-am] at HX HV L bD ae;obtain⟨Aa,ca,rfl, -, -⟩:=ha;rw[aF,aj,<-am] at L aq⊢;clear hx hv a5 hF a3 av be bj a7 h1 a8 az hu bw bd ax V am aj aw;unfold spC at HX;have x4:=za HX 4 rfl;go_enter Tryz.func45,Tryz.ntmps45;go_wp2_with fail;refine(L w (yx _ _)).mono ?_;rintro e w1 ⟨vo,rfl,l,s⟩;have bf:0<nv:=by have:=(ae 0 aJ).1;omega
 have bi:w1.ownsRow w.heap.size 3 1 vo a.length ((nI a).map (Value.int .i64)):=by
  have:=l;rw[C.out,<-t.out];exact this
 obtain⟨go,a1,a2,rfl,a6,ay,g,aA⟩:=own_oi bi (by rw[C.out,<-t.out];exact bf);have bG:=g.lt;obtain⟨u,aZ⟩:=zk2 g aA;rw[C.out,<-t.out] at ay⊢;have f:=zh s;have bz:=s.size;clear bi g aA;have h4:=(s.cell (p:=⟨gs,4,none⟩) HX.out.lt).trans x4;have h5:=(s.cell (p:=⟨b,o,none⟩) a4).trans aO;have bP:=@run_makeMap Tryz.prog;clear l s L x4 aO;go_upto_region 3 with fail;have bs:=((ac w1 (.map #[] 0)).cell (p:=⟨gs,4,none⟩) (yE HX.out.lt f.out.size)).trans h4;have bt:=((ac w1 (.map #[] 0)).cell (p:=⟨b,o,none⟩) (yE a4 f.out.size)).trans h5;have G:=zh (bY.new φI w1);replace u:=zh (u.out.below (ac w1 (.map #[] 0)));replace f:=zh (ab f (ac w1 (.map #[] 0)));clear h4 h5;generalize w1.alloc (.map #[] 0)=w2 at*;generalize w1.heap.size=gm at*;go_wp2_with fail;refine(aD w2).mono ?_;rintro e w3 ⟨rfl,rfl⟩;have aQ:=zh (aa (w2.alloc (.cells #[.slice (some ⟨K,og,none⟩) gl cg] 32)) w2.heap.size (ab f (ac w2 _)) (by simp) ((Box.new w2 32 #[.slice (some ⟨K,og,none⟩) gl cg]).at_ 0 _ rfl));have ak:=ac w2 (.cells #[.slice (some ⟨K,og,none⟩) gl cg] 32);replace G:=zb G ak;replace u:=zb u ak;replace f:=zb f ak;clear ak aa aD bs bt;generalize w2.alloc (.cells #[.slice (some ⟨K,og,none⟩) gl cg] 32)=w3 at*;generalize w2.heap.size=gv at*;go_wp2_with fail;refine aQ.out.mono ?_;rintro e w4 ⟨vr,rfl,l,s⟩;have bQ:=G.out.lt;replace G:=zb G s;replace u:=zb u s;replace f:=zb f s
 have X:w4.ownsRow w3.heap.size 3 1 vr gn.length ((nI gn).map (Value.int .i64)):=by
  have:=l;rw[<-E.out];exact this
 obtain⟨gr,bE,au,rfl,bH,bI,r,aB⟩:=own_oi X (by rw[<-E.out];exact aJ);obtain⟨XR,bp⟩:=zk2 r aB;rw[<-E.out];clear l X r aB s aQ;go_wp2_with fail
 go_loopw [29,3] (λiv kv wr=>∃(j:Nat) (p:List Nat) (Z:Nat) (fx:List (Int×Int)) (cur:Array Value),j<=gl/\iv= .int .i64 (j:Nat)/\kv= .int .i64 (Z:Nat)/\p.length=j/\Hid (chP F (ws.drop j) p Z=chP F ws [] k0)/\Hid (Z<F p)/\Hid (∀i,i<p.length->p.getD i 0<2^ws.getD i 0)/\bY φI wr gm fx/\Hid (mi fx gn p)/\fx.length<=j*256/\Box wr go cur 3/\Hid (OI cur (fC a gn p))/\Box wr gr au 3/\Below w.heap.size w wr) (λiv _ _=>gl+1-(intOf iv).toNat)
 case atStart=>exact⟨0,[],k0,[],a2,yt _,rfl,rfl,rfl,zh rfl,zh bA,zh (λi h=>by simp at h),G,zh (fxOk_nil _),yt _,u,zh (by cases gn<;>exact aZ),XR,f⟩
 case round=>
  obtain⟨j,p,Z,fx,cur,hj,rfl,rfl,bh,ad,aW,bq,hm,aT,bM,g,aG,r,R⟩:=hrel;clear G u XR f aZ;obtain⟨G,u,XR,f,d⟩:=zk5 hm g r R bh;clear hm g r R bh
  by_cases bb:j<gl
  ·have bc:(j:Int)<(gl:Int):=by omega
   have j0:(0:Int)<=(j:Int):=by omega
   have J:j<gn.length:=by rw[<-E.out];exact bb
   have x0:=XR.out.at_ j _ (bp j J);obtain⟨g1,g2,g3,g4⟩:=ae.out j bb;obtain⟨A',c',e1, -,U⟩:=HV.out.vrs;obtain⟨bv,ov,e2,bu,T⟩:=U (gn.getD j 0) (by rw[<-t.out];exact g1)
   have e3:A1=some ⟨bv,ov,none⟩:=by
    simp only[yA] at e1;rw[e1.1,e2]
   subst e3;have y1:w.cell? ⟨bv,ov+gn.getD j 0*4+1,none⟩=some (.int .i64 ((vars.getD (gn.getD j 0) vr0).width)):=T 1 _ rfl;rw[g2] at y1;replace y1:=(f.out.cell bu).trans y1;have y0:=(f.out.cell (p:=⟨gs,0,none⟩) HX.out.lt).trans (HX.out.at_ 0 _ rfl);have aR:Hid (ws.drop j=ws.getD j 0::ws.drop (j+1)):=zh (qH (by rw[a0.out];exact J));have af:=zh (HF p (by rw[d.out];exact J));rw[d.out] at af;have hw:=it (show ws.getD j 0<=20 by omega);rw[aR.out] at ad;have ao:=zh λz (h:yi z gn p) (x:Nat)=>h.put bn (by rw[d.out];exact J) x;have ap:=zh λx=>pf gn p a x (by rw[d.out];exact J);rw[d.out] at ao ap
   have aL:2^ws.getD j 0<=256:=by
    have:=AC (n:=2) (by omega) g4;simpa using this
   have Q:Hid (∀x,x<2^ws.getD j 0->∀i,i<(p++[x]).length->(p++[x]).getD i 0<2^ws.getD i 0):=zh λx hx i hi=>by
    rw[yu,y7,d.out] at hi
    by_cases e:i<p.length
    ·rw[yj,yP e,<-yj];exact bq i e
    ·have e5:i=j:=by have:=d.out;omega
     subst e5;rw[yj,yG (by have:=d.out;omega),d.out,AG];exact hx
   have bJ:gn.getD j 0<=16:=by omega
   have bo:Hid (gn.getD j 0<(fC a gn p).length):=zh (by rw[fV,C.out,<-t.out];exact g1);obtain⟨m,aN⟩:=zv (2^ws.getD j 0);rw[<-aN] at af hw aL Q
   have bm:Hid (∀q,goV (λx=>F (p++[x])) m 0 Z=q->chP F (ws.drop (j+1)) (p++[q.1]) q.2=chP F ws [] k0):=zh λq hq=>by
    rw[<-ad.out];show _=chP F (ws.drop (j+1)) (p++[(goV (λv=>F (p++[v])) (2^ws.getD j 0) 0 Z).1]) (goV (λv=>F (p++[v])) (2^ws.getD j 0) 0 Z).2;rw[<-aN,hq]
   have B:Hid (Z<fH (λx=>F (p++[x])) (List.range' 0 (m-0))):=zh (yE aW af);generalize ws.getD j 0=wj at*;generalize gn.getD j 0=I at*;have p0:(0:Int)<=(I:Int):=by omega
   have p1:(I:Int)<(nv:Int):=by omega
   clear e1 e2 U T aR ad aN g2 af J;go_wp2_with fail;clear x0 y0 y1;have ar:=zh aT.out.up;have bB:Z<=1099511627777:=by have h1:=aW.out;have h2:=aS.out p;unfold dF at h2;omega
   clear aT
   go_loopw [3,43] (λkv iv wq=>∃(v an:Nat) (z:List (Int×Int)),v<=m/\an<=1099511627777/\iv= .int .i64 (v:Nat)/\kv= .int .i64 (an:Nat)/\Hid (goV (λx=>F (p++[x])) (m-v) v an=goV (λx=>F (p++[x])) m 0 Z)/\Hid (an<fH (λx=>F (p++[x])) (List.range' v (m-v)))/\bY φI wq gm z/\Hid (yi z gn p)/\z.length<=j*256+v/\Box wq go cur 3/\Box wq gr au 3/\Below w.heap.size w wq) (λ_ iv _=>m+1-(intOf iv).toNat)
   case atStart=>exact⟨0,Z,fx,yt _,bB,rfl,rfl,zh (by rw[Nat.sub_zero]),B,G,ar,by omega,u,XR,f⟩
   case round=>
    obtain⟨v,kq,z,hv,bO,rfl,rfl,aU,aX,hm,br,bF,g,r,R⟩:=hrel;clear G u XR f B ar;obtain⟨G,u,XR,f⟩:=zk4 hm g r R;clear hm g r R
    have Y:v<m:=by
     rcases Cd v m with h|h
     ·exact h
     ·exfalso
      have:=aX.out;rw[show m-v=0 by omega] at this;simp[fH] at this
    have bK:(v:Int)<(m:Int):=by omega
    have v0:(0:Int)<=(v:Int):=by omega
    obtain⟨w9,hu,aM,al⟩:=G.out.upd (mT:=161) Tryz.underlying161 (x:=(I:Int)) (i4 (by omega)) (i:=(v:Int)) (i4 (by omega)) (by unfold maxLen;omega);have bC:(Instr.mapUpdate 161 (.map (some gm)) (.int .i64 (I:Nat)) (.int .i64 (v:Nat))).run Tryz.prog wr= .ok () w9:=hu;have aE:=zh (ao z br v);have M:=zh (jg f al bz);have y:=zh (ai u al (by omega));have ag:=zh (ai XR al (by omega));have P:=zh aM;have aC:=zh (aq w9 (.map (some gm)) _ (p++[v]) M (.inr ⟨gm,rfl,aM⟩) aE (by rw[yu,y7,d.out,<-E.out];omega) (Q v Y));have U:=aS.out (p++[v]);unfold dF at U;obtain⟨cv,aH⟩:=zv (F (p++[v]));have N:=zh aH;rw[<-aH] at aC U;clear hu al aM G u XR f aH;go_wp2_with fail;refine aC.out.mono ?_;rintro e bl ⟨rfl,s⟩;replace P:=zb P s;replace y:=zb y s;replace ag:=zb ag s;replace M:=zb M s;clear s aC bC
    by_cases aK:kq<cv
    ·have ba:(kq:Int)<(cv:Int):=by omega
     have HQ:=zh (bm _ (aU.out.symm.trans (goV_here Y (by show kq<F (p++[v]);rw[<-N.out];exact aK))))
     have bL:(Instr.lookup 161 (.map (some gm)) (.int .i64 (I:Nat)) false).run Tryz.prog bl= .ok (.int .i64 (v:Nat)) bl:=by
      have:=P.out.look1 (mT:=161) Tryz.underlying161 (x:=(I:Int)) (i4 (by omega));rw[c8,yz rfl] at this;exact this
     have x0:=y.out.at_ I _ (aG I bo);have x1:=y.out.frozen I;have x2:=y.out.lt;simp only at HQ;go_wp2_with fail;go_roundw
     ·refine⟨j+1,p++[v],kq,_,_,by omega,by go_num,rfl,by rw[yu,d.out];rfl,HQ,zh (by rw[<-N.out];exact aK),zh (Q v Y),P.out.grown (cZ (aI (yx _ _))) (by simp;omega),aE,by rw[yr];omega,y.out.set_ I (.int .i64 (v:Nat)),zh (by rw[ap.out];exact aG.out.set I v),ag.out.setNe (p:=⟨go,I,none⟩) (by show go≠gr;omega) _,M.out.setCell (p:=⟨go,I,none⟩) a6 _⟩
     ·simp[intOf];omega
    ·have ba:¬(kq:Int)<(cv:Int):=by omega
     have aV:=zh ((goV_next (c:=λx=>F (p++[x])) (k:=kq) Y (by show¬kq<F (p++[v]);rw[<-N.out];exact aK)).symm.trans aU)
     have aY:Hid (kq-cv<fH (λx=>F (p++[x])) (List.range' (v+1) (m-(v+1)))):=zh (by
      have:=aX.out;rw[uy Y] at this;have e:F (p++[v])=cv:=N.out.symm;rw[e] at this
      omega)
     go_wp2_with fail;go_roundw
     ·refine⟨v+1,kq-cv,_,by omega,by omega,by go_num,by rw[Int.natCast_sub (by omega)],zh (by rw[N.out];exact aV),aY,P,zh aE.out.back,by rw[yr];omega,y,ag,M⟩
     ·simp[intOf];omega
  ·have bc:¬(j:Int)<(gl:Int):=by omega
   have bN:j=gl:=by omega
   have HE:Hid (p=chP F ws [] k0):=zh (by
    rw[<-ad.out,List.drop_of_length_le (by rw[a0.out,<-E.out];omega)]
    rfl)
   go_wp2_with fail;go_ret;refine⟨_,rfl, ?_,f⟩;rw[<-HE.out];have:=oi_il u aG (cap:=a1) (by rw[fV,C.out,<-t.out];exact ay);rw[fV,C.out,<-t.out] at this;exact this
def wA (n:Nat):Array Value:=(List.replicate n (Value.slice none 0 0)).toArray
theorem wA_get {n i:Nat} (h:i<n):(wA n)[i]? =some (.slice none 0 0):=by
 simp[wA,h]
theorem infoWl:(Tryz.prog.info? 124).map (λi=>(i.zero,i.size,i.bytes))=some (some (.slice none 0 0),1,24):=by kernel_rfl
theorem made_wA (n:Nat):madeCells (Value.slice none 0 0).cells (n*1)=wA n:=by
 apply Array.ext
 ·simp[madeCells,wA]
 ·intro i a b;simp[madeCells,wA,Value.cells,Nat.mod_one]
theorem rx (n:Nat) (e:n<=1000) (W:World):(Instr.makeSlice 217 (.int .i64 (n:Int)) (.int .i64 (n:Int))).run Tryz.prog W= .ok (.slice (some ⟨W.heap.size,0,none⟩) n n) (W.alloc (.cells (wA n) 124)):=by
 obtain⟨i,hi,d,c,b⟩:=Bb infoWl;have a:=run_make (P:=Tryz.prog) W 217 124 i (.slice none 0 0) Tryz.underlying217 hi d .i64 .i64 n n (by omega) (by omega) (by rw[b];omega) (by omega);rw[c] at a;simp only[y5] at a;rw[made_wA] at a;exact a
def WgB (w:World) (a gr n:Nat):Prop:=Box w a #[.slice (some ⟨gr,0,none⟩) n n] 217/\Box w gr (wA n) 124
theorem WgB.below {w w':World} {a gr n:Nat} (h:WgB w a gr n) (b:Below w.heap.size w w'):WgB w' a gr n:=⟨h.1.below b,h.2.below b⟩
instance {w w':World} {gb gr n:Nat}:Zm w w' (WgB w gb gr n) (WgB w' gb gr n):=⟨λhb h=>WgB.below h hb⟩
theorem rnWeigh1 (w:World) (a gr n i v:Nat) (h:WgB w a gr n) (hi:i<n):
  Calls Tryz.prog 140 (#[.int .i64 (i:Nat),.int .i64 (v:Nat)]++#[.pointer (some ⟨a,0,none⟩)]) w λe w'=>e= .returned (.int .i64 1)/\Below w.heap.size w w':=by
 have x0:=h.1.at_ 0 _ rfl;have f:=h.2.at_ i _ (wA_get hi);have c:(0:Int)<=(i:Int):=by omega
 have d:(i:Int)<(n:Int):=by omega
 have b:∀W,(binOp BinOp.eql 124 (Value.slice none 0 0) (Value.slice none 0 0)).run Tryz.prog W= .ok (.bool true) W:=λW=>by kernel_rfl
 go_enter Tryz.func140,Tryz.ntmps140;go_wp2_with fail;go_ret;exact⟨rfl,yx _ _⟩
theorem rnWeigh (w:World) (A1 A2 A3 A4 A5:Option Addr) (n c1 s c2 t c3 c4 u c5:Nat) (p:n<=1000):
  Calls Tryz.prog 78 #[.agg #[.slice A1 n c1,.slice A2 s c2,.slice A3 t c3,.slice A4 0 c4,.slice A5 u c5]] w λe w'=>∃j gr,e= .returned (.func (.func 140) #[] #[.pointer (some ⟨j,0,none⟩)])/\WgB w' j gr n/\Below w.heap.size w w':=by
 have o:=zm;have i:=rx n p;go_enter Tryz.func78,Tryz.ntmps78;go_upto_region 1 with fail;generalize a:w.alloc _=w1 at*;obtain⟨g,h⟩:=zB1 a;clear a;have c:=za h 0 rfl;have k:=i w1;go_upto_region 2 with fail;clear c;clear k i;have q:=g.out.size;generalize a:w1.alloc _=zw1 at*;generalize f:zw1.alloc _=w2 at*;obtain⟨b,m,l⟩:=zA2 a f;clear a f;replace h:=zb h b;replace g:=zb g b;clear b;have d:=za h 3 rfl;go_wp2_with fail;clear d
 go_loopw [13] (λr wr=>r= .int .i64 0/\w2=wr) (λ_ _=>0)
 case atStart=>exact⟨rfl,rfl⟩
 case round=>
  obtain⟨rfl,rfl⟩:=hrel;go_wp2_with fail;go_ret;exact⟨_,_,rfl,⟨l,m⟩,g⟩
def wgV (a:Nat):Value:= .func (.func 140) #[] #[.pointer (some ⟨a,0,none⟩)]
def SpD (w:World) (c:Value) (b:Nat) (a:Bool) (r:Option (Nat×List Nd)):Prop:=match r with
 |some (t,d)=>a=true/\b=t/\Rs ndR w c d ah/\DV d/\t<d.length
 |none=>a=false
structure SpR (w:World) (p:Pb) (A1 A2 A3 A4 A5:Option Addr) (c1 c2 c3 c4 c5 gs:Nat) (RU LV DG:Value) (root:Nat) (small:Bool) (gb gr:Nat):Prop where
 b:Box w gs (spC (.slice A1 p.vars.length c1) (.slice A2 p.hard.length c2) (.slice A3 p.soft.length c3) (.slice A4 p.dists.length c4) (.slice A5 p.groups.length c5) RU LV DG root small (wgV gb)) 89
 ru:Rs (exR KE) w RU (aA p) ah
 lv:IL w LV (cC p)
 wg:WgB w gb gr p.vars.length
 d:SpD w DG root small (dC (nmV p.vars (cC p)) (aA p) 1 bT)
def OpR (w:World) (p:Pb) (A1 A2 A3 A4 A5:Option Addr) (c1 c2 c3 c4 c5:Nat) (e:Ending) (w':World):Prop:=Below w.heap.size w w'∧
 ((cF p p.hard=false/\e= .returned (.tuple #[.pointer none,.int .i64 11]))\/(cF p p.hard=true/\∃gs f d c b a g gr,e= .returned (.tuple #[.pointer (some ⟨gs,0,none⟩),.int .i64 0])/\w.heap.size<=gs/\SpR w' p A1 A2 A3 A4 A5 c1 c2 c3 c4 c5 gs f d c b a g gr))
theorem nd_keep {w w':World} {x:Value} {d:List Nd} (h:Rs ndR w x d ah) (r:w.heap.size<=w'.heap.size) (p:∀q,x.ownBlock=some q->w'.heap[q]? =w.heap[q]?):Rs ndR w' x d ah:=by
 obtain⟨A,c,rfl,l,h⟩:=h;refine⟨A,c,rfl,l,λn=> ?_⟩;obtain⟨b,o,rfl,g,h⟩:=h n;refine⟨b,o,rfl,yE g r,λj y m=> ?_⟩;obtain⟨us,e,f⟩:=h j y m;exact⟨us,λi hi=>(World.cell?_of_block (a:=⟨b,o+j*ndR.k+i,none⟩) (p b rfl)).trans (e i hi),f⟩
theorem tL {w:World} {x:Value} {d:List Nd} {g i:Nat} {cs:Array Value} {T:TypeId} {u:Value} (h:Rs ndR w x d ah) (c:NR w x) (j:Box w g cs T) (f:T≠95):Rs ndR (w.setCell ⟨g,i,none⟩ u) x d ah/\NR (w.setCell ⟨g,i,none⟩ u) x:=by
 have b:∀q,x.ownBlock=some q->(w.setCell ⟨g,i,none⟩ u).heap[q]? =w.heap[q]? :=λq a=>Aj w ⟨g,i,none⟩ u q (λe=>c.box j f q a e);exact⟨nd_keep h (by simp[World.setCell]) b,c.keep λq a _=>b q a⟩
def SP1 (g:Nat) (cs:Array Value) (W:World):Prop:=Box W g cs 27
theorem rnOpen {w:World} {p:Pb} {A1 A2 A3 A4 A5:Option Addr} {c1 c2 c3 c4 c5:Nat} (hp:PIn w p A1 A2 A3 A4 A5 c1 c2 c3 c4 c5) (hs:PSm p) (hk:KW w) (hm:cM w) (hv:PV p) (P:StP p) (hd:p.dists=[]) (aC:aD (az p.vars)<=18) (hn:p.hard.length+p.soft.length<=1000) (aH:∀e∈p.hard++p.soft,jK (aw p.vars) e):
  Calls Tryz.prog 39 #[pbV p A1 A2 A3 A4 A5 c1 c2 c3 c4 c5] w (OpR w p A1 A2 A3 A4 A5 c1 c2 c3 c4 c5):=by
 have CR:=zh fun(W:World) (a:Below w.heap.size w W)=>qh (hp.below a) hs (hk.below a) (hm.below a) hv hd aC hn;have CL:=zh fun(W:World) (a:Below w.heap.size w W)=>sX W p A1 A2 A3 A4 A5 p.hard.length c1 c2 p.soft.length c3 p.dists.length c4 c5 (hp.v.below a) (hp.g.below a) (evC (hp.below a) hs (hk.below a) (hm.below a) hv) hs.nv hs.ng P.gm P.wd;have CW:=zh fun(W:World)=>rnWeigh W A1 A2 A3 A4 A5 p.vars.length c1 p.hard.length c2 p.soft.length c3 c4 p.groups.length c5 hs.nv;have CA:=zh fun(W:World) (a:Below w.heap.size w W) (Al:Option Addr) (cl:Nat) (hr:Rs (exR KE) W (.slice Al (aA p).length cl) (aA p) ah)=>blAll W p P A1 A2 A3 A4 A5 Al c1 p.hard.length c2 p.soft.length c3 p.dists.length c4 c5 cl (hp.v.below a) (hp.g.below a) (evC (hp.below a) hs (hk.below a) (hm.below a) hv) (hk.below a) (hm.below a) (aA p) KE hr (yK (dL p).2 hn) (λe he=>aH e ((dL p).1 e he));have N:p.dists.length=0:=by rw[hd];rfl
 rw[N] at CL CA;unfold RlR pbV at CR;unfold LvRes at CL;unfold mD at CA;unfold pbV;rw[N] at CR⊢;have ai:=zh N;generalize aE:dC (nmV p.vars (cC p)) (aA p) 1 bT=AB at*;have af:=zh aE;obtain⟨j,X⟩:=zv (p.vars.length);obtain⟨F,Y⟩:=zv (p.hard.length);obtain⟨G,Z⟩:=zv (p.soft.length);obtain⟨H,aa⟩:=zv (p.groups.length);obtain⟨B,ak,al,am⟩:=zk4 X Y Z aa;rw[<-X,<-Y,<-Z,<-aa] at CR CL CW CA⊢;have aj:Hid ((cC p).length=p.vars.length):=zh (by unfold cC;rw[eH,Ax]);clear hp hs hk hm hv P hd aC hn aH N aE X Y Z aa;go_enter Tryz.func39,Tryz.ntmps39;go_upto_region 1 with fail;generalize aP:w.alloc _=w1 at*;obtain⟨c,k⟩:=zB1 aP;clear aP;have aq:=za k 0 rfl;have ar:=za k 1 rfl;have au:=za k 2 rfl;have av:=za k 3 rfl;have ax:=za k 4 rfl;go_wp2_with fail;clear aq ar au av ax;refine(CR w1 c).mono ?_;rintro e w2 ⟨a,⟨Q,rfl⟩|⟨Q,v,rfl,ab⟩⟩
 ·skip
  replace k:=zb k a;replace c:=zb c a;clear a;go_wp2_with fail;go_ret2;exact⟨c,.inl ⟨Q,by trivial⟩⟩
 ·skip
  replace k:=zb k a;replace c:=zb c a;clear a;have o:=zh ab;obtain⟨Al,cl,e1, -⟩:=ab.slice;subst e1;clear ab CR;go_upto_region 4 with fail;refine Ab (S:=SP1 w.heap.size #[.slice A1 j c1,.slice A2 F c2,.slice A3 G c3,.slice A4 0 c4,.slice A5 H c5]) (by kernel_rfl) k (λhS=> ?_);have M:Below w2.heap.size w2 w2.drew:=ae _;replace k:=zb k M;replace o:=zb o M;replace c:=zb c M;clear M;generalize w2.drew=w3 at*;refine zt 0 (.agg #[.slice A1 j c1,.slice A2 F c2,.slice A3 G c3,.slice A4 0 c4,.slice A5 H c5]) rfl (Or.inl ⟨by rfl,λW q=>by have q0:=q.at_ 0 _ rfl;have q1:=q.at_ 1 _ rfl;have q2:=q.at_ 2 _ rfl;have q3:=q.at_ 3 _ rfl;have q4:=q.at_ 4 _ rfl;go_simp⟩) ?_;simp only[zp];refine zt 1 (.slice Al (aA p).length cl) rfl (Or.inl ⟨by rfl,λW q=>by go_simp⟩) ?_;simp only[zp];refine zt 2 (.agg #[.slice A1 j c1,.slice A2 F c2,.slice A3 G c3,.slice A4 0 c4,.slice A5 H c5]) rfl (Or.inl ⟨by rfl,λW q=>by have q0:=q.at_ 0 _ rfl;have q1:=q.at_ 1 _ rfl;have q2:=q.at_ 2 _ rfl;have q3:=q.at_ 3 _ rfl;have q4:=q.at_ 4 _ rfl;go_simp⟩) ?_;simp only[zp];refine zt 4 (.agg #[.slice A1 j c1,.slice A2 F c2,.slice A3 G c3,.slice A4 0 c4,.slice A5 H c5]) rfl (Or.inl ⟨by rfl,λW q=>by have q0:=q.at_ 0 _ rfl;have q1:=q.at_ 1 _ rfl;have q2:=q.at_ 2 _ rfl;have q3:=q.at_ 3 _ rfl;have q4:=q.at_ 4 _ rfl;go_simp⟩) ?_;simp only[zp];clear hS;refine aB (i:=3) (by kernel_rfl) rfl ?_;go_wp2_with fail;refine(CL w3 c).mono ?_;rintro e w4 ⟨L,rfl,a0,aJ,a⟩;have XL:=zh aJ;clear aJ CL;replace k:=zb k a;replace o:=zb o a;replace c:=zb c a;clear a;go_wp2_with fail;refine⟨rfl,k, ?_⟩;refine aB (i:=5) (by kernel_rfl) rfl ?_;go_wp2_with fail;refine(CW w4).mono ?_;rintro e h ⟨K,gr,rfl,aI,a⟩;have U:=zh aI;clear aI CW;replace k:=zb k a;replace o:=zb o a;replace XL:=zb XL a;replace c:=zb c a;clear a;go_wp2_with fail;refine⟨rfl,k, ?_⟩;refine aB (i:=6) (by kernel_rfl) rfl ?_;go_wp2_with fail;refine⟨rfl,k, ?_⟩;refine aB (i:=7) (by kernel_rfl) rfl ?_;go_wp2_with fail;have A:=ac h (.cells #[.slice A1 j c1,.slice A2 F c2,.slice A3 G c3,.slice A4 0 c4,.slice A5 H c5,.slice Al (aA p).length cl,.slice (some ⟨L,0,none⟩) j j,.slice none 0 0,.int .i64 0,.bool false,wgV K] 89);have b:=zh (Box.new h 89 #[.slice A1 j c1,.slice A2 F c2,.slice A3 G c3,.slice A4 0 c4,.slice A5 H c5,.slice Al (aA p).length cl,.slice (some ⟨L,0,none⟩) j j,.slice none 0 0,.int .i64 0,.bool false,wgV K]);have aQ:=zh c.out.size;replace k:=zb k A;have ag:=zh A;have R:=zh o;have ap:=zh XL;have T:=zh U;replace o:=zb o A;replace XL:=zb XL A;replace U:=zb U A;replace c:=zb c A;clear A;refine⟨rfl,k, ?_⟩;unfold wgV at*;generalize h.alloc (.cells (#[.slice A1 j c1,.slice A2 F c2,.slice A3 G c3,.slice A4 0 c4,.slice A5 H c5,.slice Al (aA p).length cl,.slice (some ⟨L,0,none⟩) j j,.slice none 0 0,.int .i64 0,.bool false,.func (.func 140) #[] #[.pointer (some ⟨K,0,none⟩)]]) 89)=w6 at*;refine aB (i:=8) (by kernel_rfl) rfl ?_;go_wp2_with fail;refine⟨rfl,k,AN (by kernel_rfl) ?_ _⟩;have aF:=aQ.out;have f:=zh ag;clear ag;have aV:=za k 0 rfl;have aW:=za k 1 rfl;have aX:=za k 2 rfl;have aY:=za k 3 rfl;have aZ:=za k 4 rfl;have CB:=zh (CA w6 c Al cl o);clear CA;go_wp2_with fail;clear aV aW aX aY aZ;refine CB.out.mono ?_;rintro e w7 ⟨a,hr⟩;clear CB
  cases AB with
  |none=>
   simp only at hr;subst hr;have b:=b;have V:=a;replace b:=zb b a;replace c:=zb c a;replace f:=zb f a;clear a V k;have r:=zh ((f.out.setCell (p:=⟨h.heap.size,7,none⟩) (yq _) (.slice none 0 0)).setCell (p:=⟨h.heap.size,8,none⟩) (yq _) (.int .i64 0));have m:=zh ((b.out.set_ 7 (.slice none 0 0)).set_ 8 (.int .i64 0));have l:=zh ((c.out.setCell (p:=⟨h.heap.size,7,none⟩) (by show w.heap.size<=h.heap.size;omega) (.slice none 0 0)).setCell (p:=⟨h.heap.size,8,none⟩) (by show w.heap.size<=h.heap.size;omega) (.int .i64 0));have C:=za b 7 rfl;have D:=za b 8 rfl;have n:=b.out.lt;have s:=b.out.frozen 7;have y:=b.out.frozen 8;go_upto_region 6 with fail;clear C D n s y;clear c b;generalize(w7.setCell ⟨h.heap.size,7,none⟩ (.slice none 0 0)).setCell ⟨h.heap.size,8,none⟩ (.int .i64 0)=w8 at*;have b:Hid (Box w8 h.heap.size #[.slice A1 j c1,.slice A2 F c2,.slice A3 G c3,.slice A4 0 c4,.slice A5 H c5,.slice Al (aA p).length cl,.slice (some ⟨L,0,none⟩) j j,.slice none 0 0,.int .i64 0,.bool false,.func (.func 140) #[] #[.pointer (some ⟨K,0,none⟩)]] 89):=m;have c:=l;clear l m;clear f;have f:=zh (r.out.setCell (p:=⟨h.heap.size,9,none⟩) (yq _) (.bool false));clear r;have m:=zh (b.out.set_ 9 (.bool false));have l:=zh (c.out.setCell (p:=⟨h.heap.size,9,none⟩) (by show w.heap.size<=h.heap.size;omega) (.bool false));have E:=za b 9 rfl;have n:=b.out.lt;have z:=b.out.frozen 9;go_upto_region 7 with fail;clear E n z;clear c b;generalize w8.setCell ⟨h.heap.size,9,none⟩ (.bool false)=w9 at*;have b:Hid (Box w9 h.heap.size #[.slice A1 j c1,.slice A2 F c2,.slice A3 G c3,.slice A4 0 c4,.slice A5 H c5,.slice Al (aA p).length cl,.slice (some ⟨L,0,none⟩) j j,.slice none 0 0,.int .i64 0,.bool false,.func (.func 140) #[] #[.pointer (some ⟨K,0,none⟩)]] 89):=m;have c:=l;clear l m;go_wp2_with fail;go_ret2;refine⟨c,.inr ⟨Q,h.heap.size,.slice Al (aA p).length cl,.slice (some ⟨L,0,none⟩) j j,.slice none 0 0,0,false,K,gr,by trivial,aF, ?_⟩⟩;refine⟨?_,R.out.below f,ko (ap.out.below f) j (by rw[aj.out,B.out]),by rw[<-B.out];exact T.out.below f, ?_⟩
   ·unfold spC wgV;rw[ai.out,<-B.out,<-ak.out,<-al.out,<-am.out];exact b
   ·rw[af.out];exact rfl
  |some td=>
   obtain⟨t,d⟩:=td;simp only at hr;obtain⟨x,rfl,ad,aG,aS, -,aT⟩:=hr;obtain⟨I,J,e1, -⟩:=ad.slice;subst e1;have b:=b;have V:=a;replace b:=zb b a;replace c:=zb c a;replace f:=zb f a;clear a V k;have r:=zh ((f.out.setCell (p:=⟨h.heap.size,7,none⟩) (yq _) (.slice I d.length J)).setCell (p:=⟨h.heap.size,8,none⟩) (yq _) (.int .i64 (t:Nat)));have ay:=b.out.set_ 7 (.slice I d.length J);obtain⟨aK,aL⟩:=tL (i:=7) (u:= .slice I d.length J) ad aG b (by decide);obtain⟨aM,aN⟩:=tL (i:=8) (u:= .int .i64 (t:Nat)) aK aL ay (by decide);obtain⟨an,ao⟩:=zk2 aM aN;clear ad aG ay aK aL aM aN;have m:=zh ((b.out.set_ 7 (.slice I d.length J)).set_ 8 (.int .i64 (t:Nat)));have l:=zh ((c.out.setCell (p:=⟨h.heap.size,7,none⟩) (by show w.heap.size<=h.heap.size;omega) (.slice I d.length J)).setCell (p:=⟨h.heap.size,8,none⟩) (by show w.heap.size<=h.heap.size;omega) (.int .i64 (t:Nat)));have C:=za b 7 rfl;have D:=za b 8 rfl;have n:=b.out.lt;have s:=b.out.frozen 7;have y:=b.out.frozen 8;go_upto_region 6 with fail;clear C D n s y;clear c b;generalize(w7.setCell ⟨h.heap.size,7,none⟩ (.slice I d.length J)).setCell ⟨h.heap.size,8,none⟩ (.int .i64 (t:Nat))=w8 at*;have b:Hid (Box w8 h.heap.size #[.slice A1 j c1,.slice A2 F c2,.slice A3 G c3,.slice A4 0 c4,.slice A5 H c5,.slice Al (aA p).length cl,.slice (some ⟨L,0,none⟩) j j,.slice I d.length J,.int .i64 (t:Nat),.bool false,.func (.func 140) #[] #[.pointer (some ⟨K,0,none⟩)]] 89):=m;have c:=l;clear l m;clear f;have f:=zh (r.out.setCell (p:=⟨h.heap.size,9,none⟩) (yq _) (.bool true));obtain⟨aO,aU⟩:=tL (i:=9) (u:= .bool true) an ao b (by decide);have aR:=zh aO;clear aO aU an ao;clear r;have m:=zh (b.out.set_ 9 (.bool true));have l:=zh (c.out.setCell (p:=⟨h.heap.size,9,none⟩) (by show w.heap.size<=h.heap.size;omega) (.bool true));have E:=za b 9 rfl;have n:=b.out.lt;have z:=b.out.frozen 9;go_upto_region 7 with fail;clear E n z;clear c b;generalize w8.setCell ⟨h.heap.size,9,none⟩ (.bool true)=w9 at*;have b:Hid (Box w9 h.heap.size #[.slice A1 j c1,.slice A2 F c2,.slice A3 G c3,.slice A4 0 c4,.slice A5 H c5,.slice Al (aA p).length cl,.slice (some ⟨L,0,none⟩) j j,.slice I d.length J,.int .i64 (t:Nat),.bool true,.func (.func 140) #[] #[.pointer (some ⟨K,0,none⟩)]] 89):=m;have c:=l;clear l m;go_wp2_with fail;go_ret2;refine⟨c,.inr ⟨Q,h.heap.size,.slice Al (aA p).length cl,.slice (some ⟨L,0,none⟩) j j,.slice I d.length J,t,true,K,gr,by trivial,aF, ?_⟩⟩;refine⟨?_,R.out.below f,ko (ap.out.below f) j (by rw[aj.out,B.out]),by rw[<-B.out];exact T.out.below f, ?_⟩
   ·unfold spC wgV;rw[ai.out,<-B.out,<-ak.out,<-al.out,<-am.out];exact b
   ·rw[af.out];exact⟨rfl,rfl,aR,aS,aT⟩
structure mE (vars:List Vr) (a:List Nat):Prop where
 len:a.length=vars.length
 ok:∀i,i<vars.length->((vars.getD i vr0).mode=0->((a.getD i 0:Nat):Int)=(vars.getD i vr0).value)/\a.getD i 0<2^(vars.getD i vr0).width.toNat
theorem xW {w:World} {p:Pb} {A1 A2 A3 A4 A5:Option Addr} {c1 c2 c3 c4 c5:Nat} (hp:PIn w p A1 A2 A3 A4 A5 c1 c2 c3 c4 c5) (R:p.vars.length<=16) (H:∀v∈p.vars,0<=v.width/\v.width<=8) (a:List Nat) (va:Value) (ha:IL w va (nI a)) (J:mE p.vars a):
  Calls Tryz.prog 220 #[pbV p A1 A2 A3 A4 A5 c1 c2 c3 c4 c5,va] w λe w'=>e= .returned (.bool true)/\Below w.heap.size w w':=by
 have U:=zh hp.v;have M:=zh J.ok;have N:=zh H;obtain⟨Aa,ca,rfl, -,t⟩:=ha;have j:=zh t;rw[aF,J.len] at j;rw[aF,J.len];unfold pbV;obtain⟨nv,n⟩:=zv (p.vars.length);obtain⟨n2,C⟩:=zv (p.hard.length);obtain⟨n3,D⟩:=zv (p.soft.length);obtain⟨n4,E⟩:=zv (p.dists.length);obtain⟨n5,F⟩:=zv (p.groups.length);have L:=zh n;rw[<-n] at j U R⊢;rw[<-C,<-D,<-E,<-F];clear hp J t n C D E F H;go_enter Tryz.func220,Tryz.ntmps220;go_upto_region 1 with fail;generalize f:w.alloc _=w1 at*;obtain⟨d,V⟩:=zB1 f;clear f;have s:=za V 0 rfl;go_wp2_with fail;clear s
 go_loopw [16] (λS wr=>∃k:Nat,k<=nv/\S= .int .i64 (k:Nat)/\Below w.heap.size w wr) (λS _=>nv+1-(intOf S).toNat)
 case atStart=>exact⟨0,yt _,rfl,d⟩
 case round=>
  obtain⟨k,hk,rfl,x⟩:=hrel;clear d V;have d:=zh x;clear x
  by_cases A:k<nv
  ·have B:(k:Int)<(nv:Int):=by omega
   have k0:(0:Int)<=(k:Int):=by omega
   have i:k<p.vars.length:=by rw[<-L.out];exact A
   obtain⟨A',c',e1, -,y⟩:=U.out.vrs;obtain⟨b,o,W,g,c⟩:=y k i
   have e3:A1=some ⟨b,o,none⟩:=by
    simp only[yA] at e1;rw[e1.1,W]
   subst e3;obtain⟨a1,rfl,z,G⟩:=j.out (by omega);have I:=G k A;rw[eO] at I;have r:(a1.add k).block<w.heap.size:=by rw[aP];exact z
   have T:=(d.out.cell g).trans (c 0 _ rfl);have y1:=(d.out.cell g).trans (c 1 _ rfl);have y2:=(d.out.cell g).trans (c 2 _ rfl);have y3:=(d.out.cell g).trans (c 3 _ rfl);rw[yU] at T;replace I:=(d.out.cell r).trans I;replace r:=yE r d.out.size;obtain⟨Y,K⟩:=M.out k i;have o1:=N.out (p.vars.getD k vr0) (getD_in vr0 i);generalize p.vars.getD k vr0=vr at*;obtain⟨X,wd,md,vl⟩:=vr;simp only at o1 Y K T y1 y2 y3;obtain⟨wn,rfl⟩:∃wn:Nat,wd=wn:=⟨wd.toNat,by omega⟩;rw[y5] at K;generalize a.getD k 0=l at*;have hw:=it (show wn<=20 by omega);have p1:¬((l:Int)<0):=by omega
   have p2:decide ((l:Int)<0)=false:=by simp
   have p3:((l:Int)<((2^wn:Nat):Int)):=Int.ofNat_lt.2 K;clear e1 W y c z G K i;go_upto_region 6 with fail;clear T y1 y2 y3;have z2:=((ac wr (.cells #[.string X,.int .i64 (wn:Nat),.int .i64 md,.int .i64 vl] 98)).cell r).trans I;have z3:=yE r (ac wr (.cells #[.string X,.int .i64 (wn:Nat),.int .i64 md,.int .i64 vl] 98)).size;clear I r;generalize f:wr.alloc _=w3 at*;obtain⟨u,P⟩:=zA1 f;clear f;replace d:=zb d u;clear u;have zL:=λq:Lat w3=>(q.h.cell z3).trans z2;have Z:=P.out.lat 1 _ rfl;have s2:=P.out.lat 2 _ rfl;have s3:=P.out.lat 3 _ rfl;generalize 2^wn=m at*;have q4:¬((m:Int)<=(l:Int)):=by omega
   have q5:decide (m<=l)=false:=by simp;omega
   by_cases hm:md=0
   ·subst hm;have hq:=Y rfl;subst hq;have q1:((l:Int) !=(l:Int))=false:=by simp
    refine aJ (by kernel_rfl) (by kernel_rfl) ?_
    repeat(go_big_quiet_step (fail))
    refine yN ?_;intro w8 Q;clear zL Z s2 s3;replace d:=zb d Q;go_wp2_with fail;go_roundw
    ·exact⟨k+1,by omega,by go_num,d⟩
    ·simp[intOf];omega
   ·have q1:(md==0)=false:=by simpa using hm
    refine aJ (by kernel_rfl) (by kernel_rfl) ?_
    repeat(go_big_quiet_step (fail))
    refine yN ?_;intro w8 Q;clear zL Z s2 s3;replace d:=zb d Q;go_wp2_with fail;go_roundw
    ·exact⟨k+1,by omega,by go_num,d⟩
    ·simp[intOf];omega
  ·have B:¬(k:Int)<(nv:Int):=by omega
   go_wp2_with fail;go_ret;exact⟨rfl,d⟩
def SPE (g b:Nat) (cs a:Array Value) (W:World):Prop:=Box W g cs 27/\Box W b a 79
theorem elHolds {w:World} {p:Pb} {A1 A2 A3 A4 A5:Option Addr} {c1 c2 c3 c4 c5:Nat} (hp:PIn w p A1 A2 A3 A4 A5 c1 c2 c3 c4 c5) (K:PSm p) (hk:KW w) (hm:cM w) (E:PV p) (a:List Nat) (va:Value) (T:IL w va (nI a)) (J:mE p.vars a) (e:Ex) (B:Option Addr) (C:Nat) (X:Rs (exR 29) w (.slice B e.args.length C) e.args ah) (j:jK (aw p.vars) e):
  Calls Tryz.prog 144 #[pbV p A1 A2 A3 A4 A5 c1 c2 c3 c4 c5,va,exV e (.slice B e.args.length C)] w λr w'=>r= .returned (.bool (decide (evT (fo (aw p.vars) a) dep e≠0)))/\Below w.heap.size w w':=by
 have y:∀x∈eK p.vars a p.vars.length,x.2<65536:=λx Y=>by
  unfold eK at Y;obtain⟨i,hi,rfl⟩:=AP.1 Y;rw[BI] at hi;have h1:=(J.ok i hi).2;have V:=(E.vars.ok _ (getD_in vr0 hi)).2.1
  have h3:2^(p.vars.getD i vr0).width.toNat<=256:=by
   have:=AC (n:=2) (by omega) (show(p.vars.getD i vr0).width.toNat<=8 by omega);simpa using this
  show a.getD i 0<65536;omega
 have N:=zh fun(W:World) (c:Below w.heap.size w W)=>evC (hp.below c) K (hk.below c) (hm.below c) E W (yx _ _);have M:=zh fun(W:World) (c:Below w.heap.size w W)=>xW (hp.below c) E.vars.len (λv h=>by have:=(E.vars.ok v h).2.1;omega) a va (T.below c) J;have H:=zh fun(W:World) (c:Below w.heap.size w W)=>elEnv (hp.below c) K a va (T.below c) J.len;have I:=zh fun(W:World) (v:Value) (c:Below w.heap.size w W) (U:Rs sgR W v (eK p.vars a p.vars.length) ah)=>exEval W (eK p.vars a p.vars.length) v e 29 B C (λs=>decide (s∈aw p.vars)) U (by rw[iQ];exact K.nv) y j.z (hk.below c) (hm.below c) (X.below c) (by decide) j.len j.ok.1 j.ok.2.1 (λs h=>pK (j.ok.2.2 s h)) j.okE;rw[sg_env] at I;unfold EnR at H;generalize evT (fo (aw p.vars) a) dep e=R at*;unfold pbV at N M H⊢;unfold exV at I⊢;obtain⟨Z,ca,rfl, -, -⟩:=T;generalize p.vars.length=n1 at*;generalize p.hard.length=n2 at*;generalize p.soft.length=n3 at*;generalize p.dists.length=n4 at*;generalize p.groups.length=n5 at*;generalize e.args.length=ne at*;generalize e.op=eo at*;generalize e.n=en at*;generalize e.name=em at*;generalize(nI a).length=la at*;clear hp K hk hm E J X j y;go_enter Tryz.func144,Tryz.ntmps144;go_upto_region 1 with fail;generalize F:w.alloc _=zw1 at*;generalize G:zw1.alloc _=w1 at*;obtain⟨g,d,f⟩:=zB2 F G;clear F G;have l:=za d 0 rfl;have m:=za d 1 rfl;have o:=za d 2 rfl;have q:=za d 3 rfl;have t:=za d 4 rfl;go_wp2_with fail;refine(N w1 g).mono ?_;rintro e w2 ⟨rfl,c⟩;clear l m o q t;replace d:=zb d c;replace f:=zb f c;replace g:=zb g c;clear c;clear N;have l:=za d 0 rfl;have m:=za d 1 rfl;have o:=za d 2 rfl;have q:=za d 3 rfl;have t:=za d 4 rfl;go_wp2_with fail;refine(M w2 g).mono ?_;rintro e L ⟨rfl,c⟩;clear l m o q t;replace d:=zb d c;replace f:=zb f c;replace g:=zb g c;clear c;clear M;go_upto_region 3 with fail;refine Ab (S:=SPE w.heap.size (w.heap.size+1) #[.slice A1 n1 c1,.slice A2 n2 c2,.slice A3 n3 c3,.slice A4 n4 c4,.slice A5 n5 c5] #[.int .i64 eo,.int .i64 en,.string em,.slice B ne C]) (by kernel_rfl) ⟨d,f⟩ (λQ=> ?_);have u:Below L.heap.size L L.drew:=ae _;replace d:=zb d u;replace f:=zb f u;replace g:=zb g u;clear u;generalize L.drew=w4 at*;refine zt 0 (.agg #[.int .i64 eo,.int .i64 en,.string em,.slice B ne C]) rfl (Or.inl ⟨by rfl,λW k=>by have q0:=k.2.at_ 0 _ rfl;have q1:=k.2.at_ 1 _ rfl;have q2:=k.2.at_ 2 _ rfl;have q3:=k.2.at_ 3 _ rfl;go_simp⟩) ?_;simp only[zp];refine zt 1 (.agg #[.slice A1 n1 c1,.slice A2 n2 c2,.slice A3 n3 c3,.slice A4 n4 c4,.slice A5 n5 c5]) rfl (Or.inl ⟨by rfl,λW k=>by have q0:=k.1.at_ 0 _ rfl;have q1:=k.1.at_ 1 _ rfl;have q2:=k.1.at_ 2 _ rfl;have q3:=k.1.at_ 3 _ rfl;have q4:=k.1.at_ 4 _ rfl;go_simp⟩) ?_;simp only[zp];refine zt 2 (.slice Z la ca) rfl (Or.inl ⟨by rfl,λW k=>by go_simp⟩) ?_;simp only[zp];clear Q;refine aB (i:=3) (by kernel_rfl) rfl ?_;go_wp2_with fail;refine(H w4 g).mono ?_;rintro e w5 ⟨v,rfl,A,c⟩;have D:=zh A;obtain⟨Av,cv,rfl⟩:=A.slice;clear A H;replace d:=zb d c;replace f:=zb f c;replace g:=zb g c;clear c;go_wp2_with fail;refine⟨rfl,⟨d,f⟩, ?_⟩;refine aB (i:=4) (by kernel_rfl) rfl ?_;go_wp2_with fail;refine(I w5 _ g (D.out.rs.mono (λb c=>trivial))).mono ?_;rintro e w6 ⟨rfl,c⟩;clear I D;replace d:=zb d c;replace f:=zb f c;replace g:=zb g c;clear c;go_wp2_with fail;refine⟨rfl,⟨d,f⟩, ?_⟩;refine aB (i:=5) (by kernel_rfl) rfl ?_;go_wp2_with fail;refine⟨rfl,⟨d,f⟩, ?_⟩;have Q:SPE w.heap.size (w.heap.size+1) #[.slice A1 n1 c1,.slice A2 n2 c2,.slice A3 n3 c3,.slice A4 n4 c4,.slice A5 n5 c5] #[.int .i64 eo,.int .i64 en,.string em,.slice B ne C] w6:=⟨d,f⟩;refine zt 6 (.int .i64 (R:Nat)) rfl (Or.inl ⟨by rfl,λW k=>by go_simp⟩) ?_;simp only[zp];refine zt 7 (.int .i64 0) rfl (Or.inl ⟨by rfl,λW k=>by go_simp⟩) ?_;simp only[zp];clear Q;refine aB (i:=8) (by kernel_rfl) rfl ?_;go_wp2_with fail;refine⟨rfl,⟨d,f⟩, ?_⟩;refine aB (i:=9) (by kernel_rfl) rfl ?_;go_wp2_with fail;refine⟨rfl,⟨d,f⟩,AN (by kernel_rfl) ?_ _⟩
 by_cases P:R=0
 ·subst P;go_wp2_with fail;go_ret;exact⟨rfl,g⟩
 ·have h1:((R:Int) !=0)=true:=by simp;omega
  have V:Hid (decide (R≠0)=true):=zh (by simp;exact P);clear P;go_wp2_with fail;go_ret;exact⟨by rw[V.out];rfl,g⟩
theorem wT {w:World} {p:Pb} {A1 A2 A3 A4 A5:Option Addr} {c1 c2 c3 c4 c5:Nat} (gs gp ga:Nat) (F E D G:Value) (l:Nat) (g:Bool) (C:Box w gs (spC (.slice A1 p.vars.length c1) (.slice A2 p.hard.length c2) (.slice A3 p.soft.length c3) (.slice A4 p.dists.length c4) (.slice A5 p.groups.length c5) F E D l g G) 89) (va:Value) (k:Box w gp #[.pointer (some ⟨gs,0,none⟩)] 84) (j:Box w ga #[va] 32)
  (u:∃A n c,va= .slice A n c) (e:Ex) (v:Option Addr) (y:Nat) (q:Bool) (z:∀W,Below w.heap.size w W->Calls Tryz.prog 144 #[pbV p A1 A2 A3 A4 A5 c1 c2 c3 c4 c5,va,exV e (.slice v e.args.length y)] W λr w'=>r= .returned (.bool q)/\Below W.heap.size W w'):
  Calls Tryz.prog 143 (#[exV e (.slice v e.args.length y)]++#[.pointer (some ⟨gp,0,none⟩),.pointer (some ⟨ga,0,none⟩)]) w λr w'=>r= .returned (.bool (!q))/\Below w.heap.size w w':=by
 obtain⟨S,U,T,rfl⟩:=u;obtain⟨b,f,d,s⟩:=zk4 C k j z;unfold pbV exV at s;unfold exV;unfold spC at b;generalize p.vars.length=n1 at*;generalize p.hard.length=n2 at*;generalize p.soft.length=n3 at*;generalize p.dists.length=n4 at*;generalize p.groups.length=n5 at*;generalize e.args.length=ne at*;generalize e.op=eo at*;generalize e.n=en at*;generalize e.name=em at*;clear C k j z;go_enter Tryz.func143,Tryz.ntmps143;go_upto_region 1 with fail;have t:=zh (yx w.heap.size w);generalize m:w.alloc _=w1 at*;obtain⟨a,i⟩:=zA1 m;clear m;have o:=zh a;replace b:=zb b a;replace f:=zb f a;replace d:=zb d a;clear a t;have x0:=b.out.lat 0 _ rfl;have H:=b.out.lat 1 _ rfl;have I:=b.out.lat 2 _ rfl;have J:=b.out.lat 3 _ rfl;have K:=b.out.lat 4 _ rfl;have L:=f.out.lat 0 _ rfl;have M:=d.out.lat 0 _ rfl;have N:=i.out.lat 0 _ rfl;have P:=i.out.lat 1 _ rfl;have Q:=i.out.lat 2 _ rfl;have R:=i.out.lat 3 _ rfl;have x:=zh λq:Lat w1=>s.out q.w (ab o q.h);clear s;refine aJ (by kernel_rfl) (by kernel_rfl) ?_
 repeat(go_big_quiet_step (with_reducible exact bQ (x.out _)))
 refine yN ?_;intro V B;replace o:=zb o B;clear B x x0 H I J K L M N P Q R b f d i;go_wp2_with fail;go_ret;exact⟨rfl,o⟩
theorem rnSolves {w:World} {p:Pb} {A1 A2 A3 A4 A5:Option Addr} {c1 c2 c3 c4 c5:Nat} (hp:PIn w p A1 A2 A3 A4 A5 c1 c2 c3 c4 c5) (U:PSm p) (hk:KW w) (hm:cM w) (V:PV p) (l:p.hard.length+p.soft.length<=1000) (s:∀e∈p.hard++p.soft,jK (aw p.vars) e)
  (gs:Nat) (B P N Q:Value) (f:Nat) (d:Bool) (M:Box w gs (spC (.slice A1 p.vars.length c1) (.slice A2 p.hard.length c2) (.slice A3 p.soft.length c3) (.slice A4 p.dists.length c4) (.slice A5 p.groups.length c5) B P N f d Q) 89) (h:Rs (exR KE) w B (aA p) ah) (a:List Nat) (va:Value) (J:IL w va (nI a)) (S:mE p.vars a):
  Calls Tryz.prog 80 #[.pointer (some ⟨gs,0,none⟩),va] w λr w'=>(∃q,r= .returned (.bool q))/\Below w.heap.size w w':=by
 have aa:=zm
 have v:∃A n c,va= .slice A n c:=by
  obtain⟨A,c,rfl, -⟩:=J;exact⟨A,_,c,rfl⟩
 have m:(aA p).length<=1000:=yK (dL p).2 l
 have Y:=zh fun(W:World) (g:Below w.heap.size w W) (gp ga:Nat) (L:Box W gp #[.pointer (some ⟨gs,0,none⟩)] 84) (K:Box W ga #[va] 32)=>hasFuncE W B (aA p) KE (h.below g) m 143 #[.pointer (some ⟨gp,0,none⟩),.pointer (some ⟨ga,0,none⟩)] (λe=> !(decide (evT (fo (aw p.vars) a) dep e≠0))) (λargs W=>by kernel_rfl) (λZ t u d' H ht T=>by
  obtain⟨D,G,rfl, -⟩:=T.slice;have o:=s t ((dL p).1 t ht);have I:Rs (exR 29) Z (.slice D t.args.length G) t.args ah:=T.deep (o.deep:∀a∈t.args,Deep 29 a);have b:=ab g H
  exact wT gs gp ga B P N Q f d (M.below b) va (L.below H) (K.below H) v t D G _ (λW3 k=>elHolds (hp.below (ab b k)) U (hk.below (ab b k)) (hm.below (ab b k)) V a va (J.below (ab b k)) S t D G (I.below k) o))
 generalize(aA p).any (λe=> !(decide (evT (fo (aw p.vars) a) dep e≠0)))=R at*;obtain⟨X,na,ca,rfl⟩:=v;obtain⟨Ar,cr,rfl, -⟩:=h.slice;have i:=zh M;unfold spC at i;clear hp U hk hm V l s M h J S m;go_enter Tryz.func80,Tryz.ntmps80;go_upto_region 1 with fail;have E:=zh (i.out.below (yx w.heap.size w));have b:Below w.heap.size w ((w.alloc (.cells #[.pointer (some ⟨gs,0,none⟩)] 84)).alloc (.cells #[.slice X na ca] 32)):=ab (ac w _) (ac _ _);replace i:=zb i b;clear E b;generalize x:w.alloc _=zw1 at*;generalize y:zw1.alloc _=w1 at*;obtain⟨z,C,F⟩:=zB2 x y;clear x y;have x5:=za i 5 rfl;have j:=za C 0 rfl;go_wp2_with fail;refine(Y w1 z _ _ C F).mono ?_;rintro e w2 ⟨rfl,g⟩;clear j;replace C:=zb C g;replace F:=zb F g;replace z:=zb z g;clear g;go_wp2_with fail;go_ret;exact⟨⟨_,rfl⟩,z⟩
def enV (ga gp gn gv:Nat):Value:= .func (.func 79) #[] #[.pointer (some ⟨ga,0,none⟩),.pointer (some ⟨gp,0,none⟩),.pointer (some ⟨gn,0,none⟩),.pointer (some ⟨gv,0,none⟩)]
structure EnK (w0:World) (gs ga gp gn gv gr nv:Nat) (W:World):Prop where
 hb:Below w0.heap.size w0 W
 xa:Box W ga #[.slice (some ⟨gr,0,none⟩) nv nv] 32
 xp:Box W gp #[.pointer (some ⟨gs,0,none⟩)] 84
 xv:Box W gv #[enV ga gp gn gv] 155
structure EnT (gr gn nv:Nat) (a:List Nat) (c:Int) (W:World):Prop where
 rr:Box W gr (iA (nI a)) 3
 rn:Box W gn #[.int .i64 c] 3
 len:a.length=nv
section
variable {w0 W W':World} {gs ga gp gn gv gr nv:Nat} {a:List Nat} {c:Int}
theorem EnK.below (h:EnK w0 gs ga gp gn gv gr nv W) (hb:Below W.heap.size W W'):EnK w0 gs ga gp gn gv gr nv W':=⟨ab h.hb hb,h.xa.below hb,h.xp.below hb,h.xv.below hb⟩
instance:Zm W W' (EnK w0 gs ga gp gn gv gr nv W) (EnK w0 gs ga gp gn gv gr nv W'):=⟨λhb h=>EnK.below h hb⟩
theorem EnT.below (h:EnT gr gn nv a c W) (b:Below W.heap.size W W'):EnT gr gn nv a c W':=⟨h.rr.below b,h.rn.below b,h.len⟩
instance:Zm W W' (EnT gr gn nv a c W) (EnT gr gn nv a c W'):=⟨λhb h=>EnT.below h hb⟩
theorem EnK.k2 (h:EnK w0 gs ga gp gn gv gr nv W) (hk:K2 W W' gr gn) (b:EnT gr gn nv a c W) (d:w0.heap.size<=gr) (e:w0.heap.size<=gn):EnK w0 gs ga gp gn gv gr nv W':=
 ⟨hk.toBelow h.hb d e,hk.box h.xa (af h.xa b.rr (by decide)) (af h.xa b.rn (by decide)),hk.box h.xp (af h.xp b.rr (by decide)) (af h.xp b.rn (by decide)),hk.box h.xv (af h.xv b.rr (by decide)) (af h.xv b.rn (by decide))⟩
theorem EnT.set (h:EnT gr gn nv a c W) (b:gr≠gn) (k x:Nat):EnT gr gn nv (a.set k x) c (W.setCell ⟨gr,k,none⟩ (.int .i64 (x:Nat)))/\K2 W (W.setCell ⟨gr,k,none⟩ (.int .i64 (x:Nat))) gr gn:=by
 have e:=h.rr.set_ k (.int .i64 (x:Nat));rw[gG,tO] at e;exact⟨⟨e,h.rn.setNe (p:=⟨gr,k,none⟩) b _,by rw[As];exact h.len⟩,(K2.refl W gr gn).set (p:=⟨gr,k,none⟩) (.inl rfl) _⟩
theorem EnT.inc (h:EnT gr gn nv a c W) (b:gr≠gn) (y:Int):EnT gr gn nv a y (W.setCell ⟨gn,0,none⟩ (.int .i64 y))/\K2 W (W.setCell ⟨gn,0,none⟩ (.int .i64 y)) gr gn:=
 ⟨⟨h.rr.setNe (p:=⟨gn,0,none⟩) (BQ b) _,h.rn.set_ 0 _,h.len⟩,(K2.refl W gr gn).set (p:=⟨gn,0,none⟩) (.inr rfl) _⟩
end
def oX (vars:List Vr) (a:List Nat) (i:Nat):Prop:=∀j,j<i->j<vars.length->((vars.getD j vr0).mode=0->((a.getD j 0:Nat):Int)=(vars.getD j vr0).value)/\a.getD j 0<2^(vars.getD j vr0).width.toNat
def EnR2 (vars:List Vr) (gr gn nv i:Nat) (a:List Nat) (W:World) (e:Ending) (W':World):Prop:=e= .returned (.tuple #[])/\K2 W W' gr gn/\∃b c,EnT gr gn nv b c W'/\∀j,j<i->b.getD j 0=a.getD j 0
theorem oX.step {vars:List Vr} {a:List Nat} {i x:Nat} (h:oX vars a i) (hi:i<a.length) (c:(vars.getD i vr0).mode=0->(x:Int)=(vars.getD i vr0).value) (d:x<2^(vars.getD i vr0).width.toNat):oX vars (a.set i x) (i+1):=λj f b=>by
 by_cases e:j=i
 ·subst e;rw[yj (l:=a.set j x),AR hi];exact⟨c,d⟩
 ·rw[yj (l:=a.set i x),AU (BQ e),<-yj];exact h j (by omega) b
theorem oX.same {vars:List Vr} {a c:List Nat} {i:Nat} (h:oX vars a i) (e:∀j,j<i->c.getD j 0=a.getD j 0):oX vars c i:=λj d b=>by
 rw[e j d];exact h j d b
theorem ny {a:List Nat} {i x j:Nat} (h:j<i):(a.set i x).getD j 0=a.getD j 0:=by
 rw[yj,AU (by omega),<-yj]
theorem rC {w0:World} {vars:List Vr} {A1:Option Addr} {c1:Nat} (gs ga gp gn gv gr nv:Nat) (H S D G RU LV DG WT:Value) (ag:Nat) (Y:Bool) (hx:Box w0 gs (spC (.slice A1 vars.length c1) H S D G RU LV DG ag Y WT) 89) (hv:Rs vrR w0 (.slice A1 vars.length c1) vars ah)
  (X:nv=vars.length) (au:nv<=16) (ae:∀v∈vars,eW v) (h1:w0.heap.size<=gr) (h2:w0.heap.size<=gn) (V:gr≠gn)
  (hS:∀W (a:List Nat) (va:Value),Below w0.heap.size w0 W->IL W va (nI a)->mE vars a->Calls Tryz.prog 80 #[.pointer (some ⟨gs,0,none⟩),va] W λr w'=>(∃q,r= .returned (.bool q))/\Below W.heap.size W w')
  (i:Nat) (hi:i<=nv)
  (IH:i<nv->∀(W:World) (a:List Nat) (c:Int),EnK w0 gs ga gp gn gv gr nv W->EnT gr gn nv a c W->oX vars a (i+1)->Calls Tryz.prog 79 #[.int .i64 ((i:Int)+1),.pointer (some ⟨ga,0,none⟩),.pointer (some ⟨gp,0,none⟩),.pointer (some ⟨gn,0,none⟩),.pointer (some ⟨gv,0,none⟩)] W (EnR2 vars gr gn nv (i+1) a W))
  (W:World) (a:List Nat) (c:Int) (hK:EnK w0 gs ga gp gn gv gr nv W) (hT:EnT gr gn nv a c W) (hU:oX vars a i):
  Calls Tryz.prog 79 #[.int .i64 (i:Nat),.pointer (some ⟨ga,0,none⟩),.pointer (some ⟨gp,0,none⟩),.pointer (some ⟨gn,0,none⟩),.pointer (some ⟨gv,0,none⟩)] W (EnR2 vars gr gn nv i a W):=by
 have am:∀args W,(callFunc 79 args).run Tryz.prog W= .ok (.enter 79 args) W:=λargs W=>by kernel_rfl
 obtain⟨HX,HV,P,al,CS,HI⟩:=zk6 hx hv X ae hS IH;obtain⟨l,d,HU⟩:=zk3 hK hT hU;rw[<-X] at HX HV;unfold spC at HX;clear hx hv X ae hS IH hK hT hU;have i0:(0:Int)<=(i:Int):=by omega
 have xa:=l.out.xa.at_ 0 _ rfl;have xp:=l.out.xp.at_ 0 _ rfl
 by_cases F:i=nv
 ·have q1:((i:Int)==(nv:Int))=true:=by simp;omega
  have J:=zh (CS W a (.slice (some ⟨gr,0,none⟩) nv nv) l.out.hb (ko d.out.rr nv (by rw[aF];exact d.out.len)) ⟨d.out.len.trans P,λj T=>HU.out j (by rw[F,P.out];exact T) T⟩);have ar:=zh F;clear CS HI F am;go_enter Tryz.func79,Tryz.ntmps79;go_wp2_with fail;refine J.out.mono ?_;rintro e w1 ⟨⟨q,rfl⟩,hb⟩;have f:=zh ((K2.refl W gr gn).below hb);replace d:=zb d hb;clear hb J xa xp l
  cases q with
  |true=>
   have x0:=d.out.rn.at_ 0 _ rfl;have x1:=d.out.rn.frozen 0;have x2:=d.out.rn.lt;go_wp2_with fail;refine yQ (v:= .tuple #[]) (by simp[results,Tryz.results79]) rfl ?_;obtain⟨Z,I⟩:=d.out.inc V (wrap64 (c+1));exact⟨rfl,f.out.trans I,_,_,Z,λj _=>rfl⟩
  |false=>
   go_wp2_with fail;refine yQ (v:= .tuple #[]) (by simp[results,Tryz.results79]) rfl ?_;exact⟨rfl,f,_,_,d,λj _=>rfl⟩
 ·have A:i<nv:=by omega
  have q1:((i:Int)==(nv:Int))=false:=by simp;omega
  have i1:(i:Int)<(nv:Int):=by omega
  have R:i<vars.length:=by rw[<-P.out];exact A
  have L:=zh (HI A);obtain⟨A',c',e1, -,aa⟩:=HV.out.vrs;obtain⟨b,o,e2,y,g⟩:=aa i R
  have e3:A1=some ⟨b,o,none⟩:=by
   simp only[yA] at e1;rw[e1.1,e2]
  subst e3;have y0:=(l.out.hb.cell y).trans (g 0 _ rfl);have y1:=(l.out.hb.cell y).trans (g 1 _ rfl);have y2:=(l.out.hb.cell y).trans (g 2 _ rfl);have y3:=(l.out.hb.cell y).trans (g 3 _ rfl);rw[yU] at y0;have x0:=(l.out.hb.cell (p:=⟨gs,0,none⟩) HX.out.lt).trans (HX.out.at_ 0 _ rfl);obtain⟨-,o1, -,o3, -⟩:=al.out (vars.getD i vr0) (getD_in vr0 R);have C:=zh λx (a:List Nat) (hu:oX vars a i) (hl:a.length=nv)=>hu.step (x:=x) (by rw[hl];exact A);clear CS HI F;generalize vars.getD i vr0=vr at*;obtain⟨nm,wd,md,vl⟩:=vr;simp only at o1 o3 y0 y1 y2 y3 C;obtain⟨wn,rfl⟩:∃wn:Nat,wd=wn:=⟨wd.toNat,by omega⟩;obtain⟨vn,rfl⟩:∃vn:Nat,vl=vn:=⟨vl.toNat,by omega⟩;rw[y5] at o3 C;have hw:=it (show wn<=20 by omega)
  have ap:vn<2^wn:=by
   have h:=o3.2;have e:((2^wn:Nat):Int)=(2:Int)^wn:=by simp
   rw[<-e] at h;exact Int.ofNat_lt.1 h
  have ao:2^wn<=256:=by
   have:=AC (n:=2) (by omega) (show wn<=8 by omega);simpa using this
  generalize 2^wn=m at*;clear e1 e2 aa g y R o3;go_enter Tryz.func79,Tryz.ntmps79;go_upto_region 4 with fail;clear x0 y0 y1 y2 y3 xa xp;generalize ai:W.alloc _=w1 at*;obtain⟨E,XN⟩:=zA1 ai;clear ai;have f:=zh ((K2.refl W gr gn).below E);replace l:=zb l E;replace d:=zb d E;clear E;generalize W.heap.size=gx at*
  by_cases U:md=0
  ·subst U;have w:i<(nI a).length:=by rw[aF,d.out.len];exact A
   have xa:=l.out.xa.at_ 0 _ rfl;have n2:=za XN 2 rfl;have n3:=za XN 3 rfl;have r0:=d.out.rr.at_ i _ (du w);have r1:=d.out.rr.frozen i;have r2:=d.out.rr.lt;obtain⟨Z,I⟩:=d.out.set V i vn;have u:=zh Z;have s:=zh (l.out.k2 I d h1 h2);have M:=zh (f.out.trans I);clear Z I w;go_upto_region 6 with fail;clear xa n2 n3 r0 r1 r2 l d XN f;generalize w1.setCell ⟨gr,i,none⟩ (.int .i64 (vn:Nat))=w2 at*;have xv:=s.out.xv.at_ 0 _ rfl;unfold enV at xv;have J:=zh (L w2 _ _ s u (C vn a HU (by have:=u.out.len;rw[As] at this;exact this) (λ_=>rfl) ap));clear L;go_wp2_with fail;refine J.out.mono ?_;rintro e w3 ⟨rfl,t,a3,c3,B,z⟩;have N:=zh (M.out.trans t);obtain⟨Q,K⟩:=zk2 B z;clear t B z J xv;go_wp2_with fail;refine yQ (v:= .tuple #[]) (by simp[results,Tryz.results79]) rfl ?_;exact⟨rfl,N,_,_,Q,λj T=>(K j (by omega)).trans (ny T)⟩
  ·have q2:(md==0)=false:=by simpa using U
   have n1:=za XN 1 rfl;have n2:=za XN 2 rfl;go_wp2_with fail;clear n1 n2 XN;have aq:=zh d.out.len
   go_loopw [40] (λiv wr=>∃(k:Nat) (a':List Nat) (c':Int),k<=m/\iv= .int .i64 (k:Nat)/\EnK w0 gs ga gp gn gv gr nv wr/\EnT gr gn nv a' c' wr/\Hid (∀j,j<i->a'.getD j 0=a.getD j 0)/\K2 W wr gr gn) (λiv _=>m+1-(intOf iv).toNat)
   case atStart=>exact⟨0,a,c,yt _,rfl,l,d,zh λj _=>rfl,f⟩
   case round=>
    obtain⟨k,a',c',hk,rfl,ac,af,HE,ab⟩:=hrel;clear l d f;obtain⟨l,d,f⟩:=zk3 ac af ab;clear ac af ab
    by_cases an:k<m
    ·have ad:(k:Int)<(m:Int):=by omega
     have k0:(0:Int)<=(k:Int):=by omega
     have w:i<(nI a').length:=by rw[aF,d.out.len];exact A
     have xa:=l.out.xa.at_ 0 _ rfl;have r0:=d.out.rr.at_ i _ (du w);have r1:=d.out.rr.frozen i;have r2:=d.out.rr.lt;obtain⟨Z,I⟩:=d.out.set V i k;have u:=zh Z;have s:=zh (l.out.k2 I d h1 h2);have M:=zh (f.out.trans I);have aj:=zh d.out.len;clear Z I w;go_upto_region 11 with fail;clear xa r0 r1 r2 l d f;generalize wr.setCell ⟨gr,i,none⟩ (.int .i64 (k:Nat))=w2 at*;have xv:=s.out.xv.at_ 0 _ rfl;unfold enV at xv;have J:=zh (L w2 _ _ s u (C k a' (HU.out.same HE) aj (λh=>absurd h U) an));go_wp2_with fail;refine J.out.mono ?_;rintro e w3 ⟨rfl,t,a3,c3,B,z⟩;have N:=zh (M.out.trans t);have ak:=zh (s.out.k2 t u h1 h2);obtain⟨Q,K⟩:=zk2 B z;clear t B z J xv;go_wp2_with fail;go_roundw
     ·exact⟨k+1,a3,c3,by omega,by go_num,ak,Q,zh λj T=>((K j (by omega)).trans (ny T)).trans (HE j T),N⟩
     ·simp[intOf];omega
    ·have ad:¬(k:Int)<(m:Int):=by omega
     go_wp2_with fail;refine bodyPost_end (v:= .tuple #[]) (by simp[results,Tryz.results79]) rfl ?_;exact⟨rfl,f,_,_,d,HE⟩
theorem uN {w0:World} {vars:List Vr} {A1:Option Addr} {c1:Nat} (gs ga gp gn gv gr nv:Nat) (H S D G o n l p:Value) (d:Nat) (b:Bool) (A:Box w0 gs (spC (.slice A1 vars.length c1) H S D G o n l d b p) 89) (z:Rs vrR w0 (.slice A1 vars.length c1) vars ah)
  (g:nv=vars.length) (k:nv<=16) (j:∀v∈vars,eW v) (s:w0.heap.size<=gr) (t:w0.heap.size<=gn) (f:gr≠gn)
  (w:∀W (a:List Nat) (va:Value),Below w0.heap.size w0 W->IL W va (nI a)->mE vars a->Calls Tryz.prog 80 #[.pointer (some ⟨gs,0,none⟩),va] W λr w'=>(∃q,r= .returned (.bool q))/\Below W.heap.size W w'):∀(m i:Nat),i+m=nv→
  ∀(W:World) (a:List Nat) (c:Int),EnK w0 gs ga gp gn gv gr nv W->EnT gr gn nv a c W->oX vars a i->Calls Tryz.prog 79 #[.int .i64 (i:Nat),.pointer (some ⟨ga,0,none⟩),.pointer (some ⟨gp,0,none⟩),.pointer (some ⟨gn,0,none⟩),.pointer (some ⟨gv,0,none⟩)] W (EnR2 vars gr gn nv i a W)
 |0,i,h=>λW a c u x y=>rC gs ga gp gn gv gr nv H S D G o n l p d b A z g k j s t f w i (by omega) (λh=>by omega) W a c u x y
 |m+1,i,h=>λW a c u x y=>rC gs ga gp gn gv gr nv H S D G o n l p d b A z g k j s t f w i (by omega) (λ_=>by
   have:=uN gs ga gp gn gv gr nv H S D G o n l p d b A z g k j s t f w m (i+1) (by omega);have e:((i+1:Nat):Int)=(i:Int)+1:=by omega
   rw[e] at this
   exact this) W a c u x y
theorem rE {w:World} {vars:List Vr} {A1:Option Addr} {c1:Nat} (gs:Nat) (H S D G V R P X:Value) (l:Nat) (i:Bool) (t:Box w gs (spC (.slice A1 vars.length c1) H S D G V R P l i X) 89) (hv:Rs vrR w (.slice A1 vars.length c1) vars ah)
  (I:vars.length<=16) (x:∀v∈vars,eW v)
  (Z:∀W (a:List Nat) (va:Value),Below w.heap.size w W->IL W va (nI a)->mE vars a->Calls Tryz.prog 80 #[.pointer (some ⟨gs,0,none⟩),va] W λr w'=>(∃q,r= .returned (.bool q))/\Below W.heap.size W w'):
  Calls Tryz.prog 40 #[.pointer (some ⟨gs,0,none⟩)] w λe w'=>∃c,e= .returned (.int .i64 c)/\Below w.heap.size w w':=by
 have aa:∀args W,(callFunc 79 args).run Tryz.prog W= .ok (.enter 79 args) W:=λargs W=>by kernel_rfl
 have ab:=zm;have N:=zh λga gp gn gv gr h1 h2 n=>uN gs ga gp gn gv gr vars.length H S D G V R P X l i t hv rfl I x h1 h2 n Z vars.length 0 (by omega);have E:Hid (∀a,oX vars a 0):=zh λa j hj=>by omega
 have F:=zh t;unfold spC at F;have U:=eN vars.length (by omega);generalize vars.length=nv at*;clear t hv x Z;go_enter Tryz.func40,Tryz.ntmps40;go_upto_region 1 with fail;have b:=ac w (.cells #[.pointer (some ⟨gs,0,none⟩)] 84);have x0:=(F.out.below b).at_ 0 _ rfl;clear b F;generalize d:w.alloc _=w1 at*;obtain⟨f,k⟩:=zB1 d;clear d;have u:=za k 0 rfl;have M1:=U w1;have s1:=zh f.out.size;go_upto_region 2 with fail;clear u;clear M1 U x0;generalize d:w1.alloc _=zw1 at*;generalize y:zw1.alloc _=w2 at*;obtain⟨b,o,m⟩:=zA2 d y;clear d y;replace k:=zb k b;replace f:=zb f b;clear b;have s2:=zh f.out.size;have J:=zh m.out.lt;go_upto_region 3 with fail;generalize d:w2.alloc _=w3 at*;obtain⟨b,A⟩:=zA1 d;clear d;replace k:=zb k b;replace o:=zb o b;replace m:=zb m b;replace f:=zb f b;clear b;have s3:=zh f.out.size;go_upto_region 4 with fail;generalize d:w3.alloc _=w4 at*;obtain⟨b,s⟩:=zA1 d;clear d;replace k:=zb k b;replace o:=zb o b;replace m:=zb m b;replace A:=zb A b;replace f:=zb f b;clear b;have K:=za s 0 rfl;have L:=s.out.frozen 0;have M:=s.out.lt;go_upto_region 5 with fail;have h:∀{g:Nat} {cs:Array Value} {T:TypeId},Box w4 g cs T->T≠155->Box (w4.setCell ⟨w3.heap.size,0,none⟩ (.func (.func 79) #[] #[.pointer (some ⟨w1.heap.size+1,0,none⟩),.pointer (some ⟨w.heap.size,0,none⟩),.pointer (some ⟨w2.heap.size,0,none⟩),.pointer (some ⟨w3.heap.size,0,none⟩)])) g cs T:=λt hT=>t.setNe (p:=⟨w3.heap.size,0,none⟩) (af s t (BQ hT)) _;have z:Hid (EnK w gs (w1.heap.size+1) w.heap.size w2.heap.size w3.heap.size w1.heap.size nv (w4.setCell ⟨w3.heap.size,0,none⟩ (.func (.func 79) #[] #[.pointer (some ⟨w1.heap.size+1,0,none⟩),.pointer (some ⟨w.heap.size,0,none⟩),.pointer (some ⟨w2.heap.size,0,none⟩),.pointer (some ⟨w3.heap.size,0,none⟩)]))):=zh ⟨f.out.setCell (p:=⟨w3.heap.size,0,none⟩) s3.out _,h m (by decide),h k (by decide),s.out.set_ 0 _⟩
 have Q:Hid (EnT w1.heap.size w2.heap.size nv (List.replicate nv 0) 0 (w4.setCell ⟨w3.heap.size,0,none⟩ (.func (.func 79) #[] #[.pointer (some ⟨w1.heap.size+1,0,none⟩),.pointer (some ⟨w.heap.size,0,none⟩),.pointer (some ⟨w2.heap.size,0,none⟩),.pointer (some ⟨w3.heap.size,0,none⟩)]))):=zh ⟨by
  have:=h o (by decide);have e:nI (List.replicate nv 0)=List.replicate nv 0:=by simp[nI]
  rw[e]
  exact this,h A (by decide),by simp⟩
 have n:w1.heap.size≠w2.heap.size:=by have:=J.out;omega
 clear h K L M o m A s k f;generalize w4.setCell ⟨w3.heap.size,0,none⟩ (.func (.func 79) #[] #[.pointer (some ⟨w1.heap.size+1,0,none⟩),.pointer (some ⟨w.heap.size,0,none⟩),.pointer (some ⟨w2.heap.size,0,none⟩),.pointer (some ⟨w3.heap.size,0,none⟩)])=w5 at*;have xv:=z.out.xv.at_ 0 _ rfl;unfold enV at xv;have B:=zh (N (w1.heap.size+1) w.heap.size w2.heap.size w3.heap.size w1.heap.size s1.out s2.out n w5 _ _ z Q (E _));have Y:((0:Nat):Int)=0:=rfl;rw[Y] at B;clear N Y;go_wp2_with fail;refine B.out.mono ?_;rintro e w6 ⟨rfl,hk,a',c',ht, -⟩;have C:=zh (hk.toBelow z.out.hb s1.out s2.out);have x9:=ht.rn.at_ 0 _ rfl;clear hk ht B z Q xv;go_wp2_with fail;go_ret;exact⟨_,rfl,C⟩
def SlR (w:World) (p:Pb) (a:Nat) (e:Ending) (w':World):Prop:=Below w.heap.size w w'/\((cF p p.hard=false/\e= .returned (.tuple #[.int .i64 0,.int .i64 11]))∨
 (cF p p.hard=true/\∃c:Int,e= .returned (.tuple #[.int .i64 c,.int .i64 0])/\∀t d,dC (nmV p.vars (cC p)) (aA p) 1 bT=some (t,d)->c=((dG d a t 0:Nat):Int)))
theorem mq {w:World} {p:Pb} {A1 A2 A3 A4 A5:Option Addr} {c1 c2 c3 c4 c5:Nat} (hp:PIn w p A1 A2 A3 A4 A5 c1 c2 c3 c4 c5) (Z:PSm p) (hk:KW w) (hm:cM w) (G:PV p) (aa:StP p) (hd:p.dists=[]) (T:aD (az p.vars)<=18) (hn:p.hard.length+p.soft.length<=1000) (E:∀e∈p.hard++p.soft,jK (aw p.vars) e)
  (I:Nat) (X:aU p.vars=(I:Nat)) (V:I<=20) (s:∀t d,dC (nmV p.vars (cC p)) (aA p) 1 bT=some (t,d)->Lim d I):
  Calls Tryz.prog 11 #[pbV p A1 A2 A3 A4 A5 c1 c2 c3 c4 c5] w (SlR w p I):=by
 have CO:=zh fun(W:World) (f:Below w.heap.size w W)=>rnOpen (hp.below f) Z (hk.below f) (hm.below f) G aa hd T hn E;have H:=zh fun(W:World) (f:Below w.heap.size w W)=>ue (hp.below f) Z (evC (hp.below f) Z (hk.below f) (hm.below f) G) G.vars;rw[X] at H;have CC:=zh fun(W:World) (f:Below w.heap.size w W) (t:Nat) (d:List Nd) (A:Option Addr) (c:Nat) (hq:dC (nmV p.vars (cC p)) (aA p) 1 bT=some (t,d)) (hd:Rs ndR W (.slice A d.length c) d ah) (hD:DV d) (hf:t<d.length)=>vW W A c I t d hd hD (s t d hq) V hf
 have CE:=zh fun(W:World) (f:Below w.heap.size w W) (gs:Nat) (K LV DG WT:Value) (g:Nat) (i:Bool) (hx:Box W gs (spC (.slice A1 p.vars.length c1) (.slice A2 p.hard.length c2) (.slice A3 p.soft.length c3) (.slice A4 p.dists.length c4) (.slice A5 p.groups.length c5) K LV DG g i WT) 89) (ae:Rs (exR KE) W K (aA p) ah)=>
  rE gs _ _ _ _ K LV DG WT g i hx (hp.v.below f) G.vars.len G.vars.ok (λW2 a va n ha hA=>rnSolves (hp.below (ab f n)) Z (hk.below (ab f n)) (hm.below (ab f n)) G hn E gs K LV DG WT g i (hx.below n) (ae.below n) a va ha hA)
 unfold OpR pbV at CO;unfold pbV at H⊢;obtain⟨n1,y⟩:=zv (p.vars.length);obtain⟨n2,z⟩:=zv (p.hard.length);obtain⟨n3,B⟩:=zv (p.soft.length);obtain⟨n4,C⟩:=zv (p.dists.length);obtain⟨n5,D⟩:=zv (p.groups.length);obtain⟨af,ag,ai,aj,ak⟩:=zk5 y z B C D;rw[<-y,<-z,<-B,<-C,<-D] at CO H⊢;clear hp Z hk hm G aa hd T hn E X s y z B C D;go_enter Tryz.func11,Tryz.ntmps11;go_upto_region 1 with fail;generalize ac:w.alloc _=w1 at*;obtain⟨k,l⟩:=zB1 ac;clear ac;have L:=za l 0 rfl;have M:=za l 1 rfl;have P:=za l 2 rfl;have Q:=za l 3 rfl;have S:=za l 4 rfl;go_wp2_with fail;clear L M P Q S;refine(CO w1 k).mono ?_;rintro e w2 ⟨f,⟨r,rfl⟩|⟨r,gs,K,LV,DG,g,i,gb,gr,rfl,ad,m⟩⟩
 ·skip
  replace l:=zb l f;replace k:=zb k f;clear f;go_wp2_with fail;go_ret2;exact⟨k,.inl ⟨r,by trivial⟩⟩
 ·skip
  replace l:=zb l f;replace k:=zb k f;clear f;have j:=m.d;have o:=zh m.b;have u:=zh m.ru;clear ad CO;unfold SpD at j;generalize x:dC (nmV p.vars (cC p)) (aA p) 1 bT=AB at*;have J:=zh x
  cases AB with
  |none=>
   simp only at j;subst j;have C2:=zh (CE w2 k gs _ _ _ _ _ _ o u);unfold spC at o;have x9:=za o 9 rfl;clear m CE CC H u x;go_wp2_with fail;refine C2.out.mono ?_;rintro e w3 ⟨c,rfl,f⟩;clear x9 o C2;replace k:=zb k f;go_wp2_with fail;go_ret2;exact⟨k,.inr ⟨r,_,by trivial,λt d h=>by rw[J.out] at h;cases h⟩⟩
  |some td=>
   obtain⟨t,d⟩:=td;simp only at j;obtain⟨rfl,rfl,F,U,Y⟩:=j;obtain⟨Ad,cd,e1, -⟩:=F.slice;subst e1;have C3:=zh fun(W:World) (n:Below w2.heap.size w2 W)=>CC.out W (ab k n) g d Ad cd rfl (F.below n) U Y;have C4:=zh fun(W:World) (n:Below w2.heap.size w2 W)=>H.out W (ab k n);unfold spC at o;have x9:=za o 9 rfl;clear m CE CC H u F U Y x;go_upto_region 5 with fail;clear x9;obtain⟨R,hR⟩:=zv (dG d I g 0);have HR:=zh hR;rw[<-hR] at C3;clear hR;generalize d.length=N at*;have x7:=o.out.lat 7 _ rfl;have x8:=o.out.lat 8 _ rfl;have p0:=l.out.lat 0 _ rfl;have p1:=l.out.lat 1 _ rfl;have p2:=l.out.lat 2 _ rfl;have p3:=l.out.lat 3 _ rfl;have p4:=l.out.lat 4 _ rfl;have V3:=zh λq:Lat w2=>C3.out q.w q.h;have V4:=zh λq:Lat w2=>C4.out q.w q.h;clear C3 C4;refine aJ (by kernel_rfl) (by kernel_rfl) ?_
   repeat(go_big_quiet_step (first|(with_reducible exact bQ (V3.out _))|(with_reducible exact bQ (V4.out _))))
   refine yN ?_;intro w8 f;replace k:=zb k f;clear f V3 V4 x7 x8 p0 p1 p2 p3 p4 l o;go_wp2_with fail;go_ret2;refine⟨k,.inr ⟨r,_,by trivial,λt d' h=> ?_⟩⟩;rw[J.out] at h;cases h;rw[HR.out]
end
section
def bB (l:List Vr):Nat->List Nat
 |0=>[]
 |k+1=>if bL l (k:Nat)=true then bB l k++[k] else bB l k
theorem lO (l:List Vr):∀k,nI (bB l k)=dY l k
 |0=>rfl
 |k+1=>by
  unfold bB dY
  split
  ·unfold nI;rw[Bx];have:=lO l k;unfold nI at this;rw[this];rfl
  ·exact lO l k
theorem mQ (l:List Vr):∀(k j:Nat),j<(bB l k).length->∃i,i<k/\bL l (i:Nat)=true/\(bB l k).getD j 0=i/\j=(bB l i).length/\(bB l k).take j=bB l i
 |0,j,h=>by simp[bB] at h
 |k+1,j,h=>by
  by_cases g:bL l (k:Nat)=true
  ·have e:bB l (k+1)=bB l k++[k]:=by
    show(if bL l (k:Nat)=true then bB l k++[k] else bB l k)=_;rw[yz g]
   rw[e] at h⊢;rw[yu,y7] at h
   by_cases m:j<(bB l k).length
   ·obtain⟨i,n,b,c,d,f⟩:=mQ l k j m;refine⟨i,by omega,b, ?_,d, ?_⟩
    ·rw[yj,yP m,<-yj];exact c
    ·rw[List.take_append_of_le_length (by omega)];exact f
   ·have a:j=(bB l k).length:=by omega
    refine⟨k,by omega,g, ?_,a, ?_⟩
    ·rw[yj,yG (by omega),a,AG];rfl
    ·rw[a,List.take_left]
  ·have e:bB l (k+1)=bB l k:=by
    show(if bL l (k:Nat)=true then bB l k++[k] else bB l k)=_;rw[yw g]
   rw[e] at h⊢;obtain⟨i,n,b,c,d,f⟩:=mQ l k j h;exact⟨i,by omega,b,c,d,f⟩
theorem gi (l:List Vr):∀(k i:Nat),i∈bB l k↔i<k/\bL l (i:Nat)=true
 |0,i=>by simp[bB]
 |k+1,i=>by
  have ih:=gi l k i;unfold bB
  split
  ·rename_i hr;rw[AQ,ih,AW];constructor
   ·rintro(⟨h1,h2⟩|rfl)
    ·exact⟨by omega,h2⟩
    ·exact⟨by omega,hr⟩
   ·rintro⟨h1,h2⟩
    by_cases e:i=k
    ·exact .inr e
    ·exact .inl ⟨by omega,h2⟩
  ·rename_i hr;rw[ih];constructor
   ·rintro⟨h1,h2⟩;exact⟨by omega,h2⟩
   ·rintro⟨h1,h2⟩;refine⟨?_,h2⟩
    by_cases e:i=k
    ·subst e;exact absurd h2 hr
    ·omega
theorem uQ (l:List Vr):∀k,k<=l.length->bM ((az l).take k)=(bB l k).map λi=>wdT (l.getD i vr0)
 |0,_=>rfl
 |k+1,h=>by
  have ih:=uQ l k (by omega);have hk:k<(az l).length:=by rw[cN];omega
  have hm:=eF (l:=l) (k:=k) (by omega)
  have e:(az l).take (k+1)=(az l).take k++[wdT (l.getD k vr0)]:=by
   rw[fj (d:=wd0) hk,wds_at (by omega)]
  have b:bB l (k+1)=if bL l (k:Nat)=true then bB l k++[k] else bB l k:=rfl
  rw[e,b];unfold bM at ih⊢;rw[List.filter_append,ih];rw[hm]
  by_cases a:(l.getD k vr0).mode=0
  ·rw[yv (by simpa using a),yw (by simp),List.filter_cons_of_neg (by unfold wdT;rw[yz a];simp)];simp
  ·rw[yB a,yz rfl,Bx,List.filter_cons_of_pos (by unfold wdT;rw[yw a];rfl)]
   rfl
theorem lN (l:List Vr):bM (az l)=(bB l l.length).map λi=>wdT (l.getD i vr0):=by
 have:=uQ l l.length (yq _);rw[Ai (by rw[cN];exact yq _)] at this;exact this
theorem kg:∀(l:List Vr),(∀v∈l,0<=v.width)->(aD (az l):Int)=aU l
 |[],_=>rfl
 |v::l,h=>by
  have ih:=kg l λx d=>h x (yT _ d)
  have c:∀(m:List Vr) (s:Int),m.foldl (λn v=>n+gX v) s=s+aU m:=by
   intro m
   induction m with
   |nil=>intro s;simp[aU]
   |cons x m ihm=>
    intro s;unfold aU;rw[AM,AM,ihm,ihm (0+gX x)];omega
  have e1:aU (v::l)=gX v+aU l:=by
   show(v::l).foldl _ 0=_;rw[AM,c];omega
  have b:aD (az (v::l))=(if(wdT v).fixed=none then(wdT v).w else 0)+aD (az l):=rfl;rw[e1,b];have e:=h v (by simp);unfold gX wdT
  by_cases a:v.mode=0
  ·rw[yw (by simp[a]),yw (by simp[a])];omega
  ·rw[yz (by simp[a]),yz a];simp only;omega
theorem vM:∀(c:List Wd) (p:List Nat) (j:Nat),j<c.length->(∀v∈c,v.fixed=none)->(je c p).getD j ⟨0,none⟩=⟨(c.getD j ⟨0,none⟩).w,p[j]?⟩
 |[],p,j,h,_=>by simp at h
 |v::c,[],j,h,hn=>by
  show(v::c).getD j ⟨0,none⟩=_;have d:((v::c).getD j ⟨0,none⟩).fixed=none:=hn _ (getD_in _ h);generalize(v::c).getD j ⟨0,none⟩=q at*;obtain⟨a,b⟩:=q;simp only at d;rw[d];rfl
 |v::c,x::p,0,h,hn=>rfl
 |v::c,x::p,j+1,h,hn=>by
  show(je c p).getD j ⟨0,none⟩=_;rw[vM c p j (by simpa using h) λu e=>hn u (yT _ e)]
  rfl
theorem pJ:∀(a:List Wd) (p:List Nat) (j:Nat),bR ((je a p).take j)=bR (a.take j)
 |[],p,j=>rfl
 |v::a,[],j=>rfl
 |v::a,x::p,0=>rfl
 |v::a,x::p,j+1=>by
  show v.w+bR ((je a p).take j)=v.w+bR (a.take j);rw[pJ a p j]
theorem lD:∀(a:List Wd) (j:Nat),j<a.length->bR (a.take j)+(a.getD j ⟨0,none⟩).w<=bR a
 |[],j,h=>by simp at h
 |v::a,0,h=>by show 0+v.w<=v.w+bR a;omega
 |v::a,j+1,h=>by
  have:=lD a j (by simpa using h);show v.w+bR (a.take j)+(a.getD j ⟨0,none⟩).w<=v.w+bR a;omega
theorem tn {d:List Nd} {n b:Nat} (h:DV d) (i:n<=20) (f:Lim d n) (j:b<d.length) (a:List Wd) (g:n=bR a) (c:∀v∈a,v.fixed=none) (p:List Nat) (hp:p.length<a.length):
  qe d b a p=fH (λx=>qe d b a (p++[x])) (List.range' 0 (2^(a.getD p.length ⟨0,none⟩).w)):=by
 have k:(a.getD p.length ⟨0,none⟩).fixed=none:=c _ (getD_in _ hp)
 have e:aR (a.getD p.length ⟨0,none⟩)=List.range' 0 (2^(a.getD p.length ⟨0,none⟩).w):=by
  unfold aR;rw[k,List.range_eq_range']
 unfold qe;rw[mN h i f j a g p (by omega),qH (x0:=(⟨0,none⟩:Wd)) hp];show(((aR (a.getD p.length ⟨0,none⟩)).flatMap λx=>(aK (a.drop (p.length+1))).map (x:: ·)).filter _).length=_;rw[eq,mg,e];refine kx λx _=> ?_;rw[mN h i f j a g (p++[x]) (by rw[yu,y7];omega),BJ,yD,yu,y7];congr 1;refine Bp λt _=> ?_;show evL d 0 (jr a (p++x::t)) b=_;rw[yZ];rfl
theorem nL:∀(ws:List Wd) (p:List Nat),(fm ws p).length=ws.length
 |[],p=>rfl
 |v::vs,p=>by
  cases hf:v.fixed with
  |some x=>rw[iB hf,yr,nL vs p,yr]
  |none=>rw[iC hf,yr,nL vs p.tail,yr]
theorem tail_get (p:List Nat) (j:Nat):p.tail.getD j 0=p.getD (j+1) 0:=by cases p<;>rfl
theorem uS:∀(ws:List Wd) (p:List Nat) (i:Nat),i<ws.length->(fm ws p).getD i 0=match(ws.getD i ⟨0,none⟩).fixed with
   |some x=>x
   |none=>p.getD (bM (ws.take i)).length 0
 |[],p,i,h=>by simp at h
 |v::vs,p,0,h=>by
  cases hf:v.fixed with
  |some x=>rw[iB hf];show x=match v.fixed with |some x=>x|none=>_;rw[hf]
  |none=>
   rw[iC hf];show p.headD 0=match v.fixed with |some x=>x|none=>p.getD 0 0
   rw[hf];cases p<;>rfl
 |v::vs,p,i+1,h=>by
  have ih:=λq=>uS vs q i (by simpa using h)
  cases hf:v.fixed with
  |some x=>
   rw[iB hf];show(fm vs p).getD i 0=match(vs.getD i ⟨0,none⟩).fixed with |some x=>x|none=>p.getD (bM (v::vs.take i)).length 0
   rw[ih p,jO hf]
  |none=>
   rw[iC hf];show(fm vs p.tail).getD i 0=match(vs.getD i ⟨0,none⟩).fixed with |some x=>x|none=>p.getD (bM (v::vs.take i)).length 0
   rw[ih p.tail,jP hf]
   cases(vs.getD i ⟨0,none⟩).fixed with
   |some x=>rfl
   |none=>exact tail_get p _
theorem nA:∀(gs p a:List Nat) (i:Nat),i∉gs->(fC a gs p).getD i 0=a.getD i 0
 |[],p,a,i,_=>by simp[fC]
 |_::_,[],a,i,_=>by simp[fC]
 |g::gs,x::p,a,i,h=>by
  rw[yC] at h;show(fC (a.set g x) gs p).getD i 0=_;rw[nA gs p _ i (λb=>h (.inr b)),yj,AU (λe=>h (.inl e.symm)),<-yj]
theorem uI:∀(gs p a:List Nat) (j:Nat),gs.Nodup->(∀g∈gs,g<a.length)->j<gs.length->j<p.length->(fC a gs p).getD (gs.getD j 0) 0=p.getD j 0
 |[],p,a,j,_,_,h,_=>by simp at h
 |g::gs,[],a,j,_,_,_,h=>by simp at h
 |g::gs,x::p,a,0,hd,hl,_,_=>by
  rw[List.nodup_cons] at hd;show(fC (a.set g x) gs p).getD g 0=x;rw[nA gs p _ g hd.1,yj,AR (hl g (by simp))];rfl
 |g::gs,x::p,a,j+1,hd,hl,h1,h2=>by
  rw[List.nodup_cons] at hd;show(fC (a.set g x) gs p).getD (gs.getD j 0) 0=p.getD j 0;exact uI gs p (a.set g x) j hd.2 (λu b=>by rw[As];exact hl u (yT _ b)) (by simpa using h1) (by simpa using h2)
theorem i9 (l:List Vr):∀k,(bB l k).Nodup
 |0=>List.nodup_nil
 |k+1=>by
  unfold bB
  split
  ·rw[List.nodup_append];refine⟨i9 l k,by simp,λa c b d=> ?_⟩;rw[AW] at d;have:=((gi l k a).1 c).1;omega
  ·exact i9 l k
theorem set_put {l:List Vr} {a p:List Nat} (e:a.length=l.length) (v:∀i,i<l.length->(l.getD i vr0).mode=0->a.getD i 0=(l.getD i vr0).value.toNat) (hp:p.length=(bB l l.length).length):fC a (bB l l.length) p=fm (az l) p:=by
 apply BP
 ·rw[fV,nL,cN,e]
 ·intro i c w;rw[fV,e] at c
  have e1:(fC a (bB l l.length) p)[i]=(fC a (bB l l.length) p).getD i 0:=by
   rw[yj,yp (by rw[fV,e];exact c)];rfl
  have r:(fm (az l) p)[i]=(fm (az l) p).getD i 0:=by
   rw[yj,yp w];rfl
  rw[e1,r,uS (az l) p i (by rw[cN];exact c)]
  have u:(az l).getD i ⟨0,none⟩=wdT (l.getD i vr0):=by
   rw[yj,yp (by rw[cN];exact c)];unfold az;rw[List.getElem_map,yj,yp c];rfl
  rw[u];have hm:=eF (l:=l) (k:=i) c
  by_cases b:(l.getD i vr0).mode=0
  ·have n:i∉bB l l.length:=λh=>by
    have:=((gi l _ i).1 h).2;rw[hm,yv (by simpa using b)] at this;cases this
   rw[nA _ _ _ _ n,v i c b];unfold wdT;rw[yz b]
  ·have o:bL l (i:Nat)=true:=by rw[hm];exact yB b
   have d:=(gi l l.length i).2 ⟨c,o⟩;obtain⟨j,f,x⟩:=yS.1 d;obtain⟨q,A,B,C,z,D⟩:=mQ l l.length j f;have m:(bB l l.length).getD j 0=i:=by rw[yj,yp f,x];rfl
   have s:q=i:=by omega
   subst s;have:=uI (bB l l.length) p a j (i9 l _) (λg y=>by rw[e];exact((gi l _ g).1 y).1) f (by rw[hp];exact f);rw[m] at this;rw[this];have t:(bM ((az l).take q)).length=j:=by rw[uQ l q (by omega),yD];exact z.symm
   rw[t];unfold wdT;rw[yw b]
theorem v6 (F:List Nat->Nat):∀(ws p:List Nat) (k:Nat),(chP F ws p k).length=p.length+ws.length
 |[],p,k=>rfl
 |w::ws,p,k=>by
  show(chP F ws (p++[_]) _).length=_;rw[v6 F ws,yu,y7,yr];omega
end
end Go.Proofs.YtdahpdnhkflnnaaGreatDoor
