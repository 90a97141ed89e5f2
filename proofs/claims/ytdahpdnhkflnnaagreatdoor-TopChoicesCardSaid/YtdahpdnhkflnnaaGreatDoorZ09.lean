/-
  Contracts and laws for the law TopChoices, part 9 of 14; made small by a program of mine out of longer texts.
-/
import Derived.Test.YtdahpdnhkflnnaaGreatDoorZ08
namespace Go.Proofs.YtdahpdnhkflnnaaGreatDoor
set_option linter.unusedVariables false
set_option linter.unusedSimpArgs false
set_option linter.defProp false
set_option maxRecDepth 100000
set_option maxHeartbeats 64000000
section
open Go.RowKit Go.Maps
theorem scKnown1 (w:World) (v:Vr) (s:ByteArray) (g:Nat) (f:Box w g #[.string s] 9):Calls Tryz.prog 158 (#[vrV v]++#[.pointer (some ⟨g,0,none⟩)]) w λe w'=>e= .returned (.bool (decide (v.name=s)))/\Below w.heap.size w w':=by
 obtain⟨b,l,m,n⟩:=v;unfold vrV;simp only;have d:=zh f;clear f
 have k:((b.toList==s.toList)=decide (b=s)):=by
  by_cases h:b=s
  ·subst h;simp
  ·rw[(kh h).1,yv h]
 generalize decide (b=s)=q at*;show Calls _ _ #[.agg #[.string b,.int .i64 l,.int .i64 m,.int .i64 n],.pointer (some ⟨g,0,none⟩)] _ _;go_enter Tryz.func158,Tryz.ntmps158;go_upto_region 1 with fail;generalize c:w.alloc _=w1 at*;obtain⟨a,j⟩:=zA1 c;clear c;replace d:=zb d a;have i:=zh a;have o:=za j 0 rfl;have p:=za d 0 rfl;clear a;go_wp2_with fail;go_ret;exact⟨rfl,i⟩
theorem scKnown {w:World} {p:Pb} {A1 A2 A3 A4 A5:Option Addr} {c1 c2 c3 c4 c5:Nat} (hp:PIn w p A1 A2 A3 A4 A5 c1 c2 c3 c4 c5) (hs:PSm p) (hk:KW w) (hm:cM w) (a:Ex) (M:Option Addr) (R:Nat) (hr:Rs (exR 29) w (.slice M a.args.length R) a.args ah) (B:jK (aw p.vars) a):
  Calls Tryz.prog 91 #[pbV p A1 A2 A3 A4 A5 c1 c2 c3 c4 c5,exV a (.slice M a.args.length R)] w λe w'=>e= .returned (.bool true)/\Below w.heap.size w w':=by
 have aj:=zm;have x:(aq (29+1) a).length<=1000:=B.len;obtain⟨G,H,I⟩:=B.ok;have CV:=zh fun(W:World) (c:Below w.heap.size w W)=>mV W a 29 M R B.z (hk.below c) (hm.below c) (hr.below c) (by decide) x;have N:=zh fun(W:World) (c:Below w.heap.size w W)=>lf W a 29 M R B.z (hr.below c) x;have CN:=zh fun(W:World) (c:Below w.heap.size w W)=>mW W a 29 M R B.z (hr.below c) x;have K:=iL eX (aq (29+1) a) []
 have Z:(df eX (aq (29+1) a)).length<=1000:=by
  rw[yR,yH] at K;exact yK K x
 have HH:=zh fun(W:World) (s:ByteArray) (g:Nat) (c:Below w.heap.size w W) (L:s∈aw p.vars) (hx:Box W g #[.string s] 9)=>su W (.slice A1 p.vars.length c1) p.vars (hp.v.below c) hs.nv 158 #[.pointer (some ⟨g,0,none⟩)] (λv=>decide (v.name=s)) (λargs W=>by kernel_rfl) (λW' t hW _=>scKnown1 W' t s g (hx.below hW))
 have P:=zh fun(W:World) (s:ByteArray) (g:Nat) (c:Below w.heap.size w W) (L:s∈aw p.vars) (hx:Box W g #[.string s] 9)=>(HH W s g c L hx).mono fun{e w'} (h:e= .returned (.bool (p.vars.any λv=>decide (v.name=s)))/\Below W.heap.size W w')=>(show e= .returned (.bool true)/\Below W.heap.size W w' from⟨by
  rw[h.1,show(p.vars.any λv=>decide (v.name=s))=true from by
   obtain⟨v,hv,e⟩:=AP.1 L
   exact AE.2 ⟨v,hv,yB e⟩],h.2⟩)
 have H1:Hid (gM (29+1) a=0):=zh G;have H2:Hid (df gW (aq (29+1) a)=[]):=zh H;have H3:Hid (∀s∈df eX (aq (29+1) a),s∈aw p.vars):=zh I;rw[H1.out] at CV;rw[H2.out] at N;unfold NmR at N CN;unfold exV at CV N CN⊢;unfold pbV;generalize df eX (aq (29+1) a)=nv at*;obtain⟨n1,Y⟩:=zv (p.vars.length);rw[<-Y] at P⊢;generalize aw p.vars=NV at*;generalize p.hard.length=n2 at*;generalize p.soft.length=n3 at*;generalize p.dists.length=n4 at*;generalize p.groups.length=n5 at*;clear HH hp hs hk hm B Y G H I K hr H1 H2 x;generalize a.op=ao at*;generalize a.n=an at*;generalize a.name=am at*;generalize a.args.length=al at*;go_enter Tryz.func91,Tryz.ntmps91;go_upto_region 1 with fail;generalize D:w.alloc _=zw1 at*;generalize ae:zw1.alloc _=w1 at*;obtain⟨d,A,f⟩:=zB2 D ae;clear D ae;have j:=za f 0 rfl;have q:=za f 1 rfl;have r:=za f 2 rfl;have u:=za f 3 rfl;go_wp2_with fail;refine(CV w1 d).mono ?_;rintro e w4 ⟨rfl,c⟩;clear j q r u;replace A:=zb A c;replace f:=zb f c;replace d:=zb d c;clear c;have j:=za f 0 rfl;have q:=za f 1 rfl;have r:=za f 2 rfl;have u:=za f 3 rfl;go_wp2_with fail;refine(N w4 d).mono ?_;rintro e w5 ⟨va,rfl,C,c⟩;obtain⟨U,uc,rfl,ai, -⟩:=C.cellF;clear C;clear j q r u;replace A:=zb A c;replace f:=zb f c;replace d:=zb d c;clear c;simp only[yR] at ai⊢;have j:=za f 0 rfl;have q:=za f 1 rfl;have r:=za f 2 rfl;have u:=za f 3 rfl;go_wp2_with fail;refine(CN w5 d).mono ?_;rintro e w2 ⟨vn,rfl,C,c⟩;obtain⟨U2,ak,rfl,aa,T⟩:=C.cellF;have E:=zh T;obtain⟨m,hm⟩:=zv (nv.length);have HM:=zh hm;rw[<-hm] at aa E Z⊢;clear C T hm;clear j q r u;replace A:=zb A c;replace f:=zb f c;replace d:=zb d c;clear c;go_wp2_with fail
 go_loopw [19] (λi wr=>∃k:Nat,k<=m/\i= .int .i64 k/\Below w2.heap.size w2 wr/\Box wr w.heap.size #[.slice A1 n1 c1,.slice A2 n2 c2,.slice A3 n3 c3,.slice A4 n4 c4,.slice A5 n5 c5] 27/\Below w.heap.size w wr) (λi _=>m-(intOf i).toNat)
 case atStart=>exact⟨0,yt _,rfl,yx _ _,A,d⟩
 case round=>
  obtain⟨k,hk,rfl,S,ad,c⟩:=hrel;clear d A f CV N CN;obtain⟨d,y,A⟩:=zk3 c S ad;clear c S ad
  by_cases V:k<m
  ·have X:(k:Int)<m:=by omega
   have k0:(0:Int)<=(k:Int):=by omega
   obtain⟨b,o,e2,ag,y0⟩:=E.out k V;subst e2;replace y0:=(y.out.cell ag).trans y0;have af:=zh (H3 _ (getD_in (l:=nv) ⟨#[]⟩ (k:=k) (by rw[<-HM.out];exact V)));generalize nv.getD k ⟨#[]⟩=s at*;clear E;go_upto_region 6 with fail;clear y0;have F:=zh (ab y (ac wr (.cells #[.string s] 9)));clear y;generalize D:wr.alloc _=w3 at*;obtain⟨J,XG⟩:=zA1 D;clear D;replace A:=zb A J;replace d:=zb d J;clear J;have y:=zh F;clear F;have Q:=za A 0 rfl;go_wp2_with fail;refine(P w3 s _ d af XG).mono ?_;rintro e w4 ⟨rfl,c⟩;replace y:=zb y c;clear Q;replace A:=zb A c;replace XG:=zb XG c;replace d:=zb d c;clear c;go_wp2_with fail;go_roundw
   ·exact⟨k+1,by omega,by go_num,y,A,d⟩
   ·simp[intOf];omega
  ·have X:¬(k:Int)<m:=by omega
   clear E;go_wp2_with fail;go_ret;exact⟨rfl,d⟩
def wdT (v:Vr):Wd:=⟨v.width.toNat,if v.mode=0 then some v.value.toNat else none⟩
def az (l:List Vr):List Wd:=l.map wdT
def fzV (v:Vr):Int:=if v.mode=0 then v.value else 0
def fzT (l:List Vr) (k:Nat):List Int:=(l.take k).map fzV++List.replicate (l.length-k) 0
theorem fz_len {l:List Vr} {k:Nat} (h:k<=l.length):(fzT l k).length=l.length:=by
 unfold fzT;rw[yu,yD,yM,Ax];omega
theorem vH {l:List Vr} {k:Nat} (h:k<l.length):fzT l (k+1)=(l.take k).map fzV++(fzV (l.getD k vr0)::List.replicate (l.length-(k+1)) 0):=by
 unfold fzT;rw[Am,yp h,Bx,yZ,yj,yp h]
 rfl
theorem vI {l:List Vr} {k:Nat} (h:k<l.length):fzT l k=(l.take k).map fzV++(0::List.replicate (l.length-(k+1)) 0):=by
 unfold fzT;have e:l.length-k=(l.length-(k+1))+1:=by omega
 rw[e,List.replicate_succ]
theorem fz_set {l:List Vr} {k:Nat} (h:k<l.length) (hm:(l.getD k vr0).mode=0):(fzT l k).set k (l.getD k vr0).value=fzT l (k+1):=by
 rw[vH h,vI h];have a:((l.take k).map fzV).length=k:=by rw[yD,yM];omega
 rw[BO _ _ (by omega),a,AG,Bq];unfold fzV;rw[yz hm]
theorem fz_keep {l:List Vr} {k:Nat} (h:k<l.length) (hm:(l.getD k vr0).mode≠0):fzT l k=fzT l (k+1):=by
 rw[vH h,vI h];unfold fzV;rw[yw hm]
theorem fz_zero (l:List Vr):fzT l 0=List.replicate l.length 0:=by simp[fzT]
theorem fz_all:∀{l:List Vr},(∀v∈l,0<=v.value)->fzT l l.length=nI (eP (az l)):=by
 intro l h;unfold fzT;rw[Ay,AG,List.replicate_zero,AT]
 induction l with
 |nil=>rfl
 |cons v r ih=>
  have b:=h v (by simp);have c:=ih λx d=>h x (yT _ d);rw[Cm,c];have e:eP (az (v::r))=(match(wdT v).fixed with |some x=>x|none=>0)::eP (az r):=rfl;have a:∀(x:Nat) (y:List Nat),nI (x::y)=(x:Int)::nI y:=λ_ _=>rfl;rw[e,a];congr 1;unfold fzV wdT
  by_cases hm:v.mode=0
  ·rw[yz hm];simp only[hm,if_true];exact(Int.toNat_of_nonneg b).symm
  ·rw[yw hm];simp only[hm,Cc];rfl
def sD (p:Pb) (A1 A2 A3 A4 A5:Option Addr) (c1 c2 c3 c4 c5:Nat) (l:Nat) (Al:Option Addr) (cl ga:Nat) (a:Bool) (steps:Int):Array Value:=
 #[.slice A1 p.vars.length c1,.slice A2 p.hard.length c2,.slice A3 p.soft.length c3,.slice A4 p.dists.length c4,.slice A5 p.groups.length c5,.slice Al l cl,.slice (some ⟨ga,0,none⟩) p.vars.length p.vars.length,.bool a,.int .i64 steps]
def BegR (w:World) (p:Pb) (A1 A2 A3 A4 A5:Option Addr) (c1 c2 c3 c4 c5:Nat) (l:Nat) (Al:Option Addr) (cl:Nat) (steps:Int) (e:Ending) (w':World):Prop:=∃g ga,e= .returned (.tuple #[.pointer (some ⟨g,0,none⟩),.int .i64 0])/\Box w' g (sD p A1 A2 A3 A4 A5 c1 c2 c3 c4 c5 l Al cl ga false steps) 107∧
 Box w' ga (iA (nI (eP (az p.vars)))) 3/\Below w.heap.size w w'/\w.heap.size<=g/\w.heap.size<=ga
theorem uL {w:World} {p:Pb} {A1 A2 A3 A4 A5:Option Addr} {c1 c2 c3 c4 c5:Nat} (hp:PIn w p A1 A2 A3 A4 A5 c1 c2 c3 c4 c5) (hs:PSm p) (hk:KW w) (hm:cM w) (hv:PV p) (l:List Ex) (Al:Option Addr) (cl:Nat) (hr:Rs (exR KE) w (.slice Al l.length cl) l ah) (hl:l.length<=1000) (J:∀e∈l,jK (aw p.vars) e) (steps:Int) (h0:0<=steps) (h1:steps<=262144):
  Calls Tryz.prog 46 #[pbV p A1 A2 A3 A4 A5 c1 c2 c3 c4 c5,.slice Al l.length cl,.int .i64 steps] w (BegR w p A1 A2 A3 A4 A5 c1 c2 c3 c4 c5 l.length Al cl steps):=by
 have hn:=hs.nv;obtain⟨n1,H⟩:=zv (p.vars.length);have HN:=zh H;have X:=zh (evC hp hs hk hm hv);have T:=zh fun(W:World) (j:Below w.heap.size w W) (a:Ex) (V:Option Addr) (cp:Nat) (ha:a∈l) (aY:Rs (exR 29) W (.slice V a.args.length cp) a.args ah)=>scKnown (hp.below j) hs (hk.below j) (hm.below j) a V cp aY (J a ha);have ad:=zh hp.v;have aB:=hv.vars;have aO:Hid (∀v∈p.vars,0<=v.value):=zh λv h=>(aB.ok v h).2.2.2.1.1;have aM:Hid (fzT p.vars n1=nI (eP (az p.vars))):=zh (by rw[H];exact fz_all aO);have aK:Hid (fzT p.vars 0=List.replicate n1 0):=zh (by rw[H];exact fz_zero _);have MK:=zh (ik n1 (by omega));rw[mR,<-aK.out] at MK;obtain⟨AL,cL,e1,aR,aG⟩:=hr.exs;obtain⟨rfl,rfl⟩:Al=AL/\cl=cL:=by simpa using e1
 have L:=zh aG;clear e1;unfold BegR sD;unfold EvC at X;unfold pbV at X T⊢;rw[<-H] at X T ad⊢;unfold exV at T;rw[<-aM.out];obtain⟨m,R⟩:∃m,m=l.length:=⟨_,rfl⟩;have aN:=zh R;rw[<-R] at aR L hl⊢;generalize p.hard.length=n2 at*;generalize p.soft.length=n3 at*;generalize p.dists.length=n4 at*;generalize p.groups.length=n5 at*;have s0:¬steps<0:=by omega
 have s1:¬steps>262144:=by omega
 clear hp hs hk hm hv hr J H R aB aG h0 h1;go_enter Tryz.func46,Tryz.ntmps46;go_upto_region 1 with fail;generalize s:w.alloc _=w1 at*;obtain⟨f,d⟩:=zB1 s;clear s;have y:=za d 0 rfl;have D:=za d 1 rfl;have E:=za d 2 rfl;have F:=za d 3 rfl;have G:=za d 4 rfl;go_wp2_with fail;refine(X w1 f).mono ?_;rintro e w2 ⟨rfl,j⟩;clear y D E F G;replace d:=zb d j;replace f:=zb f j;clear j;go_wp2_with fail
 go_loopw [26] (λi wr=>∃k:Nat,k<=m/\i= .int .i64 k/\Box wr w.heap.size #[.slice A1 n1 c1,.slice A2 n2 c2,.slice A3 n3 c3,.slice A4 n4 c4,.slice A5 n5 c5] 27/\Below w.heap.size w wr) (λi _=>m-(intOf i).toNat)
 case atStart=>exact⟨0,yt _,rfl,d,f⟩
 case round=>
  obtain⟨k,hk,rfl,K,j⟩:=hrel;clear f d X;obtain⟨f,d⟩:=zk2 j K;clear j K
  by_cases ax:k<m
  ·have ay:(k:Int)<m:=by omega
   have k0:(0:Int)<=(k:Int):=by omega
   obtain⟨b,o,u,d',e2,t,hd,c,J, -⟩:=L.out k ax;subst e2;obtain rfl:d'=29:=by unfold KE at hd;omega
   have U:=(f.out.cell t).trans (c 0 _ rfl);have v1:=(f.out.cell t).trans (c 1 _ rfl);have v2:=(f.out.cell t).trans (c 2 _ rfl);have v3:=(f.out.cell t).trans (c 3 _ rfl);rw[yU] at U;have av:=getD_in ex0 (show k<l.length by rw[<-aN.out];exact ax);have S:=J.below f;clear c J L;generalize l.getD k ex0=a at*;obtain⟨V,cp,rfl,aS⟩:=S.slice;have aI:=zh fun(W:World) (j:Below wr.heap.size wr W)=>T.out W (ab f j) a V cp av (S.below j);generalize a.op=ao at*;generalize a.n=an at*;generalize a.name=am at*;generalize a.args.length=al at*;clear av aS S T;go_upto_region 6 with fail;clear U v1 v2 v3;have HW:=zh (ac wr (.cells #[.int .i64 ao,.int .i64 an,.string am,.slice V al cp] 79));generalize s:wr.alloc _=w3 at*;obtain⟨r,M⟩:=zA1 s;clear s;replace d:=zb d r;replace f:=zb f r;clear r;have y:=za d 0 rfl;have D:=za d 1 rfl;have E:=za d 2 rfl;have F:=za d 3 rfl;have G:=za d 4 rfl;have ae:=za M 0 rfl;have ag:=za M 1 rfl;have A:=za M 2 rfl;have ai:=za M 3 rfl;go_wp2_with fail;refine(aI w3 HW).mono ?_;rintro e w4 ⟨rfl,j⟩;clear y D E F G ae ag A ai;replace d:=zb d j;replace M:=zb M j;replace f:=zb f j;clear j;go_wp2_with fail;go_roundw
   ·exact⟨k+1,by omega,by go_num,d,f⟩
   ·simp[intOf];omega
  ·have ay:¬(k:Int)<m:=by omega
   clear L T;go_wp2_with fail;have aa:=zh f.out.size;obtain⟨B0,ak⟩:=zv (w.heap.size);have P:=zh ak;clear ak;refine br 7 (Kit.of [mw 5 [] B0 n1 n1 (iA (fzT p.vars 0)) 3]) (by kernel_rfl) (by kernel_rfl) (λγ=>by kernel_rfl) (by kernel_rfl) (Kit.of_stable ?_) (Kit.of_known ?_) ?_
   ·intro z hz;simp only[yC,yI,AH] at hz;rcases hz with rfl
    ·apply ox
   ·intro z hz;simp only[yC,yI,AH] at hz;rcases hz with rfl
    ·apply oy
   intro γ aH C hC aV;obtain⟨ga,e5⟩:∃g,γ 5= .slice (some ⟨g,0,none⟩) n1 n1:=aH 5 rfl;have p0:=d.out.latC (C:=C) 0 _ rfl;have p1:=d.out.latC (C:=C) 1 _ rfl;have p2:=d.out.latC (C:=C) 2 _ rfl;have p3:=d.out.latC (C:=C) 3 _ rfl;have p4:=d.out.latC (C:=C) 4 _ rfl;simp only[yX,y9,y6,yO]
   iterate 5 (refine aE rfl ?_;go_big_quiet_step (fail);refine yN ?_)
   refine bG rfl (kX rfl (λw=>xO rfl rfl rfl (MK w)) (λw' g hg hx=>⟨g,rfl,hx,by rw[P.out];exact yK aa hg⟩)) ?_;simp only[yH,Nat.reduceAdd,e5];go_simp
   iterate 1 (refine aE rfl ?_;go_big_quiet_step (fail);refine yN ?_)
   intro w5 j hF;obtain⟨Y5,ap⟩:=sx e5 (hF 5 (by decide) rfl);have x:=zh Y5;clear Y5 hF p0 p1 p2 p3 p4 aH hC e5 aV;replace d:=zb d j;replace f:=zb f j;clear j;have aq:w.heap.size<=ga:=by rw[<-P.out];exact ap
   clear ap P aa MK;go_upto_region 10 with fail;have aU:=x.out.lt;generalize s:w5.alloc _=w6 at*;obtain⟨r,B⟩:=zA1 s;clear s;replace d:=zb d r;replace x:=zb x r;replace f:=zb f r;clear r;have aT:w.heap.size<=w5.heap.size:=by omega
   have aZ:w5.heap.size≠ga:=by omega
   have au:ga≠w5.heap.size:=by omega
   generalize w5.heap.size=g at*;clear aU;have y:=za d 0 rfl;go_upto_region 11 with fail;clear y
   go_loopw [47] (λi wr=>∃k:Nat,k<=n1/\i= .int .i64 k/\Box wr w.heap.size #[.slice A1 n1 c1,.slice A2 n2 c2,.slice A3 n3 c3,.slice A4 n4 c4,.slice A5 n5 c5] 27/\Below w.heap.size w wr/\Box wr g #[.slice A1 n1 c1,.slice A2 n2 c2,.slice A3 n3 c3,.slice A4 n4 c4,.slice A5 n5 c5,.slice Al m cl,.slice (some ⟨ga,0,none⟩) n1 n1,.bool false,.int .i64 steps] 107/\Box wr ga (iA (fzT p.vars k)) 3) (λi _=>n1-(intOf i).toNat)
   case atStart=>exact⟨0,yt _,rfl,d,f,B,x⟩
   case round=>
    obtain⟨q,hq,rfl,K,j,aD,aF⟩:=hrel;clear f d B x;obtain⟨f,d,B,x⟩:=zk4 j K aD aF;clear j K aD aF
    by_cases aX:q<n1
    ·have aA:(q:Int)<n1:=by omega
     have q0:(0:Int)<=(q:Int):=by omega
     have I:q<p.vars.length:=by rw[<-HN.out];exact aX
     obtain⟨A',c',e1,_,aC⟩:=ad.out.vrs;obtain⟨b,o,e2,t,c⟩:=aC q I
     have e3:A1=some ⟨b,o,none⟩:=by
      simp only[yA] at e1;rw[e1.1,e2]
     subst e3;have U:=(f.out.cell t).trans (c 0 _ rfl);have v1:=(f.out.cell t).trans (c 1 _ rfl);have v2:=(f.out.cell t).trans (c 2 _ rfl);have v3:=(f.out.cell t).trans (c 3 _ rfl);rw[yU] at U;have Z:=zh λh=>fz_set I h;have Y:=zh λh=>fz_keep I h;have a0:q<(iA (fzT p.vars q)).size:=by rw[kU,fz_len (by omega)];exact I
     have ar:(iA (fzT p.vars q))[q]? =some (.int .i64 ((fzT p.vars q).getD q 0)):=du (by rw[fz_len (by omega)];exact I);generalize p.vars.getD q vr0=vr at*;obtain⟨nm,x2,x3,x4⟩:=vr;simp only at U v1 v2 v3 Z Y;clear e1 e2 aC t c;go_upto_region 13 with fail;clear U v1 v2 v3;generalize s:wr.alloc _=w3 at*;obtain⟨r,M⟩:=zA1 s;clear s;replace d:=zb d r;replace B:=zb B r;replace x:=zb x r;replace f:=zb f r;clear r;have A:=za M 2 rfl
     by_cases N:x3=0
     case neg=>
      have g1:(x3==0)=false:=by simpa using N
      have Q:=zh (Y N);rw[Q.out] at x;go_wp2_with fail;go_roundw
      ·exact⟨q+1,by omega,by go_num,d,f,B,x⟩
      ·simp[intOf];omega
     have Q:=zh (Z N);subst N;go_upto_region 14 with fail;clear A;refine aL 8 (by kernel_rfl) (by kernel_rfl) ?_;have a3:=M.out.lat 3 _ rfl;have f6:=B.out.lat 6 _ rfl;have q1:¬((q:Int)<0):=by omega
     simp only[yX,y9,y6,yO]
     repeat(go_big_quiet_step (fail))
     refine yN ?_;intro w8 j;clear a3 f6;replace d:=zb d j;replace B:=zb B j;replace x:=zb x j;replace f:=zb f j;clear j;have i0:=x.out.at_ q _ ar;have i1:=x.out.frozen q;have i2:=x.out.lt;go_upto_region 15 with fail;have aj:=zh (x.out.set_ q (.int .i64 x4));have aQ:=zh (d.out.setNe (p:=⟨ga,q,none⟩) (by show ga≠_;exact λe=>by have:=af x d (by decide);exact this e) (.int .i64 x4));have aP:=zh (B.out.setNe (p:=⟨ga,q,none⟩) au (.int .i64 x4));have aJ:=zh (f.out.setCell (p:=⟨ga,q,none⟩) aq (.int .i64 x4));rw[gG,Q.out] at aj;go_wp2_with fail;go_roundw
     ·exact⟨q+1,by omega,by go_num,aQ,aJ,aP,aj⟩
     ·simp[intOf];omega
    ·have aA:¬(q:Int)<n1:=by omega
     have aW:q=n1:=by omega
     rw[aW] at x;go_wp2_with fail;go_ret2;exact⟨g,rfl,ga,B,x,f,aT,aq⟩
theorem K2.refl (w:World) (g gt:Nat):K2 w w g gt:=⟨rfl,rfl,rfl,yq _,λ_ _ _ _=>rfl⟩
theorem K2.below {w w1 w2:World} {g gt:Nat} (h:K2 w w1 g gt) (a:Below w1.heap.size w1 w2):K2 w w2 g gt:=
 ⟨a.os.trans h.os,a.tape.trans h.tape,a.output.trans h.output,yK h.size a.size,λb c d e=>(a.block b (yE c h.size)).trans (h.block b c d e)⟩
instance {w w1 w2:World} {g gt:Nat}:Zm w1 w2 (K2 w w1 g gt) (K2 w w2 g gt):=⟨λhb h=>K2.below h hb⟩
theorem K2.set {w w1:World} {g gt:Nat} (h:K2 w w1 g gt) {p:Addr} (hp:p.block=g\/p.block=gt) (u:Value):K2 w (w1.setCell p u) g gt:=
 ⟨h.os,h.tape,h.output,by simpa [World.setCell] using h.size,λb c d f=>by
  rw[<-h.block b c d f];have a:p.block≠b:=by rcases hp with e|e<;>rw[e]<;>omega
  simp[World.setCell,Array.getElem?_modify,a]⟩
theorem K2.toBelow {w0 w w':World} {g b:Nat} (h:K2 w w' g b) (a:Below w0.heap.size w0 w) (c:w0.heap.size<=g) (d:w0.heap.size<=b):Below w0.heap.size w0 w':=
 ⟨h.os.trans a.os,h.tape.trans a.tape,h.output.trans a.output,yK a.size h.size,λk hk=>(h.block k (yE hk a.size) (by omega) (by omega)).trans (a.block k hk)⟩
theorem K2.trans {w w1 w2:World} {g gt:Nat} (h:K2 w w1 g gt) (k:K2 w1 w2 g gt):K2 w w2 g gt:=
 ⟨k.os.trans h.os,k.tape.trans h.tape,k.output.trans h.output,yK h.size k.size,λb a c d=>(k.block b (yE a h.size) c d).trans (h.block b a c d)⟩
theorem tO (l:List Nat) (k v:Nat):(nI l).set k (v:Int)=nI (l.set k v):=by unfold nI;rw[List.map_set]
def adC (ws:List Wd) (a:List Nat) (k:Nat):List Nat:=a.take k++(cT (ws.drop k) (a.drop k)).1
def adD (ws:List Wd) (a:List Nat) (k:Nat):Bool:=(cT (ws.drop k) (a.drop k)).2
def wd0:Wd:=⟨0,none⟩
theorem adv_cons (v:Wd) (a:List Wd) (x:Nat) (t:List Nat):cT (v::a) (x::t)=if(cT a t).2=false then(x::(cT a t).1,false) else match v.fixed with
  |some y=>(x::(cT a t).1,true)
  |none=>if x+1<2^v.w then((x+1)::(cT a t).1,false) else(0::(cT a t).1,true):=rfl
theorem oW:∀(ws:List Wd) (a:List Nat),(cT ws a).1.length=ws.length
 |[],a=>rfl
 |v::vs,a=>by
  have ih:=oW vs a.tail;unfold cT;simp only
  split
  ·simp[ih]
  ·split
   ·simp[ih]
   ·split<;>simp[ih]
theorem uA {ws:List Wd} {a:List Nat} (h:a.length=ws.length) {k:Nat} (hk:k<=ws.length):(adC ws a k).length=ws.length:=by
 unfold adC;rw[yu,yM,oW,AY];omega
theorem ad_n {ws:List Wd} {a:List Nat} (h:a.length=ws.length):adC ws a ws.length=a/\adD ws a ws.length=true:=by
 unfold adC adD;rw[List.drop_length,Ai (by omega)];exact⟨AT _,rfl⟩
theorem ad_0 (ws:List Wd) (a:List Nat):cT ws a=(adC ws a 0,adD ws a 0):=by unfold adC adD;simp
theorem drop_one {α:Type} {l:List α} {d:α} {k:Nat} (h:k<l.length):l.drop k=l.getD k d::l.drop (k+1):=by
 rw[Aq h,yj,yp h];rfl
theorem fj {α:Type} {l:List α} {d:α} {k:Nat} (h:k<l.length):l.take (k+1)=l.take k++[l.getD k d]:=by
 rw[Am,yj,yp h];rfl
section
variable {ws:List Wd} {a:List Nat} {k:Nat}
theorem ad_at (h:a.length=ws.length) (hk:k<ws.length):(adC ws a (k+1)).getD k 0=a.getD k 0:=by
 unfold adC;rw[fj (d:=0) (by omega),yZ,yj,yG (by rw[yM];omega),yM,Nat.min_eq_left (by omega),AG]
 rfl
theorem tf (h:a.length=ws.length) (hk:k<ws.length) (x:Nat):(adC ws a (k+1)).set k x=a.take k++x::(cT (ws.drop (k+1)) (a.drop (k+1))).1:=by
 unfold adC;have b:(a.take k).length=k:=by rw[yM];omega
 rw[fj (d:=0) (by omega),yZ,BO _ _ (by omega),b,AG]
 rfl
theorem m7 (h:a.length=ws.length) (hk:k<ws.length):cT (ws.drop k) (a.drop k)=if adD ws a (k+1)=false then(a.getD k 0::(cT (ws.drop (k+1)) (a.drop (k+1))).1,false) else match(ws.getD k wd0).fixed with
  |some y=>(a.getD k 0::(cT (ws.drop (k+1)) (a.drop (k+1))).1,true)
  |none=>if a.getD k 0+1<2^(ws.getD k wd0).w then((a.getD k 0+1)::(cT (ws.drop (k+1)) (a.drop (k+1))).1,false) else(0::(cT (ws.drop (k+1)) (a.drop (k+1))).1,true):=by
 rw[drop_one (d:=wd0) hk,drop_one (d:=0) (show k<a.length by omega),adv_cons]
 rfl
theorem ad_fixed (h:a.length=ws.length) (hk:k<ws.length) (b:adD ws a (k+1)=true) {y:Nat} (c:(ws.getD k wd0).fixed=some y):adC ws a k=adC ws a (k+1)/\adD ws a k=true:=by
 have e:=m7 h hk;rw[b,c] at e;simp only[Bool.true_eq_false,Cc] at e;refine⟨?_,by unfold adD;rw[e]⟩;unfold adC;rw[e,fj (d:=0) (show k<a.length by omega),yZ]
 rfl
theorem ad_over (h:a.length=ws.length) (hk:k<ws.length) (b:adD ws a (k+1)=true) (c:(ws.getD k wd0).fixed=none) (d:¬a.getD k 0+1<2^(ws.getD k wd0).w):(adC ws a (k+1)).set k 0=adC ws a k/\adD ws a k=true:=by
 have e:=m7 h hk;rw[b,c] at e;simp only[Bool.true_eq_false,Cc,d] at e;refine⟨?_,by unfold adD;rw[e]⟩;rw[tf h hk];unfold adC;rw[e]
theorem te (h:a.length=ws.length):∀{k:Nat},k<=ws.length->adD ws a k=false->cT ws a=(adC ws a k,false)
 |0,_,hd=>by rw[ad_0,hd]
 |k+1,hk,hd=>by
  have e:=m7 h (show k<ws.length by omega);rw[yz hd] at e;have b:adD ws a k=false:=by unfold adD;rw[e]
  rw[te h (by omega) b];congr 1;unfold adC;rw[e,fj (d:=0) (show k<a.length by omega),yZ]
  rfl
theorem ad_more (h:a.length=ws.length) (hk:k<ws.length) (c:adD ws a (k+1)=true) (d:(ws.getD k wd0).fixed=none) (f:a.getD k 0+1<2^(ws.getD k wd0).w):cT ws a=((adC ws a (k+1)).set k (a.getD k 0+1),false):=by
 have e:=m7 h hk;rw[c,d] at e;simp only[Bool.true_eq_false,Cc,f,if_true] at e;have b:adD ws a k=false:=by unfold adD;rw[e]
 rw[te h (by omega) b,tf h hk];congr 1;unfold adC;rw[e]
end
theorem wds_at {l:List Vr} {k:Nat} (h:k<l.length):(az l).getD k wd0=wdT (l.getD k vr0):=by
 unfold az;rw[yj,yW,yj,yp h]
 rfl
theorem cN (l:List Vr):(az l).length=l.length:=by simp[az]
theorem wS {w0 w:World} {p:Pb} {A1 A2 A3 A4 A5:Option Addr} {c1 c2 c3 c4 c5:Nat} (hp:Rs vrR w0 (.slice A1 p.vars.length c1) p.vars ah) (hs:PSm p) (hv:bS p.vars) (am:Below w0.heap.size w0 w) (m:Nat) (Al:Option Addr) (cl g ga:Nat) (hg:w0.heap.size<=g) (an:w0.heap.size<=ga) (J:Bool) (steps:Int) (a:List Nat) (hl:a.length=p.vars.length) (ha:∀x∈a,x<65536)
  (hx:Box w g (sD p A1 A2 A3 A4 A5 c1 c2 c3 c4 c5 m Al cl ga J steps) 107) (hi:Box w ga (iA (nI a)) 3):
  Calls Tryz.prog 93 #[.pointer (some ⟨g,0,none⟩)] w λe w'=>e= .returned (.tuple #[])/\Box w' g (sD p A1 A2 A3 A4 A5 c1 c2 c3 c4 c5 m Al cl ga (J||(cT (az p.vars) a).2) steps) 107/\Box w' ga (iA (nI (cT (az p.vars) a).1)) 3/\K2 w w' g ga:=by
 have T:=zh hp;obtain⟨n1,E⟩:=zv (p.vars.length);have HN:=zh E;have hn:n1<=1000:=by rw[E];exact hs.nv
 have s:Hid ((az p.vars).length=n1):=zh (by rw[cN,E]);have F:Hid (a.length=(az p.vars).length):=zh (by rw[hl,cN]);have Q:=zh ha;have ai:=zh hv.ok;have ad:=zh am;have W:g≠ga:=af hx hi (by decide);obtain⟨t,ak⟩:=zk2 hx hi;have K:=zh (ad_n F.out);have aB:=zh (ad_0 (az p.vars) a);have aj:Hid (∀k,k<n1->(az p.vars).getD k wd0=wdT (p.vars.getD k vr0)):=zh λk hk=>wds_at (by rw[<-E];exact hk);unfold sD at t⊢;rw[<-E] at t T⊢;rw[s.out] at K;generalize az p.vars=ws at*;generalize p.hard.length=n2 at*;generalize p.soft.length=n3 at*;generalize p.dists.length=n4 at*;generalize p.groups.length=n5 at*;have n:=zh (K2.refl w g ga);have aa:=zh K.out.1;have ab:=zh K.out.2;clear K;have H:Hid (Box w ga (iA (nI (adC ws a n1))) 3):=zh (by rw[aa.out];exact ak.out);clear hp hs hv am hl ha hx hi E ak;go_enter Tryz.func93,Tryz.ntmps93;have G:=za t 6 rfl;go_upto_region 1 with fail;clear G
 go_loopw [2] (λi wr=>∃k:Nat,k<=n1/\i= .int .i64 ((k:Int)-1)/\Hid (adD ws a k=true)/\Box wr g #[.slice A1 n1 c1,.slice A2 n2 c2,.slice A3 n3 c3,.slice A4 n4 c4,.slice A5 n5 c5,.slice Al m cl,.slice (some ⟨ga,0,none⟩) n1 n1,.bool J,.int .i64 steps] 107/\Box wr ga (iA (nI (adC ws a k))) 3/\K2 w wr g ga) (λi _=>(intOf i+1).toNat)
 case atStart=>exact⟨n1,yq _,by go_num,ab,t.out,H.out,n.out⟩
 case round=>
  obtain⟨k,hk,rfl,hd,av,aw,ao⟩:=hrel;clear t H n;obtain⟨t,H,n⟩:=zk3 av aw ao;clear av aw ao
  cases k with
  |zero=>
   have k1:¬(((0:Nat):Int)-1≥0):=by omega
   have ae:Hid ((cT ws a).1=adC ws a 0/\(cT ws a).2=true):=zh (by rw[aB.out];exact⟨rfl,hd.out⟩);have aO:=za t 7 rfl;have aP:=t.out.lt;have f7:=t.out.frozen 7;go_wp2_with fail;have c:=zh (t.out.set_ 7 (.bool true));have L:=zh (H.out.setNe (p:=⟨g,7,none⟩) W (.bool true));have r:=zh (n.out.set (p:=⟨g,7,none⟩) (Or.inl rfl) (.bool true));refine bodyPost_end (v:= .tuple #[]) (by simp[results,Tryz.results93]) rfl ?_;rw[ae.out.1,ae.out.2,Bool.or_true];exact⟨rfl,c.out,L.out,r.out⟩
  |succ j=>
   have j0:(((j+1:Nat):Int)-1)=(j:Int):=by omega
   rw[j0];have j1:(0:Int)<=(j:Int):=by omega
   have j2:(j:Int)<n1:=by omega
   have V:j<p.vars.length:=by rw[<-HN.out];omega
   have HB:=zh (n.out.toBelow ad.out hg an);obtain⟨A',c',e1,_,au⟩:=T.out.vrs;obtain⟨b,o,e2,M,A⟩:=au j V
   have e3:A1=some ⟨b,o,none⟩:=by
    simp only[yA] at e1;rw[e1.1,e2]
   subst e3;have y1:=(HB.out.cell M).trans (A 1 _ rfl);have y2:=(HB.out.cell M).trans (A 2 _ rfl);have aG:=ai.out _ (getD_in vr0 V);have ar:=aj.out j (by omega);have B:j<ws.length:=by rw[s.out];omega
   have aq:j<(nI (adC ws a (j+1))).length:=by rw[aF,uA F.out (by omega)];exact B
   have C:=du aq;rw[eO,ad_at F.out B] at C;have u:=zh λy hf=>ad_fixed F.out B hd.out (y:=y) hf;have f:=zh λhf hx=>ad_over F.out B hd.out hf hx;have d:=zh λhf hx=>ad_more F.out B hd.out hf hx;have al:a.getD j 0<65536:=Q.out _ (getD_in 0 (by rw[F.out];exact B));generalize a.getD j 0=x at*;rw[ar] at u f d;obtain⟨aL,X,aM,Y,Z⟩:=aG;generalize p.vars.getD j vr0=vr at*;obtain⟨nm,x2,x3,x4⟩:=vr;unfold wdT at u f d;simp only at y1 y2 X Y Z u f d;have R:=zh M;clear e1 e2 au M A ar aL aM aq B V aj ai hd T
   by_cases N:x3=0
   ·subst N;simp only[if_true] at u;have ag:=zh (u.out _ rfl);clear u f d;rw[ag.out.1.symm] at H;have aC:=zh ag.out.2;have P:=za t 0 rfl;go_wp2_with fail;go_roundw
    ·exact⟨j,by omega,by go_num,aC,t.out,H.out,n.out⟩
    ·simp[intOf]
   ·have g1:(x3==0)=false:=by simpa using N
    simp only[yw N] at f d;obtain⟨wn,rfl⟩:∃wn:Nat,x2=wn:=⟨x2.toNat,by omega⟩;have ax:(0:Int)<=(wn:Int):=by omega
    have hw:IntKind.i64.wrap (2^wn)=2^wn:=by
     have:wn=1\/wn=2\/wn=3\/wn=4\/wn=5\/wn=6\/wn=7\/wn=8:=by omega
     rcases this with rfl|rfl|rfl|rfl|rfl|rfl|rfl|rfl<;>decide
    rw[y5] at f d;have i0:=H.out.at_ j _ C;have i1:=H.out.frozen j;have i2:=H.out.lt;have aA:(x:Int)<65536:=by omega
    have ay:(0:Int)<=(x:Int):=by omega
    clear u N;have P:=za t 0 rfl;have G:=za t 6 rfl;go_upto_region 5 with fail;clear P G;clear i0 i1 i2;have L:=zh (H.out.set_ j (.int .i64 ((x:Int)+1)));have c:=zh (t.out.setNe (p:=⟨ga,j,none⟩) (BQ W) (.int .i64 ((x:Int)+1)));have r:=zh (n.out.set (p:=⟨ga,j,none⟩) (BH rfl) (.int .i64 ((x:Int)+1)));have ac:=zh (r.out.toBelow ad.out hg an);replace y1:=(ac.out.cell R.out).trans (((HB.out.cell R.out).symm).trans y1);have U:=yE R.out ac.out.size;have ex:((x:Int)+1)=((x+1:Nat):Int):=by omega
    have I:(iA (nI ((adC ws a (j+1)).set j (x+1))))[j]? =some (.int .i64 ((x:Int)+1)):=by
     have hq:j<(adC ws a (j+1)).length:=by rw[uA F.out (by rw[s.out];omega),s.out];omega
     rw[du (by rw[aF,As];exact hq),eO,yj,AR hq];simp
    have l:=zh (show Box (wr.setCell ⟨ga,j,none⟩ (.int .i64 ((x:Int)+1))) ga (iA (nI ((adC ws a (j+1)).set j (x+1)))) 3 by
     have:=L.out;rw[gG,ex,tO] at this;rw[ex]
     exact this)
    clear H L t n HB ex;generalize wr.setCell ⟨ga,j,none⟩ (.int .i64 ((x:Int)+1))=w3 at*;have aN:=λq:Lat w3=>(q.h.cell U).trans y1;have f0:=c.out.lat 0 _ rfl;have f6:=c.out.lat 6 _ rfl;have i0:=l.out.lat j _ I;clear y1 I;refine aJ (by kernel_rfl) (by kernel_rfl) ?_
    repeat(go_big_quiet_step (fail))
    refine yN ?_;intro w8 hb;clear aN f0 f6 i0;replace r:=zb r hb;replace c:=zb c hb;replace l:=zb l hb;clear hb
    by_cases D:x+1<2^wn
    ·have ap:(x:Int)+1<2^wn:=by
      have:((x+1:Nat):Int)<((2^wn:Nat):Int):=Int.ofNat_lt.2 D;simpa using this
     have z:=zh (d.out (by trivial) D);have S:Hid ((cT ws a).1=(adC ws a (j+1)).set j (x+1)):=zh (by rw[z.out]);have aE:Hid ((cT ws a).2=false):=zh (by rw[z.out]);clear z d f D hw Y Z C y2;generalize(2:Int)^wn=pw at*;clear j0 aA ay g1 ax X F Q al s HN U;go_wp2_with fail;refine yQ (v:= .tuple #[]) (by simp[results,Tryz.results93]) rfl ?_;rw[S.out,aE.out,Bool.or_false];exact⟨rfl,c.out,l.out,r.out⟩
    ·have ap:¬(x:Int)+1<2^wn:=λh=>D (by
      have:((x+1:Nat):Int)<((2^wn:Nat):Int):=by simpa using h
      exact Int.ofNat_lt.1 this)
     have z:=zh (f.out (by trivial) D);have S:=zh z.out.2;have hq:j<(iA (nI ((adC ws a (j+1)).set j (x+1)))).size:=by rw[kU,aF,As,uA F.out (by rw[s.out];omega),s.out];omega
     have i1:=l.out.frozen j;have i2:=l.out.lt;have i3:=l.out.at_ j _ (Array.getElem?_eq_getElem hq);have f6:=za c 6 rfl;clear d f D hw Y Z C y2;generalize(2:Int)^wn=pw at*;generalize aK:(iA (nI ((adC ws a (j+1)).set j (x+1))))[j]'hq=cc at*;clear j0 aA ay g1 ax X F Q al s HN U aK hq;go_upto_region 2 with fail;clear i1 i2 i3 f6
     have aI:Hid (Box (w8.setCell ⟨ga,j,none⟩ (.int .i64 0)) ga (iA (nI (adC ws a j))) 3):=zh (by
      have:=l.out.set_ j (.int .i64 ((0:Nat):Int));rw[gG,tO,List.set_set,z.out.1] at this
      exact this)
     have aH:=zh (c.out.setNe (p:=⟨ga,j,none⟩) (BQ W) (.int .i64 0));have aD:=zh (r.out.set (p:=⟨ga,j,none⟩) (BH rfl) (.int .i64 0));clear l c r z;generalize w8.setCell ⟨ga,j,none⟩ (.int .i64 0)=w9 at*;go_wp2_with fail;go_roundw
     ·exact⟨j,by omega,by go_num,S,aH.out,aI.out,aD.out⟩
     ·simp[intOf]
theorem wB:∀{ws:List Wd} {a:List Nat},(∀v∈ws,∀x∈aR v,x<65536)->a∈aK ws->a.length=ws.length/\∀x∈a,x<65536
 |[],a,_,h=>by
  obtain rfl:a=[]:=by simpa [aK] using h
  exact⟨rfl,λx h=>by cases h⟩
 |v::vs,a,hv,h=>by
  unfold aK at h;obtain⟨x,g,h⟩:=List.mem_flatMap.1 h;obtain⟨t,f,rfl⟩:=AP.1 h;obtain⟨d,e⟩:=wB (λv b=>hv v (yT _ b)) f;refine⟨by simp[d],λy c=> ?_⟩;rcases yC.1 c with rfl|c
  ·exact hv v (by simp) _ g
  ·exact e y c
theorem vals_lt {v:Vr} (h:eW v):∀x∈aR (wdT v),x<65536:=by
 intro x a;obtain⟨-,c, -,d, -⟩:=h
 have hp:(2:Int)^v.width.toNat<=256:=by
  obtain⟨n,b⟩:=zv (v.width.toNat);have:n=1\/n=2\/n=3\/n=4\/n=5\/n=6\/n=7\/n=8:=by omega
  rw[<-b];rcases this with rfl|rfl|rfl|rfl|rfl|rfl|rfl|rfl<;>decide
 unfold aR wdT at a
 by_cases hm:v.mode=0
 ·simp only[hm,if_true,yC,yI,AH] at a;omega
 ·simp only[hm,Cc,BI] at a;have:((2^v.width.toNat:Nat):Int)=2^v.width.toNat:=by simp
  omega
theorem pZ {l:List Vr} (h:∀v∈l,eW v) {a:List Nat} (b:a∈aK (az l)):a.length=l.length/\∀x∈a,x<65536:=by
 have:=wB (λv d=>by
  obtain⟨u,c,rfl⟩:=AP.1 d
  exact vals_lt (h u c)) b
 rwa [cN] at this
theorem adv_sfx {ws:List Wd} {a:List Nat} {R:List (List Nat)} (h:a::R<:+aK ws):(cT ws a).2=R.isEmpty/\∀b d,R=b::d->(cT ws a).1=b:=by
 obtain⟨c,h⟩:=h;have j:(aK ws)[c.length]? =some a:=by rw[<-h];simp
 have f:(aK ws).length=c.length+(R.length+1):=by rw[<-h];simp
 obtain⟨k,l⟩:=adv_at ws c.length a j
 cases R with
 |nil=>exact⟨by rw[(l (by rw[f];rfl)).2];rfl,λb d e=>by cases e⟩
 |cons b d=>
  obtain⟨g,m⟩:=k (by rw[f,yr];omega);refine⟨by rw[m];rfl,λo i e=> ?_⟩;simp only[By] at e;rw[<-e.1]
  have n:(aK ws)[c.length+1]? =some b:=by
   rw[<-h,yG (by omega),show c.length+1-c.length=1 by omega];rfl
  rw[n] at g;exact(Az g).symm
theorem jE {α:Type} (P:α->Bool):∀(l:List α),l.filter P=match l.dropWhile (λa=> !P a) with
  |[]=>[]
  |a::r=>a::r.filter P
 |[]=>rfl
 |a::l=>by
  rw[List.dropWhile_cons,List.filter_cons];cases hP:P a
  ·simp only[Bool.not_false,if_true,Ck,Cc];exact jE P l
  ·simp
theorem oD:∀(l:List Vr) (a:List Nat) (s:ByteArray),eI ((List.range l.length).map λi=>((l.getD i vr0).name,a.getD i 0)) s=(jq (aw l) s).map λi=>a.getD i 0
 |[],a,s=>rfl
 |v::l,a,s=>by
  rw[yr,List.range_succ_eq_map,Cm,Bo];have ih:=oD l a.tail s;have e1:aw (v::l)=v.name::aw l:=rfl;rw[e1];unfold eI jq
  by_cases h:v.name=s
  ·rw[yz h,yz (show(((v::l).getD 0 vr0).name,a.getD 0 0).1=s from h)];rfl
  ·rw[yw h,yw (show¬(((v::l).getD 0 vr0).name,a.getD 0 0).1=s from h)]
   have b:((λi=>(((v::l).getD i vr0).name,a.getD i 0))∘Nat.succ)=λi=>((l.getD i vr0).name,a.tail.getD i 0):=by
    funext i
    cases a<;>simp
   rw[b,ih,Option.map_map];congr 1
   funext i
   cases a<;>simp
theorem sg_env (l:List Vr) (a:List Nat):sgV (eK l a l.length)=fo (aw l) a:=by
 funext s
 unfold sgV eK fo;rw[oD];cases jq (aw l) s<;>rfl
theorem pK {l:List Vr} {a:List Nat} {s:ByteArray} (h:s∈aw l):(eI (eK l a l.length) s).isSome=true:=by
 unfold eK;rw[oD,Option.isSome_map]
 have c:∀{b:List ByteArray},s∈b->(jq b s).isSome=true:=by
  intro b d
  induction b with
  |nil=>cases d
  |cons x r ih=>
   unfold jq
   by_cases e:x=s
   ·rw[yz e];rfl
   ·rw[yw e,Option.isSome_map];rcases yC.1 d with h|h
    ·exact absurd h.symm e
    ·exact ih h
 exact c h
def EnS (w:World) (B:Nat) (v:Value) (l:List Sg):Prop:=(l=[]/\∃A c,v= .slice A 0 c)\/∃a cap cur,v= .slice (some ⟨a,0,none⟩) l.length cap/\B<=a/\l.length<=cap/\Box w a cur 170∧
 ∀i,i<l.length->cur[i*2]? =some (.string (l.getD i sg0).1)/\cur[i*2+1]? =some (.int .i64 ((l.getD i sg0).2:Nat))
section
variable {w w':World} {B:Nat} {v:Value} {l:List Sg}
theorem EnS.of (h:OG sgR w B 0 170 v l):EnS w B v l:=by
 obtain⟨A,c,e1,r,j⟩:=h.rs.sgs;obtain⟨-,uss, -,q, -⟩:=h;rcases q.2 with⟨rfl,d⟩|⟨g,cap,cur,rfl,p,m,k, -⟩
 ·exact .inl ⟨yV d,none,0,rfl⟩
 ·refine .inr ⟨g,cap,cur,rfl,p,k,m,λi hi=> ?_⟩;obtain⟨b,o,n, -,a⟩:=j i hi;simp only[yA,true_and] at e1
  obtain⟨rfl,rfl⟩:g=b/\o=0:=by
   have:=e1.1.trans n;simp only[yy,B8,B9] at this;exact⟨this.1,this.2.symm⟩
  have f:Box w g cur 170:=m;have d:=a.1;have e:=a.2;rw[f.cell] at d e;rw[yH] at d e;exact⟨d,e⟩
theorem EnS.rs (h:EnS w B v l):Rs sgR w v l ah:=by
 rcases h with⟨rfl,A,c,rfl⟩|⟨n,cap,cur,rfl, -,o,m,a⟩
 ·exact⟨A,c,rfl,yt _,λh=>absurd h (by simp)⟩
 ·refine⟨_,cap,rfl,o,λ_=>⟨n,0,rfl,m.lt,λj x g=>⟨sgL x,λi hi=> ?_,rfl⟩⟩⟩;have b:j<l.length:=(yJ.1 g).1;obtain⟨d,f⟩:=a j b;rw[yj,g] at d f;have e:sgR.k=2:=rfl;rw[e] at hi⊢;rw[m.cell,yH];have:i=0\/i=1:=by omega
  rcases this with rfl|rfl
  ·exact d
  ·exact f
theorem EnS.keep (h:EnS w B v l) (hk:∀b cs,Box w b cs 170->w'.heap[b]? =w.heap[b]?):EnS w' B v l:=by
 rcases h with h|⟨c,cap,cur,rfl,e,f,d,a⟩
 ·exact .inl h
 ·exact .inr ⟨c,cap,cur,rfl,e,f,(hk c cur d).trans d,a⟩
theorem EnS.below (h:EnS w B v l) (a:Below w.heap.size w w'):EnS w' B v l:=h.keep λb cs c=>a.block b c.lt
instance:Zm w w' (EnS w B v l) (EnS w' B v l):=⟨λhb h=>EnS.below h hb⟩
theorem EnS.k2 {g ga:Nat} {c d:Array Value} (h:EnS w B v l) (hk:K2 w w' g ga) (e:Box w g c 107) (hi:Box w ga d 3):EnS w' B v l:=
 h.keep λb cs a=>hk.block b a.lt (af a e (by decide)) (af a hi (by decide))
theorem EnS.setNe {g:Nat} {cs:Array Value} {T:TypeId} (h:EnS w B v l) (d:Box w g cs T) (c:T≠170) (i:Nat) (u:Value):EnS (w.setCell ⟨g,i,none⟩ u) B v l:=
 h.keep λb a f=>Aj w ⟨g,i,none⟩ u b (af f d λe=>c e.symm)
theorem EnS.store (h:EnS w B v l) {k:Nat} (hk:k<l.length) (x:Nat):∃a cap,v= .slice (some ⟨a,0,none⟩) l.length cap/\B<=a/\(∃cur u,Box w a cur 170/\cur[k*2+1]? =some u)/\EnS (w.setCell ⟨a,k*2+1,none⟩ (.int .i64 (x:Nat))) B v (l.set k ((l.getD k sg0).1,x)):=by
 rcases h with⟨rfl, -⟩|⟨a,cap,cur,rfl,d,j,f,b⟩
 ·simp at hk
 ·obtain⟨c1,c2⟩:=b k hk;refine⟨a,cap,rfl,d,⟨cur,_,f,c2⟩,.inr ⟨a,cap,cur.setIfInBounds (k*2+1) (.int .i64 (x:Nat)),by rw[As],d,by rw[As];exact j,f.set_ _ _,λi hi=> ?_⟩⟩;rw[As] at hi;obtain⟨c,g⟩:=b i hi
  by_cases e:i=k
  ·subst e;have m:i*2+1<cur.size:=(Bu.1 c2).1;rw[BM (by omega),Array.getElem?_setIfInBounds_self_of_lt m,yj,AR hk];exact⟨c,rfl⟩
  ·rw[BM (by omega),BM (by omega),yj,AU (BQ e),<-yj];exact⟨c,g⟩
end
def gOG {α:Type} (j:Nat) (D:List Nat) (φ:Rd α) (xs:List α) (B:Nat) (T:TypeId):FOp:=⟨j,D,λv=>∃A c,v= .slice A xs.length c,λv w=>OG φ w B 0 T v xs⟩
theorem gOG_st {α:Type} (j:Nat) (D:List Nat) (φ:Rd α) (xs:List α) (B:Nat) (T:TypeId):∀u w w',(gOG j D φ xs B T).Φ u w->Below w.heap.size w w'->(gOG j D φ xs B T).Φ u w':=λu w w' h a=>h.below a
theorem gOG_kn {α:Type} (j:Nat) (D:List Nat) (φ:Rd α) (xs:List α) (B:Nat) (T:TypeId):(∀u w,(gOG j D φ xs B T).Φ u w->(gOG j D φ xs B T).S u)/\∃u,(gOG j D φ xs B T).S u:=⟨λu w h=>h.slice,.slice none _ 0,none,0,rfl⟩
theorem uZ {α:Type} {φ:Rd α} {w:World} {B B' C:Nat} {T:TypeId} {v:Value} {xs:List α} (h:OG φ w B C T v xs) (a:B'<=B) (b:C<=B'):OG φ w B' C T v xs:=by
 obtain⟨c,uss,e,f,d⟩:=h;exact⟨⟨c.1,b⟩,uss,e,kI f a,d⟩
theorem K2.setNew {w w1:World} {g gt:Nat} (h:K2 w w1 g gt) {p:Addr} (hp:w.heap.size<=p.block) (u:Value):K2 w (w1.setCell p u) g gt:=
 ⟨h.os,h.tape,h.output,by simpa [World.setCell] using h.size,λb c d e=>by
  rw[<-h.block b c d e];have a:p.block≠b:=by omega
  simp[World.setCell,Array.getElem?_modify,a]⟩
theorem own_k2 {w w':World} {B g ga n size:Nat} {T:TypeId} {v:Value} {ls:List Value} (h:w.ownsRow B T size v n ls) (hk:K2 w w' g ga) (d:g<B) (c:ga<B):w'.ownsRow B T size v n ls:=
 rR h λb a=>hk.block b (tH h b a) (by have:=iJ h b a;omega) (by have:=iJ h b a;omega)
def FSt (w:World) (p:Pb) (A1 A2 A3 A4 A5:Option Addr) (c1 c2 c3 c4 c5:Nat) (m:Nat) (Al:Option Addr) (cl g ga:Nat) (R:List (List Nat)) (d:Int):Prop:=
 ∃a,Box w g (sD p A1 A2 A3 A4 A5 c1 c2 c3 c4 c5 m Al cl ga R.isEmpty d) 107/\Box w ga (iA (nI a)) 3/\a.length=p.vars.length/\∀b c,R=b::c->a=b
def eU (p:Pb) (l:List Ex) (a:List Nat):Bool:=gH (fo (aw p.vars) a) l
def HitM (L:List (List Nat)) (b:Prop) (c:List Nat->List (List Nat)->Prop):Prop:=match L with
 |[]=>b
 |a::R=>c a R
def tp (w:World) (g:Nat):Nat:=match w.cell? ⟨g,8,none⟩ with
 |some (.int _ s)=>s.toNat
 |_=>0
theorem rg {w:World} {g:Nat} {cs:Array Value} {T:TypeId} {s:Int} (h:Box w g cs T) (a:cs[8]? =some (.int .i64 s)):tp w g=s.toNat:=by
 unfold tp;rw[h.at_ 8 _ a]
def HitR (w:World) (p:Pb) (A1 A2 A3 A4 A5:Option Addr) (c1 c2 c3 c4 c5:Nat) (l:List Ex) (Al:Option Addr) (cl g ga:Nat) (R:List (List Nat)) (e:Ending) (w':World):Prop:=K2 w w' g ga/\HitM (R.dropWhile (λa=> !eU p l a))
 (e= .returned (.tuple #[.slice none 0 0,.bool false])/\∃b,FSt w' p A1 A2 A3 A4 A5 c1 c2 c3 c4 c5 l.length Al cl g ga [] b/\0<=b/\b<=262144)
 (λa c=>∃v b,e= .returned (.tuple #[v,.bool true])/\w'.ownsRow w.heap.size 3 1 v p.vars.length (gF (nI a))/\FSt w' p A1 A2 A3 A4 A5 c1 c2 c3 c4 c5 l.length Al cl g ga c b/\(c.length:Int)<=b/\b<=262144)
theorem scHit {w0 w:World} {p:Pb} {A1 A2 A3 A4 A5:Option Addr} {c1 c2 c3 c4 c5:Nat} (hp:PIn w0 p A1 A2 A3 A4 A5 c1 c2 c3 c4 c5) (hs:PSm p) (hk:KW w0) (hm:cM w0) (hv:PV p) (l:List Ex) (Al:Option Addr) (cl:Nat) (hr:Rs (exR KE) w0 (.slice Al l.length cl) l ah) (hl:l.length<=1000) (H:∀e∈l,jK (aw p.vars) e)
  (bz:Below w0.heap.size w0 w) (g ga:Nat) (hg:w0.heap.size<=g) (aW:w0.heap.size<=ga) (R:List (List Nat)) (hR:R<:+aK (az p.vars)) (st:Int) (aL:(R.length:Int)<=st) (bI:st<=262144) (hf:FSt w p A1 A2 A3 A4 A5 c1 c2 c3 c4 c5 l.length Al cl g ga R st):
  Calls Tryz.prog 47 #[.pointer (some ⟨g,0,none⟩)] w (HitR w p A1 A2 A3 A4 A5 c1 c2 c3 c4 c5 l Al cl g ga R):=by
 obtain⟨a0,hx,hi,T,bv⟩:=hf;have hn:=hs.nv;have bZ:g≠ga:=af hx hi (by decide);have aV:=zh bz;have b5:=zh hv.vars;have aO:=zh fun(a:List Nat) (R1:List (List Nat)) (h:a::R1<:+aK (az p.vars))=>pZ hv.vars.ok (h.subset (List.mem_cons_self));have U:=zh fun(W:World) (f:Below w0.heap.size w0 W) (bN:Bool) (steps:Int) (a:List Nat) (hl:a.length=p.vars.length) (ha:∀x∈a,x<65536) hx hi=>wS (w:=W) (A2:=A2) (A3:=A3) (A4:=A4) (A5:=A5) (c2:=c2) (c3:=c3) (c4:=c4) (c5:=c5) hp.v hs hv.vars f l.length Al cl g ga hg aW bN steps a hl ha hx hi;have ad:=zh fun(W:World) (f:Below w0.heap.size w0 W) (hi:Box W ga (iA (nI a0)) 3)=>elEnv (w:=W) (hp.below f) hs a0 (.slice (some ⟨ga,0,none⟩) p.vars.length p.vars.length) (ko hi _ (by rw[aF,T])) T
 have a5:=zh fun(W:World) (f:Below w0.heap.size w0 W) (a:List Nat) (ha:∀x∈a,x<65536) (ve:Value) (hv:Rs sgR W ve (eK p.vars a p.vars.length) ah) (e:Ex) (V:e∈l) (Ap:Option Addr) (cp:Nat) (b2:Rs (exR 29) W (.slice Ap e.args.length cp) e.args ah)=>
  exEval W (eK p.vars a p.vars.length) ve e 29 Ap cp (λs=>decide (s∈aw p.vars)) hv (by rw[iQ];exact hn) (λx hx=>by
   obtain⟨i,hi,rfl⟩:=AP.1 hx;show a.getD i 0<65536
   by_cases h:i<a.length
   ·exact ha _ (getD_in 0 h)
   ·rw[yj,AK (by omega)];exact(by decide)) (H e V).z (hk.below f) (hm.below f) b2 (by decide) (H e V).len (H e V).ok.1 (H e V).ok.2.1 (λs hs=>pK ((H e V).ok.2.2 s hs)) (H e V).okE
 have bJ:g<w.heap.size/\ga<w.heap.size:=⟨hx.lt,hi.lt⟩;obtain⟨d,y,HR,bf⟩:=zk4 hx hi hR bv;obtain⟨n1,aI⟩:=zv (p.vars.length);have HN:=zh aI;have B:Hid (a0.length=n1):=zh (by rw[T,aI])
 have au:Hid ((eK p.vars a0 n1).length=n1/\∀i,i<n1->((eK p.vars a0 n1).getD i sg0).1=(p.vars.getD i vr0).name):=zh ⟨iQ _ _ _,λi hi=>by
  unfold eK
  rw[yj,yW,Be hi];rfl⟩
 obtain⟨A',cl',e1,bV,bL⟩:=hr.exs;obtain⟨rfl,rfl⟩:Al=A'/\cl=cl':=by simpa using e1
 have ay:=zh bL;clear e1;obtain⟨m,aY⟩:∃m,m=l.length:=⟨_,rfl⟩;have a9:=zh aY;unfold HitR FSt;unfold sD at d U⊢;unfold pbV at ad;rw[<-aI] at d U ad hn⊢;rw[<-aY] at d U ay hl bV⊢;generalize p.hard.length=n2 at*;generalize p.soft.length=n3 at*;generalize p.dists.length=n4 at*;generalize p.groups.length=n5 at*;clear hp hs hk hm hv hr H bz hx hi T bv hR aI aY bL;unfold EnR at ad;go_enter Tryz.func47,Tryz.ntmps47;go_wp2_with fail;go_step3;go_wp2_with fail;refine br 9 (Kit.of [gOG 8 [] sgR (eK p.vars a0 n1) w.heap.size 170]) (by kernel_rfl) (by kernel_rfl) (λγ=>by kernel_rfl) (by kernel_rfl) (Kit.of_stable ?_) (Kit.of_known ?_) ?_
 ·intro z hz;simp only[yC,yI,AH] at hz;rcases hz with rfl
  ·apply gOG_st
 ·intro z hz;simp only[yC,yI,AH] at hz;rcases hz with rfl
  ·apply gOG_kn
 intro γ bM C hC b7;obtain⟨Ae,ce,e8⟩:∃A c,γ 8= .slice A (eK p.vars a0 n1).length c:=bM 8 rfl;rw[au.out.1] at e8;have f0:=d.out.latC (C:=C) 0 _ rfl;have f1:=d.out.latC (C:=C) 1 _ rfl;have f2:=d.out.latC (C:=C) 2 _ rfl;have f3:=d.out.latC (C:=C) 3 _ rfl;have f4:=d.out.latC (C:=C) 4 _ rfl;have f6:=d.out.latC (C:=C) 6 _ rfl;simp only[yX,y9,y6,yO]
 iterate 8 (refine aE rfl ?_;go_big_quiet_step (fail);refine yN ?_)
 refine bG rfl (bc (args:=#[.agg #[.slice A1 n1 c1,.slice A2 n2 c2,.slice A3 n3 c3,.slice A4 n4 c4,.slice A5 n5 c5],.slice (some ⟨ga,0,none⟩) n1 n1]) rfl _ _ _ (cB Tryz.func92 (by kernel_rfl) (by kernel_rfl)) rfl (by simp[Act.eval]) (λw' f hf=>(ad w' (ab aV f) (y.out.below f)).mono λe w2 ⟨v,V,ho,hb2⟩=>⟨v,V,uZ ho f.size (yt _),hb2⟩)) ?_;simp only[yH,Nat.reduceAdd,e8];go_simp;intro w5 f hF;have R8:OG sgR w5 w.heap.size 0 170 (γ 8) (eK p.vars a0 n1):=hF 8 (by decide) rfl;rw[e8] at R8;have D:=zh (EnS.of R8);clear f0 f1 f2 f3 f4 f6 bM hC hF e8 R8 ad;have t:=zh ((K2.refl w g ga).below f);replace d:=zb d f;replace y:=zb y f;clear f;generalize eK p.vars a0 n1=E0 at*;go_wp2_with fail;go_step3;go_wp2_with fail;have b4:=zh (show g<w.heap.size/\ga<w.heap.size from bJ)
 go_loopw [] (λwr=>∃(R1:List (List Nat)) (st1:Int) (a:List Nat) (el:List Sg),Hid (R1<:+aK (az p.vars))/\Hid (R.dropWhile (λa=> !eU p l a)=R1.dropWhile (λa=> !eU p l a))/\Box wr g #[.slice A1 n1 c1,.slice A2 n2 c2,.slice A3 n3 c3,.slice A4 n4 c4,.slice A5 n5 c5,.slice Al m cl,.slice (some ⟨ga,0,none⟩) n1 n1,.bool R1.isEmpty,.int .i64 st1] 107/\Box wr ga (iA (nI a)) 3/\a.length=n1/\(∀b R',R1=b::R'->a=b)/\(R1.length:Int)<=st1/\st1<=262144/\EnS wr w.heap.size (.slice Ae n1 ce) el/\el.length=n1/\Hid (∀i,i<n1->(el.getD i sg0).1=(p.vars.getD i vr0).name)/\K2 w wr g ga)
  (λwr=>tp wr g)
 case atStart=>exact⟨R,st,a0,E0,HR,zh rfl,d,y,B,bf,aL,bI,D,au.out.1,zh au.out.2,t⟩
 case round=>
  obtain⟨R1,st1,a,el,a4,aD,P,Q,T,aZ,a3,b3,ap,ak,Y,G⟩:=hrel;clear d y D t au B bf HR;obtain⟨d,y,D,t,B,r⟩:=zk6 P Q ap G T ak;clear P Q ap G T ak
  cases R1 with
  |nil=>
   have ar:Hid (R.dropWhile (λa=> !eU p l a)=[]):=zh aD.out;clear aD a4 aZ Y;simp only[yR] at a3;have s0:0<=st1:=by omega
   have aQ:=za d 7 rfl;go_wp2_with fail;rw[Exit.noGoto_ret];go_ret2;refine⟨t, ?_⟩;rw[ar.out];exact⟨by trivial,st1,⟨a,d,y,B,λb R' e=>by cases e⟩,s0,b3⟩
  |cons b R2=>
   obtain rfl:=aZ b R2 rfl;have aU:=zh a4.out;have ar:=zh aD.out;have L:=zh Y.out;have a8:=zh (aO a R2 aU);have aT:=zh (adv_sfx aU);have bi:Hid (R2<:+aK (az p.vars)):=zh (List.IsSuffix.trans (List.suffix_cons a R2) aU);have s1:(R2.length:Int)+1<=st1:=by simpa using a3
   have s2:0<st1:=by omega
   have s3:(R2.length:Int)<=st1-1:=by omega
   have bg:=zh s3;clear aZ a4 aD Y a3 s1 s3 aO;have bT:=zh (rg d rfl);have f8:=d.out.frozen 8;have aQ:=za d 7 rfl;have bt:=za d 8 rfl;have bu:=d.out.lt;go_upto_region 4 with fail;clear aQ bt bu;clear f8;have aA:=zh (d.out.set_ 8 (.int .i64 (st1-1)));have aB:=zh (y.out.setNe (p:=⟨g,8,none⟩) bZ (.int .i64 (st1-1)));have J:=zh (D.out.setNe d (by decide) 8 (.int .i64 (st1-1)));have E:=zh (t.out.set (p:=⟨g,8,none⟩) (Or.inl rfl) (.int .i64 (st1-1)));clear d y D t;generalize wr.setCell ⟨g,8,none⟩ (.int .i64 (st1-1))=w6 at*;have d:Hid (Box w6 g #[.slice A1 n1 c1,.slice A2 n2 c2,.slice A3 n3 c3,.slice A4 n4 c4,.slice A5 n5 c5,.slice Al m cl,.slice (some ⟨ga,0,none⟩) n1 n1,.bool false,.int .i64 (st1-1)] 107):=aA;have y:=aB;clear aA aB;have aS:=rj w6 (.slice (some ⟨ga,0,none⟩) n1 n1) (nI a) (ko y n1 (by rw[aF,B.out])) (by rw[aF,B.out];omega);rw[aF,B.out] at aS;have bs:=za d 6 rfl;go_wp2_with fail;refine aS.mono ?_;rintro e w7 ⟨vh,rfl,Z,f⟩;clear aS;clear bs;have aP:=zh (show g<w6.heap.size/\ga<w6.heap.size from⟨d.out.lt,y.out.lt⟩);have bU:Hid (w.heap.size<=w6.heap.size):=zh E.out.size;have M:=zh Z;obtain⟨Ah,ch,e9, -, -⟩:=IL.of_own Z;rw[aF,B.out] at e9;subst e9;have K:=zh (J.out.below f)
   have bS:Hid (∀ge c,Value.slice Ae n1 ce= .slice (some ⟨ge,0,none⟩) n1 c->0<n1->ge<w6.heap.size):=zh λge c V hp=>by
    rcases J.out with⟨X, -⟩|⟨b6,cap,cur,X, -, -,hx, -⟩
    ·have:=r.out;rw[X] at this;simp at this;omega
    ·rw[r.out] at X;rw[X] at V;simp only[yA,yy,B8] at V;rw[<-V.1.1];exact hx.lt
   replace E:=zb E f;replace d:=zb d f;replace y:=zb y f;clear f Z J;generalize w6.heap.size=B6 at*;go_wp2_with fail
   go_loopw [47] (λi wq=>∃(k:Nat) (I:List Sg),k<=n1/\i= .int .i64 k/\Box wq g #[.slice A1 n1 c1,.slice A2 n2 c2,.slice A3 n3 c3,.slice A4 n4 c4,.slice A5 n5 c5,.slice Al m cl,.slice (some ⟨ga,0,none⟩) n1 n1,.bool false,.int .i64 (st1-1)] 107/\Box wq ga (iA (nI a)) 3/\wq.ownsRow B6 3 1 (.slice Ah n1 ch) n1 (gF (nI a))/\EnS wq w.heap.size (.slice Ae n1 ce) I/\I.length=n1/\Hid (∀i,i<n1->(I.getD i sg0).1=(p.vars.getD i vr0).name)/\Hid (∀i,i<k->(I.getD i sg0).2=a.getD i 0)/\K2 w wq g ga) (λi _=>n1-(intOf i).toNat)
   case atStart=>
    exact⟨0,el,yt _,rfl,d,y,M,K,r,L,zh λi h=>by omega,E⟩
   case round=>
    obtain⟨k,I,hk,rfl,P,Q,Z,ap,ak,Y,bK,G⟩:=hrel;clear d y M K r L E;obtain⟨d,y,M,D,r⟩:=zk5 P Q Z ap ak;have L:=zh Y.out;have ax:=zh bK.out;have t:=zh G;clear P Q Z ap ak Y bK G
    by_cases aH:k<n1
    ·have bE:(k:Int)<n1:=by omega
     have k0:(0:Int)<=(k:Int):=by omega
     obtain⟨ge,cap,aG,bY,⟨cur,u,aa,bB⟩,aL⟩:=D.out.store (k:=k) (by rw[r.out];exact aH) (a.getD k 0);rw[r.out] at aG;have bX:=bS.out ge cap aG (by omega);simp only[yA,true_and] at aG;obtain⟨rfl,rfl⟩:=aG;have i0:=aa.at_ _ _ bB;have i1:=aa.frozen (k*2+1);have i2:=aa.lt;have bw:=af aa d (by decide);have bx:=af aa y (by decide)
     obtain⟨bh,oh,eh,y0⟩:∃b o,Ah=some ⟨b,o,none⟩/\wr.cell? ⟨b,o+k,none⟩=some (.int .i64 (a.getD k 0:Nat)):=by
      rcases(IL.of_own M).form with⟨A,c,X,h2⟩|⟨b,o,c,X, -, -, -,h2⟩
      ·have h3:=AA List.length h2;rw[aF,B.out] at h3;simp at h3;omega
      ·have h3:=h2 k (by rw[aF,B.out];exact aH);rw[eO] at h3;simp only[yA] at X;exact⟨b,o,X.1,h3⟩
     subst eh;have ai:=zh (λi (hi:i≠k)=>show(I.set k ((I.getD k sg0).1,a.getD k 0)).getD i sg0=I.getD i sg0 by rw[yj,AU (BQ hi),<-yj]);have ag:=zh (show(I.set k ((I.getD k sg0).1,a.getD k 0)).getD k sg0=((I.getD k sg0).1,a.getD k 0) by rw[yj,AR (by rw[r.out];exact aH)];rfl);have J:=zh aL
     have ba:Hid (∀i,i<n1->((I.set k ((I.getD k sg0).1,a.getD k 0)).getD i sg0).1=(p.vars.getD i vr0).name):=zh λi hi=>by
      by_cases e:i=k
      ·rw[e,ag.out];exact L k aH
      ·rw[ai.out i e];exact L i hi
     have bj:Hid (∀i,i<k+1->((I.set k ((I.getD k sg0).1,a.getD k 0)).getD i sg0).2=a.getD i 0):=zh λi hi=>by
      by_cases e:i=k
      ·rw[e,ag.out]
      ·rw[ai.out i e];exact ax i (by omega)
     have a6:Hid ((I.set k ((I.getD k sg0).1,a.getD k 0)).length=n1):=zh (by rw[As];exact r);have aA:=zh (d.out.setNe (p:=⟨ge,k*2+1,none⟩) bw (.int .i64 (a.getD k 0:Nat)));have aB:=zh (y.out.setNe (p:=⟨ge,k*2+1,none⟩) bx (.int .i64 (a.getD k 0:Nat)));have bd:=zh (ownsRow_setCell_below M (a:=⟨ge,k*2+1,none⟩) bX (.int .i64 (a.getD k 0:Nat)));have E:=zh (t.out.setNew (p:=⟨ge,k*2+1,none⟩) bY (.int .i64 (a.getD k 0:Nat)));generalize I.set k ((I.getD k sg0).1,a.getD k 0)=ek2 at*;generalize a.getD k 0=av at*;clear aL aa bB ai ag L ax D r M t;go_wp2_with fail;go_roundw
     ·exact⟨k+1,ek2,by omega,by go_num,aA,aB,bd,J,a6,ba,bj,E⟩
     ·simp[intOf];omega
    ·have bE:¬(k:Int)<n1:=by omega
     have b0:k=n1:=by omega
     subst b0
     have aN:Hid (I=eK p.vars a k):=zh (by
      refine BP (by rw[r.out,iQ]) λi X h2=> ?_;rw[r.out] at X;have e1:=L.out i X;have e2:=ax.out i X;rw[yj,yp (by rw[r.out];exact X)] at e1 e2;simp only[AV] at e1 e2;refine Prod.ext ?_ ?_
      ·rw[e1];simp[eK]
      ·rw[e2];simp[eK])
     rw[aN.out] at D;have aR:=U.out wr (t.out.toBelow aV hg aW) false (st1-1) a (by rw[B.out]) a8.out.2 d y;clear aN L ax r;rw[B7,aT.out.1] at aR;go_wp2_with fail;refine aR.mono ?_;rintro e w8 ⟨rfl,P,Q,G⟩;have K:=zh (D.out.k2 G d y);have be:=zh (own_k2 M G aP.out.1 aP.out.2);have E:=zh (t.out.trans G);have bD:(cT (az p.vars) a).1.length=k:=by rw[oW,cN];exact HN.out.symm
     have a7:=zh bD;have aM:=zh aT.out.2;clear d y D M t aR bD aT G;obtain⟨d,y⟩:=zk2 P Q;clear P Q;generalize(cT (az p.vars) a).1=a2 at*;have bq:=za d 5 rfl;go_wp2_with fail;clear bq;have bQ:=zh (E.out.toBelow aV hg aW)
     go_loopw [65] (λi wq=>∃q:Nat,q<=m/\i= .int .i64 q/\Below w8.heap.size w8 wq/\Hid (∀j,j<q->evT (fo (aw p.vars) a) dep (l.getD j ex0)≠0)) (λi _=>m-(intOf i).toNat)
     case atStart=>exact⟨0,yt _,rfl,yx _ _,zh λj h=>by omega⟩
     case round=>
      obtain⟨q,hq,rfl,f,aJ⟩:=hrel;have S:=zh f;have HB:=zh (ab bQ f);clear f
      by_cases bF:q<m
      ·have bH:(q:Int)<m:=by omega
       have q0:(0:Int)<=(q:Int):=by omega
       obtain⟨b,o,u,d',e2,aC,hd,F,H, -⟩:=ay.out q bF;subst e2;obtain rfl:d'=29:=by unfold KE at hd;omega
       have v0:=(HB.out.cell aC).trans (F 0 _ rfl);have v1:=(HB.out.cell aC).trans (F 1 _ rfl);have v2:=(HB.out.cell aC).trans (F 2 _ rfl);have v3:=(HB.out.cell aC).trans (F 3 _ rfl);rw[yU] at v0;have aX:=getD_in ex0 (show q<l.length by rw[<-a9.out];exact bF);have a1:=H.below HB
       have aj:Hid (evT (fo (aw p.vars) a) dep (l.getD q ex0)≠0->∀j,j<q+1->evT (fo (aw p.vars) a) dep (l.getD j ex0)≠0):=zh λh j hj=>by
        by_cases e:j=q
        ·rw[e];exact h
        ·exact aJ.out j (by omega)
       have ae:Hid (evT (fo (aw p.vars) a) dep (l.getD q ex0)=0->eU p l a=false):=zh λh=>by
        unfold eU gH;rw[List.all_eq_false];exact⟨_,aX,by rw[h];decide⟩
       clear F H ay aJ;generalize l.getD q ex0=ee at*;obtain⟨Ap,cp,rfl,bW⟩:=a1.slice;have aq:=zh fun(W:World) (f:Below wr.heap.size wr W)=>a5.out W (ab HB f) a a8.out.2 (.slice Ae k ce) (by rw[<-HN.out];exact((K.out.below S).below f).rs) ee aX Ap cp (a1.below f);unfold exV at aq;rw[sg_env] at aq;generalize evT (fo (aw p.vars) a) dep ee=ev at*;generalize ee.op=ao at*;generalize ee.n=an at*;generalize ee.name=am at*;generalize ee.args.length=al at*;clear aX bW a1 a5;go_upto_region 14 with fail;clear v0 v1 v2 v3;have HW:=zh (ac wr (.cells #[.int .i64 ao,.int .i64 an,.string am,.slice Ap al cp] 79));have bk:=zh (ab S HW);generalize bO:wr.alloc _=w3 at*;obtain⟨bA,XA⟩:=zA1 bO;clear bO;replace HB:=zb HB bA;clear bA;have bl:=za XA 0 rfl;have bm:=za XA 1 rfl;have bn:=za XA 2 rfl;have bo:=za XA 3 rfl;go_wp2_with fail;refine(aq w3 HW).mono ?_;rintro e w4 ⟨rfl,f⟩;have N:=zh (ab bk f);clear bl bm bn bo;clear f HW bk S XA aq HB
       by_cases bC:ev=0
       ·subst bC;have bP:=zh (ae rfl);clear aj ae;go_wp2_with fail;have bp:=d.out.below N;refine⟨⟨R2,st1-1,a2,eK p.vars a k,bi,zh ?_,bp,y.out.below N,a7,aM,bg,by omega,K.out.below N,iQ _ _ _,zh λi hi=> ?_,E.out.below N⟩, ?_⟩
        ·rw[ar.out,List.dropWhile_cons];simp[bP.out]
        ·unfold eK;rw[yj,yW,Be hi];rfl
        ·rw[rg bp rfl,bT.out];omega
       ·have g1:((ev:Int)==0)=false:=by
         have:¬(ev:Int)=0:=by omega
         simpa using this
        have bb:=zh (aj bC);clear aj ae;go_wp2_with fail;go_roundw
        ·exact⟨q+1,by omega,by go_num,N,bb⟩
        ·simp[intOf];omega
      ·have bH:¬(q:Int)<m:=by omega
       have b1:q=m:=by omega
       have bR:Hid (R.dropWhile (λa=> !eU p l a)=a::R2):=zh (by
        have hh:eU p l a=true:=by
         unfold eU gH;rw[Bj];intro e V;obtain⟨j,hj,rfl⟩:=yS.1 V;have:=aJ.out j (by rw[b1,a9.out];exact hj);rw[yj,yp hj] at this;simpa using this
        rw[ar.out,List.dropWhile_cons]
        simp[hh])
       clear aJ ay;go_wp2_with fail
       try rw[Exit.noGoto_ret]
       go_ret2;refine⟨E.out.below S, ?_⟩;rw[bR.out];exact⟨_,st1-1,rfl,kI (lQ be S) bU,⟨a2,d.out.below S,y.out.below S,a7,aM⟩,bg,by omega⟩
theorem sA {w:World} {p:Pb} {A1 A2 A3 A4 A5:Option Addr} {c1 c2 c3 c4 c5 m:Nat} {Al:Option Addr} {cl g ga:Nat} {steps:Int} (d:bS p.vars) (f:Box w g (sD p A1 A2 A3 A4 A5 c1 c2 c3 c4 c5 m Al cl ga false steps) 107) (hi:Box w ga (iA (nI (eP (az p.vars)))) 3):
  FSt w p A1 A2 A3 A4 A5 c1 c2 c3 c4 c5 m Al cl g ga (aK (az p.vars)) steps:=by
 have a:=oB (az p.vars);have c:=(pZ d.ok (List.mem_of_getElem? a)).1
 cases hS:aK (az p.vars) with
 |nil=>rw[hS] at a;cases a
 |cons b R=>
  rw[hS] at a
  exact⟨_,f,hi,c,λi h e=>by
   simp only[By] at e;rw[<-e.1]
   exact(Az a).symm⟩
theorem fl (p:Pb) (l:List Ex):de (aw p.vars) (az p.vars) l=(aK (az p.vars)).filter (eU p l):=rfl
def FirM (L:List (List Nat)) (b:Prop) (c:List Nat->Prop):Prop:=match L with
 |[]=>b
 |a::_=>c a
def FirR (w:World) (L:List (List Nat)) (e:Ending) (w':World):Prop:=Below w.heap.size w w'/\FirM L (e= .returned (.tuple #[.slice none 0 0,.int .i64 11])) (λa=>∃v,e= .returned (.tuple #[v,.int .i64 0])/\IL w' v (nI a))
theorem uK {w:World} {p:Pb} {A1 A2 A3 A4 A5:Option Addr} {c1 c2 c3 c4 c5:Nat} (hp:PIn w p A1 A2 A3 A4 A5 c1 c2 c3 c4 c5) (V:PSm p) (hk:KW w) (hm:cM w) (P:PV p) (l:List Ex) (Al:Option Addr) (cl:Nat) (U:Rs (exR KE) w (.slice Al l.length cl) l ah) (T:l.length<=1000) (r:∀e∈l,jK (aw p.vars) e) (steps:Int) (X:((aK (az p.vars)).length:Int)<=steps) (S:steps<=262144):
  Calls Tryz.prog 31 #[pbV p A1 A2 A3 A4 A5 c1 c2 c3 c4 c5,.slice Al l.length cl,.int .i64 steps] w (FirR w (de (aw p.vars) (az p.vars) l)):=by
 have t:=zh fun(W:World) (b:Below w.heap.size w W)=>uL (hp.below b) V (hk.below b) (hm.below b) P l Al cl (U.below b) T r steps (by omega) S;have L:=zh fun(W M:World) (b:Below w.heap.size w W) (i:Below W.heap.size W M) (g ga:Nat) (N:W.heap.size<=g) (d:W.heap.size<=ga) hf=>scHit (hp.below b) V (hk.below b) (hm.below b) P l Al cl (U.below b) T r i g ga N d (aK (az p.vars)) (List.suffix_refl _) steps X S hf;have h:=zh fun(W:World) (g ga:Nat) s hi=>sA (w:=W) (p:=p) (A1:=A1) (A2:=A2) (A3:=A3) (A4:=A4) (A5:=A5) (c1:=c1) (c2:=c2) (c3:=c3) (c4:=c4) (c5:=c5) (m:=l.length) (Al:=Al) (cl:=cl) (g:=g) (ga:=ga) (steps:=steps) P.vars s hi;have c:=zh (jE (eU p l) (aK (az p.vars)));rw[fl];unfold BegR at t;unfold pbV at t⊢;unfold HitR at L;unfold FirR;obtain⟨n1,j⟩:=zv (p.vars.length);obtain⟨n2,k⟩:=zv (p.hard.length);obtain⟨n3,n⟩:=zv (p.soft.length);obtain⟨n4,o⟩:=zv (p.dists.length);obtain⟨n5,q⟩:=zv (p.groups.length);have Y:=zh (And.intro j (And.intro k (And.intro n (And.intro o q))));rw[<-j,<-k,<-n,<-o,<-q] at t⊢;clear hp V hk hm P U r X S j k n o q;obtain⟨m,hm⟩:=zv (l.length);rw[<-hm] at t L h T⊢;clear hm;go_enter Tryz.func31,Tryz.ntmps31;go_upto_region 1 with fail;generalize K:w.alloc _=w1 at*;obtain⟨y,u⟩:=zB1 K;clear K;have C:=za u 0 rfl;have E:=za u 1 rfl;have F:=za u 2 rfl;have G:=za u 3 rfl;have H:=za u 4 rfl;go_wp2_with fail;refine(t w1 y).mono ?_;rintro e w2 ⟨g,ga,rfl,s,hi,b,N,d⟩;have x:=zh fun(M:World) (i:Below w1.heap.size w1 M) hf=>L.out w1 M y i g ga N d hf;have B:=zh (h w2 g ga s hi);have z:=zh b;have Q:=zh y;clear C E F G H;replace y:=zb y b;clear b;clear t L h u s hi;go_wp2_with fail;refine(x w2 z B).mono ?_;rintro e w3 ⟨I,hm⟩;have A:=zh (ab Q (I.toBelow z N d));clear x B I;generalize(aK (az p.vars)).dropWhile (λa=> !eU p l a)=D at*
 cases D with
 |nil=>
  obtain⟨rfl,Z,⟨a,s, -, -, -⟩, -, -⟩:=hm;have f7:w3.cell? ⟨g,7,none⟩=some (.bool true):=s.at_ 7 _ rfl;have f:Hid ((aK (az p.vars)).filter (eU p l)=[]):=zh c;clear s c;go_wp2_with fail;go_ret2;rw[f.out];exact⟨A,by trivial⟩
 |cons a R'=>
  obtain⟨v,Z,rfl,J, -, -, -⟩:=hm;have f:Hid ((aK (az p.vars)).filter (eU p l)=a::R'.filter (eU p l)):=zh c;have R:=zh (IL.of_own J);clear J c;go_wp2_with fail;go_ret2;rw[f.out];exact⟨A,v,by trivial,R⟩
def tj:Rd Value where
 k:=1
 ts:=[]
 pos:=by decide
 R:=λw us u F=>us=[u]/\u.oneCell'=true
 len:=λh=>by rw[h.1];rfl
 one:=λh u a=>by
  rw[h.1] at a;simp only[yC,yI,AH] at a;rw[a];exact h.2
 mono:=λh _=>h
 same:=λh _ _=>h
theorem xh {w:World} {B B1 size b n p:Nat} {T d:TypeId} {v j:Value} {o c:List Value} (h:w.ownsRow B T size v n o) (k:w.ownsRow B1 d b j p c) (l:T≠d):v.ownBlock=none\/v.ownBlock≠j.ownBlock:=by
 rcases h.2 with⟨rfl,_⟩|⟨g,cap,cur,rfl,_,m,_⟩
 ·exact .inl rfl
 ·refine .inr λe=> ?_;rcases k.2 with⟨rfl,_⟩|⟨q,f,i,rfl,_,a,_⟩
  ·simp[Value.ownBlock] at e
  ·simp only[Value.ownBlock,yy] at e;subst e;rw[m] at a;simp only[yy,Bw] at a;exact l a.2.1
theorem own_one {w:World} {B size n:Nat} {T:TypeId} {v:Value} {a:List Value} (h:w.ownsRow B T size v n a):v.oneCell'=true:=by
 rcases h.2 with⟨rfl,_⟩|⟨g,cap,cur,rfl,_⟩<;>rfl
def eS (w:World) (B n:Nat) (us:List Value) (xs:List (List Nat)):Prop:=us.length=xs.length/\∀j,j<xs.length->w.ownsRow B 3 1 (us.getD j undef) n (gF (nI (xs.getD j [])))
theorem eS.snoc {w:World} {B n:Nat} {us:List Value} {xs:List (List Nat)} (h:eS w B n us xs) {v:Value} {a:List Nat} (c:w.ownsRow B 3 1 v n (gF (nI a))):eS w B n (us++[v]) (xs++[a]):=by
 refine⟨by simp[h.1],λj b=> ?_⟩;rw[yu,yr,yR] at b
 by_cases e:j<xs.length
 ·rw[yj,yP (by rw[h.1];exact e),<-yj,yj (l:=xs++[a]),yP e,<-yj];exact h.2 j e
 ·obtain rfl:j=xs.length:=by omega
  rw[yj,<-h.1,yG (yq _),AG,yj (l:=xs++[a]),h.1,yG (yq _),AG];exact c
theorem eS.below {w w':World} {B n:Nat} {us:List Value} {xs:List (List Nat)} (h:eS w B n us xs) (a:Below w.heap.size w w'):eS w' B n us xs:=⟨h.1,λj b=>lQ (h.2 j b) a⟩
instance {w w':World} {B n:Nat} {us:List Value} {xs:List (List Nat)}:Zm w w' (eS w B n us xs) (eS w' B n us xs):=⟨λhb h=>eS.below h hb⟩
theorem eS.k2 {w w':World} {B n g ga:Nat} {us:List Value} {xs:List (List Nat)} (h:eS w B n us xs) (hk:K2 w w' g ga) (b:g<B) (a:ga<B):eS w' B n us xs:=⟨h.1,λj c=>own_k2 (h.2 j c) hk b a⟩
theorem eS.grown {w w':World} {B n B1 d:Nat} {us b:List Value} {xs:List (List Nat)} {v:Value} (h:eS w B n us xs) (a:OG tj w B1 d 32 v b) (e:w.grownBy w' v.ownBlock):eS w' B n us xs:=⟨h.1,λj c=>by
 obtain⟨-,uss, -,a, -⟩:=a
 exact(h.2 j c).kept e (xh (h.2 j c) a (by decide))⟩
theorem eS.rs {w:World} {B n B1 m:Nat} {us:List Value} {xs:List (List Nat)} {v:Value} (h:eS w B n us xs) (s:OG tj w B1 m 32 v us):Rs ilR w v (xs.map nI) ah:=by
 obtain⟨A,c,rfl,r,t⟩:=s.any;refine⟨A,c,by rw[yD,h.1],by rw[yD,<-h.1];exact r,λk=> ?_⟩;rw[yD] at k;obtain⟨b,o,rfl,q,e⟩:=t (by rw[h.1];exact k);refine⟨b,o,rfl,q,λj x i=> ?_⟩;rw[yW] at i;obtain⟨a,g,rfl⟩:=Option.map_eq_some_iff.1 i;have d:j<xs.length:=(yJ.1 g).1;obtain⟨ws,p,rfl,u⟩:=e j _ (yp (by rw[h.1];exact d));refine⟨_,p,_,rfl, ?_,λ_ _ _=>trivial⟩;have f:=h.2 j d;rw[yj,yp (by rw[h.1];exact d),yj (l:=xs),g] at f;exact IL.of_own f
theorem OG.k2 {α:Type} {φ:Rd α} {w w':World} {B g ga:Nat} {T:TypeId} {v:Value} {xs:List α} {d f:Array Value} (h:OG φ w B 0 T v xs) (hk:K2 w w' g ga) (l:Box w g d 107) (hi:Box w ga f 3) (a:φ.ts=[]) (i:107≠T) (j:3≠T):OG φ w' B 0 T v xs:=
 h.keepBut hk.size (λb=>b=g\/b=ga) (λb k=>by
  rcases k with rfl|rfl
  ·exact⟨_,_,l,by rw[a];simp,yt _,i⟩
  ·exact⟨_,_,hi,by rw[a];simp,yt _,j⟩) λb m c=>hk.block b m (λe=>c (.inl e)) (λe=>c (.inr e))
theorem FSt.map {w w':World} {p:Pb} {A1 A2 A3 A4 A5:Option Addr} {c1 c2 c3 c4 c5 m:Nat} {Al:Option Addr} {cl g ga:Nat} {R:List (List Nat)} {st:Int} (h:FSt w p A1 A2 A3 A4 A5 c1 c2 c3 c4 c5 m Al cl g ga R st) (hk:∀b cs T,T=107\/T=3->Box w b cs T->Box w' b cs T):
  FSt w' p A1 A2 A3 A4 A5 c1 c2 c3 c4 c5 m Al cl g ga R st:=by
 obtain⟨a,c,d,e⟩:=h;exact⟨a,hk _ _ _ (.inl rfl) c,hk _ _ _ (.inr rfl) d,e⟩
def AllR (w:World) (L:List (List Nat)) (e:Ending) (w':World):Prop:=Below w.heap.size w w'/\∃v,e= .returned (.tuple #[v,.int .i64 0])/\Rs ilR w' v (L.map nI) ah
theorem isliI:(Tryz.prog.info? 32).map (λi=>(i.zero,i.size,i.bytes))=some (some (.slice none 0 0),1,24):=by kernel_rfl
theorem scAll {w:World} {p:Pb} {A1 A2 A3 A4 A5:Option Addr} {c1 c2 c3 c4 c5:Nat} (hp:PIn w p A1 A2 A3 A4 A5 c1 c2 c3 c4 c5) (hs:PSm p) (hk:KW w) (hm:cM w) (hv:PV p) (l:List Ex) (Al:Option Addr) (cl:Nat) (hr:Rs (exR KE) w (.slice Al l.length cl) l ah) (hl:l.length<=1000) (aq:∀e∈l,jK (aw p.vars) e) (c:Nat) (steps:Int) (h0:((aK (az p.vars)).length:Int)<=steps) (h1:steps<=262144) (ao:(de (aw p.vars) (az p.vars) l).length<=c) (bs:c<=1000000):
  Calls Tryz.prog 16 #[pbV p A1 A2 A3 A4 A5 c1 c2 c3 c4 c5,.slice Al l.length cl,.int .i64 (c:Nat),.int .i64 steps] w (AllR w (de (aw p.vars) (az p.vars) l)):=by
 obtain⟨i0,hi,a9,ba,bb⟩:=Bb isliI;obtain⟨HI,bh,bi,bj⟩:=zk4 hi a9 ba bb;have CB:=zh fun(W:World) (f:Below w.heap.size w W)=>uL (hp.below f) hs (hk.below f) (hm.below f) hv l Al cl (hr.below f) hl aq steps (by omega) h1;have CH:=zh fun(W W2:World) (f:Below w.heap.size w W) (am:Below W.heap.size W W2) (g ga:Nat) (hg:W.heap.size<=g) (V:W.heap.size<=ga) (R:List (List Nat)) (hR:R<:+aK (az p.vars)) (st:Int) (bo:(R.length:Int)<=st) (a5:st<=262144) hf=>scHit (hp.below f) hs (hk.below f) (hm.below f) hv l Al cl (hr.below f) hl aq am g ga hg V R hR st bo a5 hf;have ag:=zh fun(W:World) (g ga:Nat) y hi=>sA (w:=W) (p:=p) (A1:=A1) (A2:=A2) (A3:=A3) (A4:=A4) (A5:=A5) (c1:=c1) (c2:=c2) (c3:=c3) (c4:=c4) (c5:=c5) (m:=l.length) (Al:=Al) (cl:=cl) (g:=g) (ga:=ga) (steps:=steps) hv.vars y hi;have be:=zh (jE (eU p l));have bt:Hid ((aK (az p.vars)).length=(aK (az p.vars)).length):=zh rfl;rw[fl] at ao⊢;unfold BegR at CB;unfold pbV at CB⊢;unfold HitR at CH;unfold AllR;obtain⟨n1,ap⟩:=zv (p.vars.length);obtain⟨n2,aY⟩:=zv (p.hard.length);obtain⟨n3,aZ⟩:=zv (p.soft.length);obtain⟨n4,a0⟩:=zv (p.dists.length);obtain⟨n5,a1⟩:=zv (p.groups.length);rw[<-ap,<-aY,<-aZ,<-a0,<-a1] at CB⊢;rw[<-ap] at CH;clear hp hs hk hm hv hr aq ap aY aZ a0 a1;obtain⟨m,hm⟩:=zv (l.length);rw[<-hm] at CB CH ag hl⊢;have bf:=zh ao;have bu:¬((c:Int)<0):=by omega
 have bg:=zh h0;clear hm ao h0 hi a9 ba bb;generalize aK (az p.vars)=S at*;go_enter Tryz.func16,Tryz.ntmps16;go_upto_region 1 with fail;generalize bc:w.alloc _=w1 at*;obtain⟨z,XP⟩:=zB1 bc;clear bc;have aI:=za XP 0 rfl;have aJ:=za XP 1 rfl;have aL:=za XP 2 rfl;have aM:=za XP 3 rfl;have aN:=za XP 4 rfl;go_wp2_with fail;refine(CB w1 z).mono ?_;rintro e w2 ⟨g,ga,rfl,y,hi,f,hg,V⟩;have bd:=zh fun(W2:World) (am:Below w1.heap.size w1 W2)=>CH.out w1 W2 z am g ga hg V;have t:=zh (ag w2 g ga y hi);have aH:=zh (show g<w2.heap.size/\ga<w2.heap.size from⟨y.lt,hi.lt⟩);have s:=zh f;have ar:=zh z;clear aI aJ aL aM aN;replace z:=zb z f;clear f;clear CB CH ag XP y hi;go_wp2_with fail;have bq:=zh z.out.size;have aB:=zh (OG.nil tj w2 w1.heap.size 0 32 (by decide) (yt _));have aO:=yq w2.heap.size;have I:Hid (eS w2 w2.heap.size n1 [] []):=zh ⟨rfl,λj hj=>by simp at hj⟩;have br:Hid (∀k,k<=c->True):=zh λ_ _=>trivial;generalize ad:w2.heap.size=B2 at*;have ax:=zh ad;clear ad aO
 go_loopw [12] (λov wr=>∃(u:List (List Nat)) (P:Int) (us:List Value) (xs:List (List Nat)),Hid (u<:+S)/\Hid (S.filter (eU p l)=xs++u.filter (eU p l))/\us.length<=c/\Hid (OG tj wr w1.heap.size 0 32 ov us)/\Hid (eS wr B2 n1 us xs)/\Hid (FSt wr p A1 A2 A3 A4 A5 c1 c2 c3 c4 c5 m Al cl g ga u P)/\(u.length:Int)<=P/\P<=262144/\Hid (Below w1.heap.size w1 wr)/\B2<=wr.heap.size/\Hid (Below w.heap.size w wr))
  (λov wr=>c-(match ov with | .slice _ n _=>n|_=>0))
 case atStart=>exact⟨S,steps,[],[],zh (List.suffix_refl _),zh rfl,yt _,aB,I,t,bg,h1,s,Nat.le_of_eq ax.out.symm,z⟩
 case round=>
  obtain⟨u,P,us,xs,a4,aV,bw,a3,ae,aW,bk,bl,aP,aQ,f⟩:=hrel;clear z s t aB I;have z:=zh f.out;have s:=zh aP.out;have U:=zh a3.out;have q:=zh ae.out;have t:=zh aW.out;have aF:=zh a4.out;have Q:=zh aV.out;clear f aP a3 ae aW a4 aV;obtain⟨Ao,co,rfl⟩:=U.out.slice
  by_cases bv:us.length<c
  ·have aX:(us.length:Int)<(c:Int):=by omega
   have CK:=zh (bd wr s u aF P bk bl t);have ay:=zh t;generalize a6:us.length=ul at*;go_wp2_with fail;refine CK.out.mono ?_;rintro e w3 ⟨M,hm⟩;clear CK;obtain⟨aa,a7,a8, -, -⟩:=ay.out;have H:=zh (U.out.k2 M a7 a8 rfl (by decide) (by decide));have h:=zh (q.out.k2 M aH.out.1 aH.out.2);have E:=zh (M.toBelow s hg V);have A:=zh (ab ar E);have aR:B2<=w3.heap.size:=yK aQ M.size;have af:=zh (be u);have aE:Hid (u.dropWhile (λa=> !eU p l a)<:+u):=zh (List.dropWhile_suffix _);clear a7 a8 M ay U q s z t;generalize u.dropWhile (λa=> !eU p l a)=D at*
   cases D with
   |nil=>
    obtain⟨rfl,st,⟨a,y, -, -, -⟩, -, -⟩:=hm;have f7:w3.cell? ⟨g,7,none⟩=some (.bool true):=y.at_ 7 _ rfl
    have G:Hid (S.filter (eU p l)=xs):=zh (by
     have e:u.filter (eU p l)=[]:=af.out
     rw[Q.out,e,AT])
    have ak:=zh (h.out.rs H);clear y;go_wp2_with fail;go_ret2;rw[G.out];exact⟨A,_,rfl,ak⟩
   |cons a R'=>
    obtain⟨v,st,rfl,N,aU,bm,bn⟩:=hm
    have G:Hid (S.filter (eU p l)=(xs++[a])++R'.filter (eU p l)):=zh (by
     have e:u.filter (eU p l)=a::R'.filter (eU p l):=af.out
     rw[Q.out,e,yZ];rfl)
    have aG:Hid (R'<:+S):=zh (((List.suffix_cons a R').trans aE).trans aF);obtain⟨Av,cv,ev, -, -⟩:=IL.of_own N;have bp:=own_one N;have J:=zh (h.out.snoc (kI N aQ));have Y:=zh aU
    have a2:(nI a).length=n1:=by
     have:=N.1;rw[Nat.mul_one] at this;rw[<-this];simp[gF]
    rw[a2] at ev;subst ev;clear N aU a2 h af aE;have i:=ac w3 (.cells #[.slice Av n1 cv] 32);have aD:=zh (Rs.one (φ:=tj) (w:=w3) (F:=Ty (w3.alloc (.cells #[.slice Av n1 cv] 32)) 0 tj.ts) (x:= .slice Av n1 cv) (us:=[.slice Av n1 cv]) ⟨rfl,bp⟩ 32);have d:=zh (H.out.below i);have K:=zh (J.out.below i);have Z:=zh (Y.out.map λb cs T _ y=>y.below i);have o:=zh (ab E i);have au:=zh (ab A i);have aS:=yK aR i.size;have al:=zh a6;clear i H J Y E A a6;go_wp2_with(at_builtin;refine aC (φ:=tj) (T:=32) (B:=w1.heap.size) (C:=0) (xs:=us) (ys:=[.slice Av n1 cv]) rfl _ _ 25 rfl i0 (.slice none 0 0) 24 Tryz.underlying25 HI bh bi bj rfl rfl d (.slice (some ⟨w3.heap.size,0,none⟩) 1 1) rfl aD ?c1 ?c2 ?c3 ?_)
    case c1=>simp only[yr,yR];rw[al.out];omega
    case c2=>simp only[yr,yR];rw[al.out];unfold maxLen;omega
    case c3=>exact o.out.size
    intro v' w7 r L;have aj:=zh (K.out.grown d L.out);have aA:=zh (Z.out.map λb cs T hT y=>d.out.boxKept L.out y (.inl (by rcases hT with rfl|rfl<;>decide)));have X:=zh (d.out.belowG L.out o o.out.size (yq _));have av:=zh (ab ar X);have aT:=yK aS L.out.size;obtain⟨A7,c7,rfl⟩:=r.out.slice;have an:(us++[Value.slice Av n1 cv]).length=ul+1:=by rw[yu,al.out];rfl
    have ai:=zh an;rw[an] at r⊢;clear an L d K Z o au aD;go_wp2_with fail;go_roundw
    ·exact⟨R',st,_,xs++[a],aG,G,by rw[ai.out];omega,by rw[<-ai.out] at r⊢;exact r,aj,aA,bm,bn,X,aT,av⟩
    ·simp only[ai.out];omega
  ·have aX:¬(us.length:Int)<(c:Int):=by omega
   have G:Hid (S.filter (eU p l)=xs):=zh (by
    have e1:=q.out.1;have e2:=bf.out;rw[Q.out,yu] at e2;have e3:u.filter (eU p l)=[]:=yV (by omega)
    rw[Q.out,e3,AT])
   have ak:=zh (q.out.rs U);generalize us.length=ul at*;go_wp2_with fail;go_ret2;rw[G.out];exact⟨z,_,rfl,ak⟩
theorem oQ:∀n,(blL n).length=2^n
 |0=>rfl
 |n+1=>by
  have:=oQ n;unfold blL;simp[this,BR]
  try omega
theorem qU (ws:List Wd):(aK ws).length=2^aD ws:=by rw[<-qK,yD,oQ]
theorem lE:∀{l:List Vr},(∀v∈l,eW v)->((aD (az l):Nat):Int)=aU l:=by
 have a:∀(l:List Vr) (n:Int),l.foldl (λn v=>n+gX v) n=n+aU l:=by
  intro l;unfold aU
  induction l with
  |nil=>intro n;simp
  |cons v r ih=>intro n;rw[AM,AM,ih (n+gX v),ih (0+gX v)];omega
 intro l
 induction l with
 |nil=>intro _;rfl
 |cons v r ih=>
  intro h;have c:=ih λx d=>h x (yT _ d);have f:=(h v (by simp)).2.1.1;have e:aU (v::r)=(0+gX v)+aU r:=a r (0+gX v);have b:aD (az (v::r))=(if(wdT v).fixed=none then(wdT v).w else 0)+aD (az r):=rfl;rw[e,b,<-c];unfold gX wdT
  by_cases hm:v.mode=0
  ·simp[hm]
  ·simp only[hm,Cc,if_true,ne_eq,not_false_eq_true];omega
theorem wrap_two {n:Nat} (h:n<=20):IntKind.i64.wrap (2^n)=2^n:=by
 have:n=0\/n=1\/n=2\/n=3\/n=4\/n=5\/n=6\/n=7\/n=8\/n=9\/n=10\/n=11\/n=12\/n=13\/n=14\/n=15\/n=16\/n=17\/n=18\/n=19\/n=20:=by omega
 rcases this with rfl|rfl|rfl|rfl|rfl|rfl|rfl|rfl|rfl|rfl|rfl|rfl|rfl|rfl|rfl|rfl|rfl|rfl|rfl|rfl|rfl<;>decide
section
variable {w:World} {p:Pb} {A1 A2 A3 A4 A5:Option Addr} {c1 c2 c3 c4 c5:Nat}
theorem oY (hp:PIn w p A1 A2 A3 A4 A5 c1 c2 c3 c4 c5) (o:PSm p) (hk:KW w) (hm:cM w) (k:PV p):
  Calls Tryz.prog 117 #[pbV p A1 A2 A3 A4 A5 c1 c2 c3 c4 c5] w λe w'=>e= .returned (.int .i64 ((aK (az p.vars)).length:Nat))/\Below w.heap.size w w':=by
 have b:=zh fun(W:World) (a:Below w.heap.size w W)=>ue (hp.below a) o (evC (hp.below a) o (hk.below a) (hm.below a) k) k.vars;have j:=lE k.vars.ok;rw[<-j] at b;have n:aD (az p.vars)<=20:=by have:=k.vars.bits;omega
 have e:(((aK (az p.vars)).length:Nat):Int)=2^aD (az p.vars):=by rw[qU];simp
 rw[e];have s:=wrap_two n;generalize aD (az p.vars)=q at*;have r:(0:Int)<=(q:Int):=by omega
 unfold pbV at b⊢;generalize p.vars.length=n1 at*;generalize p.hard.length=n2 at*;generalize p.soft.length=n3 at*;generalize p.dists.length=n4 at*;generalize p.groups.length=n5 at*;clear hp o hk hm k j e;go_enter Tryz.func117,Tryz.ntmps117;go_upto_region 1 with fail;generalize l:w.alloc _=w1 at*;obtain⟨m,c⟩:=zB1 l;clear l;have d:=za c 0 rfl;have f:=za c 1 rfl;have g:=za c 2 rfl;have h:=za c 3 rfl;have i:=za c 4 rfl;go_wp2_with fail;refine(b w1 m).mono ?_;rintro e w2 ⟨rfl,a⟩;clear d f g h i;replace c:=zb c a;replace m:=zb m a;clear a;go_wp2_with fail;go_ret;refine⟨?_,m⟩
 first|rfl|(simp;done)|skip
end
def xG (j:Nat) (D:List Nat) (er:Int):FOp:=⟨j,D,λu=>∃v,u= .tuple #[v,.int .i64 er],λu w=>∃v,u= .tuple #[v,.int .i64 er]⟩
theorem gTup_st (j:Nat) (D:List Nat) (er:Int):∀u w w',(xG j D er).Φ u w->Below w.heap.size w w'->(xG j D er).Φ u w':=λu w w' h _=>h
theorem gTup_kn (j:Nat) (D:List Nat) (er:Int):(∀u w,(xG j D er).Φ u w->(xG j D er).S u)/\∃u,(xG j D er).S u:=⟨λu w h=>h,.tuple #[undef,.int .i64 er],undef,rfl⟩
theorem sB {P:Program} {K:Kit} {w0:World} {γ:Nat->Value} {j:Nat} {o:Oper} {a:Act} {v:Value} (b:o.guard=none) (c:∀w,(execOp a.eval o).run P w= .ok (.value v) w) (h:∀w,K.Φ j v w):jh P K w0 γ j o a:=by
 refine⟨b,λw d e=> ?_⟩;rw[c];exact⟨h w,yx _ _⟩
def cF (p:Pb) (l:List Ex):Bool:= !(de (aw p.vars) (az p.vars) l).isEmpty
section
variable {w:World} {p:Pb} {A1 A2 A3 A4 A5:Option Addr} {c1 c2 c3 c4 c5:Nat}
theorem tu (hp:PIn w p A1 A2 A3 A4 A5 c1 c2 c3 c4 c5) (y:PSm p) (hk:KW w) (hm:cM w) (A:PV p) (j:aD (az p.vars)<=18) (l:List Ex) (Al:Option Addr) (cl:Nat) (F:Rs (exR KE) w (.slice Al l.length cl) l ah) (Q:l.length<=1000) (k:∀e∈l,jK (aw p.vars) e):
  Calls Tryz.prog 68 #[pbV p A1 A2 A3 A4 A5 c1 c2 c3 c4 c5,.slice Al l.length cl] w λe w'=>e= .returned (.bool (cF p l))/\Below w.heap.size w w':=by
 have M:(aK (az p.vars)).length<=262144:=by
  rw[qU];exact yK (AC (by decide) j) (by decide)
 have t:=zh fun(W:World) (b:Below w.heap.size w W)=>oY (hp.below b) y (hk.below b) (hm.below b) A
 have q:=zh fun(W:World) (b:Below w.heap.size w W)=>(uK (hp.below b) y (hk.below b) (hm.below b) A l Al cl (F.below b) Q k ((aK (az p.vars)).length:Nat) (Int.le_refl _) (by omega)).mono fun{e w'} (h:FirR W (de (aw p.vars) (az p.vars) l) e w')=>(show(∃v,e= .returned (.tuple #[v,.int .i64 (if cF p l then 0 else 11)]))/\Below W.heap.size W w' from by
   obtain⟨H,s⟩:=h;refine⟨?_,H⟩;unfold cF
   cases hS:de (aw p.vars) (az p.vars) l with
   |nil=>rw[hS] at s;exact⟨_,s⟩
   |cons a r=>rw[hS] at s;obtain⟨v,I, -⟩:=s;exact⟨v,I⟩)
 generalize(aK (az p.vars)).length=N at*;generalize cF p l=G at*;unfold pbV at t q⊢;generalize p.vars.length=n1 at*;generalize p.hard.length=n2 at*;generalize p.soft.length=n3 at*;generalize p.dists.length=n4 at*;generalize p.groups.length=n5 at*;generalize l.length=m at*;have X:¬(262144:Int)<(N:Int):=by omega
 have L:(N:Int)<=262144:=by omega
 clear hp y hk hm A F k j;go_enter Tryz.func68,Tryz.ntmps68;go_upto_region 1 with fail;generalize o:w.alloc _=w1 at*;obtain⟨g,d⟩:=zB1 o;clear o;obtain⟨er,f⟩:=zv (if G then 0 else 11:Int);have i:=zh f;rw[<-f] at q;clear f;refine fT 8 9 9 (Kit.of [iq 3 [] (.int .i64 (N:Nat)),iq 4 [3] (.int .i64 (N:Nat)),xG 5 [4] er]) (by kernel_rfl) (by kernel_rfl) (by decide) (by kernel_rfl) (λγ=>by kernel_rfl) (by kernel_rfl) (Kit.of_stable ?_) (Kit.of_known ?_) ?_
 ·intro z n;simp only[yC,yI,AH] at n;rcases n with rfl|rfl|rfl
  ·apply cO
  ·apply cO
  ·apply gTup_st
 ·intro z n;simp only[yC,yI,AH] at n;rcases n with rfl|rfl|rfl
  ·apply cP
  ·apply cP
  ·apply gTup_kn
 intro γ c C J x;have B:γ 3= .int .i64 (N:Nat):=c 3 rfl;have D:γ 4= .int .i64 (N:Nat):=c 4 rfl;obtain⟨Y,E⟩:∃v,γ 5= .tuple #[v,.int .i64 er]:=c 5 rfl;have R:=d.out.latC (C:=C) 0 _ rfl;have S:=d.out.latC (C:=C) 1 _ rfl;have T:=d.out.latC (C:=C) 2 _ rfl;have U:=d.out.latC (C:=C) 3 _ rfl;have V:=d.out.latC (C:=C) 4 _ rfl
 iterate 3 (refine aE rfl ?_;go_big_quiet_step (fail);refine yN ?_)
 refine bG rfl (bc (args:=#[.agg #[.slice A1 n1 c1,.slice A2 n2 c2,.slice A3 n3 c3,.slice A4 n4 c4,.slice A5 n5 c5]]) rfl _ _ _ (cB Tryz.func117 (by kernel_rfl) (by kernel_rfl)) rfl (by simp[Act.eval]) (λw' b P=>(t w' (ab g b)).mono λe w2 ⟨he,hb2⟩=>⟨_,he,rfl,hb2⟩)) ?_;simp only[yH,Nat.reduceAdd,B];go_simp;refine bG rfl (sB (v:= .int .i64 (N:Nat)) rfl (λw=> ?hmin) (λw=>rfl)) ?_
 case hmin=>
  simp only[execOp];go_simp;omega
 simp only[yH,Nat.reduceAdd,D];go_simp;refine bG rfl (bc (args:=#[.agg #[.slice A1 n1 c1,.slice A2 n2 c2,.slice A3 n3 c3,.slice A4 n4 c4,.slice A5 n5 c5],.slice Al m cl,.int .i64 (N:Nat)]) rfl _ _ _ (cB Tryz.func31 (by kernel_rfl) (by kernel_rfl)) rfl (by simp[Act.eval]) (λw' b P=>(q w' (ab g b)).mono λe w2 ⟨⟨v,he⟩,hb2⟩=>⟨_,he,⟨v,rfl⟩,hb2⟩)) ?_;simp only[yH,Nat.reduceAdd,E];go_simp
 iterate 3 (refine aE rfl ?_;go_big_quiet_step (fail);refine yN ?_)
 intro Z b K;clear K c J R S T U V B D E x t q;replace d:=zb d b;replace g:=zb g b;clear b;go_wp2_with fail;refine⟨rfl, ?_⟩;cases G
 ·have u:Hid (er=11):=zh (by rw[i.out];rfl);rw[u.out];go_wp2_with fail;go_ret;exact⟨rfl,g⟩
 ·have u:Hid (er=0):=zh (by rw[i.out];rfl);rw[u.out];go_wp2_with fail;go_ret;exact⟨rfl,g⟩
end
theorem o6 {P:Program} (w:World) (dT sT ty c:TypeId) (g o b e:Nat) (a:Addr) (d l k:Nat) (cur:Array Value) (t:TypeId) (cs:List Value)
  (u:P.underlying dT=some (.slice c)) (n:(P.info? c).map (·.size)=some k)
  (q:w.heap[g]? =some (.cells cur t (0,0))) (s:cs.length=Nat.min d b*k)
  (h:∀j v,cs[j]? =some v->w.cell? (a.add j)=some v) (f:o+cs.length<=cur.size) (p:∀v∈cs,v.oneCell'=true):
  (Builtin.copy_ #[dT,sT] ty #[.slice (some ⟨g,o,none⟩) b e,.slice (some a) d l]).run P w=
   .ok (goInt (Nat.min d b)) (w.setRow g (cur.toList.take o++cs++cur.toList.drop (o+cs.length)).toArray):=by
 have r:=run_loadCells_list (P:=P) w a cs h;have m:=run_storeCells_at P g o t cs 0 cur w q (by simpa using f) p
 cases hq:P.info? c with
 |none=>simp[hq] at n
 |some i=>
  have hi:i.size=k:=by simpa [hq] using n
  simp[Builtin.copy_,run_underlying u,Builtin.lenOf,Builtin.firstCells,sizeOf,typeInfo,hq,hi,<-s,r,m]
theorem ju {P:Program} (w:World) (dT sT ty b:TypeId) (d a:Option Addr) (c f e g k:Nat) (m:P.underlying dT=some (.slice b)) (l:(P.info? b).map (·.size)=some k) (j:Nat.min e c=0):
  (Builtin.copy_ #[dT,sT] ty #[.slice d c f,.slice a e g]).run P w= .ok (goInt 0) w:=by
 cases hq:P.info? b with
 |none=>simp[hq] at l
 |some i=>
  have h:∀(x:Addr),(loadCells x 0).run P w= .ok #[] w:=λx=>by simpa using run_loadCells_list (P:=P) w x [] (by simp)
  cases d<;>cases a<;>simp[Builtin.copy_,run_underlying m,Builtin.lenOf,Builtin.firstCells,sizeOf,typeInfo,hq,j,storeCells,h]
section
variable {P:Program} {ops:Array Oper} {rest:List Oper} {o:Oper} {a:Act} {w:World} {Q:Exit->Act->World->Prop}
theorem jj (b:o.guard=none) (d s:Operand) (t c:TypeId) (g:o.op= .call {callee:= .builtin .copy,args:=#[d,s],argTypes:=#[t,c]}) (v u:Value) (f:a.eval d=v) (j:a.eval s=u) {v':Value} {w':World}
  (i:(Builtin.copy_ #[t,c] o.type #[v,u]).run P w= .ok v' w') (h:wpList P ops Q rest (a.put o.dst v') w'):wpList P ops Q (o::rest) a w:=by
 refine wpList_plain b λK e=> ?_;unfold Oper.wp;simp[execOp,g,resolve,invoke,builtin,f,j,i,Result.andThen];exact e _ _ h
end
def exZV:Value:= .agg #[.int .i64 0,.int .i64 0,.string ⟨#[]⟩,.slice none 0 0]
theorem fY (n:Nat) (f:n<=100000) (W:World):(Instr.makeSlice 23 (.int .i64 (n:Int)) (.int .i64 (n:Int))).run Tryz.prog W= .ok (.slice (some ⟨W.heap.size,0,none⟩) n n) (W.alloc (.cells (madeCells exZV.cells (n*4)) 79)):=by
 obtain⟨i,e,b,c,d⟩:=Bb om;have a:=run_make (P:=Tryz.prog) W 23 79 i exZV Tryz.underlying23 e b .i64 .i64 n n (by omega) (by omega) (by rw[d];omega) (by omega);rw[c] at a;simp only[y5] at a;exact a
theorem pu (v:Value) (k:Nat):(madeCells v.cells k).size=k:=by simp[madeCells]
section
variable {w:World} {p:Pb} {A1 A2 A3 A4 A5:Option Addr} {c1 c2 c3 c4 c5:Nat}
theorem wP (t:EvC w (pbV p A1 A2 A3 A4 A5 c1 c2 c3 c4 c5)) (u:p.dists=[]):
  Calls Tryz.prog 69 #[pbV p A1 A2 A3 A4 A5 c1 c2 c3 c4 c5] w λe w'=>∃g,e= .returned (.slice (some ⟨g,0,none⟩) 0 0)/\Below w.heap.size w w':=by
 have h:=zh t;unfold EvC at h;unfold pbV at h⊢;rw[u] at h⊢;simp only[yR] at h⊢;obtain⟨s,n⟩:=zv (madeCells exZV.cells (0*4));have q:=fY 0 (by omega);rw[<-n] at q;clear n;generalize p.vars.length=n1 at*;generalize p.hard.length=n2 at*;generalize p.soft.length=n3 at*;generalize p.groups.length=n5 at*;clear t u;go_enter Tryz.func69,Tryz.ntmps69;go_upto_region 1 with fail;generalize o:w.alloc _=w1 at*;obtain⟨c,b⟩:=zB1 o;clear o;have j:=za b 0 rfl;have k:=za b 1 rfl;have l:=za b 2 rfl;have a:=za b 3 rfl;have m:=za b 4 rfl;go_wp2_with fail;refine(h w1 c).mono ?_;rintro e w2 ⟨rfl,f⟩;clear j k l a m;replace b:=zb b f;replace c:=zb c f;clear f;have r:(Instr.makeSlice 23 (.int .i64 0) (.int .i64 0)).run Tryz.prog w2= .ok (.slice (some ⟨w2.heap.size,0,none⟩) 0 0) (w2.alloc (.cells s 79)):=q w2;clear q;have a:=za b 3 rfl;go_upto_region 4 with fail;clear a;have d:=ac w2 (.cells (s) 79);replace b:=zb b d;replace c:=zb c d;clear d r;generalize w2.alloc (.cells (s) 79)=w3 at*;generalize w2.heap.size=gs at*;have a:=za b 3 rfl;go_wp2_with fail;clear a
 go_loopw [3,16] (λv i wr=>v= .slice (some ⟨gs,0,none⟩) 0 0/\i= .int .i64 0/\Below w.heap.size w wr) (λ_ i _=>0)
 case atStart=>exact⟨rfl,rfl,c⟩
 case round=>
  obtain⟨rfl,rfl,f⟩:=hrel;clear c b;have c:=zh f;clear f;go_wp2_with fail;go_ret;exact⟨gs,rfl,c⟩
end
theorem vX {P:Program} {w:World} {g d:Nat} {m:Array Value} {v:Value} {l:List Ex} {F:Nat->Prop} {dT sT ty:TypeId} (q:P.underlying dT=some (.slice 79)) (K:(P.info? 79).map (·.size)=some 4) (G:Box w g m 79) (L:m.size=l.length*4) (J:Rs (exR d) w v l F):
  ∃w',(Builtin.copy_ #[dT,sT] ty #[.slice (some ⟨g,0,none⟩) l.length l.length,v]).run P w= .ok (goInt l.length) w'/\w.grownBy w' (some g)/\∃uss:List (List Value),uss.length=l.length/\uss.flatten.length=l.length*4/\Box w' g uss.flatten.toArray 79/\∀j x,l[j]? =some x->(exR d).R w (uss.getD j []) x F:=by
 obtain⟨uss,n,h,E⟩:=J.rows;have hk:=ei d
 have i:∀us∈uss,us.length=4:=λus q=>by
  obtain⟨j,p,rfl⟩:=yS.1 q;have:=(exR d).len (h j _ (yp (by omega)));rw[yj,yp p,hk] at this;exact this
 have a:uss.flatten.length=l.length*4:=by rw[iN i,n]
 by_cases I:l.length=0
 ·obtain⟨A,c,rfl, -⟩:=J.slice;have D:uss=[]:=yV (by omega)
  have H:m=uss.flatten.toArray:=by
   rw[D];exact Array.eq_empty_of_size_eq_zero (by rw[L,I])
  refine⟨w, ?_,⟨rfl,rfl,rfl,yq _,λ_ _ _=>rfl⟩,uss,n,a,by rw[<-H];exact G,h⟩;rw[I];exact ju w dT sT ty _ _ _ _ _ _ _ 4 q K (by simp)
 ·obtain⟨b,o,c,rfl,Q,z⟩:=E (by omega)
  have t:∀u∈uss.flatten,u.oneCell'=true:=λu q=>by
   obtain⟨us,r,y⟩:=List.mem_flatten.1 q;obtain⟨j,p,rfl⟩:=yS.1 r;have:=(exR d).one (h j _ (yp (by omega)));rw[yj,yp p] at this;exact this u y
  have f:=o6 (P:=P) w dT sT ty 79 g 0 l.length l.length ⟨b,o,none⟩ l.length c 4 m 79 uss.flatten q K G (by rw[a];simp) (λj u p=>by
   have N:j<l.length*4:=by rw[<-a];exact(yJ.1 p).1
   have r:=z (j/4) (j%4) (by omega) (by rw[hk];omega);have y:=eb i (j/4) (j%4) (by omega);have e:j/4*4+j%4=j:=by omega
   rw[e,p,yp (show j/4<uss.length by omega)] at y;rw[hk,yj,yp (show j/4<uss.length by omega)] at r;rw[dq];have M:o+j/4*4+j%4=o+j:=by omega
   rw[M] at r
   rw[r,y];rfl) (by rw[a];omega) t
  have s:Nat.min l.length l.length=l.length:=Nat.min_self _;rw[s] at f
  have B:(m.toList.take 0++uss.flatten++m.toList.drop (0+uss.flatten.length)).toArray=uss.flatten.toArray:=by
   rw[y9,List.nil_append,List.drop_of_length_le (by rw[Array.length_toList,L,a];omega),AT]
  rw[B] at f;exact⟨_,f,⟨rfl,rfl,rfl,by simp[World.setRow],λk _ C=>setRow_other w g k _ (λe=>C (by rw[e]))⟩,uss,n,a,setRow_heap w g m _ _ _ G,h⟩
def NdR (w:World) (p:Pb) (e:Ending) (w':World):Prop:=∃v,e= .returned v/\OG (exB KE) w' w.heap.size w.heap.size 79 v p.hard/\Below w.heap.size w w'
section
variable {w:World} {p:Pb} {A1 A2 A3 A4 A5:Option Addr} {c1 c2 c3 c4 c5:Nat}
theorem rt (hp:PIn w p A1 A2 A3 A4 A5 c1 c2 c3 c4 c5) (hs:PSm p) (hE:EvC w (pbV p A1 A2 A3 A4 A5 c1 c2 c3 c4 c5)) (hd:p.dists=[]):
  Calls Tryz.prog 34 #[pbV p A1 A2 A3 A4 A5 c1 c2 c3 c4 c5] w (NdR w p):=by
 have V:=zh fun(W:World) (m:Below w.heap.size w W)=>wP (w:=W) (λW2 h2=>hE W2 (ab m h2)) hd;have HH:=zh hp.h;obtain⟨i0,M,_,N,_⟩:=Bb om;have q:(Tryz.prog.info? 79).map (·.size)=some 4:=by rw[M];simp[N]
 have u:=zh fun(W:World) (g:Nat) (J:Array Value) (ty:TypeId) (hx:Box W g J 79) (hz:J.size=p.hard.length*4) (m:Below w.heap.size w W)=>vX (P:=Tryz.prog) (dT:=23) (sT:=23) (ty:=ty) Tryz.underlying23 q hx hz (jv (ld hp.h m));have B:=zh fun(W:World) (ty:TypeId) (d a:Option Addr) (o n U:Nat)=>ju (P:=Tryz.prog) W 23 23 ty 79 d a o n 0 U 4 Tryz.underlying23 q (by simp);have ae:=hs.nh;obtain⟨J,v⟩:=zv (madeCells exZV.cells (p.hard.length*4));have E:Hid (J.size=p.hard.length*4):=zh (by rw[v,pu]);have X:=fY p.hard.length (by omega);rw[<-v] at X;unfold NdR;unfold pbV at V⊢;obtain⟨A,z⟩:=zv (p.hard.length);rw[<-z] at V HH u X E ae⊢;generalize p.vars.length=n1 at*;generalize p.soft.length=n3 at*;generalize p.dists.length=n4 at*;generalize p.groups.length=n5 at*;obtain⟨D,C⟩:=zk2 z X;clear hE hd hp hs v M N z X q;go_enter Tryz.func34,Tryz.ntmps34;go_upto_region 1 with fail;generalize r:w.alloc _=w1 at*;obtain⟨l,f⟩:=zB1 r;clear r;have F:=za f 0 rfl;have c:=za f 1 rfl;have G:=za f 2 rfl;have H:=za f 3 rfl;have I:=za f 4 rfl;go_wp2_with fail;refine(V w1 l).mono ?_;rintro e w2 ⟨gs,rfl,m⟩;clear F c G H I;replace f:=zb f m;replace l:=zb l m;clear m;have aa:=C.out w2;clear C V;have c:=za f 1 rfl;go_upto_region 3 with fail;clear c;have L:=l.out.size;have ag:=f.out.lt;generalize r:w2.alloc _=w3 at*;obtain⟨y,XG⟩:=zA1 r;clear r;replace f:=zb f y;replace l:=zb l y;clear y aa;generalize w2.heap.size=g at*;obtain⟨w4,t,K,uss,Q,i,T,S⟩:=u.out w3 g J 3 XG E l;obtain⟨s,Z⟩:=zk2 K T;have Y:=zh (And.intro Q (And.intro i S));have af:=zh l;clear K T Q i S u;have c:=za f 1 rfl;go_upto_region 4 with(at_builtin;refine jj rfl _ _ 23 23 rfl _ _ rfl rfl t ?_);clear c;clear t;replace f:=zh (bK f s (by omega));replace l:=zh (bf l l.out.size L s);have HC:=zh λd o n=>B.out w4 3 d (some ⟨gs,0,none⟩) o n 0;clear B XG;have c:=za f 1 rfl;have ah:(0:Int)<=(A:Int):=by omega
 have ac:=HC.out (some ⟨g,0,none⟩) 0 0;go_wp2_with fail;clear ac;go_ret;refine⟨_,rfl,⟨⟨by simp[exB],yq _⟩,uss,by rw[Y.out.1,D.out], ?_,λj x hj=> ?_⟩,l⟩
 ·rw[<-D.out];have e:(exB KE).k=4:=mz KE;rw[e];show w4.ownsRow w.heap.size 79 4 (.slice (some ⟨g,0,none⟩) A A) A uss.flatten;have i:=Y.out.2.1;exact⟨i,.inr ⟨g,A,uss.flatten.toArray,rfl,L,Z,yq _,by unfold maxLen;omega,by rw[AI,i],by show uss.flatten.take (A*4)=uss.flatten;rw[<-i,Ay]⟩⟩
 ·have h1:(exB KE).R w3 (uss.getD j []) x (Ty w3 w.heap.size (exB KE).ts):=Y.out.2.2 j x hj
  exact i8 (φ:=exB KE) h1 s.out.size λb ad m=>s.out.block b ad (λe=>by
   have e2:b=g:=Az e;rcases m with m|⟨_,_,_,_,m⟩
   ·omega
   ·exact absurd m (by simp[exB]))
end
theorem rB {w:World} {d:Nat} {v:Value} {l:List Ex} {F:Nat->Prop} (y:Rs (exR d) w v l F):∃uss:List (List Value),uss.length=l.length/\(∀us∈uss,us.length=4)/\uss.flatten.length=l.length*4/\(∀j x,l[j]? =some x->(exR d).R w (uss.getD j []) x F)/\(∀u∈uss.flatten,u.oneCell'=true)∧
  (0<l.length->∃b o c,v= .slice (some ⟨b,o,none⟩) l.length c/\b<w.heap.size/\∀j u,uss.flatten[j]? =some u->w.cell? ⟨b,o+j,none⟩=some u):=by
 obtain⟨uss,k,f,q⟩:=y.rows;have hk:=ei d
 have a:∀us∈uss,us.length=4:=λus p=>by
  obtain⟨j,g,rfl⟩:=yS.1 p;have:=(exR d).len (f j _ (yp (by omega)));rw[yj,yp g,hk] at this;exact this
 have i:uss.flatten.length=l.length*4:=by rw[iN a,k]
 refine⟨uss,k,a,i,f,λu p=> ?_,λhp=> ?_⟩
 ·obtain⟨us,h,m⟩:=List.mem_flatten.1 p;obtain⟨j,g,rfl⟩:=yS.1 h;have:=(exR d).one (f j _ (yp (by omega)));rw[yj,yp g] at this;exact this u m
 ·obtain⟨b,o,c,rfl,s,n⟩:=q hp;refine⟨b,o,c,rfl,s,λj u g=> ?_⟩;have t:j<l.length*4:=by rw[<-i];exact(yJ.1 g).1
  have h:=n (j/4) (j%4) (by omega) (by rw[hk];omega);have m:=eb a (j/4) (j%4) (by omega);have e:j/4*4+j%4=j:=by omega
  rw[e,g,yp (show j/4<uss.length by omega)] at m;rw[hk,yj,yp (show j/4<uss.length by omega)] at h;have r:o+j/4*4+j%4=o+j:=by omega
  rw[r] at h;rw[h,m];rfl
theorem wI (c:Array Value) (k:Nat):(Builtin.zeroCells c k).size=k*c.size:=by simp[Builtin.zeroCells]
theorem s8 {W:World} {d C:Nat} {A:Option Addr} {c:Nat} {sv:Value} {l:List Ex} {a:Ex} (ty:TypeId) (hC:C<=W.heap.size) (hr:Rs (exB d) W (.slice A l.length c) l (Ty W C [])) (hs:Rs (exB d) W sv [a] (Ty W C [])) (hl:l.length<=100000):
  ∃v W',(Builtin.append_ #[23,23] ty #[.slice A l.length l.length,sv]).run Tryz.prog W= .ok v W'/\OG (exB d) W' W.heap.size C 79 v (l++[a])/\Below W.heap.size W W':=by
 obtain⟨D,S,V,X,Y⟩:=Bb om;obtain⟨f,n,aa,m,G,ae,F⟩:=rB (jv hr);obtain⟨us2,H,af,p,J,I,i⟩:=rB (jv hs);obtain⟨b2,o2,c2,rfl,ag,i⟩:=i (by simp);have hk:=ei d;have B:D.size=4:=X;have L:D.bytes=56:=Y
 have z:Src Tryz.prog D.size 23 (.slice (some ⟨b2,o2,none⟩) 1 c2) 1 us2.flatten W:=by
  rw[B];exact Src.ofSlice W Tryz.underlying23 _ _ c2 _ (by rw[p];rfl) (λj u g=>by rw[dq];exact i j u g) I
 have w:(Builtin.firstCells D.size l.length (.slice A l.length l.length)).run Tryz.prog W.drew= .ok f.flatten.toArray W.drew:=by
  rw[B]
  by_cases h0:l.length=0
  ·have U:f=[]:=yV (by omega);rw[h0,U]
   cases A with
   |none=>exact run_firstCells_none W.drew 4 0 0 0
   |some ad=>exact run_firstCells_some W.drew 4 0 ad 0 0 [] rfl λj v g=>by simp at g
  ·obtain⟨b,o,c',e1,hb,M⟩:=F (by omega);simp only[yA,true_and] at e1;rw[e1.1];refine run_firstCells_some W.drew 4 l.length ⟨b,o,none⟩ _ _ _ m λj v g=> ?_;rw[dq,World.cell?_drew];exact M j v g
 have y:=run_append_grow_src W 23 23 ty 79 D _ Tryz.underlying23 S V A l.length l.length f.flatten w _ 1 us2.flatten z (by omega) (by omega) (by
  rw[L];have:=nextslicecap_le (need:=l.length+1) (old:=l.length) (by omega)
  omega)
 refine⟨_,_,y, ?_, ?_⟩
 ·have K:(Builtin.zeroCells (Value.agg #[.int .i64 0,.int .i64 0,.string ⟨#[]⟩,.slice none 0 0]).cells (grownCap W (l.length+1) l.length 79-(l.length+1))).size=(grownCap W (l.length+1) l.length 79-(l.length+1))*4:=wI _ _;generalize hZ:Builtin.zeroCells _ _=Z at*;have N:grownCap W (l.length+1) l.length 79<=maxLen:=grownCap_le_maxLen W _ _ _ (by unfold maxLen;omega);generalize t:grownCap W (l.length+1) l.length 79=cap at*;have Q:l.length+1<=cap:=t▸grownCap_ge W _ _ _;have r:Below W.heap.size W (W.drew.alloc (.cells ((f.flatten++us2.flatten).toArray++Z) 79)):=ab (w1:=W.drew) ⟨rfl,rfl,rfl,yq _,λ_ _=>rfl⟩ (ac W.drew _);have s:Box (W.drew.alloc (.cells ((f.flatten++us2.flatten).toArray++Z) 79)) W.heap.size ((f.flatten++us2.flatten).toArray++Z) 79:=Box.new W.drew _ _;have P:us2.flatten.length=4:=p;have q:us2.length=1:=H;have k:(f.flatten++us2.flatten).length=(l.length+1)*4:=by rw[yu,m,P];omega
  refine⟨⟨by simp[exB],hC⟩,f++us2,by rw[yu,n,q,yu];rfl, ?_,λj x g=> ?_⟩
  ·rw[mz,List.flatten_append,yu];refine⟨by rw[k];rfl,.inr ⟨W.heap.size,cap,_,rfl,yq _,s,Q,N, ?_, ?_⟩⟩
   ·rw[Array.size_append,AI,k,K];omega
   ·rw[Array.toList_append,List.take_append_of_le_length (by show(l.length+1)*4<=(f.flatten++us2.flatten).length;omega)];show(f.flatten++us2.flatten).take ((l.length+1)*4)=_;rw[<-k,Ay]
  ·have E:∀us,(exB d).R W us x (Ty W C (exB d).ts)->(exB d).R (W.drew.alloc (.cells ((f.flatten++us2.flatten).toArray++Z) 79)) us x (Ty _ C (exB d).ts):=λus h=>i8 (φ:=exB d) h r.size λb T _=>r.block b T
   by_cases e:j<l.length
   ·rw[yP e] at g;rw[yj,yP (by omega),<-yj];exact E _ (G j x g)
   ·rw[yG (by omega)] at g;rw[yj,yG (by omega),<-yj,n];exact E _ (J _ x g)
 ·exact ab (w1:=W.drew) ⟨rfl,rfl,rfl,yq _,λ_ _=>rfl⟩ (ac W.drew _)
def kpT (p:Pb):Nat->List Ex×List Nat
 |0=>(p.hard,[])
 |k+1=>
  let s:=kpT p k
  let i:=p.soft.length-(k+1)
  if cF p (s.1++[p.soft.getD i ex0]) then(s.1++[p.soft.getD i ex0],s.2++[i]) else s
theorem tR (p:Pb):∀k,k<=p.soft.length->(∀e∈(kpT p k).1,e∈p.hard++p.soft)/\(kpT p k).1.length<=p.hard.length+k/\(∀i∈(kpT p k).2,i<p.soft.length)/\(kpT p k).2.length<=k
 |0,_=>⟨λe b=>AZ _ b,yq _,(λi hi=>(by simp[kpT] at hi)),yq _⟩
 |k+1,hk=>by
  obtain⟨c,f,d,g⟩:=tR p k (by omega);have hi:p.soft.length-(k+1)<p.soft.length:=by omega
  unfold kpT;simp only
  split
  ·refine⟨λe b=> ?_,by simp;omega,λi a=> ?_,by simp;omega⟩
   ·rcases AQ.1 b with b|b
    ·exact c e b
    ·simp only[yC,yI,AH] at b;rw[b];exact Bn _ (getD_in ex0 hi)
   ·rcases AQ.1 a with a|a
    ·exact d i a
    ·simp only[yC,yI,AH] at a;omega
  ·exact⟨c,by omega,d,by omega⟩
def rvP (L:List Nat) (k:Nat):List Int:=List.replicate (L.length-k) 0++nI (L.take k).reverse
theorem rv_set {L:List Nat} {k:Nat} (h:k<L.length):(rvP L k).set (L.length-1-k) (L.getD k 0:Nat)=rvP L (k+1):=by
 unfold rvP;have e:L.length-k=(L.length-(k+1))+1:=by omega
 rw[e,List.replicate_succ',yZ,fj (d:=0) h,List.reverse_append];have a:(List.replicate (L.length-(k+1)) (0:Int)).length=L.length-1-k:=by rw[Ax];omega
 rw[BO _ _ (by omega),a,AG]
 rfl
theorem rv_len {L:List Nat} {k:Nat} (h:k<=L.length):(rvP L k).length=L.length:=by
 unfold rvP;rw[yu,Ax,aF,List.length_reverse,yM];omega
theorem nZ {W:World} {B b:Nat} (h:Ty W B [] b):b<B:=by
 rcases h with h|⟨_,_,_,_,h⟩
 ·exact h
 ·cases h
def KpR (w:World) (p:Pb) (e:Ending) (w':World):Prop:=Below w.heap.size w w'/\((cF p p.hard=false/\e= .returned (.tuple #[.slice none 0 0,.int .i64 11]))\/(cF p p.hard=true/\∃v,e= .returned (.tuple #[v,.int .i64 0])/\IL w' v (nI (kpT p p.soft.length).2.reverse)))
def SKp (g:Nat) (a us:Array Value) (b o:Nat) (W:World):Prop:=Box W g a 27/\(W.cell? ⟨b,o,none⟩=us[0]? ∧W.cell? ⟨b,o+1,none⟩=us[1]? ∧W.cell? ⟨b,o+2,none⟩=us[2]? ∧W.cell? ⟨b,o+3,none⟩=us[3]?)
theorem SKp.below {g:Nat} {d us:Array Value} {b o:Nat} {W W':World} (h:SKp g d us b o W) (c:b<W.heap.size) (a:Below W.heap.size W W'):SKp g d us b o W':=
 ⟨h.1.below a,(a.cell c).trans h.2.1,(a.cell c).trans h.2.2.1,(a.cell c).trans h.2.2.2.1,(a.cell c).trans h.2.2.2.2⟩
theorem sfKept {w:World} {p:Pb} {A1 A2 A3 A4 A5:Option Addr} {c1 c2 c3 c4 c5:Nat} (hp:PIn w p A1 A2 A3 A4 A5 c1 c2 c3 c4 c5) (hs:PSm p) (hk:KW w) (hm:cM w) (hv:PV p) (hd:p.dists=[]) (bl:aD (az p.vars)<=18) (hn:p.hard.length+p.soft.length<=1000):
  Calls Tryz.prog 33 #[pbV p A1 A2 A3 A4 A5 c1 c2 c3 c4 c5] w (KpR w p):=by
 have bh:Hid (∀e∈p.hard++p.soft,jK (aw p.vars) e):=zh λe V=>⟨(hs.ex e V).z,(hs.ex e V).deep,hv.exprs e V,(hs.ex e V).len⟩;have CE:=zh (evC hp hs hk hm hv);have CN:=zh fun(W:World) (f:Below w.heap.size w W)=>rt (hp.below f) hs (evC (hp.below f) hs (hk.below f) (hm.below f) hv) hd;have CS:=zh fun(W:World) (f:Below w.heap.size w W) (l:List Ex) (Al:Option Addr) (cl:Nat) (hr:Rs (exR KE) W (.slice Al l.length cl) l ah) (hl:l.length<=1000) (ca:∀e∈l,e∈p.hard++p.soft)=>tu (hp.below f) hs (hk.below f) (hm.below f) hv bl l Al cl hr hl λe V=>bh.out e (ca e V);have aY:=zh hp.s;have aV:=zh (tR p);have aT:Hid (kpT p 0=(p.hard,[])):=zh rfl;have aW:Hid (∀k,kpT p (k+1)=if cF p ((kpT p k).1++[p.soft.getD (p.soft.length-(k+1)) ex0]) then((kpT p k).1++[p.soft.getD (p.soft.length-(k+1)) ex0],(kpT p k).2++[p.soft.length-(k+1)]) else kpT p k):=zh λk=>rfl;obtain⟨i0,hi,bL,bM,bN⟩:=Bb jz;obtain⟨HI,bX,bY,bZ,bd⟩:=zk5 hi bL bM bN hn;unfold KpR;unfold EvC at CE;unfold pbV at CE CN CS⊢;obtain⟨n2,aA⟩:=zv (p.hard.length);obtain⟨n3,aE⟩:=zv (p.soft.length);obtain⟨aX,bc⟩:=zk2 aA aE;rw[<-aA,<-aE] at bd;rw[<-aA] at CE CN CS⊢;rw[<-aE] at CE CN CS aY aV aW⊢;generalize p.vars.length=n1 at*;generalize p.dists.length=n4 at*;generalize p.groups.length=n5 at*;have cj:=bd.out;clear hp hs hk hm hv hd bl hn aA aE bh hi bL bM bN;generalize kpT p=KT at*;go_enter Tryz.func33,Tryz.ntmps33;go_upto_region 1 with fail;generalize ax:w.alloc _=w1 at*;obtain⟨g,d⟩:=zB1 ax;clear ax;have E:=za d 0 rfl;have G:=za d 1 rfl;have D:=za d 2 rfl;have H:=za d 3 rfl;have I:=za d 4 rfl;go_wp2_with fail;refine(CE w1 g).mono ?_;rintro e w2 ⟨rfl,f⟩;clear E G D H I;replace d:=zb d f;replace g:=zb g f;clear f;have E:=za d 0 rfl;have G:=za d 1 rfl;have D:=za d 2 rfl;have H:=za d 3 rfl;have I:=za d 4 rfl;go_wp2_with fail;have a7:=zh g.out.size;refine(CN w2 g).mono ?_;rintro e w3 ⟨v,rfl,ad,f⟩;have R:=f.size;clear E G D H I;replace d:=zb d f;replace g:=zb g f;clear f;clear CE CN;have y:=zh ad;obtain⟨Ar,cr,rfl⟩:=ad.slice;have b3:w.heap.size<=w2.heap.size:=a7.out;clear ad a7;generalize w2.heap.size=CC at*;have aQ:=CS.out w3 g p.hard Ar cr (jv y.out.any) (by rw[<-aX.out];omega) (λe V=>AZ _ V);rw[<-aX.out] at aQ y⊢;have E:=za d 0 rfl;have G:=za d 1 rfl;have D:=za d 2 rfl;have H:=za d 3 rfl;have I:=za d 4 rfl;go_wp2_with fail;refine aQ.mono ?_;rintro e w4 ⟨rfl,f⟩;clear aQ;have aO:=yK R f.size;replace y:=zb y f;clear E G D H I;replace d:=zb d f;replace g:=zb g f;clear f;generalize bH:cF p p.hard=sb at*;have bj:=zh bH;clear bH;cases sb
 ·go_wp2_with fail;go_ret2;exact⟨g,.inl ⟨bj,by trivial⟩⟩
 have be:=zh (OG.nil dB w4 CC 0 3 (by decide) (yt _));have D:=za d 2 rfl;go_wp2_with fail;clear D;have aJ:Hid (OG (exB KE) w4 CC CC 79 (.slice Ar n2 cr) (KT 0).1):=zh (by rw[aT.out];exact y);have aG:Hid (OG dB w4 CC 0 3 (.slice none 0 0) (nI (KT 0).2)):=zh (by rw[aT.out];exact be);clear be y;have a8:=zh aO;clear aO
 go_loopw [4,5,6] (λrv lv i wr=>∃k:Nat,k<=n3/\i= .int .i64 ((n3:Int)-k-1)/\OG (exB KE) wr CC CC 79 rv (KT k).1/\CC<=wr.heap.size/\OG dB wr CC 0 3 lv (nI (KT k).2)/\Box wr w.heap.size #[.slice A1 n1 c1,.slice A2 n2 c2,.slice A3 n3 c3,.slice A4 n4 c4,.slice A5 n5 c5] 27/\Below w.heap.size w wr) (λ_ _ i _=>(intOf i+1).toNat)
 case atStart=>exact⟨0,yt _,by go_num,aJ,a8,aG,d,g⟩
 case round=>
  obtain⟨k,hk,rfl,bF,bo,ad,hx,f⟩:=hrel;clear d g aJ aG;obtain⟨d,g,y,Z⟩:=zk4 hx f bF ad;clear hx f bF ad;obtain⟨A,c,rfl,ap⟩:=y.out.rs.slice;obtain⟨A6,c6,rfl⟩:=Z.out.slice;rw[aF] at Z⊢;obtain⟨bx,a1,b7,bw⟩:=aV.out k hk;rw[<-aX.out] at a1;have ai:=zh bx;clear bx b7
  by_cases bA:k<n3
  ·obtain⟨j,hj⟩:=zv (n3-(k+1));have bu:((n3:Int)-(k:Int)-1)=(j:Int):=by omega
   rw[bu];have j0:(0:Int)<=(j:Int):=by omega
   have j1:(j:Int)<(n3:Int):=by omega
   have bv:j<n3:=by omega
   have aU:=zh (aW k);rw[<-hj] at aU;obtain⟨A',c',e1,_,bJ⟩:=(jv (ld aY g)).exs;obtain⟨b,o,u,d',e2,an,bs,K,bG,aP⟩:=bJ j (by rw[<-bc.out];exact bv)
   have e3:A3=some ⟨b,o,none⟩:=by
    simp only[yA] at e1;rw[e1.1,e2]
   subst e3;obtain rfl:d'=29:=by unfold KE at bs;omega
   have a3:Rs (exR 29) wr u (p.soft.getD j ex0).args (λb=>b<w.heap.size):=bG.mono λb f=>nZ f;have bb:Hid (In (λb=>b<w.heap.size) u (p.soft.getD j ex0).args.length):=zh λh b f=>nZ (aP h b f);have bt:p.soft.getD j ex0∈p.hard++p.soft:=Bn _ (getD_in ex0 (by rw[<-bc.out];exact bv));have ba:=zh bt;have v0:=K 0 _ rfl;have v1:=K 1 _ rfl;have v2:=K 2 _ rfl;have v3:=K 3 _ rfl;rw[yU] at v0;have P:=an;generalize p.soft.getD j ex0=a at*;obtain⟨Ap,cp,rfl, -⟩:=a3.slice;have bi:=zh a3;have aZ:Hid (SKp w.heap.size #[.slice A1 n1 c1,.slice A2 n2 c2,.slice (some ⟨b,o,none⟩) n3 c3,.slice A4 n4 c4,.slice A5 n5 c5] #[.int .i64 a.op,.int .i64 a.n,.string a.name,.slice Ap a.args.length cp] b (o+j*4) wr):=zh ⟨d,v0,v1,v2,v3⟩;obtain⟨m,hm⟩:=zv ((KT k).1.length);have HM:=zh hm;rw[<-hm] at a1 y ap⊢;have HJ:=zh hj;clear v0 v1 v2 v3 e1 e2 bJ K bG a3 bt aP an bs hm hj bu;go_wp2_with fail;have ch:=zh (g.out.size);refine Ab (S:=SKp w.heap.size #[.slice A1 n1 c1,.slice A2 n2 c2,.slice (some ⟨b,o,none⟩) n3 c3,.slice A4 n4 c4,.slice A5 n5 c5] #[.int .i64 a.op,.int .i64 a.n,.string a.name,.slice Ap a.args.length cp] b (o+j*4)) (by kernel_rfl) aZ (λhS=> ?_);have N:=ae (w0:=wr) (wr.drawn+1);have aM:Hid (SKp w.heap.size #[.slice A1 n1 c1,.slice A2 n2 c2,.slice (some ⟨b,o,none⟩) n3 c3,.slice A4 n4 c4,.slice A5 n5 c5] #[.int .i64 a.op,.int .i64 a.n,.string a.name,.slice Ap a.args.length cp] b (o+j*4) wr.drew):=zh (aZ.out.below P N);have b1:Hid (Box wr.drew _ _ _):=zh (d.out.below N);have a4:Hid (Below _ _ wr.drew):=zh (ab g N);have aK:Hid (OG (exB KE) wr.drew _ _ _ _ _):=zh (y.out.below N);have aH:Hid (OG dB wr.drew _ _ _ _ _):=zh (Z.out.below N);have aL:Hid (Rs (exR 29) wr.drew _ _ _):=zh (bi.out.below N);have ao:b<wr.drew.heap.size:=yE P N.size;have bp:CC<=wr.drew.heap.size:=yK bo N.size;clear N aZ d g y Z bi P bo;generalize wr.drew=w4 at*;refine zt 0 (.slice A m c) rfl (Or.inl ⟨by rfl,λW U=>by go_simp⟩) ?_;simp only[zp];refine zt 1 (.slice A m c) rfl (Or.inl ⟨by rfl,λW U=>by go_simp⟩) ?_;simp only[zp];refine zt 2 (.int .i64 (m:Nat)) rfl (Or.inl ⟨by rfl,λW U=>by go_simp⟩) ?_;simp only[zp];refine zt 3 (.slice A m c) rfl (Or.inl ⟨by rfl,λW U=>by go_simp⟩) ?_;simp only[zp];refine zt 4 (.int .i64 (m:Nat)) rfl (Or.inl ⟨by rfl,λW U=>by go_simp⟩) ?_;simp only[zp];refine zt 5 (.slice A m m) rfl (Or.inl ⟨by rfl,λW U=>by go_simp⟩) ?_;simp only[zp];refine zt 6 (.pointer (some ⟨w.heap.size,2,none⟩)) rfl (Or.inl ⟨by rfl,λW U=>by go_simp⟩) ?_;simp only[zp];refine zt 7 (.slice (some ⟨b,o,none⟩) n3 c3) rfl (Or.inl ⟨by rfl,λW U=>by have q:=U.1.at_ 2 _ rfl;go_simp⟩) ?_;simp only[zp];refine zt 8 (.int .i64 (j:Nat)) rfl (Or.inl ⟨by rfl,λW U=>by go_simp⟩) ?_;simp only[zp];refine zt 9 (.pointer (some ⟨b,o+j*4,none⟩)) rfl (Or.inl ⟨by rfl,λW U=>by go_simp⟩) ?_;simp only[zp];refine zt 10 (.agg #[.int .i64 a.op,.int .i64 a.n,.string a.name,.slice Ap a.args.length cp]) rfl (Or.inl ⟨by rfl,λW U=>by have q0:W.cell? ⟨b,o+j*4,none⟩=some (.int .i64 a.op):=U.2.1;have q1:W.cell? ⟨b,o+j*4+1,none⟩=some (.int .i64 a.n):=U.2.2.1;have q2:W.cell? ⟨b,o+j*4+2,none⟩=some (.string a.name):=U.2.2.2.1;have q3:W.cell? ⟨b,o+j*4+3,none⟩=some (.slice Ap a.args.length cp):=U.2.2.2.2;go_simp⟩) ?_;simp only[zp];clear hS;refine aB (i:=11) (by kernel_rfl) rfl ?_;go_wp2_with fail;have J:=ac w4 (.cells #[.int .i64 a.op,.int .i64 a.n,.string a.name,.slice Ap a.args.length cp] 79);have aj:=zh (Rs.one (φ:=exB KE) (w:=w4) (F:=λb=>b<w.heap.size) (x:=a) (us:=[.int .i64 a.op,.int .i64 a.n,.string a.name,.slice Ap a.args.length cp]) ⟨_,rfl,aL,bb⟩ 79);have am:=zh (aM.out.below ao J);have a5:=zh (ab a4 J);have ak:=zh (aK.out.below J);have aI:=zh (aH.out.below J);have aN:=yE ao J.size;have R:=yK bp J.size;clear J aM b1 a4 aK aH aL ao;generalize w4.alloc (.cells #[.int .i64 a.op,.int .i64 a.n,.string a.name,.slice Ap a.args.length cp] 79)=w5 at*;generalize w4.heap.size=g4 at*;refine⟨rfl,am, ?_⟩;refine aB (i:=12) (by kernel_rfl) rfl ?_;have bB:Rs (exB KE) w5 (.slice A (KT k).1.length c) (KT k).1 (Ty w5 CC []):=by rw[<-HM.out];exact ak.out.rs
   obtain⟨v',w6,av,a2,aa⟩:=s8 23 R bB (aj.out.mono λb f=> .inl (by omega)) (by rw[<-HM.out];omega);rw[<-HM.out] at av;refine hO rfl _ _ 23 23 rfl _ _ rfl rfl av ?_;have Y:=zh (am.out.below aN aa);have Q:=zh (uZ a2 R (yq _));have bq:=yK R aa.size;have al:=zh (ak.out.below aa);have t:=zh (aI.out.below aa);have a6:=zh (ab a5 aa);obtain⟨A9,c9,rfl⟩:=a2.slice;clear bB av a2 aa am a5 ak aI aj aN;refine(show noQ _ _ _ _ from⟨rfl,Y, ?_⟩);simp only[zp];refine aB (i:=13) (by kernel_rfl) rfl ?_;go_wp2_with fail;refine⟨rfl,Y,AN (by kernel_rfl) ?_ _⟩;have d:=zh Y.out.1;have g:=zh a6;clear Y a6
   have aR:=CS.out w6 g ((KT k).1++[a]) A9 c9 (jv Q.out.any) (by rw[yu,<-HM.out];simp;omega) (λe V=>by
    rcases AQ.1 V with V|V
    ·exact ai e V
    ·simp only[yC,yI,AH] at V
     rw[V];exact ba)
   have X:((KT k).1++[a]).length=m+1:=by rw[yu,<-HM.out];rfl
   have cf:=zh X;rw[X] at aR Q;rw[<-HM.out];clear X;generalize bI:cF p ((KT k).1++[a])=sv at*;have cg:=zh bI;clear bI ba ai;have E:=za d 0 rfl;have G:=za d 1 rfl;have D:=za d 2 rfl;have H:=za d 3 rfl;have I:=za d 4 rfl;go_wp2_with fail;refine aR.mono ?_;rintro e w7 ⟨rfl,f⟩;clear aR;replace Q:=zb Q f;replace al:=zb al f;replace t:=zb t f;have aq:=yK bq f.size;clear E G D H I;replace d:=zb d f;replace g:=zb g f;clear f;cases sv
   ·have ag:Hid (KT (k+1)=KT k):=zh (by rw[aU.out];simp);go_wp2_with fail;go_roundw
    ·exact⟨k+1,by omega,by have:=HJ.out;go_num,by rw[ag.out];exact al,aq,by rw[ag.out];exact t,d,g⟩
    ·have:=HJ.out;simp[intOf]
   ·have ag:Hid (KT (k+1)=((KT k).1++[a],(KT k).2++[j])):=zh (by rw[aU.out];simp);obtain⟨tl,M⟩:=zv ((KT k).2.length);have bk:=zh M;rw[<-M] at t bw⊢;clear M;have P:=ac w7 (.cells #[.int .i64 (j:Nat)] 3);have aj:=zh (Rs.one (φ:=dB) (w:=w7) (F:=Ty (w7.alloc (.cells #[.int .i64 (j:Nat)] 3)) 0 dB.ts) (x:=(j:Int)) (us:=[.int .i64 (j:Nat)]) rfl 3);replace t:=zb t P;replace d:=zb d P;replace Q:=zb Q P;replace g:=zb g P;clear P;go_wp2_with(at_builtin;refine aC (φ:=dB) (T:=3) (B:=CC) (C:=0) (xs:=nI (KT k).2) (ys:=[(j:Int)]) rfl _ _ 32 rfl i0 (.int .i64 0) 8 Tryz.underlying32 HI bX bY bZ rfl rfl t (.slice (some ⟨w7.heap.size,0,none⟩) 1 1) rfl aj ?c1 ?c2 ?c3 ?_)
    case c1=>simp only[yr,yR];rw[aF,<-bk.out];omega
    case c2=>simp only[yr,yR];rw[aF,<-bk.out];unfold maxLen;omega
    case c3=>exact yK aq (ac w7 _).size
    intro v' w8 au ar;have b2:=zh (t.out.boxKept ar.out d (.inl (by decide)));have bg:=zh (Q.out.growO t ar.out (by decide) (by simp[exB]) (yq _));have bO:=zh (t.out.belowG ar.out g g.out.size b3);have br:=yK aq (yK (ac w7 (.cells #[.int .i64 (j:Nat)] 3)).size ar.out.size);have bf:Hid (OG dB w8 CC 0 3 v' (nI (KT (k+1)).2)):=zh (by rw[ag.out,<-ZY];exact au.out);have bS:Hid (OG (exB KE) w8 CC CC 79 (.slice A9 (m+1) c9) (KT (k+1)).1):=zh (by rw[ag.out];exact bg);obtain⟨ce,ci,rfl⟩:=au.out.slice;generalize(nI (KT k).2++[(j:Int)]).length=tl2 at*;clear ar bg Q t aj au;go_wp2_with fail;go_roundw
    ·exact⟨k+1,by omega,by have:=HJ.out;go_num,bS,br,bf,b2,bO⟩
    ·simp[intOf]
  ·have b8:k=n3:=by omega
   have cb:((n3:Int)-(k:Int)-1)= -1:=by omega
   rw[cb];subst b8;have a9:=zh Z.out.il;have cc:(KT k).2.length<=1000:=by omega
   have b4:=zh d.out.lt;clear aY aV aW aT ai CS y Z ap a1;generalize bm:(KT k).2=L at*;have bQ:=zh bm;clear bm;obtain⟨tl,M⟩:=zv (L.length);have bW:=zh M;have bR:Hid (rvP L 0=List.replicate tl 0):=zh (by unfold rvP;rw[M];simp[nI]);have bV:Hid (∀q,q<tl->(rvP L q).set (tl-1-q) (L.getD q 0:Nat)=rvP L (q+1)):=zh λq hq=>by rw[M] at hq⊢;exact rv_set hq
   have bT:Hid (∀q,q<=tl->(rvP L q).length=tl):=zh λq hq=>by rw[M] at hq⊢;exact rv_len hq
   have bU:Hid (rvP L tl=nI L.reverse):=zh (by unfold rvP;rw[M,AG,Ay];rfl)
   have aS:Hid (∀q,q<tl->∃b o,A6=some ⟨b,o,none⟩/\b<wr.heap.size/\wr.cell? ⟨b,o+q,none⟩=some (.int .i64 (L.getD q 0:Nat))):=zh λq hq=>by
    rcases a9.out.form with⟨A,c,h1,h2⟩|⟨b,o,c,h1, -, -,bA,h2⟩
    ·have h3:=AA List.length h2;rw[aF] at h3;have h4:L.length=0:=h3;omega
    ·have h3:=h2 q (by rw[aF];omega);rw[eO] at h3;simp only[yA] at h1;exact⟨b,o,h1.1,bA,h3⟩
   rw[<-M] at bw⊢;have MK:=ik tl (by omega);rw[mR,<-bR.out] at MK;have b0:=MK wr;clear MK M a9 cc;have k1:¬((-1:Int)≥0):=by decide
   go_upto_region 15 with fail;generalize ax:wr.alloc _=w5 at*;obtain⟨ay,XO⟩:=zA1 ax;clear ax;replace d:=zb d ay;have af:=zh ay;have b5:=g.out.size;replace g:=zb g ay;clear ay b0;have b6:=d.out.lt;have b9:w.heap.size<wr.heap.size:=b4.out;obtain⟨gr,a0⟩:=zv (wr.heap.size);rw[<-a0] at b9 XO b5⊢;have bP:=zh a0;clear a0 b6;go_wp2_with fail
   go_loopw [54] (λi wq=>∃q:Nat,q<=tl/\i= .int .i64 q/\Box wq gr (iA (rvP L q)) 3/\Below wr.heap.size wr wq/\Below w.heap.size w wq) (λi _=>tl-(intOf i).toNat)
   case atStart=>exact⟨0,yt _,rfl,XO,af,g⟩
   case round=>
    obtain⟨q,hq,rfl,bK,bn,f⟩:=hrel;clear g d af XO;obtain⟨XO,af,g⟩:=zk3 bK bn f;clear bK bn f
    by_cases bD:q<tl
    ·have bE:(q:Int)<(tl:Int):=by omega
     have q0:(0:Int)<=(q:Int):=by omega
     obtain⟨b,o,rfl,an,ap⟩:=aS.out q bD;have y0:=(af.out.cell an).trans ap;obtain⟨r,hr⟩:=zv (tl-1-q);have ck:((tl:Int)-1-(q:Int))=(r:Int):=by omega
     have cm:(r:Int)<(tl:Int):=by omega
     have r0:(0:Int)<=(r:Int):=by omega
     have cd:r<tl:=by omega
     have y:=zh (bV q bD);rw[<-hr] at y;have bz:=bT.out q hq;have x0:=XO.out.at_ r _ (du (by rw[bz];exact cd));have x1:=XO.out.frozen r;have x2:=XO.out.lt;generalize L.getD q 0=lv at*;generalize(rvP L q).getD r 0=ov at*;clear ap an aS hr bz;go_wp2_with fail;go_roundw
     ·refine⟨q+1,by omega,by go_num, ?_,af.out.setCell (p:=⟨gr,r,none⟩) (by show _<=gr;rw[bP.out];exact yq _) _,g.out.setCell (p:=⟨gr,r,none⟩) (by show w.heap.size<=gr;omega) _⟩;have:=XO.out.set_ r (.int .i64 (lv:Nat));rw[gG,y.out] at this;exact this
     ·simp[intOf];omega
    ·have bE:¬(q:Int)<(tl:Int):=by omega
     have bC:q=tl:=by omega
     rw[bC,bU.out] at XO;clear aS bC;go_wp2_with fail;go_ret2;exact⟨g,.inr ⟨bj,_,by trivial,by rw[bQ.out];exact ko XO tl (by rw[aF,List.length_reverse,bW.out])⟩⟩
end
end Go.Proofs.YtdahpdnhkflnnaaGreatDoor
