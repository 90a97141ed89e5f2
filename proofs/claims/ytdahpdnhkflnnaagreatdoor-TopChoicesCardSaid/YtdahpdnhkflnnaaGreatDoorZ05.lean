/-
  Contracts and laws for the law TopChoices, part 5 of 14; made small by a program of mine out of longer texts.
-/
import Derived.Test.YtdahpdnhkflnnaaGreatDoorZ04
namespace Go.Proofs.YtdahpdnhkflnnaaGreatDoor
set_option linter.unusedVariables false
set_option linter.unusedSimpArgs false
set_option linter.defProp false
set_option maxRecDepth 100000
set_option maxHeartbeats 64000000
section
open Go.RowKit Go.Maps
theorem dm {d:List Nd} (h:DV d) (n:Nat):okW d (au n 16):=⟨by simp[au],λx a=>by
 unfold au at a;obtain⟨k,_,rfl⟩:=AP.1 a;have:=h.two
 unfold bN;split<;>omega⟩
theorem eZ {d:List Nd} (h:DV d) {t:Nat} (b:okN d t):okW d (aH t):=⟨by simp[aH,au],λx a=>by
 unfold aH at a;rcases yC.1 a with rfl|a
 ·exact b
 ·unfold au at a;obtain⟨k,_,rfl⟩:=AP.1 a;have:=h.two
  unfold bN;split<;>omega⟩
theorem blOnes (w:World) (g:Nat) (C:BC) (d:List Nd) (b:BB w g C d) (ws:List Nat) (hw:okW d ws):
  Calls Tryz.prog 130 #[.pointer (some ⟨g,0,none⟩),.agg (wv ws)] w (eT cH okW w g C d (j7 ws (au 0 16) d)):=by
 have ay:=zl b;obtain⟨a,HW⟩:=zk2 b hw;have HS:Hid ((wv ws).size=16):=zh (by rw[ak,hw.1]);have HG:Hid (∀k,k<16->(wv ws)[k]? =some (.int .i64 ((ws.getD k 0:Nat):Int))):=zh λk hk=>cx (by rw[hw.1];exact hk);have ao:Hid ((wv z16).size=16):=zh (by rw[ak];rfl);have r:=zh (dm b.2 0);generalize wv ws=CS at*;have G:Hid (j7 ws (au 0 16) d=j7 (ws.drop 0) (au 0 16) d):=zh (by rw[yO]);generalize aw:j7 ws (au 0 16) d=PQ at*;clear b hw aw;go_enter Tryz.func130,Tryz.ntmps130;go_upto_region 1 with fail;rw[<-dr];generalize ae:w.alloc _=zw1 at*;generalize af:zw1.alloc _=w1 at*;obtain⟨D,z,j⟩:=zB2 ae af;clear ae af;replace a:=zh (a.out.below D);have ar:=zh j.out.lt;go_wp2_with fail;refine(dc w1 0 (by decide)).mono ?_;rintro e w2 ⟨rfl,b⟩;have aq:=zh b.size;replace a:=zb a b;replace z:=zb z b;replace j:=zb j b;replace D:=zb D b;clear b;unfold cH;obtain⟨K0,V⟩:=zv (au 0 16);rw[<-V] at r G⊢;have H:Hid ((wv K0).size=16):=zh (by rw[ak,r.out.1]);have B:Hid ((wv K0).all (·.oneCell')=true):=zh (bo _);obtain⟨KS,K⟩:=zv (wv K0);have R:=zh K;rw[<-K] at H B⊢;clear K V;have J:Hid (Box (w2.alloc (.cells #[.int .i64 0,.int .i64 0,.int .i64 0,.int .i64 0,.int .i64 0,.int .i64 0,.int .i64 0,.int .i64 0,.int .i64 0,.int .i64 0,.int .i64 0,.int .i64 0,.int .i64 0,.int .i64 0,.int .i64 0,.int .i64 0] 146)) w2.heap.size #[.int .i64 0,.int .i64 0,.int .i64 0,.int .i64 0,.int .i64 0,.int .i64 0,.int .i64 0,.int .i64 0,.int .i64 0,.int .i64 0,.int .i64 0,.int .i64 0,.int .i64 0,.int .i64 0,.int .i64 0,.int .i64 0] 146):=zh (Box.new w2 _ _);have y:Hid ((#[.int .i64 0,.int .i64 0,.int .i64 0,.int .i64 0,.int .i64 0,.int .i64 0,.int .i64 0,.int .i64 0,.int .i64 0,.int .i64 0,.int .i64 0,.int .i64 0,.int .i64 0,.int .i64 0,.int .i64 0,.int .i64 0]:Array Value).size=16):=zh rfl;have o:=ac w2 (.cells #[.int .i64 0,.int .i64 0,.int .i64 0,.int .i64 0,.int .i64 0,.int .i64 0,.int .i64 0,.int .i64 0,.int .i64 0,.int .i64 0,.int .i64 0,.int .i64 0,.int .i64 0,.int .i64 0,.int .i64 0,.int .i64 0] 146);replace a:=zb a o;replace z:=zb z o;replace j:=zb j o;replace D:=zb D o;clear o;go_upto_region 2 with(refine aM rfl _ _ rfl w2.heap.size KS (by rfl) (by rfl) J y H B ?_;intro w3 m h);have n:Hid (w.heap.size+1<w2.heap.size):=zh (by have:=ar.out;have:=aq.out;omega);replace a:=zh (a.out.grownBox J (by decide) (by have:=n.out;omega) h);replace z:=zh (ai z h (by have:=n.out;omega));replace j:=zh (ai j h (by have:=n.out;omega));have c:Hid (w.grownBy w3 (some g)):=zh (aG (aI D) h (by have:=n.out;omega));rw[R.out] at m;clear J y h D R;generalize w2.heap.size=gs at*;go_wp2_with(refine bj rfl _ rfl w.heap.size rfl z HS ?_)
 go_loopw [10] (λi wr=>∃(k:Nat) (s:List Nat) (A:List Nd),k<=16/\i= .int .i64 k/\BB wr g C A/\Ext d A/\okW A s/\Box wr (w.heap.size+1) (wv z16) 146/\Box wr gs (wv s) 146/\w.grownBy wr (some g)/\PQ=j7 (ws.drop k) s A) (λi _=>16-(intOf i).toNat)
 case atStart=>exact⟨0,K0,d,yt _,rfl,a,Ext.refl d,r,j,m,c,G⟩
 case round=>
  obtain⟨k,s,A,hk,rfl,b,X,hs,ab,ad,t,hq⟩:=hrel;clear a r j m c G z H B;obtain⟨a,Q,I,j,m,c⟩:=zk6 b X hs ab ad t;have F:=zh hq;have az:=n.out;clear b X hs ab ad t hq;have l:Hid ((wv s).size=16):=zh (by rw[ak,I.out.1]);have H1:Hid ((wv s).all (·.oneCell')=true):=zh (bo _)
  by_cases u:k<16
  ·have Z:(k:Int)<16:=by omega
   have ag:=zh ((HW.out.ext Q).at u);have ix:=ixW (HG k u) u
   replace F:=zh (show PQ=((fk s (aH (ws.getD k 0)) 0).bind λP=>j7 (ws.drop (k+1)) P) A by
    rw[F.out,bJ (by rw[HW.out.1];exact u)];rfl)
   generalize ws.getD k 0=f at*;go_upto_region 5 with fail;clear ix;obtain⟨SS,M⟩:=zv (wv s);obtain⟨TS,N⟩:=zv (wv (aH f));obtain⟨ah,al⟩:=zk2 M N;rw[<-M] at m l H1
   have CT:∀p:Lat wr,Calls Tryz.prog 126 #[.int .i64 (f:Nat)] p.w λe ax=>e= .returned (.agg TS)/\∃q:Lat wr,ax=q.w:=λp=>by
    have:=bQ (gO p.w f);unfold cH at this
    rwa [<-N] at this
   clear M N;refine aL 4 (by kernel_rfl) (by kernel_rfl) ?_;simp only[yX,y9,y6,yO]
   go_big_quiet_step (fail)
   refine pV rfl _ rfl gs rfl m l ?_;go_simp
   go_big_quiet_step (fail)
   go_big_quiet_step (with_reducible exact CT _)
   refine yN ?_;intro w4 b;clear CT;replace a:=zb a b;replace j:=zb j b;replace m:=zb m b;replace c:=zh (aj c b);clear b;go_wp2_with fail;rw[ah.out,al.out];have CO:=zh (wm w4 g C A a s (aH f) I (eZ a.out.2 ag) 0 (by have:=a.out.2.two;show 0<_;omega));refine CO.out.mono ?_;intro e w5 W;rcases W.cases with⟨P,d2,hr,rfl,b,X,ht,t⟩|⟨hr,rfl,t⟩
   rotate_left
   ·refine⟨rfl, ?_⟩;rw[F.out,bU hr];exact⟨ap c t,rfl⟩
   have aa:=F.out.trans (bind_some hr);replace F:=zh aa;have x:=zh ht;replace a:=zh b;replace j:=zg j t (by omega);replace m:=zg m t (by omega);replace Q:=zh (Q.out.trans X);replace c:=zh (ap c t);clear aa hr b X ht t W CO;unfold cH;have S:Hid ((wv P).size=16):=zh (by rw[ak,x.out.1]);have T:Hid ((wv P).all (·.oneCell')=true):=zh (bo _);obtain⟨RS,L⟩:=zv (wv P);have an:=zh L;rw[<-L] at S T⊢;clear L;go_wp2_with(refine aM rfl _ _ rfl gs RS (by rfl) (by rfl) m l S T ?_;intro w6 U E);rw[an.out] at U;go_roundw
   ·exact⟨k+1,P,d2,by omega,by go_num,a.out.grownBox m (by decide) (by omega) E,Q,x,ai j E (by omega),U,aG c E (by omega),F⟩
   ·simp[intOf];omega
  ·have Z:¬(k:Int)<16:=by omega
   have Y:k=16:=by omega
   subst Y
   have am:Hid (PQ=some (s,A)):=zh (by
    rw[F.out,AF (by rw[HW.out.1];exact yq _)];rfl)
   go_wp2_with(first|(refine bj rfl _ rfl gs rfl m l ?_)|(refine aM rfl _ _ rfl (w.heap.size+1) (wv s) (by rfl) (by rfl) j ao l H1 ?_;intro w4 av h));refine yQ (v:= .agg (wv s)) (aV Tryz.results130 _ rfl av l) rfl ?_;rw[am.out];exact⟨aG c h (by omega),rfl,a.out.grownBox j (by decide) (by omega) h,Q,I⟩
end
section
open Go.RowKit
section
variable {P:Program} {md:Region.Mode} {Q:Exit->Act->World->Prop} {ops:Array Oper} {S:World->Prop} {N:Nat}
def bu (P:Program) (md:Region.Mode) (ops:Array Oper) (Q:Exit->Act->World->Prop) (S:World->Prop) (N:Nat):Nat->Array Bool->Act->World->Prop
 |0,listed,a,w=>Region.ready md ops listed=[]/\Q .normal a w
 |fuel+1,listed,a,w=>
  (Region.ready md ops listed=[]->Q .normal a w)∧
  ∀i∈Region.ready md ops listed,wpOp P ops Q i (λb w'=>((listed.setIfInBounds i true).getD N true=false->S w')/\bu P md ops Q S N fuel (listed.setIfInBounds i true) b w') a w
theorem nj:∀(b:Nat) (c:Array Bool) (a:Act) (w:World),bu P md ops Q S N b c a w->wpAny P md ops Q b c a w
 |0,_,_,_,h=>h
 |b+1,_,_,_,h=>⟨h.1,λi hi=>wpOp_mono (λd w' e=>nj b _ d w' e.2) (h.2 i hi)⟩
def wt (md:Region.Mode) (ops:Array Oper):Nat->Nat->Nat->Bool
 |0,_,_=>false
 |f+1,j,i=>match ops[j]? with
  |some o=>o.after.any λe=>Region.binds md e&&(e.on==i||wt md ops f e.on i)
  |none=>false
def jV (md:Region.Mode) (ops:Array Oper) (a:Array Bool):Bool:=
 (List.range ops.size).all λj=>match ops[j]? with
  |some o=> !(a.getD j false)||o.after.all λe=> !(Region.binds md e)||a.getD e.on false
  |none=>true
def mj (md:Region.Mode) (ops:Array Oper) (a:Array Bool):Prop:=∀j o,ops[j]? =some o->a.getD j false=true->∀e∈o.after,Region.binds md e=true->a.getD e.on false=true
theorem pP {listed:Array Bool} (h:jV md ops listed=true):mj md ops listed:=λj o b i e f d=>by
 unfold jV at h
 have g:j<ops.size:=by
  rcases Cd j ops.size with h|h
  ·exact h
  ·rw[Array.getElem?_eq_none h] at b;cases b
 have a:=Bj.1 h j (BI.2 g);rw[b] at a;simp only[i,Bool.not_true,B7] at a;have c:=Array.all_eq_true'.1 a e f;simpa [d] using c
theorem wt_un {a:Array Bool} (d:mj md ops a) {i:Nat} (hi:a.getD i true=false):∀(f j:Nat),wt md ops f j i=true->∀o,ops[j]? =some o->∃e∈o.after,Region.binds md e=true/\(e.on=i\/wt md ops (f-1) e.on i=true)
 |0,j,h,o,ho=>by cases h
 |f+1,j,h,o,ho=>by
  unfold wt at h;rw[ho] at h;obtain⟨e,c,b⟩:=Array.any_eq_true'.1 h;simp only[yF,Cl,beq_iff_eq] at b;exact⟨e,c,b.1,b.2⟩
theorem wt_not {a:Array Bool} (l:mj md ops a) {i:Nat} (hi:a.getD i true=false):∀(f j:Nat),wt md ops f j i=true->a.getD j false=false/\j∉Region.ready md ops a
 |0,j,h=>by cases h
 |f+1,j,h=>by
  cases ho:ops[j]? with
  |none=>unfold wt at h;rw[ho] at h;cases h
  |some o=>
   obtain⟨e,n,m,c⟩:=wt_un l hi (f+1) j h o ho
   have k:a.getD e.on false=true->False:=λb=>by
    rcases c with c|c
    ·rw[c,getD_both hi] at b;cases b
    ·obtain⟨p,_⟩:=wt_not l hi f e.on c;rw[p] at b;cases b
   refine⟨?_,λq=> ?_⟩
   ·cases b:a.getD j false with
    |false=>rfl
    |true=>exact(k (l j o ho b e n m)).elim
   ·obtain⟨_,o',g,d⟩:=BE.1 q;rw[ho] at g;obtain rfl:o=o':=Az g;exact k (d e n m)
theorem sV {a:Array Bool} (l:mj md ops a) {j:Nat} (m:j∈Region.ready md ops a):mj md ops (a.setIfInBounds j true):=λk o d i e h g=>by
 obtain⟨_,n,f,b⟩:=BE.1 m
 by_cases c:j=k
 ·subst c;rw[f] at d;obtain rfl:n=o:=Az d;exact getD_set_true (b e h g)
 ·rw[BZ false c] at i;exact getD_set_true (l k o d i e h g)
theorem kA {i:Nat} {u:Oper} {v:Value} (hi:ops[i]? =some u) (r:∀(j:Nat) (o:Oper) cs b,ops[j]? =some o->o.op≠ .select cs b)
  (hQ:∀c a w,Q (.panic c) (a.put u.dst v) w->Q (.panic c) a w) (W:i≠N) (f:Nat) (T:World->Prop) (R:(T=S/\wt md ops f N i=true/\N≠i/\N<ops.size)\/∀w,T w):
  ∀(g:Nat) (d:Array Bool) (a:Act) (w:World),mj md ops d->d.size=ops.size→
   (∀j x,ops[j]? =some x->j≠i->d.getD j true=false->(∀e∈x.after,Region.binds md e=true->e.on≠i)->u.apart ops x=true)→
   i∈Region.ready md ops d->YieldsIf P ops T u v a->T w->((d.setIfInBounds i true).getD N true=false->S w)→
   bu P md ops Q S N g (d.setIfInBounds i true) (a.put u.dst v) w->bu P md ops Q S N (g+1) d a w:=by
 intro g
 induction g with
 |zero=>
  intro d a w _ _ _ q I L J H;refine⟨λh=>(by rw[h] at q;cases q),λj y=> ?_⟩
  by_cases l:j=i
  ·subst l;exact I.wpOp hi L ⟨J,H⟩
  ·have:=Cj y l;rw[H.1] at this;cases this
 |succ g ih=>
  intro d a w A D m q I L J H;refine⟨λh=>(by rw[h] at q;cases q),λj y=> ?_⟩
  by_cases l:j=i
  ·subst l;exact I.wpOp hi L ⟨J,H⟩
  ·have G:=H.2 j (Cj y l);obtain⟨p,x,t,z⟩:=BE.1 y
   have C:∀e∈x.after,Region.binds md e=true->e.on≠i:=λe he hb V=>by
    have G:=z e he hb;have h0:=(BE.1 q).1;rw[V,getD_both h0] at G;cases G
   have h2:=wpOp_putIf t (m j x t l p C) (λcs b=>r i u cs b hi) (λcs b=>r j x cs b t) hQ I G
   have n:∀k F,ops[k]? =some F->k≠i->(d.setIfInBounds j true).getD k true=false→
     (∀e∈F.after,Region.binds md e=true->e.on≠i)->u.apart ops F=true:=λk F hk X E aa=>by
    refine m k F hk X ?_ aa
    by_cases B:j=k
    ·subst B;exact p
    ·rw[BZ true B] at E;exact E
   have U:∀w',(((d.setIfInBounds i true).setIfInBounds j true).getD N true=false->S w')->T w':=λw' M=>by
    rcases R with⟨rfl,hw,Z,Y⟩|R
    ·obtain⟨q1,q2⟩:=wt_not A (BE.1 q).1 f N hw;refine M ?_;have K:j≠N:=λe=>q2 (e▸y);rw[BZ true K,BZ true (BQ Z)];exact getD_in (by rw[D];exact Y) q1
    ·exact R w'
   refine wpOp_mono (λa' w' h3=> ?_) h2;obtain⟨y1,y2,y3⟩:=h3;have e1:=Array.setIfInBounds_comm (xs:=d) true true l;refine⟨λs=> ?_,ih (d.setIfInBounds j true) a' w' (sV A y) (by simpa using D) n (Cj q (BQ l)) y1 (U w' y2) (λs=>y2 (by rw[<-e1];exact s)) (by rw[e1];exact y3)⟩;refine y2 ?_;rw[<-e1,BZ true W];exact s
theorem qZ {i:Nat} {g:Oper} {v:Value} {d:Nat} {b:Array Bool} {a:Act} {w:World} (hi:ops[i]? =some g)
  (n:Region.noSelect ops=true) (l:Region.free md ops b i=true) (m:(Region.ready md ops b).contains i=true) (k:(jV md ops b&&(b.size==ops.size)&&wt md ops ops.size N i&& !(i==N)&&decide (N<ops.size))=true)
  (hQ:∀c a w,Q (.panic c) (a.put g.dst v) w->Q (.panic c) a w) (o:YieldsIf P ops S g v a) (j:S w)
  (h:bu P md ops Q S N d (b.setIfInBounds i true) (a.put g.dst v) w):bu P md ops Q S N (d+1) b a w:=by
 simp only[yF,beq_iff_eq,yY,Bool.not_eq_true'] at k;obtain⟨⟨⟨⟨c1,c2⟩,c3⟩,c4⟩,c5⟩:=k;have f:i≠N:=λe=>by rw[e] at c4;simp at c4
 exact kA hi (BS n) hQ f ops.size S (.inl ⟨rfl,c3,BQ f,c5⟩) d b a w (pP c1) c2 (Region.free_spec hi l) (by simpa using m) o j (λ_=>j) h
theorem pW {i:Nat} {f:Oper} {v:Value} {d:Nat} {b:Array Bool} {a:Act} {w:World} (hi:ops[i]? =some f)
  (n:Region.noSelect ops=true) (l:Region.free md ops b i=true) (m:(Region.ready md ops b).contains i=true) (j:(jV md ops b&&(b.size==ops.size)&& !(i==N))=true)
  (hQ:∀c a w,Q (.panic c) (a.put f.dst v) w->Q (.panic c) a w) (o:YieldsIf P ops (λ_=>True) f v a) (k:S w)
  (h:bu P md ops Q S N d (b.setIfInBounds i true) (a.put f.dst v) w):bu P md ops Q S N (d+1) b a w:=by
 simp only[yF,beq_iff_eq,Bool.not_eq_true'] at j;obtain⟨⟨c1,c2⟩,c4⟩:=j;have g:i≠N:=λe=>by rw[e] at c4;simp at c4
 exact kA hi (BS n) hQ g ops.size (λ_=>True) (.inr λ_=>trivial) d b a w (pP c1) c2 (Region.free_spec hi l) (by simpa using m) o trivial (λ_=>k) h
theorem vB {i:Nat} {o:Oper} {K:Act->World->Prop} {a:Act} {w:World} (g:ops[i]? =some o) (h:wpList P ops (hQ K Q) [o] a w):wpOp P ops Q i K a w:=by
 unfold wpOp;simp only[g];unfold wpList at h
 by_cases c:Region.wanted o (yielded ops a.tmps)=true
 ·rw[yz c] at h⊢;rcases h with h|⟨d,f⟩
  ·left;unfold Oper.wp at*;generalize(execOp a.eval o).run P w=r at*
   cases r with
   |ok n w'=>
    cases n<;>simp only[Oper.upon,wpList] at h⊢<;>
     first
      |exact h
      |exact Calls.mono h (λe j b=>by cases e<;>exact b)
      |exact Rows.mono h (λ_ _ b=>b)
   |halt x w'=>cases x<;>simp only[Oper.upon] at h⊢<;>exact h
  ·right;exact⟨d,f⟩
 ·rw[yw c] at h⊢;exact h
theorem jB {i:Nat} {o:Oper} {c:Nat} {b:Array Bool} {a:Act} {w:World} (f:Region.ready md ops b=[i]) (k:ops[i]? =some o)
  (h:wpList P ops (hQ (λg w'=>((b.setIfInBounds i true).getD N true=false->S w')/\bu P md ops Q S N c (b.setIfInBounds i true) g w') Q) [o] a w):bu P md ops Q S N (c+1) b a w:=by
 refine⟨λd=>(by rw[f] at d;cases d),λj e=> ?_⟩;rw[f] at e;obtain rfl:j=i:=by simpa using e
 exact vB k h
theorem bz {i:Nat} {o:Oper} {c:Nat} {b:Array Bool} {a:Act} {w:World} (g:Region.ready md ops b=[i]) (l:(b.setIfInBounds i true).getD N true=true) (m:ops[i]? =some o)
  (h:wpList P ops (hQ (λe w'=>bu P md ops Q S N c (b.setIfInBounds i true) e w') Q) [o] a w):bu P md ops Q S N (c+1) b a w:=by
 refine⟨λd=>(by rw[g] at d;cases d),λj f=> ?_⟩;rw[g] at f;obtain rfl:j=i:=by simpa using f
 exact wpOp_mono (λe w' k=>⟨λd=>(by rw[l] at d;cases d),k⟩) (vB m h)
theorem eD {b:Array Bool} {a:Act} {w:World} (d:Region.ready md ops b=[]) (h:Q .normal a w):
  ∀c,bu P md ops Q S N c b a w
 |0=>⟨d,h⟩
 |_+1=>⟨λ_=>h,by rw[d];simp⟩
theorem eC {c:Nat} {a:Act} {w:World} (N:Nat) (hm:P.follows .mixedOrders=true) (b:S w.drew)
  (h:S w.drew->bu P .any ops Q S N ops.size (Array.replicate ops.size false) a w.drew):(Code.region c ops true).wp P Q a w:=
 wp_region_any hm (nj _ _ _ _ (h b))
end
section
open Go.RowKit
theorem zu {P:Program} {md:Region.Mode} {Q:Exit->Act->World->Prop} {ops:Array Oper} {S:World->Prop} {N:Nat} {f:Oper} {d:Nat} {b:Array Bool} {a:Act} {w:World} (i:Nat) (v:Value) (hi:ops[i]? =some f) (j:YieldsIf P ops S f v a)
  (h:bu P md ops Q S N d (b.setIfInBounds i true) (a.put f.dst v) w) (e:(Region.noSelect ops&&(Region.free md ops b i&&((Region.ready md ops b).contains i&&(jV md ops b&&(b.size==ops.size)&&wt md ops ops.size N i&& !(i==N)&&decide (N<ops.size)))))=true:=by kernel_rfl) (hQ:∀c a w,Q (.panic c) (a.put f.dst v) w->Q (.panic c) a w:=by exact λ_ _ _ h=>h) (g:S w:=by assumption):bu P md ops Q S N (d+1) b a w:=by
 rw[yF,yF,yF] at e;exact qZ hi e.1 e.2.1 e.2.2.1 e.2.2.2 hQ j g h
theorem zuP {P:Program} {md:Region.Mode} {Q:Exit->Act->World->Prop} {ops:Array Oper} {S:World->Prop} {N:Nat} {f:Oper} {d:Nat} {b:Array Bool} {a:Act} {w:World} (i:Nat) (v:Value) (hi:ops[i]? =some f) (j:YieldsIf P ops (λ_=>True) f v a)
  (h:bu P md ops Q S N d (b.setIfInBounds i true) (a.put f.dst v) w) (e:(Region.noSelect ops&&(Region.free md ops b i&&((Region.ready md ops b).contains i&&(jV md ops b&&(b.size==ops.size)&& !(i==N)))))=true:=by kernel_rfl) (hQ:∀c a w,Q (.panic c) (a.put f.dst v) w->Q (.panic c) a w:=by exact λ_ _ _ h=>h) (g:S w:=by assumption):bu P md ops Q S N (d+1) b a w:=by
 rw[yF,yF,yF] at e;exact pW hi e.1 e.2.1 e.2.2.1 e.2.2.2 hQ j g h
end
end
section
open Go.RowKit Go.Maps
theorem tG {f:Nat->Nat->Bm Nat} {xs ys:List Nat} {k:Nat} {p:List Nat} (a:xs.length=16) (b:ys.length=16) (hk:k<16):aO (cY f (xs.drop k) (ys.drop k)) p=
  (f (xs.getD k 0) (ys.getD k 0)).bind λz=>aO (cY f (xs.drop (k+1)) (ys.drop (k+1))) (p++[z]):=by
 conv=>lhs;rw[bJ (ws:=xs) (k:=k) (by omega),bJ (ws:=ys) (k:=k) (by omega)]
 show aO ((f _ _).bind λz=>(cY f _ _).bind λr=>Bm.ret (z::r)) p=_;simp only[eG,kj]
theorem lq (w:World) (g:Nat) (C:BC) (d:List Nd) (L:BB w g C d) (xs ys:List Nat) (hx:okW d xs) (hy:okW d ys) (q:FuncId) (first h:Array Value) (F:Nat->Nat->Bm Nat)
  (eg:∀(x y:Nat) (W:World),(callFunc q (first++(#[.int .i64 (x:Nat),.int .i64 (y:Nat)]++h))).run Tryz.prog W= .ok (.enter q (first++(#[.int .i64 (x:Nat),.int .i64 (y:Nat)]++h))) W)
  (HF:∀(W:World) (j:List Nd) (x y:Nat),BB W g C j->Ext d j->w.grownBy W (some g)->okN j x->okN j y->Calls Tryz.prog q (first++(#[.int .i64 (x:Nat),.int .i64 (y:Nat)]++h)) W (eT bI okN W g C j (F x y j))):
  Calls Tryz.prog 132 #[.agg (wv xs),.agg (wv ys),.func (.func q) first h] w (eT cH okW w g C d (cY F xs ys d)):=by
 have av:=zl L;obtain⟨a,HX,HY,an⟩:=zk4 L hx hy HF;have R:Hid (cY F xs ys d=aO (cY F (xs.drop 0) (ys.drop 0)) (xs.take 0) d):=zh (by rw[yO,yO,y9,iF]);have ap:Hid ((wv z16).size=16):=zh (by rw[ak];rfl);clear L hx hy HF;go_enter Tryz.func132,Tryz.ntmps132;generalize au:cY F xs ys d=PQ at*;clear au;obtain⟨CX,I⟩:=zv (wv xs);obtain⟨CY,J⟩:=zv (wv ys);obtain⟨M,N⟩:=zk2 I J;rw[<-I,<-J];clear I J;have EG:=zh eg;clear eg;go_upto_region 1 with fail;rw[<-dr];generalize af:w.alloc _=zw1 at*;generalize ag:zw1.alloc _=zw2 at*;generalize ah:zw2.alloc _=w1 at*;obtain⟨HB,f,m,l⟩:=zB3 af ag ah;clear af ag ah;replace a:=zh (a.out.below HB);rw[M.out] at f;rw[N.out] at m;clear M N;go_wp2_with fail
 go_loopw [8] (λi wr=>∃(k:Nat) (cur:List Nat) (j:List Nd),k<=16/\i= .int .i64 k/\BB wr g C j/\Ext d j/\okW j cur/\Box wr w.heap.size (wv cur) 146/\Box wr (w.heap.size+1) (wv ys) 146/\Box wr (w.heap.size+1+1) (wv z16) 146/\cur.drop k=xs.drop k/\w.grownBy wr (some g)/\PQ=aO (cY F (xs.drop k) (ys.drop k)) (cur.take k) j) (λi _=>16-(intOf i).toNat)
 case atStart=>exact⟨0,xs,d,yt _,rfl,a,Ext.refl d,HX,f,m,l,rfl,aI HB,R⟩
 case round=>
  obtain⟨k,cur,j,hk,rfl,L,Y,B,ac,ad,ab,X,K,hq⟩:=hrel;clear a HB f m l R;obtain⟨a,D,o,f,m,l⟩:=zk6 L Y B ac ad ab;obtain⟨P,c,E⟩:=zk3 X K hq;clear L Y B ac ad ab X K hq
  by_cases r:k<16
  ·have aa:(k:Int)<16:=by omega
   have k0:(0:Int)<=(k:Int):=by omega
   have ai:=zh (o.out.at r);have al:=zh ((HY.out.ext D).at r);have GX:=zh (cx (ws:=cur) (k:=k) (by rw[o.out.1];exact r));have GY:=zh (cx (ws:=ys) (k:=k) (by rw[HY.out.1];exact r))
   replace E:=zh (show PQ=((F (cur.getD k 0) (ys.getD k 0)).bind λz=>aO (cY F (xs.drop (k+1)) (ys.drop (k+1))) (cur.take k++[z])) j by
    rw[E.out,tG HX.out.1 HY.out.1 r,fK P.out])
   generalize cur.getD k 0=x at*;generalize ys.getD k 0=y at*;have ec:=EG.out x y;go_upto_region 4 with fail;refine eC (S:=SXY w.heap.size (w.heap.size+1) k x y) 8 (by kernel_rfl) (sxy f m GX GY) (λhS=> ?_);have n:Below wr.heap.size wr wr.drew:=ae _;replace f:=zb f n;replace m:=zb m n;replace l:=zb l n;replace a:=zb a n;replace c:=zh (aj c n);clear n;generalize wr.drew=w2 at*;refine zuP 0 (.int .i64 (k:Nat)) rfl (Or.inl ⟨by rfl,λW s=>by go_simp⟩) ?_;simp only[zp];refine zuP 1 (.func (.func q) first h) rfl (Or.inl ⟨by rfl,λW s=>by go_simp⟩) ?_;simp only[zp];refine zuP 2 (.int .i64 (k:Nat)) rfl (Or.inl ⟨by rfl,λW s=>by go_simp⟩) ?_;simp only[zp];refine zuP 3 (.pointer (some ⟨w.heap.size,k,none⟩)) rfl (Or.inl ⟨by rfl,λW s=>by go_simp⟩) ?_;simp only[zp];refine zu 4 (.int .i64 (x:Nat)) rfl (Or.inl ⟨by rfl,λW s=>by obtain⟨s1,s2⟩:=s;go_simp⟩) ?_;simp only[zp];refine zuP 5 (.int .i64 (k:Nat)) rfl (Or.inl ⟨by rfl,λW s=>by go_simp⟩) ?_;simp only[zp];refine zuP 6 (.pointer (some ⟨w.heap.size+1,k,none⟩)) rfl (Or.inl ⟨by rfl,λW s=>by go_simp⟩) ?_;simp only[zp];refine zu 7 (.int .i64 (y:Nat)) rfl (Or.inl ⟨by rfl,λW s=>by obtain⟨s1,s2⟩:=s;go_simp⟩) ?_;simp only[zp];clear hS;refine bz (i:=8) (by kernel_rfl) (by kernel_rfl) rfl ?_;go_wp2_with fail;have CO:=zh (an w2 j x y a D c ai al);refine CO.out.mono λe w3 V=> ?_;have hz:=zo E D c V;clear E a D c V CO;rcases hz with⟨rfl,hn⟩|⟨z,d3,rfl,E,a,Y,HZ,K,D,c⟩
   ·exact⟨rfl,zn hn⟩
   replace f:=zg f K (by omega);replace m:=zg m K (by omega);replace l:=zg l K (by omega);replace o:=zh (o.out.ext Y);clear Y K;unfold bI;clear ec;go_wp2_with fail;show bu _ _ _ _ _ _ _ _ _ _;refine bz (i:=9) (by kernel_rfl) (by kernel_rfl) rfl ?_;go_wp2_with fail;show bu _ _ _ _ _ _ _ _ _ _;have xz:=f.out.frozen k;have xl:=f.out.lt;have x1:=f.out.at_ k _ GX;refine bz (i:=10) (by kernel_rfl) (by kernel_rfl) rfl ?_;go_wp2_with fail;refine eD (by kernel_rfl) ?_ _;have t:=zh (a.out.setBox f (by decide) (by omega) k (.int .i64 (z:Nat)));have U:=zh (m.out.setNe (p:=⟨w.heap.size,k,none⟩) (by show w.heap.size≠_;omega) (.int .i64 (z:Nat)));have T:=zh (l.out.setNe (p:=⟨w.heap.size,k,none⟩) (by show w.heap.size≠_;omega) (.int .i64 (z:Nat)));have H:=zh (f.out.set_ k (.int .i64 (z:Nat)));have A:=zh (bX (i:=k) (u:=(.int .i64 (z:Nat))) c (b:=w.heap.size) (by omega));clear a m l f c xz xl x1;generalize w3.setCell ⟨w.heap.size,k,none⟩ (.int .i64 (z:Nat))=w4 at*;rw[iZ] at H;have a:=t;have c:=A;have f:=H;have m:=U;have l:=T;clear t A H U T;replace o:=zh (o.out.set k HZ);have aq:=zh (eM (x:=z) (show k<cur.length by have:=o.out.1;rw[As] at this;omega));have am:=zh (iw (cur:=cur) (k:=k) (x:=z));generalize cur.set k z=cur' at*;go_wp2_with fail;go_roundw
   ·refine⟨k+1,cur',d3,by omega,by go_num,a,D,o,f,m,l,by rw[am.out];exact fb P,c,by rw[aq.out];exact E⟩
   ·simp[intOf];omega
  ·have aa:¬(k:Int)<16:=by omega
   have Z:k=16:=by omega
   subst Z;have G:Hid ((wv cur).size=16):=zh (by rw[ak,o.out.1]);have H1:Hid ((wv cur).all (·.oneCell')=true):=zh (bo _)
   have ao:Hid (PQ=some (cur,j)):=zh (by
    rw[E.out,AF (by rw[HX.out.1];exact yq _),Ai (by rw[o.out.1];exact yq _)];show aO (Bm.ret []) cur j=_
    rw[iG];rfl)
   go_wp2_with(first|(refine bj rfl _ rfl w.heap.size rfl f G ?_)|(refine aM rfl _ _ rfl (w.heap.size+1+1) (wv cur) (by rfl) (by rfl) l ap G H1 ?_;intro w2 ar Q));refine yQ (v:= .agg (wv cur)) (aV Tryz.results132 _ rfl ar G) rfl ?_;rw[ao.out];exact⟨aG c Q (by omega),rfl,a.out.grownBox l (by decide) (by omega) Q,D,o⟩
theorem qR (w:World) (g:Nat) (C:BC) (d:List Nd) (y:BB w g C d) (xs ys:List Nat) (hx:okW d xs) (hy:okW d ys) (op:Int) (h:op=19\/op=20\/op=21):
  Calls Tryz.prog 212 #[.pointer (some ⟨g,0,none⟩),.int .i64 op,.agg (wv xs),.agg (wv ys)] w (eT cH okW w g C d ((opW op [xs,ys]) d)):=by
 have ab:=zl y;obtain⟨a,HX,HY⟩:=zk3 y hx hy;have i:Hid ((opW op [xs,ys]) d=(opW op [xs,ys]) d):=zh rfl;have T:Hid ((wv z16).size=16):=zh (by rw[ak];rfl);clear y hx hy;go_enter Tryz.func212,Tryz.ntmps212;obtain⟨L,F⟩:=zv ((opW op [xs,ys]) d);replace i:Hid (L=(opW op [xs,ys]) d):=zh F;rw[<-F];clear F;obtain⟨CX,D⟩:=zv (wv xs);obtain⟨CY,E⟩:=zv (wv ys);obtain⟨G,H⟩:=zk2 D E;rw[<-D,<-E];clear D E;have J:Hid (CX.size=16):=zh (by rw[G.out,ak,HX.out.1]);have K:Hid (CY.size=16):=zh (by rw[H.out,ak,HY.out.1]);go_upto_region 1 with fail;rw[<-dr];generalize M:w.alloc _=zw1 at*;generalize N:zw1.alloc _=zw2 at*;generalize P:zw2.alloc _=w1 at*;obtain⟨Q,m,n,l⟩:=zB3 M N P;clear M N P;replace a:=zh (a.out.below Q);have b:=zh (aI (row:=some g) Q);have j:=zh (Ext.refl d);clear Q;rcases h with rfl|rfl|rfl
 case' _=>
  replace i:Hid (L=((bE xs 0).bind λs=>(bE ys 0).bind λt=>(dJ s t).bind λu=>Bm.ret (aH u)) d):=zh i
 rotate_left
 case' _=>
  replace i:Hid (L=((bE xs 0).bind λs=>(bE ys 0).bind λt=>(orB s t).bind λu=>Bm.ret (aH u)) d):=zh i
 rotate_left
 case' _=>
  replace i:Hid (L=((bE xs 0).bind λs=>(bE ys 0).bind λt=>(fE s).bind λv=>(orB v t).bind λu=>Bm.ret (aH u)) d):=zh i
 rotate_left
 all_goals
  go_wp2_with(first|(refine bj rfl _ rfl w.heap.size rfl m J ?_)|(refine bj rfl _ rfl (w.heap.size+1) rfl n K ?_));rw[G.out];have k:=zh (jX w1 g C d a xs HX);refine k.out.mono λe w2 c=> ?_;have x:=zo i j b c;clear i a j b c k;rcases x with⟨rfl,r⟩|⟨s,d2,rfl,i,a,o,p,f,j,b⟩
  ·exact⟨rfl,zn r⟩
  replace m:=zg m f (by omega);replace n:=zg n f (by omega);replace l:=zg l f (by omega);clear o f;unfold bI;go_wp2_with(first|(refine bj rfl _ rfl w.heap.size rfl m J ?_)|(refine bj rfl _ rfl (w.heap.size+1) rfl n K ?_));rw[H.out];have k:=zh (jX w2 g C d2 a ys (HY.out.ext j));refine k.out.mono λe Z c=> ?_;have x:=zo i j b c;clear i a j b c k;rcases x with⟨rfl,r⟩|⟨t,W,rfl,i,a,o,q,f,j,b⟩
  ·exact⟨rfl,zn r⟩
  replace m:=zg m f (by omega);replace n:=zg n f (by omega);replace l:=zg l f (by omega);replace p:=zh (p.out.ext o);clear o f;unfold bI
 case' _=>
  have k:=zh (jI Z g C W a s t p q);go_wp2_with fail;refine k.out.mono λe wz c=> ?_;have x:=zo i j b c;clear i a j b c k;rcases x with⟨rfl,r⟩|⟨u,Y,rfl,i,a,o,A,f,j,b⟩
  ·exact⟨rfl,zn r⟩
  replace m:=zg m f (by omega);replace n:=zg n f (by omega);replace l:=zg l f (by omega);clear o f;unfold bI
 rotate_left
 case' _=>
  have k:=zh (qQ Z g C W a s t p q);go_wp2_with fail;refine k.out.mono λe wz c=> ?_;have x:=zo i j b c;clear i a j b c k;rcases x with⟨rfl,r⟩|⟨u,Y,rfl,i,a,o,A,f,j,b⟩
  ·exact⟨rfl,zn r⟩
  replace m:=zg m f (by omega);replace n:=zg n f (by omega);replace l:=zg l f (by omega);clear o f;unfold bI
 rotate_left
 case' _=>
  have k:=zh (kc Z g C W a s p);go_wp2_with fail;refine k.out.mono λe aa c=> ?_;have x:=zo i j b c;clear i a j b c k;rcases x with⟨rfl,r⟩|⟨v,X,rfl,i,a,o,U,f,j,b⟩
  ·exact⟨rfl,zn r⟩
  replace m:=zg m f (by omega);replace n:=zg n f (by omega);replace l:=zg l f (by omega);replace q:=zh (q.out.ext o);clear o f;unfold bI;have k:=zh (qQ aa g C X a v t U q);go_wp2_with fail;refine k.out.mono λe wz c=> ?_;have x:=zo i j b c;clear i a j b c k;rcases x with⟨rfl,r⟩|⟨u,Y,rfl,i,a,o,A,f,j,b⟩
  ·exact⟨rfl,zn r⟩
  replace m:=zg m f (by omega);replace n:=zg n f (by omega);replace l:=zg l f (by omega);clear o f;unfold bI
 rotate_left
 all_goals
  go_wp2_with fail;refine(gO wz u).mono ?_;rintro e wt ⟨rfl,y⟩;replace l:=zb l y;replace a:=zb a y;replace b:=zh (aj b y);clear y;unfold cH;have z:Hid ((wv (aH u)).size=16):=zh (by rw[ak];simp[aH,au]);have H1:Hid ((wv (aH u)).all (·.oneCell')=true):=zh (bo _);obtain⟨CR,B⟩:=zv (wv (aH u));have R:=zh B;rw[<-B] at z H1⊢;clear B;go_wp2_with(refine aM rfl _ _ rfl (w.heap.size+1+1) CR (by rfl) (by rfl) l T z H1 ?_;intro w9 V I);refine yQ (v:= .agg CR) (aV Tryz.results212 _ rfl V z) rfl ?_;have S:L=some (aH u,Y):=i.out;rw[S,R.out];exact⟨aG b I (by omega),rfl,a.out.grownBox l (by decide) (by omega) I,j,eZ a.out.2 A⟩
theorem ww (w:World) (g:Nat) (C:BC) (d:List Nd) (A:BB w g C d) (xs ys:List Nat) (hx:okW d xs) (hy:okW d ys) (op:Int) (h:op=15\/op=16\/op=17\/op=18):
  Calls Tryz.prog 213 #[.pointer (some ⟨g,0,none⟩),.int .i64 op,.agg (wv xs),.agg (wv ys)] w (eT cH okW w g C d ((opW op [xs,ys]) d)):=by
 have aa:=zl A;obtain⟨a,K,L⟩:=zk3 A hx hy;have i:Hid ((opW op [xs,ys]) d=(opW op [xs,ys]) d):=zh rfl;have V:Hid ((wv z16).size=16):=zh (by rw[ak];rfl);clear A hx hy;go_enter Tryz.func213,Tryz.ntmps213;obtain⟨I,H⟩:=zv ((opW op [xs,ys]) d);replace i:Hid (I=(opW op [xs,ys]) d):=zh H;rw[<-H];clear H;obtain⟨CX,F⟩:=zv (wv xs);obtain⟨CY,G⟩:=zv (wv ys);obtain⟨o,p⟩:=zk2 F G;rw[<-F,<-G];clear F G;have x:Hid (CX.size=16):=zh (by rw[o.out,ak,K.out.1]);have y:Hid (CY.size=16):=zh (by rw[p.out,ak,L.out.1]);go_upto_region 1 with fail;rw[<-dr];generalize M:w.alloc _=zw1 at*;generalize N:zw1.alloc _=zw2 at*;generalize P:zw2.alloc _=w1 at*;obtain⟨S,m,n,l⟩:=zB3 M N P;clear M N P;replace a:=zh (a.out.below S);have b:=zh (aI (row:=some g) S);have j:=zh (Ext.refl d);clear S;rcases h with rfl|rfl|rfl|rfl
 case' _=>
  replace i:Hid (I=((eqB xs ys 1).bind λu=>Bm.ret (aH u)) d):=zh i;go_wp2_with(first|(refine bj rfl _ rfl w.heap.size rfl m x ?_)|(refine bj rfl _ rfl (w.heap.size+1) rfl n y ?_));rw[o.out,p.out];have k:=zh (m5 w1 g C d a xs ys K L);refine k.out.mono λe R c=> ?_;have s:=zo i j b c;clear i a j b c k;rcases s with⟨rfl,r⟩|⟨u,Q,rfl,i,a,q,z,f,j,b⟩
  ·exact⟨rfl,zn r⟩
  replace m:=zg m f (by omega);replace n:=zg n f (by omega);replace l:=zg l f (by omega);clear q f;unfold bI
 rotate_left
 case' _=>
  replace i:Hid (I=((eqB xs ys 1).bind λt=>(fE t).bind λu=>Bm.ret (aH u)) d):=zh i;go_wp2_with(first|(refine bj rfl _ rfl w.heap.size rfl m x ?_)|(refine bj rfl _ rfl (w.heap.size+1) rfl n y ?_));rw[o.out,p.out];have k:=zh (m5 w1 g C d a xs ys K L);refine k.out.mono λe w2 c=> ?_;have s:=zo i j b c;clear i a j b c k;rcases s with⟨rfl,r⟩|⟨t,X,rfl,i,a,q,D,f,j,b⟩
  ·exact⟨rfl,zn r⟩
  replace m:=zg m f (by omega);replace n:=zg n f (by omega);replace l:=zg l f (by omega);clear q f;unfold bI;have k:=zh (kc w2 g C X a t D);go_wp2_with fail;refine k.out.mono λe R c=> ?_;have s:=zo i j b c;clear i a j b c k;rcases s with⟨rfl,r⟩|⟨u,Q,rfl,i,a,q,z,f,j,b⟩
  ·exact⟨rfl,zn r⟩
  replace m:=zg m f (by omega);replace n:=zg n f (by omega);replace l:=zg l f (by omega);clear q f;unfold bI
 rotate_left
 case' _=>
  replace i:Hid (I=((ltB xs ys 0).bind λu=>Bm.ret (aH u)) d):=zh i;go_wp2_with(first|(refine bj rfl _ rfl w.heap.size rfl m x ?_)|(refine bj rfl _ rfl (w.heap.size+1) rfl n y ?_));rw[o.out,p.out];have k:=zh (qS w1 g C d a xs ys K L);refine k.out.mono λe R c=> ?_;have s:=zo i j b c;clear i a j b c k;rcases s with⟨rfl,r⟩|⟨u,Q,rfl,i,a,q,z,f,j,b⟩
  ·exact⟨rfl,zn r⟩
  replace m:=zg m f (by omega);replace n:=zg n f (by omega);replace l:=zg l f (by omega);clear q f;unfold bI
 rotate_left
 case' _=>
  replace i:Hid (I=((ltB ys xs 0).bind λt=>(fE t).bind λu=>Bm.ret (aH u)) d):=zh i;go_wp2_with(first|(refine bj rfl _ rfl w.heap.size rfl m x ?_)|(refine bj rfl _ rfl (w.heap.size+1) rfl n y ?_));rw[o.out,p.out];have k:=zh (qS w1 g C d a ys xs L K);refine k.out.mono λe w2 c=> ?_;have s:=zo i j b c;clear i a j b c k;rcases s with⟨rfl,r⟩|⟨t,X,rfl,i,a,q,D,f,j,b⟩
  ·exact⟨rfl,zn r⟩
  replace m:=zg m f (by omega);replace n:=zg n f (by omega);replace l:=zg l f (by omega);clear q f;unfold bI;have k:=zh (kc w2 g C X a t D);go_wp2_with fail;refine k.out.mono λe R c=> ?_;have s:=zo i j b c;clear i a j b c k;rcases s with⟨rfl,r⟩|⟨u,Q,rfl,i,a,q,z,f,j,b⟩
  ·exact⟨rfl,zn r⟩
  replace m:=zg m f (by omega);replace n:=zg n f (by omega);replace l:=zg l f (by omega);clear q f;unfold bI
 rotate_left
 all_goals
  go_wp2_with fail;refine(gO R u).mono ?_;rintro e wt ⟨rfl,A⟩;replace l:=zb l A;replace a:=zb a A;replace b:=zh (aj b A);clear A;unfold cH;have B:Hid ((wv (aH u)).size=16):=zh (by rw[ak];simp[aH,au]);have Z:Hid ((wv (aH u)).all (·.oneCell')=true):=zh (bo _);obtain⟨Y,E⟩:=zv (wv (aH u));have T:=zh E;rw[<-E] at B Z⊢;clear E;go_wp2_with(refine aM rfl _ _ rfl (w.heap.size+1+1) Y (by rfl) (by rfl) l V B Z ?_;intro w9 W J);refine yQ (v:= .agg Y) (aV Tryz.results213 _ rfl W B) rfl ?_;have U:I=some (aH u,Q):=i.out;rw[U,T.out];exact⟨aG b J (by omega),rfl,a.out.grownBox l (by decide) (by omega) J,j,eZ a.out.2 z⟩
def WL (w:World) (b o:Nat) (a:List (List Nat)):Prop:=b<w.heap.size/\∀j,j<a.length->w.rangeAt b (o+j*16) (wv (a.getD j [])).toList
theorem tA {w w':World} {b o:Nat} {cs:List Value} (h:w.rangeAt b o cs) (hk:w'.heap[b]? =w.heap[b]?):w'.rangeAt b o cs:=λj v a=>(fR hk).trans (h j v a)
theorem WL.keep {w w':World} {b o:Nat} {bs:List (List Nat)} (h:WL w b o bs) (c:w.heap.size<=w'.heap.size) (hk:w'.heap[b]? =w.heap[b]?):WL w' b o bs:=⟨yE h.1 c,λj a=>tA (h.2 j a) hk⟩
theorem WL.below {w w':World} {b o:Nat} {bs:List (List Nat)} (h:WL w b o bs) (a:Below w.heap.size w w'):WL w' b o bs:=h.keep a.size (a.block b h.1)
instance {w w':World} {b o:Nat} {bs:List (List Nat)}:Zm w w' (WL w b o bs) (WL w' b o bs):=⟨λhb h=>WL.below h hb⟩
theorem WL.grown {w w':World} {b o g:Nat} {bs:List (List Nat)} (h:WL w b o bs) (c:w.grownBy w' (some g)) (a:b≠g):WL w' b o bs:=h.keep c.size (c.block b h.1 (by simpa using a))
theorem dy {ops:Array Oper} {S:World->Prop} {op:Oper} {a:Act} (g:Region.wanted op (yielded ops a.tmps)=true) (x:Operand) (e:op.op= .load 146 x) (b o:Nat) (h:a.eval x= .pointer (some ⟨b,o,none⟩)) {c:Array Value} (d:∀W,S W->W.rangeAt b o c.toList) (f:Hid (c.size=16)):YieldsIf Tryz.prog ops S op (.agg c) a:=by
 have:=yieldsIf_load_mid g 146 x e b o h c.toList _ d Tryz.underlying146 rfl (by rw[oc];simp[f.out]);simpa using this
theorem sj {x:List Nat} {a:List (List Nat)} {k t:Nat} (hk:k+1<a.length):dN x (a.drop k) t=
  (ltB x (a.getD k []) 0).bind λu=>(fE u).bind λb=>(ltB (a.getD (k+1) []) x 0).bind λv=>(fE v).bind λq=>(dJ b q).bind λz=>(orB t z).bind λc=>dN x (a.drop (k+2)) c:=by
 have e1:a.drop k=a.getD k []::a.getD (k+1) []::a.drop (k+2):=by
  rw[Aq (by omega),Aq hk,yj,yj,yp (by omega),yp hk];rfl
 rw[e1];rfl
theorem tS {x:List Nat} {a:List (List Nat)} {k t:Nat} (hk:¬k+1<a.length):dN x (a.drop k) t=Bm.ret t:=by
 by_cases h:k<a.length
 ·have e1:a.drop k=[a[k]]:=by
   rw[Aq h,AF (by omega)]
  rw[e1];rfl
 ·rw[AF (by omega)];rfl
def SWM (a:Nat) (X:Array Value) (b p:Nat) (Y:Array Value) (W:World):Prop:=Box W a X 146/\W.rangeAt b p Y.toList
theorem blInside (w:World) (g:Nat) (C:BC) (d:List Nd) (J:BB w g C d) (xs:List Nat) (hx:okW d xs) (b o m c:Nat) (F:List (List Nat)) (V:WL w b o F) (hm:F.length=m) (aC:m<=c) (az:m<=40) (ai:∀ws∈F,okW d ws) (G:b≠g):
  Calls Tryz.prog 131 #[.pointer (some ⟨g,0,none⟩),.agg (wv xs),.slice (some ⟨b,o,none⟩) m c] w (eT bI okN w g C d (dN xs F 0 d)):=by
 have aB:=zl J;have aA:=V.1;obtain⟨a,HX,n,HM⟩:=zk4 J hx V hm
 have ac:Hid (∀k,k<m->okW d (F.getD k [])):=zh λk hk=>by
  rw[<-hm] at hk;rw[yj,yp hk];exact ai _ (AJ hk)
 have ad:Hid (dN xs F 0 d=dN xs (F.drop 0) 0 d):=zh (by rw[yO]);clear J hx V ai hm;go_enter Tryz.func131,Tryz.ntmps131;generalize aw:dN xs F 0 d=PQ at*;clear aw;obtain⟨X,U⟩:=zv (wv xs);have M:=zh U;rw[<-U];clear U;have af:Hid (X.size=16):=zh (by rw[M.out,ak,HX.out.1]);go_upto_region 1 with fail;generalize an:w.alloc _=w1 at*;obtain⟨HB,r⟩:=zB1 an;clear an;replace a:=zh (a.out.below HB);replace n:=zh (n.out.below HB);go_wp2_with fail
 go_loopw [7,8] (λs i wr=>∃(k t:Nat) (Q:List Nd),k<=m+1/\i= .int .i64 k/\s= .int .i64 t/\BB wr g C Q/\Ext d Q/\okN Q t/\Box wr w.heap.size X 146/\WL wr b o F/\w.grownBy wr (some g)/\PQ=dN xs (F.drop k) t Q) (λ_ i _=>m+1-(intOf i).toNat)
 case atStart=>exact⟨0,0,d,yt _,rfl,rfl,a,Ext.refl d,by have:=a.out.2.two;show 0<_;omega,r,n,aI HB,ad⟩
 case round=>
  obtain⟨k,t,Q,hk,rfl,rfl,J,B,ht,am,hl,p,hq⟩:=hrel;clear a HB r n ad;obtain⟨a,x,H,r,n,f⟩:=zk6 J B ht am hl p;have A:=zh hq;clear J B ht am hl p hq
  by_cases ag:k+1<m
  ·have ah:(k:Int)+1<m:=by omega
   have ay:(k:Int)<m:=by omega
   have k0:(0:Int)<=(k:Int):=by omega
   have k1:(0:Int)<=(k:Int)+1:=by omega
   have kn:((k:Int)+1).toNat=k+1:=by omega
   have kw:IntKind.i64.wrap ((k:Int)+1)=(k:Int)+1:=Bt _ (by omega);have aa:=zh (ac k (by omega));have ab:=zh (ac (k+1) (by omega));replace A:=zh (show PQ=_ by rw[A.out,sj (by rw[HM.out];exact ag)]);have N:∀W,WL W b o F->W.rangeAt b (o+k*16) (wv (F.getD k [])).toList:=λW h=>h.2 k (by rw[HM.out];omega);have P:∀W,WL W b o F->W.rangeAt b (o+(k+1)*16) (wv (F.getD (k+1) [])).toList:=λW h=>h.2 (k+1) (by rw[HM.out];omega);generalize F.getD k []=lo at*;generalize F.getD (k+1) []=hi at*;obtain⟨CL,T⟩:=zv (wv lo);obtain⟨CH,R⟩:=zv (wv hi);obtain⟨Z,Y⟩:=zk2 T R;have au:Hid (CL.size=16):=zh (by rw[Z.out,ak,aa.out.1]);have ar:Hid (CH.size=16):=zh (by rw[Y.out,ak,ab.out.1]);rw[<-T] at N;rw[<-R] at P;obtain⟨R1,R2⟩:=zk2 N P;clear T R N P;go_upto_region 5 with fail;refine Ab (S:=SWM w.heap.size X b (o+k*16) CL) (by kernel_rfl) ⟨r,R1 _ n⟩ (λhS=> ?_);have y:Below wr.heap.size wr wr.drew:=ae _;replace r:=zb r y;replace n:=zb n y;replace a:=zb a y;replace f:=zh (aj f y);clear y;generalize wr.drew=w2 at*;refine zt 0 (.pointer (some ⟨g,0,none⟩)) rfl (Or.inl ⟨by rfl,λW E=>by go_simp⟩) ?_;simp only[zp];refine zt 1 (.pointer (some ⟨g,0,none⟩)) rfl (Or.inl ⟨by rfl,λW E=>by go_simp⟩) ?_;simp only[zp];refine zt 2 (.agg X) rfl (mL (by rfl) _ (by rfl) w.heap.size (by rfl) (λW E=>E.1) af) ?_;simp only[zp];refine zt 3 (.slice (some ⟨b,o,none⟩) m c) rfl (Or.inl ⟨by rfl,λW E=>by go_simp⟩) ?_;simp only[zp];refine zt 4 (.int .i64 (k:Nat)) rfl (Or.inl ⟨by rfl,λW E=>by go_simp⟩) ?_;simp only[zp];refine zt 5 (.pointer (some ⟨b,o+k*16,none⟩)) rfl (Or.inl ⟨by rfl,λW E=>by go_simp⟩) ?_;simp only[zp];refine zt 6 (.agg CL) rfl (dy (by rfl) _ (by rfl) b (o+k*16) (by rfl) (λW E=>E.2) au) ?_;simp only[zp];clear hS;refine ax (i:=7) (by kernel_rfl) rfl ?_;go_wp2_with fail;have D:=zh (qS w2 g C Q a xs lo (HX.out.ext x) (aa.out.ext x));rw[<-M.out,<-Z.out] at D;refine D.out.mono λe w3 j=> ?_;have L:=zo A x f j;clear A a x f j D;rcases L with⟨rfl,K⟩|⟨u,d3,rfl,A,a,B,HU,p,x,f⟩
   ·exact⟨rfl,zn K⟩
   replace r:=zg r p (by omega);replace H:=zh (H.out.ext B);have l:=zh p;clear B p;replace n:=zh (n.out.grown l.out G);clear l;unfold bI;go_wp2_with fail;refine⟨⟨r,R1 _ n⟩, ?_⟩;refine ax (i:=8) (by kernel_rfl) rfl ?_;go_wp2_with fail;have D:=zh (kc w3 g C d3 a u HU);refine D.out.mono λe w4 j=> ?_;have L:=zo A x f j;clear A a x f j D;rcases L with⟨rfl,K⟩|⟨nn,d4,rfl,A,a,B,I,p,x,f⟩
   ·exact⟨rfl,zn K⟩
   replace r:=zg r p (by omega);replace H:=zh (H.out.ext B);have l:=zh p;clear B p;replace n:=zh (n.out.grown l.out G);clear l;unfold bI;go_wp2_with fail;refine⟨⟨r,R1 _ n⟩, ?_⟩;refine ax (i:=9) (by kernel_rfl) rfl ?_;go_wp2_with fail;refine⟨⟨r,R1 _ n⟩,AN (by kernel_rfl) ?_ _⟩;go_upto_region 6 with fail;refine Ab (S:=SWM w.heap.size X b (o+(k+1)*16) CH) (by kernel_rfl) ⟨r,R2 _ n⟩ (λhS=> ?_);have y:Below w4.heap.size w4 w4.drew:=ae _;replace r:=zb r y;replace n:=zb n y;replace a:=zb a y;replace f:=zh (aj f y);clear y;generalize w4.drew=w5 at*;refine zt 0 (.pointer (some ⟨g,0,none⟩)) rfl (Or.inl ⟨by rfl,λW E=>by go_simp⟩) ?_;simp only[zp];refine zt 1 (.pointer (some ⟨g,0,none⟩)) rfl (Or.inl ⟨by rfl,λW E=>by go_simp⟩) ?_;simp only[zp];refine zt 2 (.slice (some ⟨b,o,none⟩) m c) rfl (Or.inl ⟨by rfl,λW E=>by go_simp⟩) ?_;simp only[zp];refine zt 3 (.int .i64 (k:Nat)) rfl (Or.inl ⟨by rfl,λW E=>by go_simp⟩) ?_;simp only[zp];refine zt 4 (.int .i64 ((k:Int)+1)) rfl (Or.inl ⟨by rfl,λW E=>by go_simp⟩) ?_;simp only[zp];refine zt 5 (.pointer (some ⟨b,o+(k+1)*16,none⟩)) rfl (Or.inl ⟨by rfl,λW E=>by go_simp⟩) ?_;simp only[zp];refine zt 6 (.agg CH) rfl (dy (by rfl) _ (by rfl) b (o+(k+1)*16) (by rfl) (λW E=>E.2) ar) ?_;simp only[zp];refine zt 7 (.agg X) rfl (mL (by rfl) _ (by rfl) w.heap.size (by rfl) (λW E=>E.1) af) ?_;simp only[zp];clear hS;refine ax (i:=8) (by kernel_rfl) rfl ?_;go_wp2_with fail;have D:=zh (qS w5 g C d4 a hi xs (ab.out.ext x) (HX.out.ext x));rw[<-M.out,<-Y.out] at D;refine D.out.mono λe w6 j=> ?_;have L:=zo A x f j;clear A a x f j D;rcases L with⟨rfl,K⟩|⟨v,d6,rfl,A,a,B,HV,p,x,f⟩
   ·exact⟨rfl,zn K⟩
   replace r:=zg r p (by omega);replace H:=zh (H.out.ext B);replace I:=zh (I.out.ext B);have l:=zh p;clear B p;replace n:=zh (n.out.grown l.out G);clear l;unfold bI;go_wp2_with fail;refine⟨⟨r,R2 _ n⟩, ?_⟩;refine ax (i:=9) (by kernel_rfl) rfl ?_;go_wp2_with fail;have D:=zh (kc w6 g C d6 a v HV);refine D.out.mono λe w7 j=> ?_;have L:=zo A x f j;clear A a x f j D;rcases L with⟨rfl,K⟩|⟨q,d7,rfl,A,a,B,aq,p,x,f⟩
   ·exact⟨rfl,zn K⟩
   replace r:=zg r p (by omega);replace H:=zh (H.out.ext B);replace I:=zh (I.out.ext B);have l:=zh p;clear B p;replace n:=zh (n.out.grown l.out G);clear l;unfold bI;go_wp2_with fail;refine⟨⟨r,R2 _ n⟩, ?_⟩;refine ax (i:=10) (by kernel_rfl) rfl ?_;go_wp2_with fail;refine⟨⟨r,R2 _ n⟩,AN (by kernel_rfl) ?_ _⟩;clear kn kw k1;have D:=zh (jI w7 g C d7 a nn q I aq);go_wp2_with fail;refine D.out.mono λe w8 j=> ?_;have L:=zo A x f j;clear A a x f j D;rcases L with⟨rfl,K⟩|⟨z,d8,rfl,A,a,B,HZ,p,x,f⟩
   ·exact⟨rfl,zn K⟩
   replace r:=zg r p (by omega);replace H:=zh (H.out.ext B);have l:=zh p;clear B p;replace n:=zh (n.out.grown l.out G);clear l;unfold bI;have D:=zh (qQ w8 g C d8 a t z H HZ);go_wp2_with fail;refine D.out.mono ?_;intro e w9 j;rcases j.cases with⟨t',d9,hr,rfl,J,B,ht,p⟩|⟨hr,rfl,p⟩
   rotate_left
   ·refine⟨rfl, ?_⟩;rw[A.out,bU hr];exact⟨ap f p,rfl⟩
   have al:=A.out.trans (bind_some hr);replace A:=zh al;have av:=zh ht;replace a:=zh J;replace r:=zg r p (by omega);replace x:=zh (x.out.trans B);replace f:=zh (ap f p);have l:=zh p;clear al hr J B ht p j D;replace n:=zh (n.out.grown l.out G);clear l;unfold bI;go_wp2_with fail;go_roundw
   ·exact⟨k+2,t',d9,by omega,by go_num,rfl,a,x,av,r,n,f,A⟩
   ·simp[intOf];omega
  ·have ah:¬(k:Int)+1<m:=by omega
   have ao:Hid (PQ=some (t,Q)):=zh (by rw[A.out,tS (by rw[HM.out];exact ag)];rfl);go_wp2_with fail;go_ret;rw[ao.out];exact⟨f,rfl,a,x,H⟩
def SXZ (a ix b c x y:Nat) (W:World):Prop:=W.cell? ⟨a,ix,none⟩=some (.int .i64 (x:Nat))/\W.cell? ⟨b,c,none⟩=some (.int .i64 (y:Nat))
theorem sxz {W:World} {b ix c a x y:Nat} {X Y:Array Value} {T T':TypeId} (f:Box W b X T) (g:Box W c Y T') (d:X[ix]? =some (.int .i64 (x:Nat))) (e:Y[a]? =some (.int .i64 (y:Nat))):SXZ b ix c a x y W:=⟨f.at_ ix _ d,g.at_ a _ e⟩
theorem xr {xs:List Nat} {y k j:Nat} {p:List Nat} {F:List Nat->Bm (List Nat)} (d:xs.length=16) (b:k+j<16):(aO (kL ((xs.take (16-k)).drop j) y) p).bind F=
  (dJ (xs.getD j 0) y).bind λz=>(aO (kL ((xs.take (16-k)).drop (j+1)) y) (p++[z])).bind F:=by
 have c:(xs.take (16-k)).length=16-k:=by rw[yM];omega
 have e1:(xs.take (16-k)).getD j 0=xs.getD j 0:=by
  rw[yj,yj,Bc (by omega)]
 conv=>lhs;rw[bJ (ws:=xs.take (16-k)) (k:=j) (by omega),e1]
 show(aO ((dJ _ y).bind λz=>(kL _ y).bind λa=>Bm.ret (z::a)) p).bind F=_;rw[eG,dI];congr 1
 funext z
 rw[iH]
theorem wZ {xs ys:List Nat} {k:Nat} {s:List Nat} (b:ys.length=16) (hk:k<16):iE xs (ys.drop k) k s=
  (aO (kL ((xs.take (16-k)).drop 0) (ys.getD k 0)) (List.replicate k 0)).bind λp=>(fk s p 0).bind λa=>iE xs (ys.drop (k+1)) (k+1) a:=by
 conv=>lhs;rw[bJ (ws:=ys) (k:=k) (by omega)]
 show(kL (xs.take (16-k)) _).bind _=_;unfold aO;rw[dI,yO]
 rfl
theorem yg (w:World) (g:Nat) (C:BC) (d:List Nd) (o:BB w g C d) (xs ys:List Nat) (hx:okW d xs) (hy:okW d ys):
  Calls Tryz.prog 209 #[.pointer (some ⟨g,0,none⟩),.agg (wv xs),.agg (wv ys)] w (eT cH okW w g C d (iE xs ys 0 (au 0 16) d)):=by
 have a8:=zl o;obtain⟨a,HX,HY⟩:=zk3 o hx hy;have a0:Hid ((wv z16).size=16):=zh (by rw[ak];rfl);have V:=zh (dm o.2 0);have ad:Hid (iE xs ys 0 (au 0 16) d=iE xs (ys.drop 0) 0 (au 0 16) d):=zh (by rw[yO]);generalize a6:iE xs ys 0 (au 0 16) d=PQ at*;clear o hx hy a6;go_enter Tryz.func209,Tryz.ntmps209;obtain⟨CX,al⟩:=zv (wv xs);obtain⟨CY,am⟩:=zv (wv ys);obtain⟨ar,av⟩:=zk2 al am;rw[<-al,<-am];clear al am;go_upto_region 1 with fail;rw[<-dr];generalize T:w.alloc _=zw1 at*;generalize aU:zw1.alloc _=zw2 at*;generalize aW:zw2.alloc _=w1 at*;obtain⟨HB,f,h,l⟩:=zB3 T aU aW;clear T aU aW;replace a:=zh (a.out.below HB);have a3:=zh l.out.lt;go_wp2_with fail;refine(dc w1 0 (by decide)).mono ?_;rintro e w2 ⟨rfl,o⟩;have a2:=zh o.size;replace a:=zb a o;replace f:=zb f o;replace h:=zb h o;replace l:=zb l o;replace HB:=zb HB o;clear o;unfold cH;obtain⟨K0,aH⟩:=zv (au 0 16);rw[<-aH] at V ad⊢;have af:Hid ((wv K0).size=16):=zh (by rw[ak,V.out.1]);have ab:Hid ((wv K0).all (·.oneCell')=true):=zh (bo _);obtain⟨KS,an⟩:=zv (wv K0);have aw:=zh an;rw[<-an] at af ab⊢;clear an aH;have ah:Hid (Box (w2.alloc (.cells #[.int .i64 0,.int .i64 0,.int .i64 0,.int .i64 0,.int .i64 0,.int .i64 0,.int .i64 0,.int .i64 0,.int .i64 0,.int .i64 0,.int .i64 0,.int .i64 0,.int .i64 0,.int .i64 0,.int .i64 0,.int .i64 0] 146)) w2.heap.size #[.int .i64 0,.int .i64 0,.int .i64 0,.int .i64 0,.int .i64 0,.int .i64 0,.int .i64 0,.int .i64 0,.int .i64 0,.int .i64 0,.int .i64 0,.int .i64 0,.int .i64 0,.int .i64 0,.int .i64 0,.int .i64 0] 146):=zh (Box.new w2 _ _);have Z:Hid ((#[.int .i64 0,.int .i64 0,.int .i64 0,.int .i64 0,.int .i64 0,.int .i64 0,.int .i64 0,.int .i64 0,.int .i64 0,.int .i64 0,.int .i64 0,.int .i64 0,.int .i64 0,.int .i64 0,.int .i64 0,.int .i64 0]:Array Value).size=16):=zh rfl;have m:=ac w2 (.cells #[.int .i64 0,.int .i64 0,.int .i64 0,.int .i64 0,.int .i64 0,.int .i64 0,.int .i64 0,.int .i64 0,.int .i64 0,.int .i64 0,.int .i64 0,.int .i64 0,.int .i64 0,.int .i64 0,.int .i64 0,.int .i64 0] 146);replace a:=zb a m;replace f:=zb f m;replace h:=zb h m;replace l:=zb l m;replace HB:=zb HB m;clear m;go_upto_region 2 with(refine aM rfl _ _ rfl w2.heap.size KS (by rfl) (by rfl) ah Z af ab ?_;intro w3 n r);have G:Hid (w.heap.size+1+1<w2.heap.size):=zh (by have:=a3.out;have:=a2.out;omega);replace a:=zh (a.out.grownBox ah (by decide) (by have:=G.out;omega) r);replace f:=zh (ai f r (by have:=G.out;omega));replace h:=zh (ai h r (by have:=G.out;omega));replace l:=zh (ai l r (by have:=G.out;omega));have c:Hid (w.grownBy w3 (some g)):=zh (aG (aI HB) r (by have:=G.out;omega));rw[aw.out] at n;rw[ar.out] at f;rw[av.out] at h;clear ah Z r HB aw af ab ar av;generalize w2.heap.size=gs at*;go_wp2_with fail
 go_loopw [12] (λi wr=>∃(k:Nat) (s:List Nat) (d1:List Nd),k<=16/\i= .int .i64 k/\BB wr g C d1/\Ext d d1/\okW d1 s/\Box wr w.heap.size (wv xs) 146/\Box wr (w.heap.size+1) (wv ys) 146/\Box wr (w.heap.size+1+1) (wv z16) 146/\Box wr gs (wv s) 146/\w.grownBy wr (some g)/\PQ=iE xs (ys.drop k) k s d1) (λi _=>16-(intOf i).toNat)
 case atStart=>exact⟨0,K0,d,yt _,rfl,a,Ext.refl d,V,f,h,l,n,c,ad⟩
 case round=>
  obtain⟨k,s,d1,hk,rfl,o,H,hs,Q,R,N,P,q,hq⟩:=hrel;clear a V f h l n c ad;obtain⟨a,F,t,f,h,l⟩:=zk6 o H hs Q R N;obtain⟨n,c,A⟩:=zk3 P q hq;have ba:=G.out;have aJ:=c.out.size;clear o H hs Q R N P q hq;have J:Hid ((wv s).size=16):=zh (by rw[ak,t.out.1]);have H1:Hid ((wv s).all (·.oneCell')=true):=zh (bo _)
  by_cases aq:k<16
  ·have aQ:(k:Int)<16:=by omega
   have E:=zh ((HY.out.ext F).at aq);have GY:=zh (cx (ws:=ys) (k:=k) (by rw[HY.out.1];exact aq));replace A:=zh (show PQ=_ by rw[A.out,wZ HY.out.1 aq]);generalize ys.getD k 0=y at*;go_upto_region 6 with fail;rw[<-dr];generalize T:wr.alloc _=w4 at*;obtain⟨m,B⟩:=zA1 T;clear T;have a9:gs<wr.heap.size:=n.out.lt;replace a:=zb a m;replace f:=zb f m;replace h:=zb h m;replace l:=zb l m;replace n:=zb n m;replace c:=zh (aj c m);clear m;have bb:w.heap.size<=wr.heap.size:=aJ;generalize wr.heap.size=gp at*;go_wp2_with fail;obtain⟨wo,aS⟩:=zv (w4:World);rw[<-aS] at a f h l n B c⊢;clear aS w4
   go_loopw [10] (λi wq=>∃(j:Nat) (cur:List Nat) (K:List Nd),k+j<=16/\i= .int .i64 ((k+j:Nat):Int)/\BB wq g C K/\Ext d K/\okW K s/\okW K cur/\okN K y/\Box wq w.heap.size (wv xs) 146/\Box wq (w.heap.size+1) (wv ys) 146/\Box wq (w.heap.size+1+1) (wv z16) 146/\Box wq gs (wv s) 146/\Box wq gp (wv cur) 146/\w.grownBy wq (some g)/\PQ=((aO (kL ((xs.take (16-k)).drop j) y) (cur.take (k+j))).bind λp=>(fk s p 0).bind λs'=>iE xs (ys.drop (k+1)) (k+1) s') K) (λi _=>16-(intOf i).toNat)
   case atStart=>exact⟨0,z16,d1,by omega,rfl,a,F,t,qn a.out.2,E,f,h,l,n,B,c,by
    have e:z16.take (k+0)=List.replicate k 0:=by unfold z16;rw[List.take_replicate];congr 1;omega
    rw[e];exact A⟩
   case round=>
    obtain⟨j,cur,K,hj,rfl,o,H,hs,aa,hy,Q,R,N,P,aT,q,hq⟩:=hrel;clear a F t E f h l n B c A;obtain⟨a,F,t,U,E,f⟩:=zk6 o H hs aa hy Q;obtain⟨h,l,n,B,c,A⟩:=zk6 R N P aT q hq;clear o H hs aa hy Q R N P aT q hq
    by_cases aL:k+j<16
    ·have aN:(k:Int)+(j:Int)<16:=by omega
     have j0:(0:Int)<=(j:Int):=by omega
     have k0:(0:Int)<=(k:Int):=by omega
     have bd:(0:Int)<=(k:Int)+(j:Int):=by omega
     have bc:(j:Int)<16:=by omega
     have aX:=zh ((HX.out.ext F).at (k:=j) (by omega));have GX:=zh (cx (ws:=xs) (k:=j) (by rw[HX.out.1];omega));have GC:=zh (cx (ws:=cur) (k:=k+j) (by rw[U.out.1];exact aL));replace A:=zh (show PQ=_ by rw[A.out,xr HX.out.1 aL]);generalize xs.getD j 0=x at*;generalize cur.getD (k+j) 0=f0 at*;have be:((k:Int)+(j:Int)).toNat=k+j:=by omega
     have kw:IntKind.i64.wrap ((k:Int)+(j:Int)-(k:Int))=(j:Int):=by rw[show(k:Int)+(j:Int)-(k:Int)=(j:Int) by omega];exact Bt _ (by omega)
     go_upto_region 9 with fail;refine Ab (S:=SXZ w.heap.size j (w.heap.size+1) k x y) (by kernel_rfl) (sxz f h GX GY) (λhS=> ?_);have D:Below wr.heap.size wr wr.drew:=ae _;replace f:=zb f D;replace h:=zb h D;replace l:=zb l D;replace n:=zb n D;replace B:=zb B D;replace a:=zb a D;replace c:=zh (aj c D);clear D;generalize wr.drew=w5 at*;refine zt 0 (.int .i64 ((k:Int)+(j:Int))) rfl (Or.inl ⟨by rfl,λW L=>by go_simp⟩) ?_;simp only[zp];refine zt 1 (.pointer (some ⟨g,0,none⟩)) rfl (Or.inl ⟨by rfl,λW L=>by go_simp⟩) ?_;simp only[zp];refine zt 2 (.int .i64 ((k:Int)+(j:Int))) rfl (Or.inl ⟨by rfl,λW L=>by go_simp⟩) ?_;simp only[zp];refine zt 3 (.int .i64 (k:Nat)) rfl (Or.inl ⟨by rfl,λW L=>by go_simp⟩) ?_;simp only[zp];refine zt 4 (.int .i64 (j:Nat)) rfl (Or.inl ⟨by rfl,λW L=>by go_simp⟩) ?_;simp only[zp];refine zt 5 (.pointer (some ⟨w.heap.size,j,none⟩)) rfl (Or.inl ⟨by rfl,λW L=>by go_simp⟩) ?_;simp only[zp];refine zt 6 (.int .i64 (x:Nat)) rfl (Or.inl ⟨by rfl,λW L=>by obtain⟨s1,s2⟩:=L;go_simp⟩) ?_;simp only[zp];refine zt 7 (.int .i64 (k:Nat)) rfl (Or.inl ⟨by rfl,λW L=>by go_simp⟩) ?_;simp only[zp];refine zt 8 (.pointer (some ⟨w.heap.size+1,k,none⟩)) rfl (Or.inl ⟨by rfl,λW L=>by go_simp⟩) ?_;simp only[zp];refine zt 9 (.int .i64 (y:Nat)) rfl (Or.inl ⟨by rfl,λW L=>by obtain⟨s1,s2⟩:=L;go_simp⟩) ?_;simp only[zp];clear hS kw;refine ax (i:=10) (by kernel_rfl) rfl ?_;go_wp2_with fail;have CO:=zh (jI w5 g C K a x y aX E);refine CO.out.mono λe w6 M=> ?_;have hz:=zo A F c M;clear A a F c M CO;rcases hz with⟨rfl,hn⟩|⟨z,d3,rfl,A,a,H,HZ,q,F,c⟩
     ·exact⟨rfl,zn hn⟩
     replace f:=zg f q (by omega);replace h:=zg h q (by omega);replace l:=zg l q (by omega);replace n:=zg n q (by omega);replace B:=zg B q (by omega);replace t:=zh (t.out.ext H);replace U:=zh (U.out.ext H);replace E:=zh (E.out.ext H);clear H q;unfold bI;go_wp2_with fail;refine⟨sxz f h GX GY, ?_⟩;refine ax (i:=11) (by kernel_rfl) rfl ?_;go_wp2_with fail;refine⟨sxz f h GX GY, ?_⟩;have xz:=B.out.frozen (k+j);have xl:=B.out.lt;have x1:=B.out.at_ (k+j) _ GC;refine ax (i:=12) (by kernel_rfl) rfl ?_;go_wp2_with fail;have X:=zh (a.out.setBox B (by decide) (by omega) (k+j) (.int .i64 (z:Nat)));have aE:=zh (f.out.setNe (p:=⟨gp,(k+j),none⟩) (by show gp≠_;omega) (.int .i64 (z:Nat)));have aF:=zh (h.out.setNe (p:=⟨gp,(k+j),none⟩) (by show gp≠_;omega) (.int .i64 (z:Nat)));have aB:=zh (l.out.setNe (p:=⟨gp,(k+j),none⟩) (by show gp≠_;omega) (.int .i64 (z:Nat)));have aC:=zh (n.out.setNe (p:=⟨gp,(k+j),none⟩) (by show gp≠_;omega) (.int .i64 (z:Nat)));have ag:=zh (B.out.set_ (k+j) (.int .i64 (z:Nat)));have Y:=zh (bX (i:=(k+j)) (u:=(.int .i64 (z:Nat))) c (b:=gp) (by omega));clear a f h l n B c xz xl x1;generalize w6.setCell ⟨gp,(k+j),none⟩ (.int .i64 (z:Nat))=w7 at*;rw[iZ] at ag;have a:=X;have c:=Y;have B:=ag;have f:=aE;have h:=aF;have l:=aB;have n:=aC;clear X Y ag aE aF aB aC;replace U:=zh (U.out.set (k+j) HZ);have a4:=zh (eM (x:=z) (show(k+j)<cur.length by have:=U.out.1;rw[As] at this;omega));have a7:=zh (iw (cur:=cur) (k:=(k+j)) (x:=z));generalize cur.set (k+j) z=cur' at*;refine⟨sxz f h GX GY,AN (by kernel_rfl) ?_ _⟩;go_wp2_with fail;go_roundw
     ·exact⟨j+1,cur',d3,by omega,by go_num,a,F,t,U,E,f,h,l,n,B,c,by
       have e:cur'.take (k+(j+1))=cur.take (k+j)++[z]:=a4.out
       rw[e];exact A⟩
     ·simp[intOf];omega
    ·have aN:¬(k:Int)+(j:Int)<16:=by omega
     have aK:k+j=16:=by omega
     have a1:Hid ((wv cur).size=16):=zh (by rw[ak,U.out.1])
     replace A:=zh (show PQ=((fk s cur 0).bind λs'=>iE xs (ys.drop (k+1)) (k+1) s') K by
      have e1:cur.take (k+j)=cur:=Ai (by rw[U.out.1];omega);have e2:(xs.take (16-k)).drop j=[]:=AF (by rw[yM];omega);rw[A.out,e1,e2];show(aO (Bm.ret []) cur).bind _ K=_
      rw[iG];rfl)
     clear aK;go_wp2_with(first|(refine bj rfl _ rfl gs rfl n J ?_)|(refine bj rfl _ rfl gp rfl B a1 ?_));have CO:=zh (wm wr g C K a s cur t U 0 (by have:=a.out.2.two;show 0<_;omega));refine CO.out.mono ?_;intro e w6 M;rcases M.cases with⟨s',d3,hr,rfl,o,H,ht,q⟩|⟨hr,rfl,q⟩
     rotate_left
     ·refine⟨rfl, ?_⟩;rw[A.out,bU hr];exact⟨ap c q,rfl⟩
     have aR:=A.out.trans (bind_some hr);replace A:=zh aR;have ay:=zh ht;replace a:=zh o;replace f:=zg f q (by omega);replace h:=zg h q (by omega);replace l:=zg l q (by omega);replace n:=zg n q (by omega);replace F:=zh (F.out.trans H);replace c:=zh (ap c q);clear aR hr o H ht q M CO;unfold cH;have az:Hid ((wv s').size=16):=zh (by rw[ak,ay.out.1]);have aA:Hid ((wv s').all (·.oneCell')=true):=zh (bo _);obtain⟨RS,ao⟩:=zv (wv s');have aZ:=zh ao;rw[<-ao] at az aA⊢;clear ao;go_wp2_with(refine aM rfl _ _ rfl gs RS (by rfl) (by rfl) n J az aA ?_;intro w7 aD I);rw[aZ.out] at aD;go_roundw
     ·exact⟨k+1,s',d3,by omega,by go_num,a.out.grownBox n (by decide) (by omega) I,F,ay,ai f I (by omega),ai h I (by omega),ai l I (by omega),aD,aG c I (by omega),A⟩
     ·simp[intOf];omega
  ·have aQ:¬(k:Int)<16:=by omega
   have aP:k=16:=by omega
   subst aP
   have aY:Hid (PQ=some (s,d1)):=zh (by
    rw[A.out,AF (by rw[HY.out.1];exact yq _)];rfl)
   go_wp2_with(first|(refine bj rfl _ rfl gs rfl n J ?_)|(refine aM rfl _ _ rfl (w.heap.size+1+1) (wv s) (by rfl) (by rfl) l a0 J H1 ?_;intro w4 a5 r));refine yQ (v:= .agg (wv s)) (aV Tryz.results209 _ rfl a5 J) rfl ?_;rw[aY.out];exact⟨aG c r (by omega),rfl,a.out.grownBox l (by decide) (by omega) r,F,t⟩
theorem oH {os:List (Option Nat)} {i:Nat} {o:Option Nat} (h:os[i]? =some o):os.drop i=o::os.drop (i+1):=by
 obtain⟨hi,rfl⟩:=yJ.1 h;exact Aq hi
theorem nQ {t:Nat} {a:List Nat} {os:List (Option Nat)} {i f:Nat} {p:List Nat} {F:List Nat->Bm (List Nat)} (hi:i<a.length) (c:os[i]? =some (some f)):(aO (cA t (a.drop i) (os.drop i)) p).bind F=
  (dJ t f).bind λz=>(orB (a.getD i 0) z).bind λb=>(aO (cA t (a.drop (i+1)) (os.drop (i+1))) (p++[b])).bind F:=by
 rw[bJ (ws:=a) (k:=i) hi,oH c];show(aO ((dJ t f).bind λz=>(orB _ z).bind λb=>(cA t _ _).bind λr=>Bm.ret (b::r)) p).bind F=_;simp only[eG,dI];congr 1;funext z;congr 1;funext b;have:=kj (cA t (a.drop (i+1)) (os.drop (i+1))) b p;rw[<-this,dI]
theorem nR {t:Nat} {a:List Nat} {os:List (Option Nat)} {i:Nat} {p:List Nat} {F:List Nat->Bm (List Nat)} (hi:i<a.length) (b:os[i]? =some none):(aO (cA t (a.drop i) (os.drop i)) p).bind F=
  (aO (cA t (a.drop (i+1)) (os.drop (i+1))) (p++[a.getD i 0])).bind F:=by
 rw[bJ (ws:=a) (k:=i) hi,oH b];show(aO ((cA t _ _).bind λr=>Bm.ret (_::r)) p).bind F=_;rw[iH]
theorem uH {x:List Nat} {s i:Nat} (b:x.length=16) (a:s<16) (hi:i<16):(fI true s x)[i]? =some (if s<=i then some (x.getD (i-s) 0) else none):=by
 unfold fI;rw[yz rfl]
 by_cases h:s<=i
 ·rw[yz h,yG (by rw[Ax];exact h),Ax,yW,Bc (by omega),yp (by omega),yj,yp (by omega)];rfl
 ·rw[yw h,yP (by rw[Ax];omega),Bg,yz (by omega)]
theorem rq {x:List Nat} {s i:Nat} (b:x.length=16) (c:s<16) (hi:i<16):(fI false s x)[i]? =some (if i+s<16 then some (x.getD (i+s) 0) else none):=by
 unfold fI;rw[yw (by decide)];have a:((x.drop s).map some).length=16-s:=by rw[yD,AY,b]
 by_cases h:i+s<16
 ·rw[yz h,yP (by rw[a];omega),yW,Br,yp (by omega),yj,yp (by omega)];simp only[Nat.add_comm s i,AX,AV]
 ·rw[yw h,yG (by rw[a];omega),Bg,yz (by rw[a];omega)]
theorem pp {t:Nat} {a:List Nat} {os:List (Option Nat)} {p:List Nat} {F:List Nat->Bm (List Nat)} (b:a.length=16):(aO (cA t (a.drop 16) (os.drop 16)) p).bind F=F p:=by
 rw[AF (Nat.le_of_eq b)];show(aO (Bm.ret []) p).bind F=_;rw[iG];rfl
theorem pe {cur:List Nat} {k:Nat} (hk:k<cur.length):cur.take (k+1)=cur.take k++[cur.getD k 0]:=by
 rw[Am,yp hk,yj,yp hk];rfl
theorem blShiftL (w:World) (g:Nat) (C:BC) (d:List Nd) (r:BB w g C d) (xs ys:List Nat) (hx:okW d xs) (hy:okW d ys):
  Calls Tryz.prog 211 #[.pointer (some ⟨g,0,none⟩),.agg (wv xs),.agg (wv ys),.int .i64 1] w (eT cH okW w g C d (bP true xs ys 16 0 (au 0 16) d)):=by
 have bg:=zl r;obtain⟨a,HX,HY⟩:=zk3 r hx hy;have a6:Hid ((wv z16).size=16):=zh (by rw[ak];rfl);have Z:=zh (dm r.2 0);have aa:Hid (bP true xs ys 16 0 (au 0 16) d=bP true xs ys 16 0 (au 0 16) d):=zh rfl;obtain⟨PQ,aC⟩:=zv (bP true xs ys 16 0 (au 0 16) d);replace aa:Hid (PQ=bP true xs ys (16-0) 0 (au 0 16) d):=zh aC;rw[<-aC];clear r hx hy aC;go_enter Tryz.func211,Tryz.ntmps211;obtain⟨CX,az⟩:=zv (wv xs);obtain⟨CY,aA⟩:=zv (wv ys);obtain⟨aF,aH⟩:=zk2 az aA;rw[<-az,<-aA];clear az aA;have a8:Hid (CY.size=16):=zh (by rw[aH.out,ak,HY.out.1]);go_upto_region 1 with fail;rw[<-dr];generalize a0:w.alloc _=zw1 at*;generalize a1:zw1.alloc _=zw2 at*;generalize a2:zw2.alloc _=w1 at*;obtain⟨HB,l,n,h⟩:=zB3 a0 a1 a2;clear a0 a1 a2;replace a:=zh (a.out.below HB);have a9:=zh h.out.lt;go_wp2_with fail;refine(dc w1 0 (by decide)).mono ?_;rintro e w2 ⟨rfl,r⟩;have a7:=zh r.size;replace a:=zb a r;replace l:=zb l r;replace n:=zb n r;replace h:=zb h r;replace HB:=zb HB r;clear r;unfold cH;obtain⟨K0,aQ⟩:=zv (au 0 16);rw[<-aQ] at Z aa⊢;have av:Hid ((wv K0).size=16):=zh (by rw[ak,Z.out.1]);have am:Hid ((wv K0).all (·.oneCell')=true):=zh (bo _);obtain⟨KS,aB⟩:=zv (wv K0);have aJ:=zh aB;rw[<-aB] at av am⊢;clear aB aQ;have ax:Hid (Box (w2.alloc (.cells #[.int .i64 0,.int .i64 0,.int .i64 0,.int .i64 0,.int .i64 0,.int .i64 0,.int .i64 0,.int .i64 0,.int .i64 0,.int .i64 0,.int .i64 0,.int .i64 0,.int .i64 0,.int .i64 0,.int .i64 0,.int .i64 0] 146)) w2.heap.size #[.int .i64 0,.int .i64 0,.int .i64 0,.int .i64 0,.int .i64 0,.int .i64 0,.int .i64 0,.int .i64 0,.int .i64 0,.int .i64 0,.int .i64 0,.int .i64 0,.int .i64 0,.int .i64 0,.int .i64 0,.int .i64 0] 146):=zh (Box.new w2 _ _);have af:Hid ((#[.int .i64 0,.int .i64 0,.int .i64 0,.int .i64 0,.int .i64 0,.int .i64 0,.int .i64 0,.int .i64 0,.int .i64 0,.int .i64 0,.int .i64 0,.int .i64 0,.int .i64 0,.int .i64 0,.int .i64 0,.int .i64 0]:Array Value).size=16):=zh rfl;have M:=ac w2 (.cells #[.int .i64 0,.int .i64 0,.int .i64 0,.int .i64 0,.int .i64 0,.int .i64 0,.int .i64 0,.int .i64 0,.int .i64 0,.int .i64 0,.int .i64 0,.int .i64 0,.int .i64 0,.int .i64 0,.int .i64 0,.int .i64 0] 146);replace a:=zb a M;replace l:=zb l M;replace n:=zb n M;replace h:=zb h M;replace HB:=zb HB M;clear M;go_upto_region 2 with(refine aM rfl _ _ rfl w2.heap.size KS (by rfl) (by rfl) ax af av am ?_;intro w3 m D);have L:Hid (w.heap.size+1+1<w2.heap.size):=zh (by have:=a9.out;have:=a7.out;omega);replace a:=zh (a.out.grownBox ax (by decide) (by have:=L.out;omega) D);replace l:=zh (ai l D (by have:=L.out;omega));replace n:=zh (ai n D (by have:=L.out;omega));replace h:=zh (ai h D (by have:=L.out;omega));have c:Hid (w.grownBy w3 (some g)):=zh (aG (aI HB) D (by have:=L.out;omega));rw[aJ.out] at m;rw[aF.out] at l;clear ax af D HB aJ av am aF;generalize w2.heap.size=gs at*;go_wp2_with fail
 go_loopw [15] (λi wr=>∃(k:Nat) (s:List Nat) (d1:List Nd),k<=16/\i= .int .i64 k/\BB wr g C d1/\Ext d d1/\okW d1 s/\Box wr w.heap.size (wv xs) 146/\Box wr (w.heap.size+1) CY 146/\Box wr (w.heap.size+1+1) (wv z16) 146/\Box wr gs (wv s) 146/\w.grownBy wr (some g)/\PQ=bP true xs ys (16-k) k s d1) (λi _=>16-(intOf i).toNat)
 case atStart=>exact⟨0,K0,d,yt _,rfl,a,Ext.refl d,Z,l,n,h,m,c,aa⟩
 case round=>
  obtain⟨k,s,d1,hk,rfl,r,E,hs,U,V,R,T,B,hq⟩:=hrel;clear a Z l n h m c aa;obtain⟨a,F,H,l,n,h⟩:=zk6 r E hs U V R;obtain⟨m,c,A⟩:=zk3 T B hq;have bh:=L.out;have be:=c.out.size;clear r E hs U V R T B hq
  by_cases aW:k<16
  ·have aX:(k:Int)<16:=by omega
   have k0:(0:Int)<=(k:Int):=by omega
   replace A:=zh (show PQ=((eqB ys (au k 16) 1).bind λt=>(cA t s (fI true k xs)).bind λy=>bP true xs ys (16-(k+1)) (k+1) y) d1 by
    have e:16-k=(16-(k+1))+1:=by omega
    rw[A.out,e];rfl)
   go_upto_region 5 with fail;obtain⟨TS,aD⟩:=zv (wv (au k 16));have aE:=zh aD
   have CT:∀p:Lat wr,Calls Tryz.prog 124 #[.int .i64 (k:Nat)] p.w λe bd=>e= .returned (.agg TS)/\∃q:Lat wr,bd=q.w:=λp=>by
    have:=bQ (dc p.w k (by omega));unfold cH at this
    rwa [<-aD] at this
   clear aD;refine aL 4 (by kernel_rfl) (by kernel_rfl) ?_;simp only[yX,y9,y6,yO]
   go_big_quiet_step (fail)
   refine pV rfl _ rfl (w.heap.size+1) rfl n a8 ?_;go_simp
   go_big_quiet_step (fail)
   go_big_quiet_step (with_reducible exact CT _)
   refine yN ?_;intro w4 r;clear CT;replace a:=zb a r;replace l:=zb l r;replace n:=zb n r;replace h:=zb h r;replace m:=zb m r;replace c:=zh (aj c r);clear r;have Y:=zh (m5 w4 g C d1 a ys (au k 16) (HY.out.ext F) (dm a.out.2 k));rw[<-aH.out,<-aE.out] at Y;go_wp2_with fail;refine Y.out.mono λe w5 G=> ?_;have hz:=zo A F c G;clear A a F c G Y;rcases hz with⟨rfl,hn⟩|⟨t,d2,rfl,A,a,E,X,B,F,c⟩
   ·exact⟨rfl,zn hn⟩
   replace l:=zg l B (by omega);replace n:=zg n B (by omega);replace h:=zg h B (by omega);replace m:=zg m B (by omega);replace H:=zh (H.out.ext E);clear E B;clear aE;unfold bI
   replace A:=zh (show PQ=((aO (cA t (s.drop 0) ((fI true k xs).drop 0)) (s.take 0)).bind λy=>bP true xs ys (16-(k+1)) (k+1) y) d2 by
    rw[A.out,yO,yO,y9,iF])
   go_wp2_with fail;obtain⟨wo,aZ⟩:=zv (w5:World);rw[<-aZ] at a l n h m c⊢;clear aZ w5
   go_loopw [23] (λi wq=>∃(j:Nat) (cur:List Nat) (N:List Nd),j<=16/\i= .int .i64 (j:Nat)/\BB wq g C N/\Ext d N/\okW N cur/\okN N t/\Box wq w.heap.size (wv xs) 146/\Box wq (w.heap.size+1) CY 146/\Box wq (w.heap.size+1+1) (wv z16) 146/\Box wq gs (wv cur) 146/\cur.drop j=s.drop j/\w.grownBy wq (some g)/\PQ=((aO (cA t (s.drop j) ((fI true k xs).drop j)) (cur.take j)).bind λy=>bP true xs ys (16-(k+1)) (k+1) y) N) (λi _=>16-(intOf i).toNat)
   case atStart=>exact⟨0,s,d2,by omega,rfl,a,F,H,X,l,n,h,m,rfl,c,A⟩
   case round=>
    obtain⟨j,cur,N,hj,rfl,r,E,ag,ht,U,V,R,T,aR,B,hq⟩:=hrel;have aw:Hid (s.length=16):=zh H.out.1;clear a F H X l n h m c A;obtain⟨a,F,K,X,l,n⟩:=zk6 r E ag ht U V;obtain⟨h,m,ao,c,A⟩:=zk5 R T aR B hq;clear r E ag ht U V R T aR B hq
    by_cases J:j<16
    ·have aT:(j:Int)<16:=by omega
     have j0:(0:Int)<=(j:Int):=by omega
     have an:=zh (K.out.at (k:=j) J);have GC:=zh (cx (ws:=cur) (k:=j) (by rw[K.out.1];exact J));have aq:=zh (fK ao)
     by_cases hf:k<=j
     ·obtain⟨f,aS⟩:=zv (j-k:Nat);have ah:f<16:=by omega
      have bc:(j:Int)-(k:Int)=(f:Int):=by omega
      have f0:(0:Int)<=(f:Int):=by omega
      have bf:(f:Int)<16:=by omega
      replace A:=zh (show PQ=((dJ t (xs.getD f 0)).bind λz=>(orB (cur.getD j 0) z).bind λP=>(aO (cA t (s.drop (j+1)) ((fI true k xs).drop (j+1))) (cur.take j++[P])).bind λy=>bP true xs ys (16-(k+1)) (k+1) y) N by
       rw[A.out,nQ (f:=xs.getD f 0) (by rw[aw.out];exact J) (by rw[uH HX.out.1 aW J,yz hf,<-aS]),aq.out])
      have a3:=zh ((HX.out.ext F).at (k:=f) ah);have GX:=zh (cx (ws:=xs) (k:=f) (by rw[HX.out.1];exact ah));generalize xs.getD f 0=x at*;generalize cur.getD j 0=o at*;clear hf aS aq;go_upto_region 11 with fail;clear bc;refine eC (S:=SXZ gs j w.heap.size f o x) 11 (by kernel_rfl) (sxz m l GC GX) (λhS=> ?_);have I:Below wr.heap.size wr wr.drew:=ae _;replace l:=zb l I;replace n:=zb n I;replace h:=zb h I;replace m:=zb m I;replace a:=zb a I;replace c:=zh (aj c I);clear I;generalize wr.drew=w6 at*;refine zuP 0 (.int .i64 (j:Nat)) rfl (Or.inl ⟨by rfl,λW Q=>by go_simp⟩) ?_;simp only[zp];refine zuP 1 (.pointer (some ⟨g,0,none⟩)) rfl (Or.inl ⟨by rfl,λW Q=>by go_simp⟩) ?_;simp only[zp];refine zuP 2 (.int .i64 (j:Nat)) rfl (Or.inl ⟨by rfl,λW Q=>by go_simp⟩) ?_;simp only[zp];refine zuP 3 (.pointer (some ⟨gs,j,none⟩)) rfl (Or.inl ⟨by rfl,λW Q=>by go_simp⟩) ?_;simp only[zp];refine zu 4 (.int .i64 (o:Nat)) rfl (Or.inl ⟨by rfl,λW Q=>by obtain⟨s1,s2⟩:=Q;go_simp⟩) ?_;simp only[zp];refine zuP 5 (.pointer (some ⟨g,0,none⟩)) rfl (Or.inl ⟨by rfl,λW Q=>by go_simp⟩) ?_;simp only[zp];refine zuP 6 (.int .i64 (t:Nat)) rfl (Or.inl ⟨by rfl,λW Q=>by go_simp⟩) ?_;simp only[zp];refine zuP 7 (.int .i64 (f:Nat)) rfl (Or.inl ⟨by rfl,λW Q=>by go_simp⟩) ?_;simp only[zp];refine zuP 8 (.pointer (some ⟨w.heap.size,f,none⟩)) rfl (Or.inl ⟨by rfl,λW Q=>by go_simp⟩) ?_;simp only[zp];refine zu 9 (.int .i64 (x:Nat)) rfl (Or.inl ⟨by rfl,λW Q=>by obtain⟨s1,s2⟩:=Q;go_simp⟩) ?_;simp only[zp];clear hS;refine jB (i:=10) (by kernel_rfl) rfl ?_;go_wp2_with fail;have Y:=zh (jI w6 g C N a t x X a3);refine Y.out.mono λe w7 G=> ?_;have hz:=zo A F c G;clear A a F c G Y;rcases hz with⟨rfl,hn⟩|⟨z,d4,rfl,A,a,E,HZ,B,F,c⟩
      ·exact⟨rfl,zn hn⟩
      replace l:=zg l B (by omega);replace n:=zg n B (by omega);replace h:=zg h B (by omega);replace m:=zg m B (by omega);replace K:=zh (K.out.ext E);replace X:=zh (X.out.ext E);replace an:=zh (an.out.ext E);clear E B;unfold bI;go_wp2_with fail;refine⟨λ_=>sxz m l GC GX, ?_⟩;refine bz (i:=11) (by kernel_rfl) (by kernel_rfl) rfl ?_;go_wp2_with fail;have Y:=zh (qQ w7 g C d4 a o z an HZ);refine Y.out.mono ?_;intro e w8 G;rcases G.cases with⟨P,d5,hr,rfl,r,E,ht,B⟩|⟨hr,rfl,B⟩
      rotate_left
      ·refine⟨rfl, ?_⟩;rw[A.out,bU hr];exact⟨ap c B,rfl⟩
      have aY:=A.out.trans (bind_some hr);replace A:=zh aY;have HO:=zh ht;replace a:=zh r;replace l:=zg l B (by omega);replace n:=zg n B (by omega);replace h:=zg h B (by omega);replace m:=zg m B (by omega);replace K:=zh (K.out.ext E);replace X:=zh (X.out.ext E);replace F:=zh (F.out.trans E);replace c:=zh (ap c B);clear aY hr r E ht B G Y;unfold bI;go_wp2_with fail;show bu _ _ _ _ _ _ _ _ _ _;refine bz (i:=12) (by kernel_rfl) (by kernel_rfl) rfl ?_;go_wp2_with fail;show bu _ _ _ _ _ _ _ _ _ _;have xz:=m.out.frozen j;have xl:=m.out.lt;have x1:=m.out.at_ j _ GC;refine bz (i:=13) (by kernel_rfl) (by kernel_rfl) rfl ?_;go_wp2_with fail;refine eD (by kernel_rfl) ?_ _;have ab:=zh (a.out.setBox m (by decide) (by omega) j (.int .i64 (P:Nat)));have aN:=zh (l.out.setNe (p:=⟨gs,j,none⟩) (by show gs≠_;omega) (.int .i64 (P:Nat)));have aP:=zh (n.out.setNe (p:=⟨gs,j,none⟩) (by show gs≠_;omega) (.int .i64 (P:Nat)));have aK:=zh (h.out.setNe (p:=⟨gs,j,none⟩) (by show gs≠_;omega) (.int .i64 (P:Nat)));have ay:=zh (m.out.set_ j (.int .i64 (P:Nat)));have ad:=zh (bX (i:=j) (u:=(.int .i64 (P:Nat))) c (b:=gs) (by omega));clear a l n h m c xz xl x1;generalize w8.setCell ⟨gs,j,none⟩ (.int .i64 (P:Nat))=w9 at*;rw[iZ] at ay;have a:=ab;have c:=ad;have m:=ay;have l:=aN;have n:=aP;have h:=aK;clear ab ad ay aN aP aK;replace K:=zh (K.out.set j HO);have ba:=zh (eM (x:=P) (show j<cur.length by have:=K.out.1;rw[As] at this;omega));have a4:=zh (iw (cur:=cur) (k:=j) (x:=P));generalize cur.set j P=cur' at*;go_wp2_with fail;go_roundw
      ·exact⟨j+1,cur',d5,by omega,by go_num,a,F,K,X,l,n,h,m,by rw[a4.out];exact fb ao,c,by rw[ba.out];exact A⟩
      ·simp[intOf];omega
     ·have n1:¬((j:Int)-(k:Int)≥0):=by omega
      have n2:j<k:=by omega
      have n3:(j:Int)<(k:Int):=by omega
      replace A:=zh (show PQ=((aO (cA t (s.drop (j+1)) ((fI true k xs).drop (j+1))) (cur.take (j+1))).bind λy=>bP true xs ys (16-(k+1)) (k+1) y) N by
       rw[A.out,nR (by rw[aw.out];exact J) (by rw[uH HX.out.1 aW J,yw hf]),pe (by rw[K.out.1];exact J),aq.out])
      go_wp2_with fail;go_roundw
      ·exact⟨j+1,cur,N,by omega,by go_num,a,F,K,X,l,n,h,m,fb ao,c,A⟩
      ·simp[intOf];omega
    ·have aT:¬(j:Int)<16:=by omega
     have al:j=16:=by omega
     replace A:=zh (show PQ=bP true xs ys (16-(k+1)) (k+1) cur N by
      have e1:cur.take j=cur:=Ai (by rw[K.out.1];omega)
      rw[A.out,e1,al,pp aw.out])
     clear al;go_wp2_with fail;go_roundw
     ·exact⟨k+1,cur,N,by omega,by go_num,a,F,K,l,n,h,m,c,A⟩
     ·simp[intOf];omega
  ·have aX:¬(k:Int)<16:=by omega
   have aU:k=16:=by omega
   subst aU;have ar:Hid ((wv s).size=16):=zh (by rw[ak,H.out.1]);have H1:Hid ((wv s).all (·.oneCell')=true):=zh (bo _);have a5:Hid (PQ=some (s,d1)):=zh (by rw[A.out];rfl);go_wp2_with(first|(refine bj rfl _ rfl gs rfl m ar ?_)|(refine aM rfl _ _ rfl (w.heap.size+1+1) (wv s) (by rfl) (by rfl) h a6 ar H1 ?_;intro w4 bb D));refine yQ (v:= .agg (wv s)) (aV Tryz.results211 _ rfl bb ar) rfl ?_;rw[a5.out];exact⟨aG c D (by omega),rfl,a.out.grownBox h (by decide) (by omega) D,F,H⟩
theorem blShiftR (w:World) (g:Nat) (C:BC) (d:List Nd) (r:BB w g C d) (xs ys:List Nat) (hx:okW d xs) (hy:okW d ys):
  Calls Tryz.prog 211 #[.pointer (some ⟨g,0,none⟩),.agg (wv xs),.agg (wv ys),.int .i64 (-1)] w (eT cH okW w g C d (bP false xs ys 16 0 (au 0 16) d)):=by
 have bg:=zl r;obtain⟨a,HX,HY⟩:=zk3 r hx hy;have a6:Hid ((wv z16).size=16):=zh (by rw[ak];rfl);have Z:=zh (dm r.2 0);have aa:Hid (bP false xs ys 16 0 (au 0 16) d=bP false xs ys 16 0 (au 0 16) d):=zh rfl;obtain⟨PQ,aC⟩:=zv (bP false xs ys 16 0 (au 0 16) d);replace aa:Hid (PQ=bP false xs ys (16-0) 0 (au 0 16) d):=zh aC;rw[<-aC];clear r hx hy aC;go_enter Tryz.func211,Tryz.ntmps211;obtain⟨CX,az⟩:=zv (wv xs);obtain⟨CY,aA⟩:=zv (wv ys);obtain⟨aF,aH⟩:=zk2 az aA;rw[<-az,<-aA];clear az aA;have a8:Hid (CY.size=16):=zh (by rw[aH.out,ak,HY.out.1]);go_upto_region 1 with fail;rw[<-dr];generalize a0:w.alloc _=zw1 at*;generalize a1:zw1.alloc _=zw2 at*;generalize a2:zw2.alloc _=w1 at*;obtain⟨HB,l,n,h⟩:=zB3 a0 a1 a2;clear a0 a1 a2;replace a:=zh (a.out.below HB);have a9:=zh h.out.lt;go_wp2_with fail;refine(dc w1 0 (by decide)).mono ?_;rintro e w2 ⟨rfl,r⟩;have a7:=zh r.size;replace a:=zb a r;replace l:=zb l r;replace n:=zb n r;replace h:=zb h r;replace HB:=zb HB r;clear r;unfold cH;obtain⟨K0,aQ⟩:=zv (au 0 16);rw[<-aQ] at Z aa⊢;have av:Hid ((wv K0).size=16):=zh (by rw[ak,Z.out.1]);have am:Hid ((wv K0).all (·.oneCell')=true):=zh (bo _);obtain⟨KS,aB⟩:=zv (wv K0);have aJ:=zh aB;rw[<-aB] at av am⊢;clear aB aQ;have ax:Hid (Box (w2.alloc (.cells #[.int .i64 0,.int .i64 0,.int .i64 0,.int .i64 0,.int .i64 0,.int .i64 0,.int .i64 0,.int .i64 0,.int .i64 0,.int .i64 0,.int .i64 0,.int .i64 0,.int .i64 0,.int .i64 0,.int .i64 0,.int .i64 0] 146)) w2.heap.size #[.int .i64 0,.int .i64 0,.int .i64 0,.int .i64 0,.int .i64 0,.int .i64 0,.int .i64 0,.int .i64 0,.int .i64 0,.int .i64 0,.int .i64 0,.int .i64 0,.int .i64 0,.int .i64 0,.int .i64 0,.int .i64 0] 146):=zh (Box.new w2 _ _);have af:Hid ((#[.int .i64 0,.int .i64 0,.int .i64 0,.int .i64 0,.int .i64 0,.int .i64 0,.int .i64 0,.int .i64 0,.int .i64 0,.int .i64 0,.int .i64 0,.int .i64 0,.int .i64 0,.int .i64 0,.int .i64 0,.int .i64 0]:Array Value).size=16):=zh rfl;have M:=ac w2 (.cells #[.int .i64 0,.int .i64 0,.int .i64 0,.int .i64 0,.int .i64 0,.int .i64 0,.int .i64 0,.int .i64 0,.int .i64 0,.int .i64 0,.int .i64 0,.int .i64 0,.int .i64 0,.int .i64 0,.int .i64 0,.int .i64 0] 146);replace a:=zb a M;replace l:=zb l M;replace n:=zb n M;replace h:=zb h M;replace HB:=zb HB M;clear M;go_upto_region 2 with(refine aM rfl _ _ rfl w2.heap.size KS (by rfl) (by rfl) ax af av am ?_;intro w3 m D);have L:Hid (w.heap.size+1+1<w2.heap.size):=zh (by have:=a9.out;have:=a7.out;omega);replace a:=zh (a.out.grownBox ax (by decide) (by have:=L.out;omega) D);replace l:=zh (ai l D (by have:=L.out;omega));replace n:=zh (ai n D (by have:=L.out;omega));replace h:=zh (ai h D (by have:=L.out;omega));have c:Hid (w.grownBy w3 (some g)):=zh (aG (aI HB) D (by have:=L.out;omega));rw[aJ.out] at m;rw[aF.out] at l;clear ax af D HB aJ av am aF;generalize w2.heap.size=gs at*;go_wp2_with fail
 go_loopw [15] (λi wr=>∃(k:Nat) (s:List Nat) (d1:List Nd),k<=16/\i= .int .i64 k/\BB wr g C d1/\Ext d d1/\okW d1 s/\Box wr w.heap.size (wv xs) 146/\Box wr (w.heap.size+1) CY 146/\Box wr (w.heap.size+1+1) (wv z16) 146/\Box wr gs (wv s) 146/\w.grownBy wr (some g)/\PQ=bP false xs ys (16-k) k s d1) (λi _=>16-(intOf i).toNat)
 case atStart=>exact⟨0,K0,d,yt _,rfl,a,Ext.refl d,Z,l,n,h,m,c,aa⟩
 case round=>
  obtain⟨k,s,d1,hk,rfl,r,E,hs,U,V,R,T,B,hq⟩:=hrel;clear a Z l n h m c aa;obtain⟨a,F,H,l,n,h⟩:=zk6 r E hs U V R;obtain⟨m,c,A⟩:=zk3 T B hq;have bh:=L.out;have be:=c.out.size;clear r E hs U V R T B hq
  by_cases aW:k<16
  ·have aX:(k:Int)<16:=by omega
   have k0:(0:Int)<=(k:Int):=by omega
   replace A:=zh (show PQ=((eqB ys (au k 16) 1).bind λt=>(cA t s (fI false k xs)).bind λy=>bP false xs ys (16-(k+1)) (k+1) y) d1 by
    have e:16-k=(16-(k+1))+1:=by omega
    rw[A.out,e];rfl)
   go_upto_region 5 with fail;obtain⟨TS,aD⟩:=zv (wv (au k 16));have aE:=zh aD
   have CT:∀p:Lat wr,Calls Tryz.prog 124 #[.int .i64 (k:Nat)] p.w λe bd=>e= .returned (.agg TS)/\∃q:Lat wr,bd=q.w:=λp=>by
    have:=bQ (dc p.w k (by omega));unfold cH at this
    rwa [<-aD] at this
   clear aD;refine aL 4 (by kernel_rfl) (by kernel_rfl) ?_;simp only[yX,y9,y6,yO]
   go_big_quiet_step (fail)
   refine pV rfl _ rfl (w.heap.size+1) rfl n a8 ?_;go_simp
   go_big_quiet_step (fail)
   go_big_quiet_step (with_reducible exact CT _)
   refine yN ?_;intro w4 r;clear CT;replace a:=zb a r;replace l:=zb l r;replace n:=zb n r;replace h:=zb h r;replace m:=zb m r;replace c:=zh (aj c r);clear r;have Y:=zh (m5 w4 g C d1 a ys (au k 16) (HY.out.ext F) (dm a.out.2 k));rw[<-aH.out,<-aE.out] at Y;go_wp2_with fail;refine Y.out.mono λe w5 G=> ?_;have hz:=zo A F c G;clear A a F c G Y;rcases hz with⟨rfl,hn⟩|⟨t,d2,rfl,A,a,E,X,B,F,c⟩
   ·exact⟨rfl,zn hn⟩
   replace l:=zg l B (by omega);replace n:=zg n B (by omega);replace h:=zg h B (by omega);replace m:=zg m B (by omega);replace H:=zh (H.out.ext E);clear E B;clear aE;unfold bI
   replace A:=zh (show PQ=((aO (cA t (s.drop 0) ((fI false k xs).drop 0)) (s.take 0)).bind λy=>bP false xs ys (16-(k+1)) (k+1) y) d2 by
    rw[A.out,yO,yO,y9,iF])
   go_wp2_with fail;obtain⟨wo,aZ⟩:=zv (w5:World);rw[<-aZ] at a l n h m c⊢;clear aZ w5
   go_loopw [23] (λi wq=>∃(j:Nat) (cur:List Nat) (N:List Nd),j<=16/\i= .int .i64 (j:Nat)/\BB wq g C N/\Ext d N/\okW N cur/\okN N t/\Box wq w.heap.size (wv xs) 146/\Box wq (w.heap.size+1) CY 146/\Box wq (w.heap.size+1+1) (wv z16) 146/\Box wq gs (wv cur) 146/\cur.drop j=s.drop j/\w.grownBy wq (some g)/\PQ=((aO (cA t (s.drop j) ((fI false k xs).drop j)) (cur.take j)).bind λy=>bP false xs ys (16-(k+1)) (k+1) y) N) (λi _=>16-(intOf i).toNat)
   case atStart=>exact⟨0,s,d2,by omega,rfl,a,F,H,X,l,n,h,m,rfl,c,A⟩
   case round=>
    obtain⟨j,cur,N,hj,rfl,r,E,ag,ht,U,V,R,T,aR,B,hq⟩:=hrel;have aw:Hid (s.length=16):=zh H.out.1;clear a F H X l n h m c A;obtain⟨a,F,K,X,l,n⟩:=zk6 r E ag ht U V;obtain⟨h,m,ao,c,A⟩:=zk5 R T aR B hq;clear r E ag ht U V R T aR B hq
    by_cases J:j<16
    ·have aT:(j:Int)<16:=by omega
     have j0:(0:Int)<=(j:Int):=by omega
     have an:=zh (K.out.at (k:=j) J);have GC:=zh (cx (ws:=cur) (k:=j) (by rw[K.out.1];exact J));have aq:=zh (fK ao)
     by_cases hf:j+k<16
     ·obtain⟨f,aS⟩:=zv (j+k:Nat);have ah:f<16:=by omega
      have bc:(j:Int)+(k:Int)=(f:Int):=by omega
      have f0:(0:Int)<=(f:Int):=by omega
      have bf:(f:Int)<16:=by omega
      replace A:=zh (show PQ=((dJ t (xs.getD f 0)).bind λz=>(orB (cur.getD j 0) z).bind λP=>(aO (cA t (s.drop (j+1)) ((fI false k xs).drop (j+1))) (cur.take j++[P])).bind λy=>bP false xs ys (16-(k+1)) (k+1) y) N by
       rw[A.out,nQ (f:=xs.getD f 0) (by rw[aw.out];exact J) (by rw[rq HX.out.1 aW J,yz hf,<-aS]),aq.out])
      have a3:=zh ((HX.out.ext F).at (k:=f) ah);have GX:=zh (cx (ws:=xs) (k:=f) (by rw[HX.out.1];exact ah));generalize xs.getD f 0=x at*;generalize cur.getD j 0=o at*;clear hf aS aq;go_upto_region 11 with fail;clear bc;refine eC (S:=SXZ gs j w.heap.size f o x) 11 (by kernel_rfl) (sxz m l GC GX) (λhS=> ?_);have I:Below wr.heap.size wr wr.drew:=ae _;replace l:=zb l I;replace n:=zb n I;replace h:=zb h I;replace m:=zb m I;replace a:=zb a I;replace c:=zh (aj c I);clear I;generalize wr.drew=w6 at*;refine zuP 0 (.int .i64 (j:Nat)) rfl (Or.inl ⟨by rfl,λW Q=>by go_simp⟩) ?_;simp only[zp];refine zuP 1 (.pointer (some ⟨g,0,none⟩)) rfl (Or.inl ⟨by rfl,λW Q=>by go_simp⟩) ?_;simp only[zp];refine zuP 2 (.int .i64 (j:Nat)) rfl (Or.inl ⟨by rfl,λW Q=>by go_simp⟩) ?_;simp only[zp];refine zuP 3 (.pointer (some ⟨gs,j,none⟩)) rfl (Or.inl ⟨by rfl,λW Q=>by go_simp⟩) ?_;simp only[zp];refine zu 4 (.int .i64 (o:Nat)) rfl (Or.inl ⟨by rfl,λW Q=>by obtain⟨s1,s2⟩:=Q;go_simp⟩) ?_;simp only[zp];refine zuP 5 (.pointer (some ⟨g,0,none⟩)) rfl (Or.inl ⟨by rfl,λW Q=>by go_simp⟩) ?_;simp only[zp];refine zuP 6 (.int .i64 (t:Nat)) rfl (Or.inl ⟨by rfl,λW Q=>by go_simp⟩) ?_;simp only[zp];refine zuP 7 (.int .i64 (f:Nat)) rfl (Or.inl ⟨by rfl,λW Q=>by go_simp⟩) ?_;simp only[zp];refine zuP 8 (.pointer (some ⟨w.heap.size,f,none⟩)) rfl (Or.inl ⟨by rfl,λW Q=>by go_simp⟩) ?_;simp only[zp];refine zu 9 (.int .i64 (x:Nat)) rfl (Or.inl ⟨by rfl,λW Q=>by obtain⟨s1,s2⟩:=Q;go_simp⟩) ?_;simp only[zp];clear hS;refine jB (i:=10) (by kernel_rfl) rfl ?_;go_wp2_with fail;have Y:=zh (jI w6 g C N a t x X a3);refine Y.out.mono λe w7 G=> ?_;have hz:=zo A F c G;clear A a F c G Y;rcases hz with⟨rfl,hn⟩|⟨z,d4,rfl,A,a,E,HZ,B,F,c⟩
      ·exact⟨rfl,zn hn⟩
      replace l:=zg l B (by omega);replace n:=zg n B (by omega);replace h:=zg h B (by omega);replace m:=zg m B (by omega);replace K:=zh (K.out.ext E);replace X:=zh (X.out.ext E);replace an:=zh (an.out.ext E);clear E B;unfold bI;go_wp2_with fail;refine⟨λ_=>sxz m l GC GX, ?_⟩;refine bz (i:=11) (by kernel_rfl) (by kernel_rfl) rfl ?_;go_wp2_with fail;have Y:=zh (qQ w7 g C d4 a o z an HZ);refine Y.out.mono ?_;intro e w8 G;rcases G.cases with⟨P,d5,hr,rfl,r,E,ht,B⟩|⟨hr,rfl,B⟩
      rotate_left
      ·refine⟨rfl, ?_⟩;rw[A.out,bU hr];exact⟨ap c B,rfl⟩
      have aY:=A.out.trans (bind_some hr);replace A:=zh aY;have HO:=zh ht;replace a:=zh r;replace l:=zg l B (by omega);replace n:=zg n B (by omega);replace h:=zg h B (by omega);replace m:=zg m B (by omega);replace K:=zh (K.out.ext E);replace X:=zh (X.out.ext E);replace F:=zh (F.out.trans E);replace c:=zh (ap c B);clear aY hr r E ht B G Y;unfold bI;go_wp2_with fail;show bu _ _ _ _ _ _ _ _ _ _;refine bz (i:=12) (by kernel_rfl) (by kernel_rfl) rfl ?_;go_wp2_with fail;show bu _ _ _ _ _ _ _ _ _ _;have xz:=m.out.frozen j;have xl:=m.out.lt;have x1:=m.out.at_ j _ GC;refine bz (i:=13) (by kernel_rfl) (by kernel_rfl) rfl ?_;go_wp2_with fail;refine eD (by kernel_rfl) ?_ _;have ab:=zh (a.out.setBox m (by decide) (by omega) j (.int .i64 (P:Nat)));have aN:=zh (l.out.setNe (p:=⟨gs,j,none⟩) (by show gs≠_;omega) (.int .i64 (P:Nat)));have aP:=zh (n.out.setNe (p:=⟨gs,j,none⟩) (by show gs≠_;omega) (.int .i64 (P:Nat)));have aK:=zh (h.out.setNe (p:=⟨gs,j,none⟩) (by show gs≠_;omega) (.int .i64 (P:Nat)));have ay:=zh (m.out.set_ j (.int .i64 (P:Nat)));have ad:=zh (bX (i:=j) (u:=(.int .i64 (P:Nat))) c (b:=gs) (by omega));clear a l n h m c xz xl x1;generalize w8.setCell ⟨gs,j,none⟩ (.int .i64 (P:Nat))=w9 at*;rw[iZ] at ay;have a:=ab;have c:=ad;have m:=ay;have l:=aN;have n:=aP;have h:=aK;clear ab ad ay aN aP aK;replace K:=zh (K.out.set j HO);have ba:=zh (eM (x:=P) (show j<cur.length by have:=K.out.1;rw[As] at this;omega));have a4:=zh (iw (cur:=cur) (k:=j) (x:=P));generalize cur.set j P=cur' at*;go_wp2_with fail;go_roundw
      ·exact⟨j+1,cur',d5,by omega,by go_num,a,F,K,X,l,n,h,m,by rw[a4.out];exact fb ao,c,by rw[ba.out];exact A⟩
      ·simp[intOf];omega
     ·have n1:¬((j:Int)+(k:Int)<16):=by omega
      have n2:(0:Int)<=(j:Int)+(k:Int):=by omega
      have n3:¬(j+k<16):=hf;have n4:(16:Int)<=(j:Int)+(k:Int):=by omega
      replace A:=zh (show PQ=((aO (cA t (s.drop (j+1)) ((fI false k xs).drop (j+1))) (cur.take (j+1))).bind λy=>bP false xs ys (16-(k+1)) (k+1) y) N by
       rw[A.out,nR (by rw[aw.out];exact J) (by rw[rq HX.out.1 aW J,yw hf]),pe (by rw[K.out.1];exact J),aq.out])
      go_wp2_with fail;go_roundw
      ·exact⟨j+1,cur,N,by omega,by go_num,a,F,K,X,l,n,h,m,fb ao,c,A⟩
      ·simp[intOf];omega
    ·have aT:¬(j:Int)<16:=by omega
     have al:j=16:=by omega
     replace A:=zh (show PQ=bP false xs ys (16-(k+1)) (k+1) cur N by
      have e1:cur.take j=cur:=Ai (by rw[K.out.1];omega)
      rw[A.out,e1,al,pp aw.out])
     clear al;go_wp2_with fail;go_roundw
     ·exact⟨k+1,cur,N,by omega,by go_num,a,F,K,l,n,h,m,c,A⟩
     ·simp[intOf];omega
  ·have aX:¬(k:Int)<16:=by omega
   have aU:k=16:=by omega
   subst aU;have ar:Hid ((wv s).size=16):=zh (by rw[ak,H.out.1]);have H1:Hid ((wv s).all (·.oneCell')=true):=zh (bo _);have a5:Hid (PQ=some (s,d1)):=zh (by rw[A.out];rfl);go_wp2_with(first|(refine bj rfl _ rfl gs rfl m ar ?_)|(refine aM rfl _ _ rfl (w.heap.size+1+1) (wv s) (by rfl) (by rfl) h a6 ar H1 ?_;intro w4 bb D));refine yQ (v:= .agg (wv s)) (aV Tryz.results211 _ rfl bb ar) rfl ?_;rw[a5.out];exact⟨aG c D (by omega),rfl,a.out.grownBox h (by decide) (by omega) D,F,H⟩
def φS:dP ByteArray 9 where
 kv:=λs=> .string s
 lit:=λs=> .string s.data.toList
 ok:=λs=>s.size<=maxLen
 key:=λs h=>Go.WideMaps.keyOf_string_mk Tryz.underlying9 h
 K:=string_keyed Tryz.underlying9
 inj:=λx y h=>by simpa using h
theorem bY.look1 {κ:Type} {kT:TypeId} [DecidableEq κ] {φ:dP κ kT} {mT:TypeId} (r:Tryz.prog.underlying mT=some (.map kT 3)) {w:World} {b:Nat} {l:List (κ×Int)} (h:bY φ w b l) {x:κ} (j:φ.ok x):
  (Instr.lookup mT (.map (some b)) (φ.kv x) false).run Tryz.prog w= .ok (.int .i64 ((cq l x).getD 0)) w:=by
 obtain⟨m,n,v,u,f,s,F,A,q⟩:=h;have e:=λz=>qL φ j z l m;rw[q] at e;rcases fit_look false φ.K r (m8 w) s F (φ.key x j) with⟨a,_,o⟩|⟨e0,y,_,_,a,p,g,_⟩
 ·rw[a]
  cases hf:cq l x with
  |none=>rfl
  |some i=>
   have d:=e .nil;rw[hf,o] at d;cases d
 ·rw[a];obtain⟨c,t,k,_⟩:=plainElem_int_inv Tryz.underlying3 p
  cases hf:cq l x with
  |none=>
   have d:=e .nil;rw[hf,g,k] at d;cases d
  |some i=>
   have d:=e .nil;rw[hf,g,k] at d;simp only[DataW.lit.injEq,Lit.int.injEq,true_and] at d;rw[t,d];rfl
def vlAt (vars:List Vr) (a:List Int) (i:Nat):Vl:=if(vars.getD i vr0).mode=0 then .val (vars.getD i vr0).value.toNat else .bits (a.getD i 0).toNat (vars.getD i vr0).width.toNat
structure BK (w:World) (g:Nat) (C:BC) (vars:List Vr) (lev:List Int) (V:ByteArray->Vl) (names:List ByteArray):Prop where
 vs:∀W,w.grownBy W (some g)->Rs vrR W C.V vars ah
 ls:∀W,w.grownBy W (some g)->IL W C.L lev
 mp:∃vm,C.M= .map (some vm)/\∀W,w.grownBy W (some g)->∃l,bY φS W vm l/\∀s∈names,∃i:Nat,cq l s=some (i:Int)/\i<vars.length/\V s=vlAt vars lev i
 nm:∀s∈names,s.size<=maxLen
 vl:vars.length<=16
 ll:lev.length=vars.length
 vo:∀i,i<vars.length->((vars.getD i vr0).mode=0->0<=(vars.getD i vr0).value/\(vars.getD i vr0).value<65536)/\((vars.getD i vr0).mode≠0->1<=(vars.getD i vr0).width/\(vars.getD i vr0).width<=8/\0<=lev.getD i 0/\lev.getD i 0+(vars.getD i vr0).width<=20)
theorem BK.step {w w1:World} {g:Nat} {C:BC} {vars:List Vr} {b:List Int} {V:ByteArray->Vl} {names:List ByteArray} (h:BK w g C vars b V names) (c:w.grownBy w1 (some g)):BK w1 g C vars b V names:=
 ⟨λW a=>h.vs W (ap c a),λW a=>h.ls W (ap c a),by
  obtain⟨d,e,hm⟩:=h.mp
  exact⟨d,e,λW a=>hm W (ap c a)⟩,h.nm,h.vl,h.ll,h.vo⟩
theorem BK.below {w w1:World} {g:Nat} {C:BC} {vars:List Vr} {a:List Int} {V:ByteArray->Vl} {names:List ByteArray} (h:BK w g C vars a V names) (b:Below w.heap.size w w1):BK w1 g C vars a V names:=h.step (aI b)
instance {w w1:World} {g:Nat} {C:BC} {vars:List Vr} {lev:List Int} {V:ByteArray->Vl} {names:List ByteArray}:Zm w w1 (BK w g C vars lev V names) (BK w1 g C vars lev V names):=⟨λhb h=>BK.below h hb⟩
theorem var_step {l w k:Nat} {p:List Nat} {F:List Nat->Bm (List Nat)} (hk:k<w):(aO (kB l (w-k)) p).bind F=
  (oT (l+(w-1-k))).bind λf=>(aO (kB l (w-(k+1))) (p++[f])).bind F:=by
 have e:w-k=(w-(k+1))+1:=by omega
 have a:w-(k+1)=w-1-k:=by omega
 rw[e];show(aO ((oT (l+(w-(k+1)))).bind λf=>(kB l (w-(k+1))).bind λr=>Bm.ret (f::r)) p).bind F=_;rw[eG,dI,a];congr 1;funext f;rw[iH]
theorem bit_ext {d a:List Nd} {l i:Nat} (b:DV d) (c:l<20) (h:kM d l 0 1=some (a,i)):Ext d a/\DV a/\i<a.length:=by
 have j:=b.two;have e:=qr (s:=⟨d,false⟩) (l:=l) (lo:=0) (hi:=1) b c (by show 0<d.length;omega) (by show 1<d.length;omega) (by show l<lvA d 0;rw[b.lv0];exact c) (by show l<lvA d 1;rw[b.lv1];exact c);unfold kM at h;generalize b6 ⟨d,false⟩ l 0 1=r at*
 cases hf:r.1.full with
 |true=>rw[hf] at h;cases h
 |false=>
  rw[hf] at h;simp only[Ck,Cc,yy,B4] at h;obtain⟨rfl,rfl⟩:=h;obtain⟨f,g,_⟩:=e.ok hf;exact⟨e.ext,f,g⟩
theorem yh (l:Nat) (d:List Nd):oT l d=(kM d l 0 1).map λr=>(r.2,r.1):=by
 unfold oT kM
 split<;>rfl
def SVr (g b e gv:Nat) (a d:Value) (c f:Nat) (W:World):Prop:=W.cell? ⟨g,0,none⟩=some a/\W.cell? ⟨g,6,none⟩=some d/\W.cell? ⟨b,e,none⟩=some (.int .i64 (c:Nat))/\W.cell? ⟨gv,1,none⟩=some (.int .i64 (f:Nat))
theorem SVr.below {g c l gv:Nat} {b k:Value} {j m:Nat} {W W':World} (h:SVr g c l gv b k j m W) (a:Below W.heap.size W W'):SVr g c l gv b k j m W':=by
 obtain⟨d,e,f,i⟩:=h;exact⟨(a.cell (BG _ _ d)).trans d,(a.cell (BG _ _ e)).trans e,(a.cell (BG _ _ f)).trans f,(a.cell (BG _ _ i)).trans i⟩
instance {g gl ol gv:Nat} {dv lv:Value} {ln wn:Nat} {W W':World}:Zm W W' (SVr g gl ol gv dv lv ln wn W) (SVr g gl ol gv dv lv ln wn W'):=⟨λhb h=>SVr.below h hb⟩
theorem var_end {wn:Nat} {cur:List Nat} (f:cur.length=16) (d:wn<=8) (a:cur.drop wn=z16.drop wn):cur.take wn++au 0 (16-wn)=cur:=by
 have e:au 0 (16-wn)=z16.drop wn:=by
  unfold au z16;rw[List.drop_replicate];apply BP
  ·simp
  ·intro i b c;simp[bN]
 rw[e,<-a,List.take_append_drop]
theorem uo (w:World) (g:Nat) (C:BC) (d:List Nd) (Q:BB w g C d) (vars:List Vr) (ax:List Int) (V:ByteArray->Vl) (af:List ByteArray) (hk:BK w g C vars ax V af) (s:ByteArray) (hs:s∈af):
  Calls Tryz.prog 125 #[.pointer (some ⟨g,0,none⟩),.string s] w (eT cH okW w g C d (vlB (V s) d)):=by
 have bN:=zl Q;obtain⟨vm,hM,ba⟩:=hk.mp;obtain⟨l,U,bb⟩:=ba w (cm _ _);obtain⟨i,a3,aw,hV⟩:=bb s hs;obtain⟨a,HK⟩:=zk2 Q hk
 have bn:∀W,Below w.heap.size w W->(Instr.lookup 110 (.map (some vm)) (.string s) false).run Tryz.prog W= .ok (.int .i64 (i:Nat)) W:=λW m=>by
  have:=(U.below m).look1 (mT:=110) Tryz.underlying110 (x:=s) (hk.nm s hs);rw[a3] at this;exact this
 have aW:=zh bn;clear bn;have ab:=hk.vo i aw;have bI:=hk.vl;obtain⟨A1,c1,e1,bC,bd⟩:=(hk.vs w (cm _ _)).vrs;obtain⟨bv,ov,e2,av,z⟩:=bd i aw;subst e2;have v0:=z 0 _ rfl;have v1:=z 1 _ rfl;have v2:=z 2 _ rfl;have v3:=z 3 _ rfl;have ao:Hid (V s=vlAt vars ax i):=zh hV;have bs:=zh hk.ls;have an:=zh hk.ll;rw[yU] at v0;unfold vlAt at ao;generalize vars.getD i vr0=vr at*;obtain⟨nm,wd,md,vl⟩:=vr;simp only at ab v0 v1 v2 v3 ao;obtain⟨n,hn⟩:=zv (vars.length);have HN:=zh hn;rw[<-hn] at aw bI e1 bC an;have bQ:(i:Int)<(n:Int):=by omega
 have i0:(0:Int)<=(i:Int):=by omega
 obtain⟨bK,bL⟩:=zk2 hM e1
 have R:Hid (∃A c,Box w g #[.slice A d.length c,C.V,C.H,C.S,C.D,C.G,C.L,C.M] 149):=by
  obtain⟨⟨A,c,hx,_⟩,_⟩:=Q;exact zh ⟨A,c,hx⟩
 obtain⟨A0,c0,xg⟩:=R.out;rw[hM,e1] at xg;have R:=zh xg;have E:Hid (vlB (V s) d=vlB (V s) d):=zh rfl;obtain⟨PQ,aL⟩:=zv (vlB (V s) d);replace E:Hid (PQ=vlB (V s) d):=zh aL;rw[ao.out] at E;rw[<-aL];clear Q hk U bb ba hM e1 bd z hV aL a3 hn hs xg ao;go_enter Tryz.func125,Tryz.ntmps125;go_upto_region 1 with fail;rw[<-dr];generalize ag:w.alloc _=w1 at*;obtain⟨J,o⟩:=zB1 ag;clear ag;replace a:=zh (a.out.below J);replace R:=zh (R.out.below J);have bA:=aW.out w1 J;have aX:=za R 1 rfl;have g7:=za R 7 rfl;have u0:=(J.out.cell (p:=⟨bv,ov+i*4,none⟩) av).trans v0;have u1:=(J.out.cell (p:=⟨bv,ov+i*4+1,none⟩) av).trans v1;have u2:=(J.out.cell (p:=⟨bv,ov+i*4+2,none⟩) av).trans v2;have u3:=(J.out.cell (p:=⟨bv,ov+i*4+3,none⟩) av).trans v3;clear aW;go_upto_region 3 with fail;clear aX;clear g7 u0 u1 u2 u3 bA;have aE:=zh o.out.lt;generalize ag:w1.alloc _=w2 at*;obtain⟨q,t⟩:=zA1 ag;clear ag;replace a:=zb a q;replace R:=zb R q;replace o:=zb o q;replace J:=zb J q;clear q;have aU:Hid ((wv z16).size=16):=zh (by rw[ak];rfl)
 by_cases aa:md=0
 ·subst aa;rw[yz rfl] at E;obtain⟨h0,h1⟩:=ab.1 rfl;obtain⟨vn,rfl⟩:=BW h0;have bJ:vn<65536:=by omega
  rw[y5] at E;clear ab h0 h1;have Y:=za t 2 rfl;have a1:=za t 3 rfl;go_wp2_with fail;refine(dc w2 vn bJ).mono ?_;rintro e w3 ⟨rfl,Q⟩;clear Y a1;replace a:=zb a Q;replace R:=zb R Q;replace o:=zb o Q;replace t:=zb t Q;replace J:=zb J Q;clear Q;unfold cH;have K:Hid ((wv (au vn 16)).size=16):=zh (by rw[ak];simp[au]);have H1:Hid ((wv (au vn 16)).all (·.oneCell')=true):=zh (bo _);have bw:=zh (dm a.out.2 vn);replace E:=zh (show PQ=some (au vn 16,d) from E.out);generalize au vn 16=cw at*;obtain⟨CR,aK⟩:=zv (wv cw);have bp:=zh aK;rw[<-aK] at K H1⊢;clear aK;go_wp2_with(refine aM rfl _ _ rfl w.heap.size CR (by rfl) (by rfl) o aU K H1 ?_;intro w9 aH X);refine yQ (v:= .agg CR) (aV Tryz.results125 _ rfl aH K) rfl ?_;have aD:PQ=some (cw,d):=E.out;rw[aD,bp.out];exact⟨aG (aI J) X (yq _),rfl,a.out.grownBox o (by decide) (by omega) X,Ext.refl d,bw⟩
 rw[yw aa] at E;have bB:((md:Int)==0)=false:=by rw[Bk];exact aa
 obtain⟨h0,h1,h2,h3⟩:=ab.2 aa;obtain⟨wn,rfl⟩:=BW (show 0<=wd by omega);obtain⟨I,aP⟩:=BW h2;have bt:Hid (ax.getD i 0=(I:Int)):=zh aP;rw[aP] at h2 h3 E;have w8:wn<=8:=by omega
 have bT:1<=wn:=by omega
 have bS:I+wn<=20:=by omega
 rw[y5,y5] at E;clear ab h0 h1 h2 h3 aP aa;have Y:=za t 2 rfl;go_upto_region 6 with fail;clear bB;clear Y;rw[<-dr];have F:=zh (Box.new w2 146 (wv z16));have aF:=zh t.out.lt;have q:=ac w2 (.cells (wv z16) 146);replace a:=zb a q;replace R:=zb R q;replace o:=zb o q;replace t:=zb t q;replace J:=zb J q;clear q;generalize w2.alloc (.cells (wv z16) 146)=w3 at*;generalize a4:w2.heap.size=gw at*;clear a4;have a0:=za t 1 rfl;go_wp2_with fail;clear a0;have a4:w.heap.size<gw:=by have:=aE.out;have:=aF.out;omega
 have aS:=zh (qn a.out.2);have h:=zh (aI (row:=some g) J);have br:Hid (w.heap.size<w1.heap.size/\w1.heap.size<gw):=zh ⟨aE,aF⟩
 have aT:Hid (PQ=((aO (kB I (wn-0)) (z16.take 0)).bind λr=>Bm.ret (r++au 0 (16-wn))) d):=zh (by
  rw[E.out,y9,iF];rfl)
 generalize w1.heap.size=gv at*;clear E J aE aF R
 go_loopw [31] (λi wr=>∃(j:Nat) (cur:List Nat) (B:List Nd),j<=wn/\i= .int .i64 (j:Nat)/\BB wr g C B/\Ext d B/\okW B cur/\Box wr gw (wv cur) 146/\Box wr w.heap.size (wv z16) 146/\Box wr gv #[.string nm,.int .i64 (wn:Nat),.int .i64 md,.int .i64 vl] 98/\cur.drop j=z16.drop j/\w.grownBy wr (some g)/\PQ=((aO (kB I (wn-j)) (cur.take j)).bind λr=>Bm.ret (r++au 0 (16-wn))) B) (λi _=>wn-(intOf i).toNat)
 case atStart=>exact⟨0,z16,d,yt _,rfl,a,Ext.refl d,aS,F,o,t,rfl,h,aT⟩
 case round=>
  obtain⟨j,cur,B,hj,rfl,Q,he,aA,bg,be,bf,T,hg,hq⟩:=hrel;clear a aS F o t h aT;obtain⟨a,HE,HC,F,o,t⟩:=zk6 Q he aA bg be bf;obtain⟨aQ,h,E⟩:=zk3 T hg hq;have bP:=br.out;clear Q he aA bg be bf T hg hq
  by_cases bG:j<wn
  ·have a7:(j:Int)<(wn:Int):=by omega
   have bR:(j:Int)<16:=by omega
   have j0:(0:Int)<=(j:Int):=by omega
   have bh:j<16:=by omega
   obtain⟨lv,a8⟩:=zv (I+(wn-1-j));have aR:Hid (lv<20):=zh (by omega);have GC:=zh (cx (ws:=cur) (k:=j) (by rw[HC.out.1];exact bh))
   replace E:=zh (show PQ=((oT lv).bind λf=>(aO (kB I (wn-(j+1))) (cur.take j++[f])).bind λr=>Bm.ret (r++au 0 (16-wn))) B by
    rw[E.out,var_step bG,a8])
   generalize cur.getD j 0=f0 at*;obtain⟨⟨A1,aq,ad,bc,bH⟩,bE⟩:=a.out;have a6:=bs.out wr h;rcases a6.form with⟨_,_,_,h0⟩|⟨bl,ol,cl,hL,bD,bF,bM,a5⟩
   ·have h1:=an.out;rw[h0] at h1;simp at h1;omega
   have q1:=a5 i (by rw[an.out];exact aw);rw[bt.out] at q1;obtain⟨ml,U⟩:=zv (ax.length);have a9:ml=n:=by rw[U];exact an
   have im:(i:Int)<(ml:Int):=by omega
   rw[<-U] at hL;rw[hL] at ad;have S0:SVr g bl (ol+i) gv (.slice A1 B.length aq) (.slice (some ⟨bl,ol,none⟩) ml cl) I wn wr:=⟨ad.at_ 0 _ rfl,ad.at_ 6 _ rfl,q1,t.out.at_ 1 _ rfl⟩;have CB:=zh fun(W:World) (m:Below wr.heap.size wr W)=>dagBit W (.slice A1 B.length aq) B bE (bc.below m) lv aR;have bO:=ad.lt;obtain⟨N1,a2⟩:=zv (B.length);rw[<-a2] at S0 CB;have S1:=zh S0;clear ad bc bH a6 hL bD bF a5 q1 U a9 a2 S0;have k1:IntKind.i64.wrap ((I:Int)+(wn:Int))=(I:Int)+(wn:Int):=Bt _ (by omega);have k2:IntKind.i64.wrap ((I:Int)+(wn:Int)-1)=(I:Int)+(wn:Int)-1:=Bt _ (by omega);have k3:IntKind.i64.wrap ((I:Int)+(wn:Int)-1-(j:Int))=(lv:Int):=by rw[show(I:Int)+(wn:Int)-1-(j:Int)=(lv:Int) by omega];exact Bt _ (by omega)
   clear a8;go_upto_region 9 with fail;refine eC (S:=SVr g bl (ol+i) gv (.slice A1 N1 aq) (.slice (some ⟨bl,ol,none⟩) ml cl) I wn) 23 (by kernel_rfl) (S1.out.below (ae _)) (λhS=> ?_);have N:Below wr.heap.size wr wr.drew:=ae _;replace F:=zb F N;replace o:=zb o N;replace t:=zb t N;replace a:=zb a N;replace h:=zh (aj h N);have aB:=zh (CB wr.drew N);clear N CB S1;generalize wr.drew=w4 at*;refine zuP 0 (.int .i64 (j:Nat)) rfl (Or.inl ⟨by rfl,λW m=>by go_simp⟩) ?_;simp only[zp];refine zuP 1 (.pointer (some ⟨g,0,none⟩)) rfl (Or.inl ⟨by rfl,λW m=>by go_simp⟩) ?_;simp only[zp];refine zuP 2 (.pointer (some ⟨g,0,none⟩)) rfl (Or.inl ⟨by rfl,λW m=>by go_simp⟩) ?_;simp only[zp];refine zuP 3 (.pointer (some ⟨g,0,none⟩)) rfl (Or.inl ⟨by rfl,λW m=>by go_simp⟩) ?_;simp only[zp];refine zuP 4 (.pointer (some ⟨g,0,none⟩)) rfl (Or.inl ⟨by rfl,λW m=>by go_simp⟩) ?_;simp only[zp];refine zu 5 (.agg #[.slice A1 N1 aq]) rfl (Or.inl ⟨by rfl,λW m=>by obtain⟨s1,s2,s3,s4⟩:=m;go_simp⟩) ?_;simp only[zp];refine zuP 6 (.pointer (some ⟨g,0,none⟩)) rfl (Or.inl ⟨by rfl,λW m=>by go_simp⟩) ?_;simp only[zp];refine zuP 7 (.pointer (some ⟨g,0,none⟩)) rfl (Or.inl ⟨by rfl,λW m=>by go_simp⟩) ?_;simp only[zp];refine zuP 8 (.pointer (some ⟨g,6,none⟩)) rfl (Or.inl ⟨by rfl,λW m=>by go_simp⟩) ?_;simp only[zp];refine zu 9 (.slice (some ⟨bl,ol,none⟩) ml cl) rfl (Or.inl ⟨by rfl,λW m=>by obtain⟨s1,s2,s3,s4⟩:=m;go_simp⟩) ?_;simp only[zp];refine zuP 10 (.int .i64 (i:Nat)) rfl (Or.inl ⟨by rfl,λW m=>by go_simp⟩) ?_;simp only[zp];refine zuP 11 (.pointer (some ⟨bl,ol+i,none⟩)) rfl (Or.inl ⟨by rfl,λW m=>by go_simp⟩) ?_;simp only[zp];refine zu 12 (.int .i64 (I:Nat)) rfl (Or.inl ⟨by rfl,λW m=>by obtain⟨s1,s2,s3,s4⟩:=m;go_simp⟩) ?_;simp only[zp];refine zuP 13 (.pointer (some ⟨gv,1,none⟩)) rfl (Or.inl ⟨by rfl,λW m=>by go_simp⟩) ?_;simp only[zp];refine zu 14 (.int .i64 (wn:Nat)) rfl (Or.inl ⟨by rfl,λW m=>by obtain⟨s1,s2,s3,s4⟩:=m;go_simp⟩) ?_;simp only[zp];refine zuP 15 (.int .i64 ((I:Int)+(wn:Int))) rfl (Or.inl ⟨by rfl,λW m=>by go_simp⟩) ?_;simp only[zp];refine zuP 16 (.int .i64 ((I:Int)+(wn:Int)-1)) rfl (Or.inl ⟨by rfl,λW m=>by go_simp⟩) ?_;simp only[zp];refine zuP 17 (.int .i64 (j:Nat)) rfl (Or.inl ⟨by rfl,λW m=>by go_simp⟩) ?_;simp only[zp];refine zuP 18 (.int .i64 (lv:Nat)) rfl (Or.inl ⟨by rfl,λW m=>by go_simp⟩) ?_;simp only[zp];refine jB (i:=19) (by kernel_rfl) rfl ?_;go_wp2_with fail;refine aB.out.mono ?_;intro e w5 T;have ah:Hid (oT lv B=(kM B lv 0 1).map λr=>(r.2,r.1)):=zh (yh lv B);have aC:=zh a.out.2;rcases T.cases with⟨d',P,A',c',hr,rfl,h1,h2,y⟩|⟨hr,rfl,y⟩
   ·have al:Hid (oT lv B=some (P,d')):=zh (by rw[ah.out,hr];rfl)
    obtain⟨bi,bk,bm⟩:Ext B d'/\DV d'/\P<d'.length:=by
     exact bit_ext aC aR hr
    have S2:=zh (hS.below y);replace F:=zb F y;replace o:=zb o y;replace t:=zb t y;replace a:=zb a y;replace h:=zh (aj h y);have CK:=zh (me w5 g C B d' a _ bk h1 h2 P);have am:Hid (Ext B d'/\P<d'.length):=zh ⟨bi,bm⟩;obtain⟨M,hM⟩:=zv (d'.length);rw[<-hM] at CK⊢;clear hr h1 h2 y bi bk bm T aB ah hM hS aC k1 k2 k3;go_wp2_with fail;refine⟨λ_=>S2.out, ?_⟩;have hS:=S2.out;refine zuP 20 (.agg #[.slice A' M c']) rfl (Or.inl ⟨by rfl,λW m=>by go_simp⟩) ?_;simp only[zp];refine zuP 21 (.int .i64 (P:Nat)) rfl (Or.inl ⟨by rfl,λW m=>by go_simp⟩) ?_;simp only[zp];refine zuP 22 (.int .i64 0) rfl (Or.inl ⟨by rfl,λW m=>by go_simp⟩) ?_;simp only[zp];clear hS S2;refine bz (i:=23) (by kernel_rfl) (by kernel_rfl) rfl ?_;go_wp2_with fail;refine CK.out.mono ?_;rintro e w6 ⟨rfl,ar,Z⟩;replace a:=zh ar;replace F:=zh (ai F Z (by omega));replace o:=zh (ai o Z (by omega));replace t:=zh (ai t Z (by omega));replace h:=zh (ap h Z);replace HC:=zh (HC.out.ext am.out.1);replace HE:=zh (HE.out.trans am.out.1);have HO:Hid (okN d' P):=zh am.out.2;replace E:=zh (E.out.trans (bind_some al));clear ar Z CK am al;go_wp2_with fail;show bu _ _ _ _ _ _ _ _ _ _;refine bz (i:=24) (by kernel_rfl) (by kernel_rfl) rfl ?_;go_wp2_with fail;show bu _ _ _ _ _ _ _ _ _ _;have xz:=F.out.frozen j;have xl:=F.out.lt;have x1:=F.out.at_ j _ GC;refine bz (i:=25) (by kernel_rfl) (by kernel_rfl) rfl ?_;go_wp2_with fail;refine eD (by kernel_rfl) ?_ _;have ay:=zh (a.out.setBox F (by decide) (by omega) j (.int .i64 (P:Nat)));have aY:=zh (o.out.setNe (p:=⟨gw,j,none⟩) (by show gw≠_;omega) (.int .i64 (P:Nat)));have aZ:=zh (t.out.setNe (p:=⟨gw,j,none⟩) (by show gw≠_;omega) (.int .i64 (P:Nat)));have aJ:=zh (F.out.set_ j (.int .i64 (P:Nat)));have az:=zh (bX (i:=j) (u:=(.int .i64 (P:Nat))) h (b:=gw) (by omega));clear a o t F h xz xl x1;generalize w6.setCell ⟨gw,j,none⟩ (.int .i64 (P:Nat))=w7 at*;rw[iZ] at aJ;have a:=ay;have h:=az;have F:=aJ;have o:=aY;have t:=aZ;clear ay az aJ aY aZ;replace HC:=zh (HC.out.set j HO);have bx:=zh (eM (x:=P) (show j<cur.length by have:=HC.out.1;rw[As] at this;omega));have bq:=zh (iw (cur:=cur) (k:=j) (x:=P));generalize cur.set j P=cur' at*;go_wp2_with fail;go_roundw
    ·exact⟨j+1,cur',d',by omega,by go_num,a,HE,HC,F,o,t,by rw[bq.out];exact fb aQ,h,by rw[bx.out];exact E⟩
    ·simp[intOf];omega
   ·have al:Hid (oT lv B=none):=zh (by rw[ah.out,hr];rfl);have S2:=zh (hS.below y);replace h:=zh (aj h y);clear hr y T aB ah hS aC k1 k2 k3 F o t a;go_wp2_with fail;refine⟨λ_=>S2.out, ?_⟩;have hS:=S2.out;refine zuP 20 (.agg #[.slice none 0 0]) rfl (Or.inl ⟨by rfl,λW m=>by go_simp⟩) ?_;simp only[zp];refine zuP 21 (.int .i64 0) rfl (Or.inl ⟨by rfl,λW m=>by go_simp⟩) ?_;simp only[zp];refine zuP 22 (.int .i64 2) rfl (Or.inl ⟨by rfl,λW m=>by go_simp⟩) ?_;simp only[zp];clear hS S2;refine bz (i:=23) (by kernel_rfl) (by kernel_rfl) rfl ?_;go_wp2_with fail;refine(fg w5 _ none 0 0 0 2 (by decide)).mono ?_;rintro e w6 ⟨rfl,ar⟩;refine⟨rfl, ?_⟩;rw[E.out,bU al.out];exact⟨aj h ar,rfl⟩
  ·have a7:¬(j:Int)<(wn:Int):=by omega
   have aN:j=wn:=by omega
   have aD:Hid (PQ=some (cur,B)):=zh (by
    rw[E.out,aN,AG];show(aO (Bm.ret []) _).bind _ B=_;rw[iG];show some (cur.take wn++au 0 (16-wn),B)=_
    rw[var_end HC.out.1 w8 (by rw[<-aN];exact aQ.out)])
   clear aN;have K:Hid ((wv cur).size=16):=zh (by rw[ak,HC.out.1]);have H1:Hid ((wv cur).all (·.oneCell')=true):=zh (bo _);go_wp2_with(first|(refine bj rfl _ rfl gw rfl F K ?_)|(refine aM rfl _ _ rfl w.heap.size (wv cur) (by rfl) (by rfl) o aU K H1 ?_;intro w4 aH X));refine yQ (v:= .agg (wv cur)) (aV Tryz.results125 _ rfl aH K) rfl ?_;rw[aD.out];exact⟨aG h X (yq _),rfl,a.out.grownBox o (by decide) (by omega) X,HE,HC⟩
theorem blBinary (w:World) (g:Nat) (C:BC) (d:List Nd) (f:BB w g C d) (xs ys:List Nat) (k:okW d xs) (l:okW d ys) (op:Int) (h7:7<=op) (V:op<=21):
  Calls Tryz.prog 135 #[.pointer (some ⟨g,0,none⟩),.int .i64 op,.agg (wv xs),.agg (wv ys)] w (eT cH okW w g C d ((opW op [xs,ys]) d)):=by
 have aa:=zl f;obtain⟨a,b,c⟩:=zk3 f k l;have A:Hid ((opW op [xs,ys]) d=(opW op [xs,ys]) d):=zh rfl;have R:Hid ((wv z16).size=16):=zh (by rw[ak];rfl);clear f k l;go_enter Tryz.func135,Tryz.ntmps135;obtain⟨PQ,s⟩:=zv ((opW op [xs,ys]) d);replace A:Hid (PQ=((opW op [xs,ys]).bind λr=>Bm.ret r) d):=zh (by rw[s,dH]);rw[<-s];clear s;obtain⟨CX,p⟩:=zv (wv xs);obtain⟨CY,q⟩:=zv (wv ys);obtain⟨t,u⟩:=zk2 p q;rw[<-p,<-q];clear p q;have S:Hid (CX.size=16):=zh (by rw[t.out,ak,b.out.1]);have T:Hid (CY.size=16):=zh (by rw[u.out,ak,c.out.1]);go_upto_region 1 with fail;rw[<-dr];generalize H:w.alloc _=zw1 at*;generalize I:zw1.alloc _=zw2 at*;generalize J:zw2.alloc _=w1 at*;obtain⟨M,XX,XY,K⟩:=zB3 H I J;clear H I J;replace a:=zh (a.out.below M);have i:=zh (aI (row:=some g) M);have P:=zh (Ext.refl d);clear M;have X:=zm;have Y:okN d 0:=by have:=a.out.2.two;show 0<_;omega
 have h:op=7\/op=8\/op=9\/op=10\/op=11\/op=12\/op=13\/op=14\/op=15\/op=16\/op=17\/op=18\/op=19\/op=20\/op=21:=by omega
 clear h7 V;rcases h with rfl|rfl|rfl|rfl|rfl|rfl|rfl|rfl|rfl|rfl|rfl|rfl|rfl|rfl|rfl
 all_goals
  go_wp2_with(first|(refine bj rfl _ rfl w.heap.size rfl XX S ?_)|(refine bj rfl _ rfl (w.heap.size+1) rfl XY T ?_));clear X
  refine Calls.mono (by
   rw[t.out,u.out]
   first
    |with_reducible exact lu w1 g C d a.out xs ys b.out c.out
    |with_reducible exact yg w1 g C d a.out xs ys b.out c.out
    |with_reducible exact blShiftL w1 g C d a.out xs ys b.out c.out
    |with_reducible exact blShiftR w1 g C d a.out xs ys b.out c.out
    |with_reducible exact ww w1 g C d a.out xs ys b.out c.out 15 (.inl rfl)
    |with_reducible exact ww w1 g C d a.out xs ys b.out c.out 16 (.inr (.inl rfl))
    |with_reducible exact ww w1 g C d a.out xs ys b.out c.out 17 (.inr (.inr (.inl rfl)))
    |with_reducible exact ww w1 g C d a.out xs ys b.out c.out 18 (.inr (.inr (.inr rfl)))
    |with_reducible exact qR w1 g C d a.out xs ys b.out c.out 19 (.inl rfl)
    |with_reducible exact qR w1 g C d a.out xs ys b.out c.out 20 (.inr (.inl rfl))
    |with_reducible exact qR w1 g C d a.out xs ys b.out c.out 21 (.inr (.inr rfl))
    |((with_reducible show Calls _ 205 _ _ _);have m:=wm w1 g C d a.out xs ys b.out c.out 0 Y;exact m)
    |((with_reducible show Calls _ _ #[_,_,.func (.func 207) _ _] _ _);have m:=lq w1 g C d a.out xs ys b.out c.out 207 #[.pointer (some ⟨g,0,none⟩)] #[] dJ (λx y W=>by kernel_rfl) (λW D x y f F j k l=>jI W g C D f x y k l);exact m)
    |((with_reducible show Calls _ _ #[_,_,.func (.func 123) _ _] _ _);have m:=lq w1 g C d a.out xs ys b.out c.out 123 #[.pointer (some ⟨g,0,none⟩)] #[] orB (λx y W=>by kernel_rfl) (λW D x y f F j k l=>qQ W g C D f x y k l);exact m)
    |((with_reducible show Calls _ _ #[_,_,.func (.func 210) _ _] _ _);have m:=lq w1 g C d a.out xs ys b.out c.out 210 #[.pointer (some ⟨g,0,none⟩)] #[] gU (λx y W=>by kernel_rfl) (λW D x y f F j k l=>oP W g C D f x y k l);exact m)) ?_
  intro e w2 E;rcases E.cases with⟨r,d2,L,rfl,f,F,ht,j⟩|⟨L,rfl,j⟩
  rotate_left
  ·refine⟨rfl, ?_⟩;rw[A.out.trans (bU L)];exact⟨ap i j,rfl⟩
  have G:=A.out.trans (bind_some L);replace A:=zh G;have B:=zh ht;replace a:=zh f;replace K:=zg K j (by omega);replace P:=zh (P.out.trans F);replace i:=zh (ap i j);clear G L f F ht j E;have n:Hid ((wv r).size=16):=zh (by rw[ak,B.out.1]);have H1:Hid ((wv r).all (·.oneCell')=true):=zh (bo _);unfold cH;obtain⟨Z,o⟩:=zv (wv r);have N:=zh o;rw[<-o] at n H1⊢;clear o;go_wp2_with(refine aM rfl _ _ rfl (w.heap.size+1+1) Z (by rfl) (by rfl) K R n H1 ?_;intro w9 U z);refine yQ (v:= .agg Z) (aV Tryz.results135 _ rfl U n) rfl ?_;have Q:PQ=some (r,d2):=A.out;rw[Q,N.out];exact⟨aG i z (by omega),rfl,a.out.grownBox K (by decide) (by omega) z,P,B⟩
def dt (cs:Array Value):Nat->List Value->Array Value
 |_,[]=>cs
 |o,v::r=>dt (cs.setIfInBounds o v) (o+1) r
theorem mo:∀(a:List Value) (o:Nat) (cs:Array Value),(dt cs o a).size=cs.size
 |[],_,_=>rfl
 |v::r,o,cs=>by unfold dt;rw[mo r];simp
theorem i7:∀(a:List Value) (o:Nat) (cs:Array Value) (i:Nat),(i<o\/o+a.length<=i)->(dt cs o a)[i]? =cs[i]?
 |[],_,_,_,_=>rfl
 |v::r,o,cs,i,h=>by
  unfold dt;rw[i7 r (o+1) _ i (by simp only[yr] at h;omega),BM (by simp only[yr] at h;omega)]
theorem lK:∀(a:List Value) (o:Nat) (cs:Array Value) (i:Nat),o+a.length<=cs.size->i<a.length->(dt cs o a)[o+i]? =a[i]?
 |[],_,_,i,_,h=>by simp at h
 |v::r,o,cs,0,hs,_=>by
  unfold dt;simp only[yr] at hs;rw[i7 r (o+1) _ (o+0) (by omega),yU,Array.getElem?_setIfInBounds_self_of_lt (by omega)]
  rfl
 |v::r,o,cs,i+1,hs,h=>by
  unfold dt;simp only[yr] at hs h;have:=lK r (o+1) (cs.setIfInBounds o v) i (by simp;omega) (by omega);rw[show o+(i+1)=o+1+i by omega,this];rfl
theorem fM {b:Nat} {T:TypeId}:∀(a:List Value) (o:Nat) (w:World) (cs:Array Value),Box w b cs T->Box (w.setCells b o a) b (dt cs o a) T
 |[],_,_,_,h=>h
 |v::r,o,w,cs,h=>fM r (o+1) _ _ (h.set_ o v)
theorem cQ (b:Nat):∀(a:List Value) (o:Nat) (w:World),w.grownBy (w.setCells b o a) (some b)
 |[],_,w=>cm _ w
 |v::r,o,w=>ap (cZ (cm (some b) w)) (cQ b r (o+1) _)
theorem wL {w:World} {b:Nat} {cs:Array Value} {T:TypeId} (h:Box w b cs T) (o n:Nat) (c:o+n<=cs.size):w.there b o n:=λj a=>⟨by rw[h.cell];rw[Array.getElem?_eq_getElem (by omega)];rfl,h.frozen _⟩
section
variable {ops:Array Oper} {rest:List Oper} {o:Oper} {a:Act} {w:World} {Q:Exit->Act->World->Prop}
theorem wm_store (f:o.guard=none) (x y:Operand) (l:o.op= .store 146 x y) (b c:Nat) (d:Array Value) (m:a.eval x= .pointer (some ⟨b,c,none⟩)) (n:a.eval y= .agg d) {e:Array Value} {T:TypeId} (i:Hid (Box w b e T)) (g:Hid (c+16<=e.size)) (j:Hid (d.size=16)) (k:Hid (d.all (·.oneCell')=true))
  (h:∀w',Hid (Box w' b (dt e c d.toList) T)->Hid (w.grownBy w' (some b))->wpList Tryz.prog ops Q rest (a.put o.dst undef) w'):wpList Tryz.prog ops Q (o::rest) a w:=
 wpList_store_mid f 146 x y l b c d m n (wL i.out c _ (by rw[j.out];exact g.out)) (by rw[oc,j.out]) k.out
  (h _ (zh (fM _ _ _ _ i.out)) (zh (cQ _ _ _ _)))
end
def WA (cs:Array Value) (a:List (List Nat)):Prop:=∀j,j<a.length->(a.getD j []).length=16/\∀q,q<16->cs[j*16+q]? =some (.int .i64 (((a.getD j []).getD q 0:Nat):Int))
theorem WA.snoc {cs:Array Value} {a:List (List Nat)} {r:List Nat} (h:WA cs a) (d:r.length=16) (m:a.length*16+16<=cs.size):WA (dt cs (a.length*16) (wv r).toList) (a++[r]):=λj l=>by
 have f:(wv r).toList.length=16:=by rw[Array.length_toList,ak,d]
 by_cases e:j<a.length
 ·have c:(a++[r]).getD j []=a.getD j []:=by
   rw[yj,yj,yP e]
  rw[c];obtain⟨i,k⟩:=h j e;refine⟨i,λq b=> ?_⟩;rw[i7 _ _ _ _ (by left;omega)];exact k q b
 ·have g:j=a.length:=by simp at l;omega
  subst g;have c:(a++[r]).getD a.length []=r:=by simp[yj]
  rw[c];refine⟨d,λq b=> ?_⟩;rw[lK _ _ _ _ (by rw[f];exact m) (by rw[f];exact b),Array.getElem?_toList];exact cx (by rw[d];exact b)
theorem WA.range {w:World} {b:Nat} {cs:Array Value} {T:TypeId} {a:List (List Nat)} (h:WA cs a) (g:Box w b cs T) {j:Nat} (i:j<a.length):w.rangeAt b (j*16) (wv (a.getD j [])).toList:=λq v c=>by
 obtain⟨d,f⟩:=h j i
 have e:q<16:=by
  have:=(yJ.1 c).1;rw[Array.length_toList,ak,d] at this;exact this
 rw[g.cell,f q e];rw[Array.getElem?_toList,cx (by rw[d];exact e)] at c;exact c
theorem WA.wl {w:World} {b:Nat} {cs:Array Value} {T:TypeId} {c:List (List Nat)} (h:WA cs c) (d:Box w b cs T):WL w b (1*16) c.tail:=⟨d.lt,λj f=>by
 rw[List.length_tail] at f;have:=h.range d (j:=j+1) (by omega);rw[Nat.add_mul] at this
 have e:c.tail.getD j []=c.getD (j+1) []:=by
  cases c with
  |nil=>rfl
  |cons a r=>rfl
 rw[e,Nat.add_comm];exact this⟩
def NG (g:Nat) (b:Nat):Prop:=b≠g
theorem rs_ng {w w':World} {g d:Nat} {x:Value} {l:List Ex} (h:Rs (exR d) w x l (NG g)) (hi:In (NG g) x l.length) (c:w.grownBy w' (some g)):Rs (exR d) w' x l (NG g):=
 iz h c.size (λf b a i=>c.block b a (by have:b≠g:=hi f b i;simpa using this)) (λb a e=>c.block b a (by have:b≠g:=e;simpa using this))
def kE {α:Type} (m:Bm (List α)) (p:List α):Bm (List α):=m.bind λr=>Bm.ret (p++r)
theorem xw {α β γ:Type} {f:α->Bm β} {l:List α} {x0:α} {i:Nat} {p:List β} {F:List β->Bm γ} (hi:i<l.length):(kE (nX f (l.drop i)) p).bind F=
  (f (l.getD i x0)).bind λb=>(kE (nX f (l.drop (i+1))) (p++[b])).bind F:=by
 rw[Aq hi,yj,yp hi];show(kE ((f _).bind λb=>(nX f _).bind λr=>Bm.ret (b::r)) p).bind F=_;unfold kE;simp only[dI,AV];congr 1;funext b;congr 1;funext r;show F (p++b::r)=F (p++[b]++r);simp
theorem mapB_end {α β γ:Type} {f:α->Bm β} {l:List α} {p:List β} {F:List β->Bm γ}:(kE (nX f (l.drop l.length)) p).bind F=F p:=by
 rw[List.drop_length];show F (p++[])=F p;simp
theorem tP {α β γ:Type} {f:α->Bm β} {l:List α} {F:List β->Bm γ}:(nX f l).bind F=(kE (nX f (l.drop 0)) []).bind F:=by
 unfold kE;rw[yO];simp only[List.nil_append,dH]
theorem infoW:(Tryz.prog.info? 146).map (λi=>(i.zero,i.size,i.bytes))=some (some (.agg (wv z16)),16,128):=by kernel_rfl
theorem nD (n:Nat) (e:n<=1000) (W:World):(Instr.makeSlice 199 (.int .i64 (n:Int)) (.int .i64 (n:Int))).run Tryz.prog W= .ok (.slice (some ⟨W.heap.size,0,none⟩) n n) (W.alloc (.cells (madeCells (wv z16) (n*16)) 146)):=by
 cases hq:Tryz.prog.info? 146 with
 |none=>have:=infoW;rw[hq] at this;cases this
 |some i=>
  have h:=infoW;rw[hq] at h;simp only[AX,yy,B4] at h;obtain⟨b,c,d⟩:=h;have a:=run_make (P:=Tryz.prog) W 199 146 i (.agg (wv z16)) Tryz.underlying199 hq b .i64 .i64 n n (by omega) (by omega) (by rw[d];omega) (by omega);rw[c] at a;simp only[y5] at a;exact a
theorem wi (w:World) (g:Nat) (C:BC) (d:List Nd) (m:BB w g C d) (h i t x y:Nat) (k:Box w h #[.pointer (some ⟨g,0,none⟩)] 140) (l:Box w i #[.int .i64 (t:Nat)] 3) (p:okN d t) (r:okN d x) (s:okN d y):
  Calls Tryz.prog 133 #[.int .i64 (x:Nat),.int .i64 (y:Nat),.pointer (some ⟨h,0,none⟩),.pointer (some ⟨i,0,none⟩)] w (eT bI okN w g C d (eR t x y d)):=by
 have j:=zh (blChoose w g C d m t x y p r s);generalize eR t x y d=q at*;have u:=k.at_ 0 _ rfl;have z:=l.at_ 0 _ rfl;go_enter Tryz.func133,Tryz.ntmps133;go_wp2_with fail;refine j.out.mono ?_;intro e w2 c;rcases c.cases with⟨a,v,rfl,rfl,b,n,o,f⟩|⟨rfl,rfl,f⟩
 ·unfold bI;go_wp2_with fail;go_ret;exact⟨f,rfl,b,n,o⟩
 ·exact⟨rfl,f,rfl⟩
end
end Go.Proofs.YtdahpdnhkflnnaaGreatDoor
