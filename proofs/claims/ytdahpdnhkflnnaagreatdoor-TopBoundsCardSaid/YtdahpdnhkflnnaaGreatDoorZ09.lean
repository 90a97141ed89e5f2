/- Laws for TopBounds, part 9: made small by a program of mine. -/
import Derived.Test.YtdahpdnhkflnnaaGreatDoorZ07
import Derived.Test.YtdahpdnhkflnnaaGreatDoorZ08
set_option linter.unusedVariables false
set_option linter.unusedSimpArgs false
set_option linter.unusedSectionVars false
set_option linter.defProp false
set_option maxRecDepth 100000
set_option maxHeartbeats 64000000
namespace Go.Proofs.YtdahpdnhkflnnaaGreatDoor
open Value renaming int → zI, slice → zU, string → zV, bool → zW, agg → zX, tuple → zY
open IntKind renaming i64 → zi
open Ending renaming returned → zE
open Obj renaming cells → zC
open List renaming length → zN, getD → zG
open Or renaming inl → zQ, inr → zO
open Go.Proofs.Tryz
section
open Go.RowKit Go.Maps
def spL (r:Sp):List Value:=[zI zi (r.1:Nat),zI zi (r.2:Nat)]
def spR:Rd Sp where
 k:=2
 ts:=[]
 pos:=by decide
 R:=λw us x F=>us=spL x
 len:=λh=>by rw[h];rfl
 one:=λh u a=>by rw[h] at a;unfold spL at a;simp only[DS,DZ,EC] at a;rcases a with rfl|rfl<;>rfl
 mono:=λh _=>h
 same:=λh _ _=>h
def SpA (w:World) (g o:Nat) (L:List Sp):Prop:=g<w.heap.size/\∀i,i<zN L->w.cell? ⟨g,o+i*2,none⟩=some (zI zi ((zG L i (0,0)).1:Nat))/\w.cell? ⟨g,o+i*2+1,none⟩=some (zI zi ((zG L i (0,0)).2:Nat))
def SpA.Q {w w':World} {g o:Nat} {L:List Sp} (h:SpA w g o L) (a:zL w w'):SpA w' g o L:=⟨DU h.1 a.size,λi hi=>⟨(a.cell (p:=⟨g,o+i*2,none⟩) h.1).trans (h.2 i hi).1,(a.cell (p:=⟨g,o+i*2+1,none⟩) h.1).trans (h.2 i hi).2⟩⟩
instance {w w':World} {g o:Nat} {L:List Sp}:Zm w w' (SpA w g o L) (SpA w' g o L):=⟨λhb h=>SpA.Q h hb⟩
def Rs.spA {w:World} {v:Value} {F:Nat->Prop} {l:List Sp} (h:Rs spR w v l F):∃(A:Option Addr) (c:Nat),v=zU A (zN l) c/\zN l<=c/\(0<zN l->∃b o,A=some ⟨b,o,none⟩/\SpA w b o l):=by
 obtain⟨A,c,rfl,i,h⟩:=h;refine⟨A,c,rfl,i,λj=> ?_⟩;obtain⟨b,o,rfl,g,h⟩:=h j;refine⟨b,o,rfl,g,λk hk=> ?_⟩;have⟨us,d,f⟩:=h k _ (DD hk);have a:us=spL l[k]:=f;subst a;have e:zG l k (0,0)=l[k]:=by rw[DC,DD hk];rfl
 rw[e];exact⟨d 0 (by decide),d 1 (by decide)⟩
def SpB (w:World) (g:Nat) (L:List Sp):Prop:=∃cur:Array Value,Box w g cur 65/\∀i,i<zN L->cur[i*2]? =some (zI zi ((zG L i (0,0)).1:Nat))/\cur[i*2+1]? =some (zI zi ((zG L i (0,0)).2:Nat))
section
variable {w w':World} {g:Nat} {L:List Sp}
def SpB.Q (h:SpB w g L) (c:zL w w'):SpB w' g L:=by obtain⟨cur,a,b⟩:=h;exact⟨cur,a.Q c,b⟩
instance:Zm w w' (SpB w g L) (SpB w' g L):=⟨λhb h=>SpB.Q h hb⟩
def SpB.lt (h:SpB w g L):g<w.heap.size:=by obtain⟨cur,a,_⟩:=h;exact a.lt
def SpB.froz (h:SpB w g L) (i:Nat):w.frozen? ⟨g,i,none⟩=false:=by obtain⟨cur,a,_⟩:=h;exact a.frozen i
def SpB.spA (h:SpB w g L):SpA w g 0 L:=by obtain⟨cur,a,b⟩:=h;exact⟨a.lt,λi hi=>⟨by rw[DY,a.cell];exact(b i hi).1,by rw[DY,a.cell];exact(b i hi).2⟩⟩
def SpB.A (h:SpB w g L) {i:Nat} (hi:i<zN L):w.cell? ⟨g,i*2,none⟩=some (zI zi ((zG L i (0,0)).1:Nat))/\w.cell? ⟨g,i*2+1,none⟩=some (zI zi ((zG L i (0,0)).2:Nat)):=by obtain⟨cur,a,b⟩:=h;exact⟨by rw[a.cell];exact(b i hi).1,by rw[a.cell];exact(b i hi).2⟩
def SpB.apart (h:SpB w g L) {b:Nat} {cs:Array Value} {T:TypeId} (d:Box w b cs T) (c:T≠65):b≠g:=by obtain⟨cur,a,_⟩:=h;exact af d a c
def SpB.setNe (h:SpB w g L) (p:Addr) (u:Value) (c:p.block≠g:=by first|omega |(dsimp only;omega)):SpB (w.setCell p u) g L:=by obtain⟨cur,a,b⟩:=h;exact⟨cur,a.setNe _ u c,b⟩
def SpB.set (h:SpB w g L) {i:Nat} (hi:i<zN L) (x y:Nat):SpB ((w.setCell ⟨g,i*2,none⟩ (zI zi x)).setCell ⟨g,i*2+1,none⟩ (zI zi y)) g (L.set i (x,y)):=by
 obtain⟨cur,b,c⟩:=h;refine⟨_,(b.set_ _ _).set_ _ _,λj a=> ?_⟩;rw[Er] at a;have⟨c1,c2⟩:=c j a;have d:=(Fj.1 c1).1;have f:=(Fj.1 c2).1;by_cases e:j=i
 .subst e;rw[fR a];constructor
  .rw[Fx (by omega),Array.getElem?_setIfInBounds_self_of_lt d]
  rw[Array.getElem?_setIfInBounds_self_of_lt (by rw[Array.size_setIfInBounds];exact f)]
 rw[getD_set_ne e];constructor
 .rw[Fx (by omega),Fx (by omega)];exact c1
 rw[Fx (by omega),Fx (by omega)];exact c2
end
def sR:List ByteArray->Nat->List (ByteArray×Int)
 |[],_=>[]
 |x::l,i=>(x,(i:Int))::sR l (i+1)
theorem rF (s:ByteArray):∀(l:List ByteArray) (i:Nat),bZ (sR l i) s=(eO l s).map (λj=>((j+i:Nat):Int))
 |[],i=>rfl
 |x::l,i=>by
  show bZ ((x,(i:Int))::sR l (i+1)) s=(if x=s then some 0 else(eO l s).map (· +1)).map _;rw[cW];by_cases e:x=s
  .rw[DP e,DP e];simp
  rw[DK e,DK e,rF s l (i+1),Option.map_map];congr 1;funext j;simp only[Function.comp];omega
theorem uD:∀(l:List ByteArray) (i:Nat),(sR l i).length=zN l
 |[],_=>rfl
 |x::l,i=>by show(sR l (i+1)).length+1=_;rw[uD];rfl
def kV (names:List ByteArray) (e:Ex):Int:=if e.op=2 then(match eO names e.s with
 |some i=>((i:Nat):Int)
 |none=> -1) else -1
structure NwM (w:World) (gn gm gr cap:Nat) (names:List ByteArray) (n:Nat) (L:List Sp) (ch:Bool):Prop where
 x:Box w gn #[.map (some gm),zU (some ⟨gr,0,none⟩) n cap,zW ch] 116
 m:bR φS w gm (sR names 0)
 r:SpB w gr L
 c:n<=cap
def NwM.Q {w w':World} {gn gm gr cap n:Nat} {names:List ByteArray} {L:List Sp} {ch:Bool} (h:NwM w gn gm gr cap names n L ch) (a:zL w w'):NwM w' gn gm gr cap names n L ch:=⟨h.x.Q a,h.m.Q a,h.r.Q a,h.c⟩
instance {w w':World} {gn gm gr cap n:Nat} {names:List ByteArray} {L:List Sp} {ch:Bool}:Zm w w' (NwM w gn gm gr cap names n L ch) (NwM w' gn gm gr cap names n L ch):=⟨λhb h=>NwM.Q h hb⟩
def NwM.ne {w:World} {gn gm gr cap n:Nat} {names:List ByteArray} {L:List Sp} {ch:Bool} (h:NwM w gn gm gr cap names n L ch):gn≠gr:=h.r.apart h.x (by decide)
def NwL (L:List Sp) (ch:Bool) (b:List Sp) (a:Bool):Prop:=(b=L/\a=ch)\/(a=true/\lc b<lc L)
def NwL.refl (L:List Sp) (ch:Bool):NwL L ch L ch:=zQ ⟨rfl,rfl⟩
def NwL.trans {L b c:List Sp} {ch a ch2:Bool} (h:NwL L ch b a) (k:NwL b a c ch2):NwL L ch c ch2:=by
 rcases h with⟨rfl,rfl⟩|⟨e,d⟩
 .exact k
 rcases k with⟨rfl,rfl⟩|⟨f,g⟩
 .exact zO ⟨e,d⟩
 exact zO ⟨f,Nat.lt_trans g d⟩
def tb:List PanicEntry:=[{v:= .iface 175 (zX #[]),recovered:=false}]
def NwR (S:List Nat->Prop) (names:List ByteArray) (gn gm gr cap n:Nat) (L:List Sp) (ch:Bool) (w:World) (e:Ending) (w':World):Prop:=K2 w w' gn gr/\((e= .panicked tb/\∀a,¬S a)\/(e=zE (zY #[])/\∃c b,NwM w' gn gm gr cap names n c b/\NwI S n c/\NwL L ch c b))
def i9 {w:World} {b:Nat} {l:List (ByteArray×Int)} (h:bR φS w b l) {p:Addr} (c:p.spot=none) (a:p.block≠b) (u:Value):bR φS (w.setCell p u) b l:=by obtain⟨g,i,s⟩:=p;simp only at c a;subst c;exact h.grown (bI (bJ _ _)) (by simpa using a)
def NwM.put {w:World} {gn gm gr cap n:Nat} {names:List ByteArray} {L:List Sp} {ch:Bool} (h:NwM w gn gm gr cap names n L ch) {i:Nat} (hi:i<zN L) (x y:Nat):NwM (((w.setCell ⟨gr,i*2,none⟩ (zI zi x)).setCell ⟨gr,i*2+1,none⟩ (zI zi y)).setCell ⟨gn,2,none⟩ (zW true)) gn gm gr cap names n (L.set i (x,y)) true:=by
 have a:=h.ne;have⟨cur,d,b⟩:=h.r;have f:=fp h.m h.x;have c:=fp h.m d;have g:SpB w gr L:=⟨cur,d,b⟩;exact⟨((h.x.setNe ⟨gr,i*2,none⟩ _ (FA a)).setNe ⟨gr,i*2+1,none⟩ _ (FA a)).set_ 2 (zW true),
  i9 (p:=⟨gn,2,none⟩) (i9 (p:=⟨gr,i*2+1,none⟩) (i9 (p:=⟨gr,i*2,none⟩) h.m rfl (λe=>c e.symm) _) rfl (λe=>c e.symm) _) rfl (λe=>f e.symm) _,
  (g.set hi x y).setNe ⟨gn,2,none⟩ _ a,h.c⟩
theorem gW {S:List Nat->Prop} {names:List ByteArray} (w:World) (gn gm gr cap n i:Nat) (L:List Sp) (ch:Bool) (R:NwM w gn gm gr cap names n L ch) (o:NwI S n L) (hi:i<n) (T:n<=16) (lo j:Int) (ai: -70000<=lo/\lo<=70000) (ah: -70000<=j/\j<=70000)
  (t:∀a,S a->lo<=((zG a i 0:Nat):Int)/\((zG a i 0:Nat):Int)<=j):
  Calls zz 171 #[zP gn,zI zi i,zI zi lo,zI zi j] w (NwR S names gn gm gr cap n L ch w):=by
 have J:=o.ok i hi;have k:=λa ha=>o.sol a ha i hi;have C:=zh o.len;have B:=R.r.A (i:=i) (by rw[o.len];exact hi);have F:=zh fun(x y:Nat) (h:x<=y/\y<=65535) (h2:∀a,S a->x<=zG a i 0/\zG a i 0<=y)=>o.set hi (r:=(x,y)) h h2;have d:=zh fun(x y:Nat)=>tX (L:=L) (i:=i) (r:=(x,y)) (by rw[o.len];exact hi);have⟨HI,c,HS,v⟩:=zk4 o R t k;have u:Hid (∃r,zG L i (0,0)=r):=zh ⟨_,rfl⟩;have⟨r,hr⟩:=u.out;have u:=zh hr;rw[hr] at J k B d v;clear hr;obtain⟨a,b⟩:=r;obtain⟨aa,ac⟩:=J;simp only at aa ac B d;obtain⟨r0,r1⟩:=B;have x1:=R.x.A 1 _ rfl;have i0:=zn0 i;have i1:(i:Int)<(n:Int):=by omega
 have⟨g,A⟩:=zv (max (a:Int) lo);have⟨f,z⟩:=zv (min (b:Int) j);clear R o t k;go_enter func171,ntmps171;go_upto_region 1 with fail;generalize N:w.alloc _=w1 at*;have⟨e,P⟩:=zA1 N;clear N;have l:=zh ((K2.refl w gn gr).Q e);replace c:=zb c e;clear e r0 r1 x1;obtain⟨a0,a1⟩:=zc2 P;go_upto_region 2 with fail;rw[<-A,<-z];have⟨E,D⟩:=zk2 A z;clear A z a0 a1;have e:=ab w1 (zC #[zI zi g,zI zi f] 65);have U:Hid (gr<w1.heap.size):=zh c.r.lt;have m:=zh (Box.new w1 65 #[zI zi g,zI zi f]);replace⟨l,c,P⟩:=zb3 l c P e;clear e;generalize w1.alloc (zC #[zI zi g,zI zi f] 65)=w2 at*;go_cut [29] from 27 to 29 (λag M=>∃q:Bool,ag=zW q/\M=w2/\(q=true↔¬(g=(a:Int)/\f=(b:Int))))
 case first=>
  obtain⟨a0,a1⟩:=zc2 P;obtain⟨n0,n1⟩:=zc2 m;by_cases e1:g=(a:Int)
  .subst e1;by_cases Q:f=(b:Int)
   .subst Q;go_wp2;go_meet;exact⟨false,rfl,rfl,by simp⟩
   go_wp2;go_meet;exact⟨true,rfl,rfl,by simp[Q]⟩
  go_wp2;go_meet;exact⟨true,rfl,rfl,by simp[e1]⟩
 case rest=>
  obtain⟨q,rfl,rfl,K⟩:=hcut;have Y:=zh K;clear K;go_upto_if 29 with fail;go_cut [8] from 30 to 47 (λ_ M=>K2 w M gn gr/\Box M w1.heap.size #[zI zi g,zI zi f] 65/\(g<=f->∃Z G,NwM M gn gm gr cap names n Z G/\NwI S n Z/\NwL L ch Z G))
  case first=>
   cases q with
   |false=>go_wp2;go_meet;exact⟨l,m,λ_=>⟨L,ch,c,HI,NwL.refl _ _⟩⟩
   |true=>
    have HQ:Hid (g<=f->∃x y:Nat,g=(x:Nat)/\f=(y:Nat)/\x<=y/\y<=65535/\y-x<b-a/\∀a,S a->x<=zG a i 0/\zG a i 0<=y):=zh λH=>by have e1:=E.out;have Q:=D.out;have e3:=Y.1 (by trivial);refine⟨g.toNat,f.toNat,by omega,by omega,by omega,by omega,by omega,λs t=> ?_⟩;have q1:=HS s t;have q2:=v s t;obtain⟨q3,q4⟩:=q2;simp only at q3 q4;exact⟨by omega,by omega⟩
    go_upto_region 3 with fail;refine aj 8 ?_;have x1:=c.x.lat 1 _ rfl;have n0:=m.lat 0 _ rfl;have n1:=m.lat 1 _ rfl;simp only[Ee,El,Ei,D5];repeat(go_big_quiet_step (fail))
    refine D4 ?_;intro w3 B;clear x1 n0 n1;replace⟨l,c,m⟩:=zb3 l c m B;clear B;have K:=c.r.A (i:=i) (by rw[C];exact hi);rw[u] at K;obtain⟨r0,r1⟩:=K;have am:=c.r.froz (i*2);have an:=c.r.froz (i*2+1);have rl:=c.r.lt;have g2:=c.x.A 2 _ rfl;have gz:=c.x.Z 2;have gl:=c.x.lt;have al:=c.ne;have I:gr≠w1.heap.size:=Nat.ne_of_lt U;have ae:gn≠w1.heap.size:=af c.x m;go_wp2;go_meet;exact⟨((l.set (p:=⟨gr,i*2,none⟩) (zO rfl) _).set (p:=⟨gr,i*2+1,none⟩) (zO rfl) _).set (p:=⟨gn,2,none⟩) (zQ rfl) _,
     ((m.setNe ⟨gr,i*2,none⟩ _ I).setNe ⟨gr,i*2+1,none⟩ _ I).setNe ⟨gn,2,none⟩ _ ae,λH=>by
     obtain⟨x,y,rfl,rfl,h1,h2,h3,h4⟩:=HQ H;exact⟨L.set i (x,y),true,c.put (by rw[C];exact hi) x y,F x y ⟨h1,h2⟩ h4,zO ⟨rfl,d x y h3⟩⟩⟩
  case rest=>
   obtain⟨hk,T,hL⟩:=hcut;have⟨l,HL⟩:=zk2 hk hL;have n0:=T.A 0 _ rfl;have n1:=T.A 1 _ rfl;have W:Hid (f<g->∀a,¬S a):=zh λak s t=>by have e1:=E.out;have Q:=D.out;have q1:=HS s t;have q2:=v s t;obtain⟨q3,q4⟩:=q2;simp only at q3 q4;omega
   clear hk hL T;by_cases ad:f<g
   .have X:=zh (W ad);go_wp2;exact⟨rfl,l,zQ ⟨rfl,X⟩⟩
   have V:=zh (HL (by omega));go_wp2;go_end0;exact⟨l,zO ⟨rfl,V⟩⟩
theorem qM (w:World) (gn gm gr cap n:Nat) (names:List ByteArray) (L:List Sp) (ch:Bool) (o:NwM w gn gm gr cap names n L ch) (e:Ex) (x:Value) (y:e.s.size<=maxLen):
  Calls zz 172 #[zP gn,exV e x] w (zR (zI zi (kV names e)) w):=by
 have k:=zh o.x;have a:=zh fun(W:World) (h:zL w W)=>(o.m.Q h).look2 (mT:=110) underlying110 (x:=e.s) y;have u:=zh (rF e.s names 0)
 have d:Hid (kV names e=if e.op=2 then(match eO names e.s with
  |some i=>((i:Nat):Int)
  |none=> -1) else -1):=zh rfl
 rw[u] at a;unfold exV;generalize e.s=em,e.n=en,e.op=op,eO names e.s=q,kV names e=v at*;clear o u y;go_enter func172,ntmps172;go_upto_region 1 with fail;generalize j:w.alloc _=w1 at*;have⟨c,g⟩:=zA1 j;clear j;replace k:=zb k c;have b:=zh c;clear c
 cases q with
 |none=>
  have f:Hid (v= -1):=zh (by rw[d];split<;>rfl);refine az ?_;have t:=k.lat 0 _ rfl;have l:=g.lat 2 _ rfl;have s:∀p:Lat w1,(Instr.lookup 110 (.map (some gm)) (zV em) true).run zz p.w= .ok (zY #[zI zi 0,zW false]) p.w:=λp=>a p.w (aa b p.h)
  repeat(go_big_quiet_step (fail))
  refine D4 ?_;intro w2 r;clear t l s a d;replace b:=zb b r
  go_wp2
  go_ret;exact⟨by rw[f];rfl,b⟩
 |some i=>
  refine az ?_;have t:=k.lat 0 _ rfl;have l:=g.lat 2 _ rfl;have s:∀p:Lat w1,(Instr.lookup 110 (.map (some gm)) (zV em) true).run zz p.w= .ok (zY #[zI zi i,zW true]) p.w:=λp=>a p.w (aa b p.h)
  repeat(go_big_quiet_step (fail))
  refine D4 ?_;intro w2 r;clear t l s a;replace⟨b,g⟩:=zb2 b g r;have e0:=za g 0
  by_cases m:op=2
  .have f:Hid (v=(i:Nat)):=zh (by rw[d,DP m]);subst m;clear d
   go_wp2
   go_ret;exact⟨by rw[f];rfl,b⟩
  .have f:Hid (v= -1):=zh (by rw[d,DK m]);clear d
   go_wp2
   go_ret;exact⟨by rw[f];rfl,b⟩
def InP (a b:Nat) (L:List Sp) (z:Nat):Prop:=∃x xs,(a<=x/\x<=b)/\zN xs=zN L/\(∀i,i<zN L->dt (zG xs i 0) (zG L i (0,0)))/\z=tN (eW x xs)
def rh (W:World) (c1 c2:Array Value) (T:TypeId):Box (((W.alloc (zC c1 T)).alloc (zC c2 T)).drew) W.heap.size c1 T/\Box (((W.alloc (zC c1 T)).alloc (zC c2 T)).drew) (W.heap.size+1) c2 T/\zL W (((W.alloc (zC c1 T)).alloc (zC c2 T)).drew):=by have c:=ab W (zC c1 T);have b:=ab (W.alloc (zC c1 T)) (zC c2 T);have a:Below ((W.alloc (zC c1 T)).alloc (zC c2 T)).heap.size _ (((W.alloc (zC c1 T)).alloc (zC c2 T)).drew):=ae _;exact⟨((eS T c1 rfl).Q b).Q a,(eS T c2 (by simp)).Q a,aa (aa c b) a⟩
def R6 (w:World) (a b:Nat) (h1:a<=b) (h2:b<=65535) (L:List Sp) (hL:∀i,i<zN L->lz (zG L i (0,0))) (A:Option Addr) (c:Nat) (hS:0<zN L->∃g o,A=some ⟨g,o,none⟩/\SpA w g o L) (hl:zN L<=1000) (P:zN L<=c):Calls zz 184 #[zX #[zI zi a,zI zi b],zU A (zN L) c] w (SpQ (InP a b L) w):=by
 have⟨CY,CK⟩:=zk2 Vj mR;simp only[spV] at CY CK;have⟨y,F⟩:=zk2 hL hS;have⟨m,E⟩:=zvh (zN L);rw[<-E] at hl P F y⊢;go_enter func184,ntmps184;go_upto_region 1 with fail;generalize Z:w.alloc _=zw1 at*;generalize aa:zw1.alloc _=w1 at*;have⟨n,B,r⟩:=zB2 Z aa;go_wp2;go_loopw [5,6] (λim i wr=>∃(q:Bool) (k:Nat),im=zW q/\i=zI zi ((2*k:Nat):Int)/\2*k<=m+1/\(q=true->∀j,j<k->2*j+1<m->¬(a<=(zG L (2*j+1) (0,0)).2/\(zG L (2*j) (0,0)).1<=b/\(zG L (2*j) (0,0)).1<=(zG L (2*j+1) (0,0)).2))/\zL w wr/\Box wr w.heap.size #[zI zi a,zI zi b] 65/\Box wr (w.heap.size+1) #[zI zi 0,zI zi 0] 65) (λ_ i _=>m+1-(intOf i).toNat)
 .exact⟨true,0,rfl,rfl,by omega,λ_ j hj=>by omega,n,B,r⟩
 obtain⟨q,k,rfl,rfl,hk,hq,G,T,U⟩:=hrel;have⟨n,B,r,HQ⟩:=zk4 G T U hq;by_cases S:2*k+1<m
 .have J:((2*k:Nat):Int)+1<(m:Int):=by omega
  have k0:(0:Int)<=((2*k:Nat):Int):=by omega
  have k1:(0:Int)<=((2*k:Nat):Int)+1:=by omega
  have k2:((2*k:Nat):Int)<(m:Int):=by omega
  have⟨g,o,e,M⟩:=F (by omega);subst e;have ab:=M.Q n;have⟨ac,I⟩:=M.Q n;have⟨p0,p1⟩:=I (2*k) (by rw[<-E];omega);have⟨p2,p3⟩:=I (2*k+1) (by rw[<-E];omega);have ad:=y (2*k) (by omega);have ae:=y (2*k+1) (by omega);have H2:Hid (∀V:Bool,(V=true->q=true/\¬(a<=(zG L (2*k+1) (0,0)).2/\(zG L (2*k) (0,0)).1<=b/\(zG L (2*k) (0,0)).1<=(zG L (2*k+1) (0,0)).2))->V=true->∀j,j<k+1->2*j+1<m->¬(a<=(zG L (2*j+1) (0,0)).2/\(zG L (2*j) (0,0)).1<=b/\(zG L (2*j) (0,0)).1<=(zG L (2*j+1) (0,0)).2)):=zh λV h K j hj Q=>by
   by_cases e:j=k
   .rw[e];exact(h K).2
   exact HQ (h K).1 j (by omega) Q
  have HY:Hid ((zG L (2*k) (0,0)).2<=a->b<=(zG L (2*k+1) (0,0)).1->∀z,InP a b L z->dt z (1,1)):=zh λq1 q2 z ⟨x,xs,⟨r1,r2⟩,r3,r4,e⟩=>by
   have R:2*k+1<zN L:=by rw[<-E];exact S
   have s1:=(r4 (2*k) (by omega)).2;have s2:=(r4 (2*k+1) R).1;rw[e,uM k (by omega) (by omega) (by omega)];exact⟨by decide,by decide⟩
  generalize zG L (2*k) (0,0)=lo,zG L (2*k+1) (0,0)=hi at*;obtain⟨d,l⟩:=lo;obtain⟨p,f⟩:=hi;simp only at p0 p1 p2 p3 H2 HY;go_upto_region 5 with fail;go_region;have⟨X,W,H⟩:=rh wr #[zI zi d,zI zi l] #[zI zi p,zI zi f] 65;generalize((wr.alloc (zC #[zI zi d,zI zi l] 65)).alloc (zC #[zI zi p,zI zi f] 65)).drew=w2 at*;rotate_left;have⟨W,X,H⟩:=rh wr #[zI zi p,zI zi f] #[zI zi d,zI zi l] 65;generalize((wr.alloc (zC #[zI zi p,zI zi f] 65)).alloc (zC #[zI zi d,zI zi l] 65)).drew=w2 at*;rotate_left;all_goals
   replace⟨n,B,r⟩:=zb3 n B r H;have l0:=X.A 0 _ rfl;have l1:=X.A 1 _ rfl;have u0:=W.A 0 _ rfl;have u1:=W.A 1 _ rfl;obtain⟨a0,a1⟩:=zc2 B;have P:((l:Int)<=(a:Int)/\(b:Int)<=(p:Int))\/((l:Int)<=(a:Int)/\¬(b:Int)<=(p:Int))\/¬(l:Int)<=(a:Int):=by omega
   rcases P with⟨z1,z2⟩|⟨z1,z2⟩|z1
   .have N:=zh (HY (by omega) (by omega));go_wp2;refine zK (CY _) λw3 G=> ?_;replace⟨n,r⟩:=zb2 n r G;have⟨s,t,u,C,D⟩:=zr r;go_wp2;refine D7 (v:=zX #[zI zi ((1:Nat):Int),zI zi ((1:Nat):Int)]) (by simp[results,results184,go_sem,s,t,u]) rfl ?_;exact du (a:=1) (b:=1) rfl rfl ⟨by decide,by decide⟩ N (ak n)
   all_goals
    have hd:((d:Int)<=(b:Int)/\(a:Int)<=(f:Int)/\(d:Int)<=(f:Int))\/((d:Int)<=(b:Int)/\(a:Int)<=(f:Int)/\¬(d:Int)<=(f:Int))\/((d:Int)<=(b:Int)/\¬(a:Int)<=(f:Int))\/¬(d:Int)<=(b:Int):=by omega
    rcases hd with⟨Y,y2,y3⟩|⟨Y,y2,y3⟩|⟨Y,y2⟩|Y
    .go_wp2;go_roundw
     .exact⟨false,k+1,rfl,by go_num,by omega,λh=>(by cases h),n,B,r⟩
     simp[intOf];omega
    all_goals
     have HN:=zh (H2 q (λh=>⟨h,by omega⟩));go_wp2;go_roundw
     .exact⟨q,k+1,rfl,by go_num,by omega,HN,n,B,r⟩
     simp[intOf];omega
 have J:¬((2*k:Nat):Int)+1<(m:Int):=by omega
 have HZ:Hid (∀z,InP a b L z->dt z (knS false q)):=zh λz ⟨x,xs,⟨r1,r2⟩,r3,r4,e⟩=>by rw[e];refine mr (λh=>by cases h) (λh=>y9 λj hj hx=> ?_);have s1:=r4 (2*j) (by omega);have s2:=r4 (2*j+1) (by omega);have:=HQ h j (by have:=E.out;omega) (by have:=E.out;omega);obtain⟨s3,s4⟩:=s1;obtain⟨s5,s6⟩:=s2;omega
 go_wp2;refine zK (CK _ _ _) λw3 G=> ?_;replace⟨n,r⟩:=zb2 n r G;have⟨s,t,u,C,D⟩:=zr r;go_wp2;refine D7 (v:=zX #[zI zi ((knS false q).1:Nat),zI zi ((knS false q).2:Nat)]) (by simp[results,results184,go_sem,s,t,u]) rfl ?_;exact du rfl rfl (oy _ _) HZ (ak n)
def sX:(zz.info? 65).map (λi=>(i.zero,i.size,i.bytes))=some (some (zX #[zI zi 0,zI zi 0]),2,16):=by kernel_rfl
def spZ (n:Nat):Array Value:=madeCells (spV (0,0)).cells (n*2)
def sH (n:Nat) (f:n<=1000) (W:World):(Instr.makeSlice 58 (zI zi (n:Int)) (zI zi (n:Int))).run zz W= .ok (zU (some ⟨W.heap.size,0,none⟩) n n) (W.alloc (zC (spZ n) 65)):=by have⟨i,e,b,c,d⟩:=EX sX;have a:=run_make (P:=zz) W 58 65 i (spV (0,0)) underlying58 e b .i64 .i64 n n (by omega) (by omega) (by rw[d];omega) (by omega);rw[c] at a;simp only[Eh] at a;exact a
def Qc {w:World} {g n:Nat} (h:Box w g (spZ n) 65):SpB w g (List.replicate n (0,0)):=by
 refine⟨_,h,λi hi=> ?_⟩;rw[Es] at hi;have e:(List.replicate n ((0,0):Sp)).getD i (0,0)=(0,0):=by rw[DC,E7,DP hi];rfl
 have a:∀j,j<n*2->(madeCells (spV (0,0)).cells (n*2))[j]? =some (zI zi 0):=λj d=>by
  have b:(spV (0,0)).cells=#[zI zi 0,zI zi 0]:=rfl;rw[b];have c:(Array.range (n*2))[j]? =some j:=by rw[Fj];exact⟨by simpa using d,by simp⟩
  have:j%2=0\/j%2=1:=by omega
  rcases this with h|h<;>simp[madeCells,c,h]
 rw[e];exact⟨a _ (by omega),a _ (by omega)⟩
def EvP (S:List Nat->Prop) (names:List ByteArray) (k:Nat) (e:Ex) (z:Nat):Prop:=∃a,S a/\z=evT (aM names a) k e
def cS {f:Ex->Nat} {l:List Ex} {j:Nat} (h:j<zN l):(l.map f).getD j 0=f (zG l j ex0):=by rw[DC,DC,Ed,DD h];rfl
section
variable {op:Int} {l:List Nat} {R:List Sp} {g i m:Nat} {w w0:World}
def EvS (k:Nat):Prop:=∀(S:List Nat->Prop) (names:List ByteArray) (known:ByteArray->Bool) (w:World) (gn gm gr cap n:Nat) (L:List Sp) (ch:Bool) (e:Ex) (d:Nat) (x:Value),NwM w gn gm gr cap names n L ch->NwI S n L->zN names=n->n<=16->ExZ e->okE known k e=true->Rs (exR d) w x e.a ah→
 Calls zz 108 #[zP gn,exV e x] w (SpQ (EvP S names k e) w)
def ArS (S:List Nat->Prop) (names:List ByteArray) (k:Nat) (l:List Ex) (i:Nat) (R:List Sp):Prop:=zN R=zN l/\∀j,j<i->lz (zG R j (0,0))/\∀a,S a->dt (evT (aM names a) k (zG l j ex0)) (zG R j (0,0))
def ArS.set {S:List Nat->Prop} {names:List ByteArray} {k:Nat} {l:List Ex} (h:ArS S names k l i R) (hi:i<zN l) {r:Sp} (b:lz r) (c:∀z,EvP S names k (zG l i ex0) z->dt z r):ArS S names k l (i+1) (R.set i r):=by
 refine⟨by rw[Er];exact h.1,λj f=> ?_⟩;by_cases e:j=i
 .subst e;rw[fR (by rw[h.1];exact hi)];exact⟨b,λa d=>c _ ⟨a,d,rfl⟩⟩
 rw[getD_set_ne e];exact h.2 j (by omega)
def ma (a:op≠22) (b:op≠23) (c:zN l=1):opT op l=op1 op (zG l 0 0):=by unfold opT;rw[DK a,DK b,DP c]
def kC (a:op≠22) (b:op≠23) (c:zN l=2):opT op l=op2 op (zG l 0 0) (zG l 1 0):=by unfold opT;rw[DK a,DK b,DK (by omega)]
def mc (h:ed op m=true) (a:op=4\/op=5\/op=6\/op=25):m=1:=by rcases a with rfl|rfl|rfl|rfl<;>(unfold ed at h;simpa using h)
def TB (h:ed 22 m=true):m=3:=by unfold ed at h;simpa using h
def uq (h:ed 23 m=true):3<=m/\m<=33:=by unfold ed at h;simp at h;omega
def kD (h:ed op m=true) (d:op≠1:=by decide) (e:op≠2:=by decide) (f:op≠4:=by decide) (g:op≠5:=by decide) (i:op≠6:=by decide) (c:op≠25:=by decide) (a:op≠22:=by decide) (b:op≠23:=by decide):m=2/\7<=op/\op<=21:=by unfold ed at h;rw[DK (by omega),DK (by omega),DK (by omega),DK (by omega)] at h;simp at h;omega
def Sc (w:World) (op:Int) (k:7<=op/\op<=21) (a b c d:Nat) (e:a<=b) (f:b<=65535) (g:c<=d) (i:d<=65535):Calls zz 185 #[zI zi op,zX #[zI zi a,zI zi b],zX #[zI zi c,zI zi d]] w (SpQ (OpP (op2 op) a b c d) w):=by
 have j:op=7\/op=8\/op=9\/op=10\/op=11\/op=12\/op=13\/op=14\/op=15\/op=16\/op=17\/op=18\/op=19\/op=20\/op=21:=by omega
 rcases j with rfl|rfl|rfl|rfl|rfl|rfl|rfl|rfl|rfl|rfl|rfl|rfl|rfl|rfl|rfl
 .exact Dz w 7 _ _ a b c d e f g i (λW=>Yx W a b c d e f g i) (by simp)
 .exact Dz w 8 _ _ a b c d e f g i (λW=>Xg W a b c d e f g i) (by simp)
 .exact Y8 w a b c d e f g i
 .exact Dz w 10 _ _ a b c d e f g i (λW=>Sb W 10 (λx y=>x&&&y) a b c d e f g i (zQ ⟨rfl,rfl,fX a c (by omega) (by omega)⟩)) (by simp)
 .exact Dz w 11 _ _ a b c d e f g i (λW=>Sb W 11 (λx y=>x|||y) a b c d e f g i (zO (zQ ⟨rfl,rfl,p8 a c (by omega) (by omega)⟩))) (by simp)
 .exact Dz w 12 _ _ a b c d e f g i (λW=>Sb W 12 (λx y=>x^^^y) a b c d e f g i (zO (zO ⟨rfl,rfl,oz a c (by omega) (by omega)⟩))) (by simp)
 .exact Dz w 13 _ _ a b c d e f g i (λW=>Yy W a b c d e f g i) (by simp)
 .exact YE w a b c d e f g i
 .exact YD w 15 a b c d e f g i (by decide)
 .exact YD w 16 a b c d e f g i (by decide)
 .exact YC w 17 _ _ a b c d e f g i (zQ ⟨rfl,rfl,rfl⟩) λx y _ _ _ _=>mr (z:=decide (x<y)) (λh=>by have:=Ey h;simp;omega) (λh=>by have:=Ey h;simp;omega)
 .exact YC w 18 _ _ a b c d e f g i (zO ⟨rfl,rfl,rfl⟩) λx y _ _ _ _=>mr (z:= !decide (y<x)) (λh=>by have:=Ey h;simp;omega) (λh=>by have:=Ey h;simp;omega)
 .exact Xh w 19 _ a b c d e f g i (zQ ⟨rfl,rfl⟩) (oy _ _) λx y _ _ _ _=>mr (z:=decide (x≠0)&&decide (y≠0)) (λh=>by simp at h⊢;omega) (λh=>by simp at h⊢;omega)
 .exact Xh w 20 _ a b c d e f g i (zO (zQ ⟨rfl,rfl⟩)) (oy _ _) λx y _ _ _ _=>mr (z:=decide (x≠0)||decide (y≠0)) (λh=>by simp at h⊢;omega) (λh=>by simp at h⊢;omega)
 exact Xh w 21 _ a b c d e f g i (zO (zO ⟨rfl,rfl⟩)) (oy _ _) λx y _ _ _ _=>mr (z:= !decide (x≠0)||decide (y≠0)) (λh=>by simp at h⊢;omega) (λh=>by simp at h⊢;omega)
structure ArB (w0:World) (g m:Nat) (R:List Sp) (w:World):Prop where
 b:SpB w g R
 l:zN R=m
def ArB.A (h:ArB w0 g m R w) (hi:i<m) (o:Nat) (a:o=i*2):w.cell? ⟨g,o,none⟩=some (zI zi ((zG R i (0,0)).1:Nat))/\w.cell? ⟨g,o+1,none⟩=some (zI zi ((zG R i (0,0)).2:Nat)):=by subst a;exact h.b.A (by rw[h.l];exact hi)
def ArB.lat (h:ArB w0 g m R w) (hi:i<m) (o:Nat) (a:o=i*2):(∀p:Lat w,p.w.cell? ⟨g,o,none⟩=some (zI zi ((zG R i (0,0)).1:Nat)))/\(∀p:Lat w,p.w.cell? ⟨g,o+1,none⟩=some (zI zi ((zG R i (0,0)).2:Nat))):=by subst a;exact⟨λp=>((h.b.Q p.h).A (by rw[h.l];exact hi)).1,λp=>((h.b.Q p.h).A (by rw[h.l];exact hi)).2⟩
theorem US (k:Nat) (IH:EvS k):EvS (k+1):=by
 intro S names known w gn gm gr cap n L ch e d x hM hI aL a3 H ay hr;have⟨aN,bJ,bK,bL,bs,a5⟩:=jV ay;have⟨a1,bB,bt,a6,aP⟩:=pJ aN;have⟨bd,HM,HI⟩:=zk3 IH hM hI;have bm:=zh H.a;have⟨bh,ac,bg⟩:=zk3 a5 aN aL;have aY:=sH (zN e.a) (by omega);obtain⟨A,c,rfl,hc,hx⟩:=hr.exs;have HX:=zh hx;have CV:=zh fun(W:World) (h:NwM W gn gm gr cap names n L ch)=>qM W gn gm gr cap n names L ch h e (zU A (zN e.a) c) H.s;have bc:Hid (∀a,evT (aM names a) (k+1) e=if e.op=1 then e.n.toNat else if e.op=2 then aM names a e.s else opT e.op (e.a.map (evT (aM names a) k))):=zh λa=>kc _ _ _;have bk:Hid (kV names e=if e.op=2 then(match eO names e.s with
  |some i=>((i:Nat):Int)
  |none=> -1) else -1):=zh rfl;have aU:Hid (∀a,aM names a e.s=match eO names e.s with
  |some i=>zG a i 0
  |none=>0):=zh λa=>rfl;have be:Hid (∀i,eO names e.s=some i->i<n):=zh λi h=>by rw[<-aL];exact sY h
 have⟨m,ag⟩:=zvh (zN e.a);have aT:Hid (EvP S names (k+1) e=λz=>∃a,S a/\z=evT (aM names a) (k+1) e):=zh rfl;unfold exV at CV⊢;rw[<-ag] at a1 hc HX aY CV ac⊢;generalize EvP S names (k+1) e=PP,kV names e=vx,e.op=op,e.n=en,e.s=em at*;clear hM hI H hr hx ay aN bs a5 aL;go_enter func108,ntmps108;go_upto_region 1 with fail;generalize ad:w.alloc _=zw1 at*;generalize bb:zw1.alloc _=w1 at*;have⟨D,E,F⟩:=zB2 ad bb;clear ad bb;have az:=za E 3;go_upto_region 2 with fail;generalize ad:w1.alloc _=w2 at*;have⟨ap,XG⟩:=zA1 ad;clear ad;have au:Hid (w.heap.size+1<w1.heap.size):=zh F.lt;replace⟨E,F,D⟩:=zb3 E F D ap;clear ap aY;generalize w1.heap.size=g at*;have f:Hid (ArB w g m (List.replicate m (0,0)) w2):=zh ⟨Qc XG,Es ..⟩;have az:=za E 3;go_wp2;go_loopw [16] (λi wr=>∃(j:Nat) (R:List Sp),j<=m/\i=zI zi j/\ArB w g m R wr/\ArS S names k e.a j R/\Box wr w.heap.size #[zI zi op,zI zi en,zV em,zU A m c] 79/\Box wr (w.heap.size+1) #[zI zi 0,zI zi 0] 65/\zL w wr) (λi _=>m-(intOf i).toNat)
 .exact⟨0,_,DH _,rfl,f,⟨by rw[f.l,ag],λj hj=>by omega⟩,E,F,D⟩
 obtain⟨j,R,hj,rfl,aZ,aA,a9,ba,G⟩:=hrel;have⟨D,E,F,f,av⟩:=zk5 G a9 ba aZ aA;clear G a9 ba aZ aA;by_cases af:j<m
 .have⟨a2,j0⟩:=zln af;have a0:j<zN e.a:=by rw[<-ag];exact af
  obtain⟨b,o,p,d',e2,bo,bH,aq,aQ, -⟩:=HX j af;subst e2;obtain⟨v0,v1,v2,v3⟩:=zx4 D bo aq;rw[Eb] at v0;have aE:=zh fun(r:Sp) h1 h2=>av.set a0 (r:=r) h1 h2;have I:=getD_in ex0 a0;have CD:=zh fun(W':World) (h1:zL w W')=>bd S names known W' gn gm gr cap n L ch (zG e.a j ex0) d' _ (HM.Q h1) HI bg a3 (bm _ I) (bh _ I) (aQ.Q h1);generalize zG e.a j ex0=a at*;obtain⟨Ap,cp,rfl,bp⟩:=aQ.slice;clear aq aQ I;unfold exV at CD;have⟨ao,aK⟩:=zv (a.op);have⟨an,aJ⟩:=zv (a.n);have⟨am,aI⟩:=zv (a.s);have⟨al,aH⟩:=zv (zN a.a);rw[<-aK,<-aJ,<-aI,<-aH] at CD;rw[<-aK] at v0;rw[<-aJ] at v1;rw[<-aI] at v2;rw[<-aH] at v3;clear aK aJ aI aH bp;go_upto_region 5 with fail;clear v0 v1 v2 v3;replace f:Hid (ArB w g m R _):=zh ⟨f.b.Q (ab wr (zC #[zI zi ao,zI zi an,zV am,zU Ap al cp] 79)),f.l⟩;generalize ad:wr.alloc _=w3 at*;have⟨ap,XA⟩:=zA1 ad;clear ad;replace⟨E,F,D⟩:=zb3 E F D ap;clear ap;obtain⟨bu,bv,bw,bx⟩:=zc4 XA;go_wp2;refine(CD w3 D).mono ?_;rintro q w4 ⟨⟨r0,r1⟩,rfl,aD,aC,G⟩;replace f:Hid (ArB w g m R w4):=zh ⟨f.b.Q G,f.l⟩;replace⟨E,F,XA,D⟩:=zb4 E F XA D G;clear G;have aV:=zh (aE (r0,r1) aD aC);clear aD aC;simp only[spV];have hq:=f.b.A (i:=j) (by rw[f.l];exact af);obtain⟨c0,c1⟩:=hq;have bN:=f.b.froz (j*2);have bO:=f.b.froz (j*2+1);have rl:=f.b.lt;go_wp2;have a4:g≠w.heap.size+1:=by have:=au.out;omega
  have aB:g≠w.heap.size:=by have:=au.out;omega
  go_roundw
  .exact⟨j+1,R.set j (r0,r1),by omega,by go_num,⟨f.b.set (by rw[f.l];exact af) r0 r1,by rw[Er];exact f.l⟩,aV,(E.setNe ⟨g,j*2,none⟩ _ aB).setNe ⟨g,j*2+1,none⟩ _ aB,(F.setNe ⟨g,j*2,none⟩ _ a4).setNe ⟨g,j*2+1,none⟩ _ a4,(D.setCell (p:=⟨g,j*2,none⟩) (by have:=au.out;show _<=g;omega) _).setCell (p:=⟨g,j*2+1,none⟩) (by have:=au.out;show _<=g;omega) _⟩
  simp[intOf];omega
 have a2:=zge af;obtain rfl:j=m:=by omega
 have HZ:Hid (∀z,PP z->∃s,S s/\z=if op=1 then en.toNat else if op=2 then aM names s em else opT op (e.a.map (evT (aM names s) k))):=zh λz H=>by rw[aT] at H;obtain⟨s,hs,rfl⟩:=H;exact⟨s,hs,bc s⟩
 have Y:Hid (∀i,i<j->lz (zG R i (0,0))):=zh λi hi=>(av.2 i hi).1;have bl:Hid (op≠1->op≠2->∀z,PP z->∃l:List Nat,zN l=j/\(∀i,i<j->dt (zG l i 0) (zG R i (0,0)))/\z=opT op l):=zh λh1 h2 z H=>by have⟨s,hs,e1⟩:=HZ z H;rw[DK h1,DK h2] at e1;refine⟨_,by rw[DT];exact ag.symm,λi hi=> ?_,e1⟩;rw[cS (by rw[<-ag];exact hi)];exact(av.2 i hi).2 s hs
 have bC:=zh av.1;generalize bq:j=m at*;clear bq;by_cases h1:op=1
 .subst h1;have aw:Hid (∀z,PP z->z=en.toNat):=zh λz H=>by have⟨s,hs,e1⟩:=HZ z H;rw[DP rfl] at e1;exact e1
  have C1:=zh λW=>r7 W en.toNat;simp only[spV] at C1;have e9:((en.toNat:Nat):Int)=en:=by omega
  rw[e9] at C1;obtain⟨X,aX⟩:=zc2 E;go_wp2;refine zK (C1 _) λw4 G=> ?_;replace⟨E,F,D⟩:=zb3 E F D G;clear G;have⟨t,u,B,J,K⟩:=zr F;go_wp2;refine D7 (v:=zX #[zI zi (en),zI zi (en)]) (by simp[results,results108,go_sem,t,u,B]) rfl ?_;exact du (a:=en.toNat) (b:=en.toNat) e9.symm e9.symm ⟨DE _,by show _<=_;omega⟩ (λz H=>by rw[aw z H];exact⟨DE _,DE _⟩) (ak D)
 by_cases h2:op=2
 .subst h2;have aw:Hid (∀z,PP z->∃s,S s/\z=aM names s em):=zh λz H=>by have⟨s,hs,e1⟩:=HZ z H;rw[DK (by decide),DP rfl] at e1;exact⟨s,hs,e1⟩
  have CW:=zh (CV wr (HM.Q D));have aR:=bk.out;rw[DP rfl] at aR;have aF:=zh aR;clear aR;obtain⟨X,aX,bz,az⟩:=zc4 E;go_wp2;refine zK CW λw4 G=> ?_;replace⟨E,F,D⟩:=zb3 E F D G;clear G;generalize eO names em=q at*;cases q with
  |none=>
   have aW:Hid (vx= -1):=zh aF;have CA:=zh vJ;simp only[spV] at CA;have g1:¬(0:Int)<=vx:=by have:=aW.out;omega
   go_wp2;refine zK (CA _) λw5 G=> ?_;replace⟨E,F,D⟩:=zb3 E F D G;clear G;have⟨t,u,B,J,K⟩:=zr F;go_wp2;refine D7 (v:=zX #[zI zi (((0:Nat):Int)),zI zi (((65535:Nat):Int))]) (by simp[results,results108,go_sem,t,u,B]) rfl ?_;refine du (a:=0) (b:=65535) rfl rfl ⟨by decide,by decide⟩ (λz H=> ?_) (ak D);obtain⟨s,hs,rfl⟩:=aw z H;rw[aU s];exact⟨DE _,DH _⟩
  |some i=>
   have aW:Hid (vx=((i:Nat):Int)):=zh aF;have a8:=aF.out;simp only at a8;subst a8;have I:=be i rfl;have i0:=zn0 i;have i1:(i:Int)<(n:Int):=by omega
   have hN:=HM.Q D;have x1:=hN.x.A 1 _ rfl;have⟨r0,r1⟩:=hN.r.A (i:=i) (by rw[HI.len];exact I);have ay:=HI.ok i I;have bj:=zh λa ha=>HI.sol a ha i I;generalize zG L i (0,0)=r at*;obtain⟨a,b⟩:=r;simp only at r0 r1;obtain⟨M,Q⟩:=ay;simp only at M Q;clear hN;have⟨t,u,B,J,K⟩:=zr F;go_wp2;refine D7 (v:=zX #[zI zi a,zI zi b]) (by simp[results,results108,go_sem,t,u,B]) rfl ?_;refine du (a:=a) (b:=b) rfl rfl ⟨M,Q⟩ (λz H=> ?_) (ak D);obtain⟨s,hs,rfl⟩:=aw z H;rw[aU s];exact bj s hs
 have ae:=zh (bl h1 h2);have g1:(op==1)=false:=by simpa using h1
 have g2:(op==2)=false:=by simpa using h2
 have g3:(op==3)=false:=by simpa using a6
 have bF:(op==24)=false:=by simpa using aP
 by_cases h4:op=4
 .subst h4;obtain rfl:m=1:=mc ac (by simp);have T:Hid (∀z,PP z->∃x,dt x (zG R 0 (0,0))/\z=op1 4 x):=zh λz H=>by have⟨l,U,l2,l3⟩:=ae z H;exact⟨_,l2 0 (by omega),by rw[l3,ma (by decide) (by decide) (by omega)]⟩
  have q0:=f.lat (i:=0) (by omega) 0 rfl;have V:=Y 0 (by omega);generalize zG R 0 (0,0)=r at*;obtain⟨a,b⟩:=r;obtain⟨M,Q⟩:=V;simp only at M Q;have CF:=zh λW=>jA W a b;have CT:=zh λW=>qN W a b;have CK:=zh mR;simp only[spV] at CK;have bf:Hid (∀x,dt x (a,b)->dt (tN (decide (x=0))) (knS (decide (b=0)) (decide (0<a)))):=zh λx ⟨q1,q2⟩=>mr (λh=>by have:=Ey h;simp only at q1 q2;simp;omega) (λh=>by have:=Ey h;simp only at q1 q2;simp;omega);generalize decide (b=0)=p,decide (0<a)=p' at*;have X:=za E 0;go_wp2;refine aj 9 ?_;have l0:=q0.1;have U:=q0.2;simp only[DY] at l0 U;simp only[Ee,El,Ei,D5];repeat(go_big_quiet_step (first|with_reducible exact aG (CF.out _)|with_reducible exact aG (CT.out _)|with_reducible exact aG (CK.out _ _ _)))
  refine D4 ?_;intro w4 G;clear l0 U q0;replace⟨E,F,D⟩:=zb3 E F D G;clear G;have⟨t,u,B,J,K⟩:=zr F;go_wp2;refine D7 (v:=zX #[zI zi (((knS p p').1:Nat)),zI zi (((knS p p').2:Nat))]) (by simp[results,results108,go_sem,t,u,B]) rfl ?_;refine du rfl rfl (oy _ _) (λz H=> ?_) (ak D);obtain⟨x,Z,rfl⟩:=T z H;exact bf x Z
 by_cases h5:op=5
 .subst h5;obtain rfl:m=1:=mc ac (by simp);have T:Hid (∀z,PP z->∃x,dt x (zG R 0 (0,0))/\z=op1 5 x):=zh λz H=>by have⟨l,U,l2,l3⟩:=ae z H;exact⟨_,l2 0 (by omega),by rw[l3,ma (by decide) (by decide) (by omega)]⟩
  have q0:=f.lat (i:=0) (by omega) 0 rfl;have V:=Y 0 (by omega);generalize zG R 0 (0,0)=r at*;obtain⟨a,b⟩:=r;obtain⟨M,Q⟩:=V;simp only at M Q;have X:=za E 0;go_wp2;refine aj 11 ?_;have l0:=q0.1;have U:=q0.2;simp only[DY] at l0 U;simp only[Ee,El,Ei,D5];repeat(go_big_quiet_step (fail))
  refine D4 ?_;intro w4 G;clear l0 U q0;replace⟨E,F,D⟩:=zb3 E F D G;clear G;have⟨t,u,B,J,K⟩:=zr F;go_wp2;refine D7 (v:=zX #[zI zi (65535-(b:Int)),zI zi (65535-(a:Int))]) (by simp[results,results108,go_sem,t,u,B]) rfl ?_;refine du (a:=65535-b) (b:=65535-a) (by omega) (by omega) ⟨by show _<=_;omega,by show _<=_;omega⟩ (λz H=> ?_) (ak D);obtain⟨x,⟨x1,x2⟩,rfl⟩:=T z H;simp only at x1 x2;exact⟨by show 65535-b<=65535-x;omega,by show 65535-x<=65535-a;omega⟩
 by_cases h6:op=6
 .subst h6;obtain rfl:m=1:=mc ac (by simp);have T:Hid (∀z,PP z->∃x,dt x (zG R 0 (0,0))/\z=op1 6 x):=zh λz H=>by have⟨l,U,l2,l3⟩:=ae z H;exact⟨_,l2 0 (by omega),by rw[l3,ma (by decide) (by decide) (by omega)]⟩
  have q0:=f.A (i:=0) (by omega) 0 rfl;have V:=Y 0 (by omega);generalize zG R 0 (0,0)=r at*;obtain⟨a,b⟩:=r;obtain⟨M,Q⟩:=V;simp only at M Q;have C:=zh λW=>YA W a b M Q;have X:=za E 0;obtain⟨l0,U⟩:=q0;simp only[DY] at l0 U;go_wp2;refine(C _).mono ?_;clear l0 U;rintro e0 w5 ⟨⟨s0,s1⟩,rfl,⟨N,P⟩,I,G⟩;have aa:=zh I;clear I;simp only at N P;simp only[spV];replace⟨E,F,D⟩:=zb3 E F D G;clear G;have⟨t,u,B,J,K⟩:=zr F;go_wp2;refine D7 (v:=zX #[zI zi s0,zI zi s1]) (by simp[results,results108,go_sem,t,u,B]) rfl ?_;refine du (a:=s0) (b:=s1) rfl rfl ⟨N,P⟩ (λz H=> ?_) (ak D);obtain⟨x,Z,rfl⟩:=T z H;exact aa _ ⟨x,Z,rfl⟩
 by_cases ax:op=25
 .subst ax;obtain rfl:m=1:=mc ac (by simp);have T:Hid (∀z,PP z->∃x,dt x (zG R 0 (0,0))/\z=op1 25 x):=zh λz H=>by have⟨l,U,l2,l3⟩:=ae z H;exact⟨_,l2 0 (by omega),by rw[l3,ma (by decide) (by decide) (by omega)]⟩
  have q0:=f.A (i:=0) (by omega) 0 rfl;have V:=Y 0 (by omega);generalize zG R 0 (0,0)=r at*;obtain⟨a,b⟩:=r;obtain⟨M,Q⟩:=V;simp only at M Q;have C:=zh λW=>Xc W a b M Q;have X:=za E 0;obtain⟨l0,U⟩:=q0;simp only[DY] at l0 U;go_wp2;refine(C _).mono ?_;clear l0 U;rintro e0 w5 ⟨⟨s0,s1⟩,rfl,⟨N,P⟩,I,G⟩;have aa:=zh I;clear I;simp only at N P;simp only[spV];replace⟨E,F,D⟩:=zb3 E F D G;clear G;have⟨t,u,B,J,K⟩:=zr F;go_wp2;refine D7 (v:=zX #[zI zi s0,zI zi s1]) (by simp[results,results108,go_sem,t,u,B]) rfl ?_;refine du (a:=s0) (b:=s1) rfl rfl ⟨N,P⟩ (λz H=> ?_) (ak D);obtain⟨x,Z,rfl⟩:=T z H;exact aa _ ⟨x,Z,rfl⟩
 by_cases ah:op=22
 .subst ah;obtain rfl:m=3:=TB ac;have T:Hid (∀z,PP z->∃x y y',dt x (zG R 0 (0,0))/\dt y (zG R 1 (0,0))/\dt y' (zG R 2 (0,0))/\z=if x≠0 then y else y'):=zh λz H=>by have⟨l,U,l2,l3⟩:=ae z H;exact⟨_,_,_,l2 0 (by omega),l2 1 (by omega),l2 2 (by omega),l3⟩
  have q0:=f.lat (i:=0) (by omega) 0 rfl;have q1:=f.lat (i:=1) (by omega) 2 rfl;have q2:=f.lat (i:=2) (by omega) 4 rfl;have V:=Y 0 (by omega);have M:=Y 1 (by omega);have Q:=Y 2 (by omega);generalize zG R 0 (0,0)=r0,zG R 1 (0,0)=r1,zG R 2 (0,0)=r2 at*;obtain⟨a,b⟩:=r0;obtain⟨c',d'⟩:=r1;obtain⟨a',b'⟩:=r2;obtain⟨k1,k2⟩:=V;obtain⟨k3,k4⟩:=M;obtain⟨k5,k6⟩:=Q;simp only at k1 k2 k3 k4 k5 k6;have C:=zh λW=>Sa W a b c' d' a' b' k1 k2 k3 k4 k5 k6;have X:=za E 0;go_wp2;refine aj 9 ?_;obtain⟨l0,U⟩:=q0;obtain⟨l2,l3⟩:=q1;obtain⟨l4,l5⟩:=q2;simp only[DY,Nat.reduceAdd] at l0 U l2 l3 l4 l5;simp only[Ee,El,Ei,D5];repeat(go_big_quiet_step (fail))
  refine D4 ?_;intro w4 G;clear l0 U l2 l3 l4 l5;replace⟨E,F,D⟩:=zb3 E F D G;clear G;go_wp2;refine(C _).mono ?_;rintro e0 w5 ⟨⟨s0,s1⟩,rfl,⟨N,P⟩,I,G⟩;have aa:=zh I;clear I;simp only at N P;simp only[spV];replace⟨E,F,D⟩:=zb3 E F D G;clear G;have⟨t,u,B,J,K⟩:=zr F;go_wp2;refine D7 (v:=zX #[zI zi s0,zI zi s1]) (by simp[results,results108,go_sem,t,u,B]) rfl ?_;refine du (a:=s0) (b:=s1) rfl rfl ⟨N,P⟩ (λz H=> ?_) (ak D);have⟨x,y,y',Z,ar,aS,e1⟩:=T z H;exact aa _ ⟨x,y,y',Z,ar,aS,e1⟩
 by_cases ai:op=23
 .subst ai;have⟨m3,bM⟩:=uq ac;obtain⟨r0,RT,bn⟩:∃r0 RT,R=r0::RT:=by
   cases R with
   |nil=>have:=f.l;simp at this;omega
   |cons r0 RT=>exact⟨r0,RT,rfl⟩
  subst bn;have bA:zN RT+1=m:=f.l;have T:Hid (∀z,PP z->∃x xs,dt x r0/\zN xs=zN RT/\(∀i,i<zN RT->dt (zG xs i 0) (zG RT i (0,0)))/\z=tN (eW x xs)):=zh λz H=>by
   have⟨l,U,l2,l3⟩:=ae z H;refine⟨zG l 0 0,l.tail,l2 0 (by omega),by rw[List.length_tail];omega,λi hi=> ?_,by rw[l3];rfl⟩;have:=l2 (i+1) (by omega);have e1:zG l.tail i 0=zG l (i+1) 0:=by
    cases l with
    |nil=>rfl
    |cons x l=>rfl
   rw[e1];exact this
  have q0:=f.lat (i:=0) (by omega) 0 rfl;have V:lz r0:=Y 0 (by omega);have bi:Hid (∀i,i<zN RT->lz (zG RT i (0,0))):=zh λi hi=>Y (i+1) (by omega);have aE:Hid (∀W,zL wr W->SpA W g 2 RT):=zh λW hW=>by have h9:=(f.b.Q hW).spA;refine⟨h9.1,λi hi=> ?_⟩;have:=h9.2 (i+1) (by rw[DF];omega);rw[show 0+(i+1)*2=2+i*2 by omega] at this;exact this
  simp only[List.getD_cons_zero] at q0;obtain⟨a,b⟩:=r0;obtain⟨k1,k2⟩:=V;simp only at k1 k2;have C:=zh λW (h:zL wr W)=>R6 W a b k1 k2 RT bi (some ⟨g,2,none⟩) (m-1) (λ_=>⟨g,2,rfl,aE W h⟩) (by omega) (by omega);rw[show zN RT=m-1 by omega] at C;have bI:((m-1:Nat):Int)=(m:Int)-1:=by omega
  have X:=za E 0;go_wp2;refine aj 5 ?_;obtain⟨l0,U⟩:=q0;simp only[DY] at l0 U;simp only[Ee,El,Ei,D5];repeat(go_big_quiet_step (fail))
  refine D4 ?_;intro w4 G;clear l0 U;have CC:=zh (C w4 G);replace⟨E,F,D⟩:=zb3 E F D G;clear G;go_wp2;refine CC.mono ?_;rintro e0 w5 ⟨⟨s0,s1⟩,rfl,⟨N,P⟩,I,G⟩;have aa:=zh I;clear I;simp only at N P;simp only[spV];replace⟨E,F,D⟩:=zb3 E F D G;clear G;have⟨t,u,B,J,K⟩:=zr F;go_wp2;refine D7 (v:=zX #[zI zi s0,zI zi s1]) (by simp[results,results108,go_sem,t,u,B]) rfl ?_;refine du (a:=s0) (b:=s1) rfl rfl ⟨N,P⟩ (λz H=> ?_) (ak D);have⟨x,xs,Z,ar,aS,e1⟩:=T z H;exact aa _ ⟨x,xs,Z,ar,aS,e1⟩
 have⟨br,a7,aO⟩:=kD ac h1 h2 h4 h5 h6 ax ah ai;subst br;have T:Hid (∀z,PP z->∃x y,dt x (zG R 0 (0,0))/\dt y (zG R 1 (0,0))/\z=op2 op x y):=zh λz H=>by have⟨l,U,l2,l3⟩:=ae z H;exact⟨_,_,l2 0 (by omega),l2 1 (by omega),by rw[l3,kC ah ai (by omega)]⟩
 have g4:(op==4)=false:=by simpa using h4
 have g5:(op==5)=false:=by simpa using h5
 have g6:(op==6)=false:=by simpa using h6
 have bG:(op==25)=false:=by simpa using ax
 have bD:(op==22)=false:=by simpa using ah
 have bE:(op==23)=false:=by simpa using ai
 have q0:=f.lat (i:=0) (by omega) 0 rfl;have q1:=f.lat (i:=1) (by omega) 2 rfl;have V:=Y 0 (by omega);have M:=Y 1 (by omega);generalize zG R 0 (0,0)=r0,zG R 1 (0,0)=r1 at*;obtain⟨a,b⟩:=r0;obtain⟨c',d'⟩:=r1;obtain⟨k1,k2⟩:=V;obtain⟨k3,k4⟩:=M;simp only at k1 k2 k3 k4;have C:=zh λW=>Sc W op ⟨a7,aO⟩ a b c' d' k1 k2 k3 k4;clear h1 h2 h4 h5 h6 ax ah ai;have X:=za E 0;go_wp2;refine aj 8 ?_;have e0:=E.lat 0 _ rfl;obtain⟨l0,U⟩:=q0;obtain⟨l2,l3⟩:=q1;simp only[DY,Nat.reduceAdd] at l0 U l2 l3;simp only[Ee,El,Ei,D5];repeat(go_big_quiet_step (fail))
 refine D4 ?_;intro w4 G;clear l0 U l2 l3 e0;replace⟨E,F,D⟩:=zb3 E F D G;clear G;go_wp2;refine(C _).mono ?_;rintro e0 w5 ⟨⟨s0,s1⟩,rfl,⟨N,P⟩,I,G⟩;have aa:=zh I;clear I;simp only at N P;simp only[spV];replace⟨E,F,D⟩:=zb3 E F D G;clear G;have⟨t,u,B,J,K⟩:=zr F;go_wp2;refine D7 (v:=zX #[zI zi s0,zI zi s1]) (by simp[results,results108,go_sem,t,u,B]) rfl ?_;refine du (a:=s0) (b:=s1) rfl rfl ⟨N,P⟩ (λz H=> ?_) (ak D);obtain⟨x,y,Z,ar,rfl⟩:=T z H;exact aa _ ⟨x,y,Z,ar,rfl⟩
theorem R7:∀k,EvS k
 |0=>λS names known w gn gm gr cap n L ch e d x _ _ _ _ _ h=>by cases h
 |k+1=>US k (R7 k)
end
structure NwC (names:List ByteArray) (w0:World) (gn gr n:Nat):Prop where
 nl:zN names=n
 n16:n<=16
 hg:w0.heap.size<=gn
 hr:w0.heap.size<=gr
structure lQ (known:ByteArray->Bool) (k:Nat) (w:World) (e:Ex) (x:Value):Prop where
 z:ExZ e
 o:okE known k e=true
 r:∃d,Rs (exR d) w x e.a ah
def YX (x y:Value) (W:World):(Instr.field 65 (zX #[x,y]) 0).run zz W= .ok x W:=by have a:=underlying65;simp[Instr.field,run_underlying a,go_sem,Result.andThen,asAgg]
def YW (x y:Value) (W:World):(Instr.field 65 (zX #[x,y]) 1).run zz W= .ok y W:=by have a:=underlying65;simp[Instr.field,run_underlying a,go_sem,Result.andThen,asAgg]
theorem lw {names:List ByteArray} {k:Nat} {known:ByteArray->Bool} {e:Ex} (d:okE known k e=true) {n:Nat} (c:zN names=n):kV names e= -1\/∃i:Nat,i<n/\kV names e=(i:Int)/\∀a,evT (aM names a) k e=zG a i 0:=by
 cases k with
 |zero=>cases d
 |succ k=>
  unfold kV;by_cases b:e.op=2
  .rw[DP b];cases hq:eO names e.s with
   |none=>exact zQ rfl
   |some i=>refine zO ⟨i,by rw[<-c];exact sY hq,rfl,λa=> ?_⟩;rw[kc,DK (by omega),DP b];unfold aM;rw[hq]
  rw[DK b];exact zQ rfl
section
variable {S:List Nat->Prop} {names:List ByteArray} {known:ByteArray->Bool} {k:Nat} {w0 W:World} {gn gm gr cap n:Nat} {L:List Sp} {ch:Bool} {e:Ex} {x:Value}
def kQ (b:NwC names w0 gn gr n) (g:zL w0 W) (f:NwM W gn gm gr cap names n L ch) (c:NwI S n L) (a:lQ known k w0 e x):Calls zz 108 #[zP gn,exV e x] W (SpQ (EvP S names k e) W):=by have⟨d,h⟩:=a.r;exact R7 k S names known W gn gm gr cap n L ch e d x f c b.nl b.n16 a.z a.o (h.Q g)
def lP (a:NwM W gn gm gr cap names n L ch) (b:lQ known k w0 e x):Calls zz 172 #[zP gn,exV e x] W (zR (zI zi (kV names e)) W):=qM W gn gm gr cap n names L ch a e x b.z.s
end
def Bl {S:List Nat->Prop} {names:List ByteArray} {known:ByteArray->Bool} {k:Nat} {w0:World} (w:World) {gn gm gr cap n:Nat} {L:List Sp} {ch:Bool} {y z:Ex} {xa xb:Value} (P:NwC names w0 gn gr n) (o:zL w0 w) (hM:NwM w gn gm gr cap names n L ch) (hI:NwI S n L) (R:lQ known k w0 y xa) (g:lQ known k w0 z xb) (j:Nat) (ar:j<=1) (u:∀s,S s->evT (aM names s) k y+j<=evT (aM names s) k z):Calls zz 176 #[zP gn,exV y xa,exV z xb,zI zi j] w (NwR S names gn gm gr cap n L ch w):=by
 have⟨N,a,d,x,HS⟩:=zk5 P o hM hI u;have au:=zh hM.r.lt;have ai:=zh fun(W:World) (h:zL w W)=>lP (hM.Q h) R;have aj:=zh fun(W:World) (l:List Sp) (f:Bool) (h:NwM W gn gm gr cap names n l f)=>lP h g;have ag:=zh fun(W:World) (l:List Sp) (f:Bool) (h0:zL w0 W) (h:NwM W gn gm gr cap names n l f) (hi:NwI S n l)=>kQ P h0 h hi R;have ah:=zh fun(W:World) (l:List Sp) (f:Bool) (h0:zL w0 W) (h:NwM W gn gm gr cap names n l f) (hi:NwI S n l)=>kQ P h0 h hi g;have ap:=zh (lw R.o P.nl);have aq:=zh (lw g.o P.nl);generalize kV names y=va,kV names z=vb at*;have⟨da,T⟩:=R.r;have⟨db,U⟩:=g.r;obtain⟨Aa,ca,rfl, -⟩:=T.slice;obtain⟨Ab,cb,rfl, -⟩:=U.slice;unfold exV at*;generalize zN y.a=la,y.op=ao,y.n=an,y.s=am,zN z.a=lb,z.op=bo,z.n=bn,z.s=bm at*;clear P o hM hI u R g T U;go_enter func176,ntmps176;go_upto_region 1 with fail;generalize ac:w.alloc _=zw1 at*;generalize ad:zw1.alloc _=w1 at*;have⟨B,b,c⟩:=zB2 ac ad;clear ac ad;refine az ?_;have a0:=b.lat 0 _ rfl;have a1:=b.lat 1 _ rfl;have a2:=b.lat 2 _ rfl;have a3:=b.lat 3 _ rfl;have A:=zh fun(p:Lat w1)=>ai p.w (aa B p.h);repeat(go_big_quiet_step (first|with_reducible exact aG (A.out _)))
 refine D4 ?_;intro w2 g;clear a0 a1 a2 a3;replace⟨b,c,B⟩:=zb3 b c B g;clear g;replace d:=zh (d.Q B);have e:=zh ((K2.refl w gn gr).Q B);replace a:=zh (aa a B);have av:=zh B.size;go_upto_if 16 with fail;go_cut [8] from 17 to 45 (λ_ wx=>K2 w wx gn gr/\zL w0 wx/\Box wx w.heap.size #[zI zi ao,zI zi an,zV am,zU Aa la ca] 79/\Box wx (w.heap.size+1) #[zI zi bo,zI zi bn,zV bm,zU Ab lb cb] 79/\∃l f,NwM wx gn gm gr cap names n l f/\NwI S n l/\NwL L ch l f)
 case first=>
  rcases ap with e1|⟨i,hi,e1,v⟩
  .have g1:¬(0:Int)<=va:=by omega
   clear e1;go_wp2;go_meet;exact⟨e,a,b,c,L,ch,d,x,NwL.refl _ _⟩
  subst e1;have D:=zh v;have g1:=zn0 i;clear v;go_upto_region 3 with fail;refine zhd (λW=>Box W (w.heap.size+1) #[zI zi bo,zI zi bn,zV bm,zU Ab lb cb] 79) (c.Q (ae _)) (λhS=> ?_);clear hS;have r:zL w2 w2.drew:=ae _;replace⟨b,c,d,e,a⟩:=zb5 b c d e a r;clear r;generalize w2.drew=w3 at*;refine zta 0 (zP gn) rfl ?_;refine zta 1 (zI zi i) rfl ?_;refine zta 2 (zP gn) rfl ?_;refine zta 3 (zP gn) rfl ?_;refine zta 4 (zP gn) rfl ?_;simp only[zp];refine zt 5 (zX #[zI zi bo,zI zi bn,zV bm,zU Ab lb cb]) rfl (zQ ⟨by rfl,λW m=>by have q0:=m.A 0 _ rfl;have q1:=m.A 1 _ rfl;have q2:=m.A 2 _ rfl;have q3:=m.A 3 _ rfl;go_simp⟩) ?_;refine zta 8 (zI zi j) rfl ?_;simp only[zp];refine ay 6 rfl ?_;go_wp2;refine(ah w3 _ _ a d x).mono ?_;rintro e0 w4 ⟨⟨r0,r1⟩,rfl,⟨J,K⟩,t,g⟩;have C:=zh t;simp only at J K;simp only[spV];replace⟨b,c,d,e,a⟩:=zb5 b c d e a g;clear g t;go_wp2;refine⟨rfl,c, ?_⟩;refine zt 7 (zI zi r1) rfl (zQ ⟨by rfl,λW m=>by have q:=YW (zI zi r0) (zI zi r1) W;go_simp⟩) ?_;simp only[zp];refine ay 9 rfl ?_;go_wp2;refine⟨rfl,c, ?_⟩;refine aC 10 rfl ?_;go_wp2;refine(gW w4 gn gm gr cap n i L ch d x hi N.n16 (0) ((r1:Int)-(j:Int)) (by omega) (by omega) (λs u=>by have q1:=HS s u;have q2:=D s;have q3:=C _ ⟨s,u,rfl⟩;obtain⟨q4,q5⟩:=q3;simp only at q4 q5;exact⟨by omega,by omega⟩)).mono ?_;rintro e0 w5 ⟨hk,⟨rfl,I⟩|⟨rfl,L2,E,H,F,G⟩⟩
  .exact⟨rfl,e.trans hk,zQ ⟨rfl,I⟩⟩
  have ga:=af b d.x;have gb:=d.r.apart b (by decide);have gc:=af c d.x;have gd:=d.r.apart c (by decide);replace b:=zh (hk.box b ga gb);replace c:=zh (hk.box c gc gd);replace e:=zh (e.trans hk);replace a:=zh (hk.toBelow a N.hg N.hr);go_wp2;refine⟨c,zdn ?_⟩;go_wp2;go_meet;exact⟨e,a,b,c,L2,E,H,F,G⟩
 case rest=>
  obtain⟨hk,o,Z,ab,L1,Q,Y,V,X⟩:=hcut;have⟨d,x,HL,b,c,e⟩:=zk6 Y V X Z ab hk;have a:=zh o;clear hk o Z ab Y V X;go_upto_region 4 with fail;refine az ?_;have a0:=c.lat 0 _ rfl;have a1:=c.lat 1 _ rfl;have a2:=c.lat 2 _ rfl;have a3:=c.lat 3 _ rfl;have A:=zh fun(p:Lat wc)=>aj p.w _ _ (d.Q p.h);repeat(go_big_quiet_step (first|with_reducible exact aG (A.out _)))
  refine D4 ?_;intro M g;clear a0 a1 a2 a3;replace⟨b,c,d,e,a⟩:=zb5 b c d e a g;clear g;rcases aq with e1|⟨i,hi,e1,v⟩
  .have g1:¬(0:Int)<=vb:=by omega
   clear e1;go_wp2;go_end0;exact⟨e,zO ⟨rfl,L1,Q,d,x,HL⟩⟩
  subst e1;have D:=zh v;have g1:=zn0 i;have ak:=zh λs u=>x.sol s u i hi;have al:=zh (x.ok i hi);clear v;go_upto_region 6 with fail;refine zhd (λW=>Box W w.heap.size #[zI zi ao,zI zi an,zV am,zU Aa la ca] 79) (b.Q (ae _)) (λhS=> ?_);clear hS;have r:zL M M.drew:=ae _;replace⟨b,c,d,e,a⟩:=zb5 b c d e a r;clear r;generalize M.drew=w3 at*;refine zta 0 (zP gn) rfl ?_;refine zta 1 (zI zi i) rfl ?_;refine zta 2 (zP gn) rfl ?_;refine zta 3 (zP gn) rfl ?_;refine zta 4 (zP gn) rfl ?_;simp only[zp];refine zt 5 (zX #[zI zi ao,zI zi an,zV am,zU Aa la ca]) rfl (zQ ⟨by rfl,λW m=>by have q0:=m.A 0 _ rfl;have q1:=m.A 1 _ rfl;have q2:=m.A 2 _ rfl;have q3:=m.A 3 _ rfl;go_simp⟩) ?_;refine zta 8 (zI zi j) rfl ?_;simp only[zp];refine ay 6 rfl ?_;go_wp2;refine(ag w3 _ _ a d x).mono ?_;rintro e0 w4 ⟨⟨r0,r1⟩,rfl,⟨J,K⟩,t,g⟩;have C:=zh t;simp only at J K;simp only[spV];replace⟨b,c,d,e,a⟩:=zb5 b c d e a g;clear g t;go_wp2;refine⟨rfl,b, ?_⟩;refine zt 7 (zI zi r0) rfl (zQ ⟨by rfl,λW m=>by have q:=YX (zI zi r0) (zI zi r1) W;go_simp⟩) ?_;simp only[zp];refine ay 9 rfl ?_;go_wp2;refine⟨rfl,b, ?_⟩;refine aC 10 rfl ?_;go_wp2;refine(gW w4 gn gm gr cap n i L1 Q d x hi N.n16 ((r0:Int)+(j:Int)) (65535) (by omega) (by omega) (λs u=>by have q1:=HS s u;have q2:=D s;have q3:=C _ ⟨s,u,rfl⟩;obtain⟨q4,q5⟩:=q3;simp only at q4 q5;have q6:=(ak s u).2;have q7:=al.2;exact⟨by omega,by omega⟩)).mono ?_;rintro e0 w5 ⟨hk,⟨rfl,I⟩|⟨rfl,L2,E,H,F,G⟩⟩
  .exact⟨rfl,e.trans hk,zQ ⟨rfl,I⟩⟩
  have ga:=af b d.x;have gb:=d.r.apart b (by decide);have gc:=af c d.x;have gd:=d.r.apart c (by decide);replace b:=zh (hk.box b ga gb);replace c:=zh (hk.box c gc gd);replace e:=zh (e.trans hk);replace a:=zh (hk.toBelow a N.hg N.hr);go_wp2;refine⟨b,zdn ?_⟩;go_end0;exact⟨e,zO ⟨rfl,L2,E,H,F,HL.trans G⟩⟩
def Dx {S:List Nat->Prop} {names:List ByteArray} (w:World) {gn gm gr cap n gb:Nat} {L:List Sp} {ch:Bool} (z:n<=16) (r:NwM w gn gm gr cap names n L ch) (y:NwI S n L) (B:Box w gb #[zP gn] 109) (i:Nat) (hi:i<n) (a b:Nat) (G:b<=65535) (F:a<=65535) (A:∀s,S s->dt (zG s i 0) (a,b)):Calls zz 174 #[zI zi i,zX #[zI zi a,zI zi b],zP gb] w (NwR S names gn gm gr cap n L ch w):=by
 have E:=zh r;have t:=zh λW h=>gW W gn gm gr cap n i L ch (r.Q h) y hi z (a:Int) (b:Int) (by omega) (by omega) (λs h=>by obtain⟨C,D⟩:=A s h;simp only at C D;exact⟨by omega,by omega⟩);have d:=zh B;go_enter func174,ntmps174;go_upto_region 1 with fail;generalize l:w.alloc _=w1 at*;have⟨c,v⟩:=zB1 l;replace d:=zh (d.Q c);obtain⟨p,q⟩:=zc2 v;have o:=za d 0;go_wp2;refine(t w1 c).mono ?_;rintro e0 w2 ⟨hk,x⟩;have m:=zh (((K2.refl w gn gr).Q c).trans hk);rcases x with⟨rfl,k⟩|⟨rfl,u,e,j,f,g⟩
 .exact⟨rfl,m,zQ ⟨rfl,k⟩⟩
 go_wp2;go_end0;exact⟨m,zO ⟨rfl,u,e,j,f,g⟩⟩
theorem Dv {S:List Nat->Prop} {names:List ByteArray} (w:World) {gn gm gr cap n:Nat} {L:List Sp} {ch:Bool} (hn:n<=16) (hM:NwM w gn gm gr cap names n L ch) (hI:NwI S n L) (i:Nat) (hi:i<n) (a b:Nat) (h2:b<=65535) (h1:a<=65535) (Q:∀s,S s->∃y,dt y (a,b)/\zG s i 0≠y):
  Calls zz 175 #[zP gn,zI zi i,zX #[zI zi a,zI zi b]] w (NwR S names gn gm gr cap n L ch w):=by
 have⟨e,j⟩:=zk2 hM hI;have U:=zh λW=>is W a b;have X:=zh hM.r.lt;have i0:=zn0 i;have i1:(i:Int)<(n:Int):=by omega
 by_cases M:a=b
 .subst M;have HS:Hid (∀s,S s->zG s i 0≠a):=zh λs h=>by
   have⟨y,⟨q1,R⟩,T⟩:=Q s h;simp only at q1 R;have:y=a:=by omega
   rw[<-this];exact T
  rw[DR rfl] at U;go_enter func175,ntmps175;go_upto_region 1 with fail;generalize G:w.alloc _=w1 at*;have⟨t,f⟩:=zB1 G;obtain⟨m,H⟩:=zc2 f;go_wp2;refine zK (U _) λw2 z=> ?_;replace⟨f,t⟩:=zb2 f t z;replace e:=zh (e.Q t);have g:=zh ((K2.refl w gn gr).Q t);go_upto_region 2 with fail;obtain⟨r,P⟩:∃r,zG L i (0,0)=r:=⟨_,rfl⟩;have k:=zh (j.ok i hi);have l:=zh λs Q=>j.sol s Q i hi;rw[P] at k l;have u:=zh P;obtain⟨c,d⟩:=r;have⟨A,B⟩:=k.out;simp only at A B;refine az ?_;have x1:=e.x.lat 1 _ rfl;have a0:=f.lat 0 _ rfl;have N:∀p:Lat w2,p.w.cell? ⟨gr,i*2,none⟩=some (zI zi c)/\p.w.cell? ⟨gr,i*2+1,none⟩=some (zI zi d):=λp=>by have K:=(e.r.Q p.h).A (i:=i) (by rw[j.len];exact hi);rw[u] at K;exact K
  have r0:=λp=>(N p).1;have r1:=λp=>(N p).2;repeat(go_big_quiet_step (fail))
  refine D4 ?_;intro w3 z;replace⟨f,e,g⟩:=zb3 f e g z;have x:((c:Int)==(a:Int))=decide (c=a):=by rw[Fo];simp<;>omega
  generalize o:decide (c=a)=q at*;go_upto_if 20 with fail;go_cut [20] from 21 to 26 (λ_ wx=>K2 w wx gn gr/\Box wx w.heap.size #[zI zi a,zI zi a] 65/\∃Z I,NwM wx gn gm gr cap names n Z I/\NwI S n Z/\NwL L ch Z I)
  case first=>
   cases q with
   |false=>go_wp2;go_meet;exact⟨g,f,L,ch,e,j,NwL.refl _ _⟩
   |true=>
    have Y:=zh (Ey o);have V:=zh (gW w3 gn gm gr cap n i L ch e j hi hn ((a:Int)+1) 65535 (by omega) (by omega) (λs h=>by have q1:=HS s h;have⟨R,T⟩:=l s h;simp only at R T;have:=Y.out;exact⟨by omega,by omega⟩));have m:=za f 0;go_wp2;refine V.mono ?_;rintro e0 w4 ⟨hk,⟨rfl,F⟩|⟨rfl,L2,v,E,C,D⟩⟩
    .exact⟨rfl,g.trans hk,zQ ⟨rfl,F⟩⟩
    have ga:=af f e.x;go_wp2;go_meet;exact⟨g.trans hk,hk.box f ga (FA (Nat.ne_of_lt X)),L2,v,E,C,D⟩
  case rest=>
   obtain⟨hk,ad,L1,J,ac,aa,ab⟩:=hcut;have⟨e,j,HL,f,g⟩:=zk5 ac aa ab ad hk;go_upto_region 4 with fail;obtain⟨r,P⟩:∃r,zG L1 i (0,0)=r:=⟨_,rfl⟩;have k:=zh (j.ok i hi);have l:=zh λs Q=>j.sol s Q i hi;rw[P] at k l;have u:=zh P;obtain⟨c,d⟩:=r;obtain⟨A,B⟩:=k;simp only at A B;refine az ?_;have x1:=e.x.lat 1 _ rfl;have a0:=f.lat 0 _ rfl;have N:∀p:Lat wc,p.w.cell? ⟨gr,i*2,none⟩=some (zI zi c)/\p.w.cell? ⟨gr,i*2+1,none⟩=some (zI zi d):=λp=>by have K:=(e.r.Q p.h).A (i:=i) (by rw[j.len];exact hi);rw[u] at K;exact K
   have r0:=λp=>(N p).1;have r1:=λp=>(N p).2;repeat(go_big_quiet_step (fail))
   refine D4 ?_;intro ae z;replace⟨f,e,g⟩:=zb3 f e g z;have x:((d:Int)==(a:Int))=decide (d=a):=by rw[Fo];simp<;>omega
   by_cases o:d=a
   .rw[DR o] at x;have Y:=zh o;have V:=zh (gW ae gn gm gr cap n i L1 J e j hi hn 0 ((a:Int)-1) (by omega) (by omega) (λs h=>by have q1:=HS s h;have⟨R,T⟩:=l s h;simp only at R T;have:=Y.out;exact⟨by omega,by omega⟩));have m:=za f 0;go_wp2;refine V.mono ?_;rintro e0 w4 ⟨hk,⟨rfl,F⟩|⟨rfl,L2,v,E,C,D⟩⟩
    .exact⟨rfl,g.trans hk,zQ ⟨rfl,F⟩⟩
    go_wp2;go_end0;exact⟨g.trans hk,zO ⟨rfl,L2,v,E,C,HL.trans D⟩⟩
   rw[DJ o] at x;go_wp2;go_end0;exact⟨g,zO ⟨rfl,L1,J,e,j,HL⟩⟩
 rw[DJ M] at U;go_enter func175,ntmps175;go_upto_region 1 with fail;generalize G:w.alloc _=w1 at*;have⟨t,f⟩:=zB1 G;obtain⟨m,H⟩:=zc2 f;go_wp2;refine zK (U _) λw2 z=> ?_;replace⟨f,t⟩:=zb2 f t z;replace e:=zh (e.Q t);have g:=zh ((K2.refl w gn gr).Q t);go_wp2;go_end0;exact⟨g,zO ⟨rfl,L,ch,e,j,NwL.refl _ _⟩⟩
def vI {S:List Nat->Prop} {names:List ByteArray} {known:ByteArray->Bool} {k:Nat} {w0:World} (w:World) {gn gm gr cap n:Nat} {L:List Sp} {ch:Bool} {z A:Ex} {xa xb:Value} (U:NwC names w0 gn gr n) (t:zL w0 w) (hM:NwM w gn gm gr cap names n L ch) (hI:NwI S n L) (Z:lQ known k w0 z xa) (m:lQ known k w0 A xb) (fc:Nat) (first cv:Array Value) (eg:∀args W,(callFunc fc args).run zz W= .ok (.enter fc args) W) (FSt:World->Prop) (u:FSt w) (ad:∀W W',FSt W->zL W W'->FSt W') (ag:∀W W',FSt W->K2 W W' gn gr->FSt W') (R:Nat->Nat->Prop) (D:∀s,S s->R (evT (aM names s) k z) (evT (aM names s) k A)/\R (evT (aM names s) k A) (evT (aM names s) k z)) (hf:∀(W:World) (o:List Sp) (g:Bool) (i a b:Nat),FSt W->NwM W gn gm gr cap names n o g->NwI S n o->i<n->a<=65535->b<=65535->(∀s,S s->∃y,dt y (a,b)/\R (zG s i 0) y)->Calls zz fc (first++(#[zI zi i,zX #[zI zi a,zI zi b]]++cv)) W (NwR S names gn gm gr cap n o g W)):Calls zz 173 #[zP gn,exV z xa,exV A xb,.func (.func fc) first cv] w (NwR S names gn gm gr cap n L ch w):=by
 have⟨HC,c,f,F,HS,j⟩:=zk6 U t hM hI D u;have⟨r,X,CF⟩:=zk3 ad ag hf;have av:=zh fun(W:World) (h:zL w W)=>lP (hM.Q h) Z;have aw:=zh fun(W:World) (o:List Sp) (g:Bool) (h:NwM W gn gm gr cap names n o g)=>lP h m;have ar:=zh fun(W:World) (o:List Sp) (g:Bool) (h0:zL w0 W) (h:NwM W gn gm gr cap names n o g) (hi:NwI S n o)=>kQ U h0 h hi Z;have au:=zh fun(W:World) (o:List Sp) (g:Bool) (h0:zL w0 W) (h:NwM W gn gm gr cap names n o g) (hi:NwI S n o)=>kQ U h0 h hi m;have ax:=zh (lw Z.o U.nl);have aA:=zh (lw m.o U.nl);generalize kV names z=va,kV names A=vb at*;have⟨da,ab⟩:=Z.r;have⟨db,ac⟩:=m.r;obtain⟨Aa,ca,rfl, -⟩:=ab.slice;obtain⟨Ab,cb,rfl, -⟩:=ac.slice;unfold exV at*;generalize zN z.a=la,z.op=ao,z.n=an,z.s=am,zN A.a=lb,A.op=bo,A.n=bn,A.s=bm at*;clear U t hM hI D Z m ab ac hf u ad ag;go_enter func173,ntmps173;go_upto_region 1 with fail;generalize ap:w.alloc _=zw1 at*;generalize aq:zw1.alloc _=w1 at*;have⟨C,d,e⟩:=zB2 ap aq;clear ap aq;refine az ?_;have a0:=d.lat 0 _ rfl;have a1:=d.lat 1 _ rfl;have a2:=d.lat 2 _ rfl;have a3:=d.lat 3 _ rfl;have E:=zh fun(p:Lat w1)=>av p.w (aa C p.h);repeat(go_big_quiet_step (first|with_reducible exact aG (E.out _)))
 refine D4 ?_;intro w2 m;clear a0 a1 a2 a3;replace⟨d,e,C⟩:=zb3 d e C m;clear m;replace f:=zh (f.Q C);replace j:=zh (r _ _ j C);have l:=zh ((K2.refl w gn gr).Q C);replace c:=zh (aa c C);have aB:=zh C.size;go_upto_if 16 with fail;go_cut [8] from 17 to 39 (λ_ V=>K2 w V gn gr/\zL w0 V/\FSt V/\Box V w.heap.size #[zI zi ao,zI zi an,zV am,zU Aa la ca] 79/\Box V (w.heap.size+1) #[zI zi bo,zI zi bn,zV bm,zU Ab lb cb] 79/\∃o g,NwM V gn gm gr cap names n o g/\NwI S n o/\NwL L ch o g)
 case first=>
  rcases ax with e1|⟨i,hi,e1,x⟩
  .have g1:¬(0:Int)<=va:=by omega
   clear e1;go_wp2;go_meet;exact⟨l,c,j,d,e,L,ch,f,F,NwL.refl _ _⟩
  subst e1;have H:=zh x;have g1:=zn0 i;clear x;go_upto_region 3 with fail;refine zhd (λW=>Box W (w.heap.size+1) #[zI zi bo,zI zi bn,zV bm,zU Ab lb cb] 79) (e.Q (ae _)) (λhS=> ?_);clear hS;have q:zL w2 w2.drew:=ae _;replace⟨d,e,f,l,c⟩:=zb5 d e f l c q;replace j:=zh (r _ _ j q);clear q;generalize w2.drew=w3 at*;refine zta 0 (.func (.func fc) first cv) rfl ?_;refine zta 1 (zI zi i) rfl ?_;refine zta 2 (zP gn) rfl ?_;refine zta 3 (zP gn) rfl ?_;refine zta 4 (zP gn) rfl ?_;simp only[zp];refine zt 5 (zX #[zI zi bo,zI zi bn,zV bm,zU Ab lb cb]) rfl (zQ ⟨by rfl,λW B=>by have q0:=B.A 0 _ rfl;have q1:=B.A 1 _ rfl;have q2:=B.A 2 _ rfl;have q3:=B.A 3 _ rfl;go_simp⟩) ?_;simp only[zp];refine ay 6 rfl ?_;go_wp2;refine(au w3 _ _ c f F).mono ?_;rintro e0 w4 ⟨⟨r0,r1⟩,rfl,⟨P,Q⟩,v,m⟩;have G:=zh v;simp only at P Q;simp only[spV];replace⟨d,e,f,l,c⟩:=zb5 d e f l c m;replace j:=zh (r _ _ j m);clear m v;go_wp2;refine⟨rfl,e, ?_⟩;refine aC 7 rfl ?_;go_wp2;refine(CF w4 L ch i r0 r1 j f F hi (by omega) (by omega) (λs D=> ?_)).mono ?_
  .have q3:=G _ ⟨s,D,rfl⟩;refine⟨_,q3, ?_⟩;rw[<-H s];exact(HS s D).1
  rintro e0 w5 ⟨hk,⟨rfl,N⟩|⟨rfl,L2,I,M,J,K⟩⟩
  .exact⟨rfl,l.trans hk,zQ ⟨rfl,N⟩⟩
  have ga:=af d f.x;have gb:=f.r.apart d (by decide);have gc:=af e f.x;have gd:=f.r.apart e (by decide);replace d:=zh (hk.box d ga gb);replace e:=zh (hk.box e gc gd);replace l:=zh (l.trans hk);replace c:=zh (hk.toBelow c HC.hg HC.hr);replace j:=zh (X _ _ j hk);go_wp2;refine⟨e,zdn ?_⟩;go_wp2;go_meet;exact⟨l,c,j,d,e,L2,I,M,J,K⟩
 case rest=>
  obtain⟨hk,t,u,ak,al,L1,Y,aj,ah,ai⟩:=hcut;have⟨j,f,F,HL,d,e⟩:=zk6 u aj ah ai ak al;have⟨l,c⟩:=zk2 hk t;clear hk t ak al aj ah ai u;go_upto_region 4 with fail;refine az ?_;have a0:=e.lat 0 _ rfl;have a1:=e.lat 1 _ rfl;have a2:=e.lat 2 _ rfl;have a3:=e.lat 3 _ rfl;have E:=zh fun(p:Lat wc)=>aw p.w _ _ (f.Q p.h);repeat(go_big_quiet_step (first|with_reducible exact aG (E.out _)))
  refine D4 ?_;intro T m;clear a0 a1 a2 a3;replace⟨d,e,f,l,c⟩:=zb5 d e f l c m;replace j:=zh (r _ _ j m);clear m;rcases aA with e1|⟨i,hi,e1,x⟩
  .have g1:¬(0:Int)<=vb:=by omega
   clear e1;go_wp2;go_end0;exact⟨l,zO ⟨rfl,L1,Y,f,F,HL⟩⟩
  subst e1;have H:=zh x;have g1:=zn0 i;clear x;go_upto_region 6 with fail;refine zhd (λW=>Box W w.heap.size #[zI zi ao,zI zi an,zV am,zU Aa la ca] 79) (d.Q (ae _)) (λhS=> ?_);clear hS;have q:zL T T.drew:=ae _;replace⟨d,e,f,l,c⟩:=zb5 d e f l c q;replace j:=zh (r _ _ j q);clear q;generalize T.drew=w3 at*;refine zta 0 (.func (.func fc) first cv) rfl ?_;refine zta 1 (zI zi i) rfl ?_;refine zta 2 (zP gn) rfl ?_;refine zta 3 (zP gn) rfl ?_;refine zta 4 (zP gn) rfl ?_;simp only[zp];refine zt 5 (zX #[zI zi ao,zI zi an,zV am,zU Aa la ca]) rfl (zQ ⟨by rfl,λW B=>by have q0:=B.A 0 _ rfl;have q1:=B.A 1 _ rfl;have q2:=B.A 2 _ rfl;have q3:=B.A 3 _ rfl;go_simp⟩) ?_;simp only[zp];refine ay 6 rfl ?_;go_wp2;refine(ar w3 _ _ c f F).mono ?_;rintro e0 w4 ⟨⟨r0,r1⟩,rfl,⟨P,Q⟩,v,m⟩;have G:=zh v;simp only at P Q;simp only[spV];replace⟨d,e,f,l,c⟩:=zb5 d e f l c m;replace j:=zh (r _ _ j m);clear m v;go_wp2;refine⟨rfl,d, ?_⟩;refine aC 7 rfl ?_;go_wp2;refine(CF w4 L1 Y i r0 r1 j f F hi (by omega) (by omega) (λs D=> ?_)).mono ?_
  .have q3:=G _ ⟨s,D,rfl⟩;refine⟨_,q3, ?_⟩;rw[<-H s];exact(HS s D).2
  rintro e0 w5 ⟨hk,⟨rfl,N⟩|⟨rfl,L2,I,M,J,K⟩⟩
  .exact⟨rfl,l.trans hk,zQ ⟨rfl,N⟩⟩
  have ga:=af d f.x;have gb:=f.r.apart d (by decide);have gc:=af e f.x;have gd:=f.r.apart e (by decide);replace d:=zh (hk.box d ga gb);replace e:=zh (hk.box e gc gd);replace l:=zh (l.trans hk);replace c:=zh (hk.toBelow c HC.hg HC.hr);replace j:=zh (X _ _ j hk);go_wp2;refine⟨d,zdn ?_⟩;go_end0;exact⟨l,zO ⟨rfl,L2,I,M,J,HL.trans K⟩⟩
theorem uN {x:Nat}:∀{l:List Nat},eW x l=true->∃k,2*k+1<zN l/\zG l (2*k) 0<=x/\x<=zG l (2*k+1) 0
 |[],h=>by cases h
 |[a],h=>by cases h
 |lo::hi::r,h=>by
  unfold eW at h;simp only[FX,DW,Ef] at h;rcases h with⟨c,b⟩|h
  .exact⟨0,by simp only[DF];omega,c,b⟩
  have⟨k,c,b,d⟩:=uN h;refine⟨k+1,by simp only[DF];omega, ?_, ?_⟩
  .rw[show 2*(k+1)=2*k+1+1 by omega];exact b
  rw[show 2*(k+1)+1=2*k+1+1+1 by omega];exact d
def MbI (S:List Nat->Prop) (names:List ByteArray) (k:Nat) (l:List Ex) (i q:Nat) (lo hi:Int):Prop:=(0<=lo/\lo<=65536∧ -1<=hi/\hi<=65535)/\∀s,S s->∀j,j<q->evT (aM names s) k (zG l (2*j) ex0)<=zG s i 0->zG s i 0<=evT (aM names s) k (zG l (2*j+1) ex0)->lo<=((zG s i 0:Nat):Int)/\((zG s i 0:Nat):Int)<=hi
theorem R5 {S:List Nat->Prop} {names:List ByteArray} {known:ByteArray->Bool} {k:Nat} {w0:World} (w:World) {gn gm gr cap n:Nat} {L:List Sp} {ch:Bool} (hC:NwC names w0 gn gr n) (av:zL w0 w) (hM:NwM w gn gm gr cap names n L ch) (hI:NwI S n L) (i:Nat) (hi:i<n) (l:List Ex) (A:Option Addr) (c d:Nat) (hr:Rs (exR d) w0 (zU A (zN l) c) l ah) (hz:∀e∈l,ExZ e) (ho:∀e∈l,okE known k e=true) (hl:zN l<=1000)
  (I:∀s,S s->eW (zG s i 0) (l.map (evT (aM names s) k))=true):
  Calls zz 177 #[zP gn,zI zi i,zU A (zN l) c] w (NwR S names gn gm gr cap n L ch w):=by
 have⟨HC,ar,HM,HI,HS,HZ⟩:=zk6 hC av hM hI I hz;have HO:=zh ho;have⟨A',c',e1,hc,hx⟩:=hr.exs;simp only[DQ,true_and] at e1;obtain⟨rfl,rfl⟩:=e1;have HX:=zh hx;have CL:=zh fun(W:World) (B:zL w W) (lo u:Int) Y P h3=>gW (S:=S) (names:=names) W gn gm gr cap n i L ch (hM.Q B) hI hi hC.n16 lo u Y P h3;have CE:=zh fun(W:World) (h:zL w W) (e:Ex) (x:Value) (P:lQ known k w0 e x)=>kQ hC (aa av h) (hM.Q h) hI P;have⟨m,HN⟩:=zvh (zN l);rw[<-HN] at hl hc HX⊢;clear hC av hM hI I hz ho hr hx;go_enter func177,ntmps177;go_upto_region 2 with fail;go_loopw [6,7,8] (λlo u kk wr=>∃(a b:Int) (q z:Nat),lo=zI zi a/\u=zI zi b/\kk=zI zi z/\z<=m+1/\Hid (z=2*q)/\MbI S names k l i q a b/\zL w wr) (λ_ _ kk _=>m+1-(intOf kk).toNat)
 .exact⟨65536, -1,0,0,rfl,rfl,rfl,by omega,zh rfl,⟨⟨by omega,by omega,by omega,by omega⟩,λs _ j hj=>by omega⟩,DM _ _⟩
 obtain⟨a,b,q,z,rfl,rfl,rfl,hq,aj,aE,B⟩:=hrel;have⟨g,J⟩:=zk2 B aE;clear B aE;by_cases aV:z+1<m
 .have aD:(z:Int)+1<(m:Int):=by omega
  have k0:=zn0 z;have k1:(0:Int)<=(z:Int)+1:=by omega
  have k2:(z:Int)<(m:Int):=by omega
  obtain⟨bb,oo,p,d',e2,aB,aS,Z,aw, -⟩:=HX (z) (by omega);obtain⟨aR,a0,p2,d2,e3,aC,aT,H,af, -⟩:=HX (z+1) (by omega);subst e2;simp only[DN,FK,FL] at e3;obtain⟨rfl,rfl⟩:=e3;have U:=zh (getD_in ex0 (show z<zN l by rw[<-HN];omega));have V:=zh (getD_in ex0 (show z+1<zN l by rw[<-HN];omega));have ax:Hid (EvP S names k (zG l (z) ex0)=λy=>∃s,S s/\y=evT (aM names s) k (zG l (z) ex0)):=zh rfl;have ay:Hid (EvP S names k (zG l (z+1) ex0)=λy=>∃s,S s/\y=evT (aM names s) k (zG l (z+1) ex0)):=zh rfl;have ai:Hid (∀N u:Int,(0<=N/\N<=65536∧ -1<=u/\u<=65535)->N<=a->b<=u->(∀s,S s->evT (aM names s) k (zG l (z) ex0)<=zG s i 0->zG s i 0<=evT (aM names s) k (zG l (z+1) ex0)->N<=((zG s i 0:Nat):Int)/\((zG s i 0:Nat):Int)<=u)->MbI S names k l i (q+1) N u):=zh λN u Y P h3 h4=>⟨Y,λs I j hj q1 q2=>by
   by_cases e:j=q
   .have e2:2*j=z:=by rw[e];exact aj.symm
    rw[e2] at q1 q2;exact h4 s I q1 q2
   have:=J.2 s I j (by omega) q1 q2;omega⟩;have ap:=J.1;have R:=zh fun(W:World) (h:zL w W)=>CE W h (zG l (z) ex0) p ⟨HZ _ U,HO _ U,d',aw⟩;have T:=zh fun(W:World) (h:zL w W)=>CE W h (zG l (z+1) ex0) p2 ⟨HZ _ V,HO _ V,d2,af⟩;rw[ax] at R;rw[ay] at T;obtain⟨Aa,ac,rfl, -⟩:=aw.slice;obtain⟨Ab,bc,rfl, -⟩:=af.slice;obtain⟨v0,v1,v2,v3⟩:=zx4 ar aB Z;obtain⟨u0,u1,u2,u3⟩:=zx4 ar aC H;rw[Eb] at v0 u0;have C:Hid (bb<w.heap.size):=zh (DU aB ar.size);unfold exV at R T;generalize aJ:zG l (z) ex0=ea,heb:zG l (z+1) ex0=eb at*;have⟨ao,Y⟩:=zv (ea.op);have⟨an,P⟩:=zv (ea.n);have⟨am,h3⟩:=zv (ea.s);have⟨al,h4⟩:=zv (zN ea.a);rw[<-Y,<-P,<-h3,<-h4] at R;rw[<-Y] at v0;rw[<-P] at v1;rw[<-h3] at v2;rw[<-h4] at v3;clear Y P h3 h4;have⟨bo,Y⟩:=zv (eb.op);have⟨bn,P⟩:=zv (eb.n);have⟨bm,h3⟩:=zv (eb.s);have⟨bl,h4⟩:=zv (zN eb.a);rw[<-Y,<-P,<-h3,<-h4] at T;rw[<-Y] at u0;rw[<-P] at u1;rw[<-h3] at u2;rw[<-h4] at u3;clear Y P h3 h4;clear Z H aw af U V ax ay HZ HO CE J aJ heb;go_upto_region 4 with fail;go_cut [9,10] from 18 to 34 (λs9 aQ v=>∃G r F Q s0 D:Nat,s9=zP G/\aQ=zP r/\Box v G #[zI zi F,zI zi Q] 65/\Box v r #[zI zi s0,zI zi D] 65/\zL w v/\((F<=Q/\Q<=65535)/\∀z,(∃s,S s/\z=evT (aM names s) k ea)->dt z (F,Q))/\((s0<=D/\D<=65535)/\∀z,(∃s,S s/\z=evT (aM names s) k eb)->dt z (s0,D)))
  case first=>
   refine zhd (λW=>zL w W) (aa g (ae _)) (λhS=> ?_);replace g:=zh hS;clear hS;generalize wr.drew=v at*;have c1:=zn0 z;have c2:(z:Int)<(m:Int):=by omega
   have c3:((z:Int)).toNat=z:=by omega
   have c4:IntKind.i64.wrap ((z:Int)+1)=(z:Int)+1:=by rw[IntKind.wrap_i64];omega
   have c5:(0:Int)<=(z:Int)+1:=by omega
   have c6:(z:Int)+1<(m:Int):=by omega
   have c7:((z:Int)+1).toNat=z+1:=by omega
   refine zta 0 (zP gn) rfl ?_;refine zta 1 (zP gn) rfl ?_;refine zta 2 (zP gn) rfl ?_;refine zta 3 (zU (some ⟨bb,oo,none⟩) m c) rfl ?_;refine zta 4 (zI zi (z:Int)) rfl ?_;refine zta 5 (.pointer (some ⟨bb,oo+z*4,none⟩)) rfl ?_;simp only[zp];refine zt 6 (zX #[zI zi ao,zI zi an,zV am,zU Aa al ac]) rfl (zQ ⟨by rfl,λW hW=>by have q0:=(hW.cell C.out).trans v0;have q1:=(hW.cell C.out).trans v1;have q2:=(hW.cell C.out).trans v2;have q3:=(hW.cell C.out).trans v3;go_simp⟩) ?_;refine zta 8 (zP gn) rfl ?_;refine zta 9 (zP gn) rfl ?_;refine zta 10 (zP gn) rfl ?_;refine zta 11 (zU (some ⟨bb,oo,none⟩) m c) rfl ?_;refine zta 12 (zI zi (z:Int)) rfl ?_;refine zta 13 (zI zi ((z+1:Nat):Int)) rfl ?_;refine zta 14 (.pointer (some ⟨bb,oo+(z+1)*4,none⟩)) rfl ?_;simp only[zp];refine zt 15 (zX #[zI zi bo,zI zi bn,zV bm,zU Ab bl bc]) rfl (zQ ⟨by rfl,λW hW=>by have q0:=(hW.cell C.out).trans u0;have q1:=(hW.cell C.out).trans u1;have q2:=(hW.cell C.out).trans u2;have q3:=(hW.cell C.out).trans u3;go_simp⟩) ?_;simp only[zp];clear v0 v1 v2 v3 u0 u1 u2 u3 c1 c2 c3 c4 c5 c6 c7;iterate 6
    all_goals
     first
      |refine Zg 7 17 18 ?_ ?_ ?_
      |refine Zg 16 17 18 ?_ ?_ ?_
      |refine Zf 7 18 ?_ ?_
      |refine Zf 7 17 ?_ ?_
      |refine Zf 17 18 ?_ ?_
      |refine Zf 16 18 ?_ ?_
      |refine Zf 16 17 ?_ ?_
      |refine Ze 7 ?_
      |refine Ze 18 ?_
      |refine Ze 17 ?_
      |refine Ze 16 ?_
      |refine Ze 19 ?_
      |refine Ze 20 ?_
    all_goals
     first
      |(refine aL (i:=7) rfl ?_
        go_wp2;refine(R _ g).mono ?_;rintro e0 v ⟨⟨F,Q⟩,rfl,ag,ad,B⟩;have K:=zh (And.intro ag ad);clear ag ad;simp only[spV]
        (try replace t:=zb t B)
        (try replace f:=zb f B)
        replace g:=zb g B;clear B;go_wp2;refine⟨g, ?_⟩)
      |(refine aL (i:=16) rfl ?_
        go_wp2;refine(T _ g).mono ?_;rintro e0 v ⟨⟨s0,D⟩,rfl,ag,ad,B⟩;have M:=zh (And.intro ag ad);clear ag ad;simp only[spV]
        (try replace t:=zb t B)
        (try replace f:=zb f B)
        replace g:=zb g B;clear B;go_wp2;refine⟨g, ?_⟩)
      |(refine aL (i:=17) rfl ?_
        go_wp2;have E:=ab v (zC #[zI zi 0,zI zi 0] 65);have t:=zh (Box.new v 65 #[zI zi 0,zI zi 0])
        (try have X:=zh f.lt)
        (try replace f:=zb f E)
        have aA:=zh g.size;replace g:=zb g E;clear E;generalize v.heap.size=G at*;refine⟨g, ?_⟩;have⟨v,o⟩:=zv (v.alloc (zC #[zI zi 0,zI zi 0] 65));rw[<-o] at t g⊢
        (try rw[<-o] at f)
        clear o)
      |(refine aL (i:=18) rfl ?_
        go_wp2;have E:=ab v (zC #[zI zi 0,zI zi 0] 65);have f:=zh (Box.new v 65 #[zI zi 0,zI zi 0])
        (try have X:=zh t.lt)
        (try replace t:=zb t E)
        have ak:=zh g.size;replace g:=zb g E;clear E;generalize v.heap.size=r at*;refine⟨g, ?_⟩;have⟨v,o⟩:=zv (v.alloc (zC #[zI zi 0,zI zi 0] 65));rw[<-o] at f g⊢
        (try rw[<-o] at t)
        clear o)
      |(refine aL (i:=19) rfl ?_
        obtain⟨x0,x1⟩:=zc2 t;have z0:=t.Z 0;have z1:=t.Z 1;have xl:=t.lt;go_wp2;clear x0 x1 z0 z1 xl;replace t:Hid (Box _ G #[zI zi F,zI zi Q] 65):=zh ((t.set_ 0 (zI zi F)).set_ 1 (zI zi Q))
        (try replace f:=zh ((f.setNe ⟨G,0,none⟩ (zI zi F) (by have:=X.out;show G≠_;omega)).setNe ⟨G,1,none⟩ (zI zi Q) (by have:=X.out;show G≠_;omega)))
        replace g:=zh ((g.setCell (p:=⟨G,0,none⟩) aA (zI zi F)).setCell (p:=⟨G,1,none⟩) aA (zI zi Q));refine⟨g, ?_⟩;have⟨v,o⟩:=zv ((v.setCell ⟨G,0,none⟩ (zI zi F)).setCell ⟨G,1,none⟩ (zI zi Q));rw[<-o] at t g⊢
        (try rw[<-o] at f)
        clear o)
      |(refine aL (i:=20) rfl ?_
        obtain⟨x0,x1⟩:=zc2 f;have z0:=f.Z 0;have z1:=f.Z 1;have xl:=f.lt;go_wp2;clear x0 x1 z0 z1 xl;replace f:Hid (Box _ r #[zI zi s0,zI zi D] 65):=zh ((f.set_ 0 (zI zi s0)).set_ 1 (zI zi D))
        (try replace t:=zh ((t.setNe ⟨r,0,none⟩ (zI zi s0) (by have:=X.out;show r≠_;omega)).setNe ⟨r,1,none⟩ (zI zi D) (by have:=X.out;show r≠_;omega)))
        replace g:=zh ((g.setCell (p:=⟨r,0,none⟩) ak (zI zi s0)).setCell (p:=⟨r,1,none⟩) ak (zI zi D));refine⟨g, ?_⟩;have⟨v,o⟩:=zv ((v.setCell ⟨r,0,none⟩ (zI zi s0)).setCell ⟨r,1,none⟩ (zI zi D));rw[<-o] at f g⊢
        (try rw[<-o] at t)
        clear o)
   all_goals
    refine zdn ?_;go_wp2;go_meet;exact⟨G,r,F,Q,s0,D,rfl,rfl,t,f,g,K,M⟩
  case rest=>
   obtain⟨G,r,F,Q,s0,D,rfl,rfl,aH,aq,B,aF,aG⟩:=hcut;clear g v0 v1 v2 v3 u0 u1 u2 u3 R T;have⟨g,t,f,K,M⟩:=zk5 B aH aq aF aG;obtain⟨⟨aW,aX⟩, -⟩:=aF;obtain⟨⟨aY,aZ⟩, -⟩:=aG;clear B aH aq;have l0:=za t 0;have l1:=za f 1;by_cases aU:F<=D
   .have h9:(F:Int)<=(D:Int):=by omega
    have au:=zh (ai (min a (F:Int)) (max b (D:Int)) ⟨by omega,by omega,by omega,by omega⟩ (by omega) (by omega) (λs I q1 q2=>by have z1:=(K.2 _ ⟨s,I,rfl⟩).1;have z2:=(M.2 _ ⟨s,I,rfl⟩).2;simp only at z1 z2;exact⟨by omega,by omega⟩));clear ai K M;go_upto_region 6 with fail;refine az ?_;have p0:=t.lat 0 _ rfl;have p1:=f.lat 1 _ rfl;repeat(go_big_quiet_step (fail))
    refine D4 ?_;intro w7 B;clear p0 p1 l0 l1;replace g:=zb g B;go_wp2;go_roundw
    .exact⟨_,_,q+1,z+2,rfl,rfl,by go_num,by omega,zh (by have:=aj.out;omega),au,g⟩
    simp[intOf];omega
   have h9:¬(F:Int)<=(D:Int):=by omega
   have au:=zh (ai a b ap (by omega) (by omega) (λs I q1 q2=>by have z1:=(K.2 _ ⟨s,I,rfl⟩).1;have z2:=(M.2 _ ⟨s,I,rfl⟩).2;simp only at z1 z2;omega));clear ai K M;go_wp2;go_roundw
   .exact⟨a,b,q+1,z+2,rfl,rfl,by go_num,by omega,zh (by have:=aj.out;omega),au,g⟩
   simp[intOf];omega
 have aD:¬(z:Int)+1<(m:Int):=by omega
 have ap:=J.1;have CF:=zh (CL wr g a b (by omega) (by omega) (λs I=>by have⟨j,q1,q2,q3⟩:=uN (HS s I);rw[DT,<-HN] at q1;rw[cS (by rw[<-HN];omega)] at q2 q3;exact J.2 s I j (by have:=aj.out;omega) q2 q3));clear CL CE J HS;go_wp2;refine CF.mono ?_;rintro e0 w2 ⟨hk,h9⟩;have HK:=zh (((K2.refl w gn gr).Q g).trans hk);rcases h9 with⟨rfl,aP⟩|⟨rfl,L2,aI,aO,aK,aN⟩
 .exact⟨rfl,HK,zQ ⟨rfl,aP⟩⟩
 go_wp2;go_end0;exact⟨HK,zO ⟨rfl,L2,aI,aO,aK,aN⟩⟩
section
variable (k:Nat) {b c m o x y:Nat} {A:Option Addr} {w w0:World}
def NrS (k:Nat):Prop:=∀(S:List Nat->Prop) (names:List ByteArray) (known:ByteArray->Bool) (w0 w:World) (gn gm gr cap n:Nat) (L:List Sp) (ch:Bool) (e:Ex) (x:Value),NwC names w0 gn gr n->zL w0 w->NwM w gn gm gr cap names n L ch->NwI S n L->lQ known k w0 e x->(∀s,S s->evT (aM names s) k e≠0)→
 Calls zz 106 #[zP gn,exV e x] w (NwR S names gn gm gr cap n L ch w)
def lQ.child {known:ByteArray->Bool} {k:Nat} {e:Ex} (h:lQ known (k+1) w e (zU A m c)):m=zN e.a/\∀j,j<m->∃b o p,A=some ⟨b,o,none⟩/\b<w.heap.size/\(∀i u,(exL p (zG e.a j ex0))[i]? =some u->w.cell? ⟨b,o+j*4+i,none⟩=some u)/\lQ known k w (zG e.a j ex0) p:=by have⟨d,r⟩:=h.r;have⟨t,v,e1,x,s⟩:=r.exs;simp only[DQ] at e1;obtain⟨rfl,rfl,rfl⟩:=e1;refine⟨rfl,λj l=> ?_⟩;obtain⟨b,o,p,n,rfl,q, -,a,g, -⟩:=s j l;have f:=getD_in ex0 l;exact⟨b,o,p,rfl,q,a,h.z.a _ f,(jV h.o).2.2.2.2.2 _ f,n,g⟩
def nz4 (h:op1 4 x≠0):x=0:=by have a:tN (decide (x=0))≠0:=h;unfold tN at a;simp at a;exact a
def Y6 (h:op2 15 x y≠0):x=y:=by have a:tN (decide (x=y))≠0:=h;unfold tN at a;simp at a;exact a
def Y4 (h:op2 16 x y≠0):x≠y:=by have a:tN (!decide (x=y))≠0:=h;unfold tN at a;simp at a;exact a
def Y3 (h:op2 17 x y≠0):x<y:=by have a:tN (decide (x<y))≠0:=h;unfold tN at a;simp at a;exact a
def Y2 (h:op2 18 x y≠0):x<=y:=by have a:tN (!decide (y<x))≠0:=h;unfold tN at a;simp at a;exact a
def Y1 (h:op2 19 x y≠0):x≠0/\y≠0:=by have a:tN (decide (x≠0)&&decide (y≠0))≠0:=h;unfold tN at a;simp at a;exact a
theorem YZ {x:Nat} {l:List Nat} (h:tN (eW x l)≠0):eW x l=true:=by
 cases hq:eW x l with
 |true=>rfl
 |false=>rw[hq] at h;exact absurd rfl h
def nwE {P:Program} {f:FuncId} {args:Array Value} {S:List Nat->Prop} {names:List ByteArray} {gn gm gr cap n:Nat} {L:List Sp} {ch:Bool} {Q:Ending->World->Prop} (i:Hid (Calls P f args w (NwR S names gn gm gr cap n L ch w))) (d:Hid (K2 w0 w gn gr)) (j:∀b,Hid (K2 w0 b gn gr)->(∀a,¬S a)->Q (.panicked tb) b) (k:∀b,Hid (K2 w0 b gn gr)->Hid (∃g c,NwM b gn gm gr cap names n g c/\NwI S n g/\NwL L ch g c)->Q (zE (zY #[])) b):Calls P f args w Q:=i.mono λe b ⟨hk,h⟩=>by
 have d:=zh (d.trans hk);rcases h with⟨rfl,h⟩|⟨rfl,h⟩
 .exact j b d h
 exact k b d (zh h)
def xj {x:Ex} (h:b<w.heap.size) (d:∀i u,(exL (zU A m c) x)[i]? =some u->w.cell? ⟨b,o+0*4+i,none⟩=some u):∀W,zL w W->W.cell? ⟨b,o+0,none⟩=some (zI zi x.op)/\W.cell? ⟨b,o+1,none⟩=some (zI zi x.n)/\W.cell? ⟨b,o+2,none⟩=some (zV x.s)/\W.cell? ⟨b,o+3,none⟩=some (zU A m c):=λW a=>
 ⟨(a.cell (p:=⟨b,o+0*4+0,none⟩) h).trans (d 0 _ rfl),(a.cell (p:=⟨b,o+0*4+1,none⟩) h).trans (d 1 _ rfl),(a.cell (p:=⟨b,o+0*4+2,none⟩) h).trans (d 2 _ rfl),(a.cell (p:=⟨b,o+0*4+3,none⟩) h).trans (d 3 _ rfl)⟩
def Qq {x:Ex} (h:b<w.heap.size) (d:∀i u,(exL (zU A m c) x)[i]? =some u->w.cell? ⟨b,o+1*4+i,none⟩=some u):∀W,zL w W->W.cell? ⟨b,o+4,none⟩=some (zI zi x.op)/\W.cell? ⟨b,o+5,none⟩=some (zI zi x.n)/\W.cell? ⟨b,o+6,none⟩=some (zV x.s)/\W.cell? ⟨b,o+7,none⟩=some (zU A m c):=λW a=>
 ⟨(a.cell (p:=⟨b,o+1*4+0,none⟩) h).trans (d 0 _ rfl),(a.cell (p:=⟨b,o+1*4+1,none⟩) h).trans (d 1 _ rfl),(a.cell (p:=⟨b,o+1*4+2,none⟩) h).trans (d 2 _ rfl),(a.cell (p:=⟨b,o+1*4+3,none⟩) h).trans (d 3 _ rfl)⟩
def F1 {A B C D:World->Prop} (h:Hid (∀W,zL w0 W->A W/\B W/\C W/\D W)) (a:Hid (zL w0 w)):(∀p:Lat w,A p.w)/\(∀p:Lat w,B p.w)/\(∀p:Lat w,C p.w)/\(∀p:Lat w,D p.w):=⟨λp=>(h p.w (aa a p.h)).1,λp=>(h p.w (aa a p.h)).2.1,λp=>(h p.w (aa a p.h)).2.2.1,λp=>(h p.w (aa a p.h)).2.2.2⟩
def Dy (IH:NrS k):NrS (k+1):=by
 intro S names known w0 w gn gm gr cap n L ch e x hC bd hM hI hx G;have⟨ae,bD,bE,bF,bG,bl⟩:=jV hx.o;have⟨HC,f,D,HI,HS,aK⟩:=zk6 hC bd hM hI G IH;have aF:=zh hx;have bo:=zh hM.r.lt;have CV:=zh fun(W:World) (h:zL w W)=>lP (hM.Q h) hx;have HV:=zh (lw hx.o hC.nl);have⟨d,hr⟩:=hx.r;obtain⟨A,c,rfl,hc⟩:=hr.slice;have aZ:=zh hc;have aY:=zh hx.child;have⟨ao,a4⟩:=zk2 ae bl;have an:Hid (∀s,e.op≠1->e.op≠2->S s->opT e.op (e.a.map (evT (aM names s) k))≠0):=zh λs h1 h2 h3=>by have:=G s h3;rw[kc,DK h1,DK h2] at this;exact this
 have a9:∀args W,(callFunc 174 args).run zz W= .ok (.enter 174 args) W:=λargs W=>by kernel_rfl
 have ba:∀args W,(callFunc 175 args).run zz W= .ok (.enter 175 args) W:=λargs W=>by kernel_rfl
 have⟨aW,aX⟩:=zk2 a9 ba;have bn:Hid (zN e.a<=1000):=zh (by have:=(pJ ae).1;omega);generalize kV names e=vi at*;unfold exV at CV⊢;generalize hm:zN e.a=m,hop:e.op=op at*;generalize e.n=en,e.s=em at*;have⟨C,bp⟩:=zk2 hm hop;go_enter func106,ntmps106;go_upto_region 1 with fail;have v:=zh (Box.new w 109 #[zP gn]);have be:=ab w (zC #[zP gn] 109);have u:=zh (Box.new (w.alloc (zC #[zP gn] 109)) 79 #[zI zi op,zI zi en,zV em,zU A m c]);have aT:=ab (w.alloc (zC #[zP gn] 109)) (zC #[zI zi op,zI zi en,zV em,zU A m c] 79);replace v:=zb v aT;have HB:=zh (aa be aT);have aV:(w.alloc (zC #[zP gn] 109)).heap.size=w.heap.size+1:=by simp
 rw[aV] at u
 (try simp only[aV])
 generalize(w.alloc (zC #[zP gn] 109)).alloc (zC #[zI zi op,zI zi en,zV em,zU A m c] 79)=w1 at*;refine az ?_;have n0:=v.lat 0 _ rfl;have a0:=u.lat 0 _ rfl;have a1:=u.lat 1 _ rfl;have a2:=u.lat 2 _ rfl;have a3:=u.lat 3 _ rfl;have au:=zh fun(p:Lat w1)=>CV p.w (aa HB p.h);repeat(go_big_quiet_step (first|with_reducible exact aG (au.out _)))
 refine D4 ?_;intro w2 hb;replace⟨v,u,HB⟩:=zb3 v u HB hb;replace D:=zh (D.Q HB);have l:=zh ((K2.refl w gn gr).Q HB);replace f:=zh (aa f HB);rcases HV with e1|⟨i,hi,e1,av⟩
 rotate_left
 .subst e1;have aE:=zh av;have g1:=zn0 i;have CL:=zh (gW w2 gn gm gr cap n i L ch D HI hi HC.n16 1 65535 (by omega) (by omega) (λs G=>by have q1:=HS s G;have q2:=aE s;have q3:=(HI.sol s G i hi).2;have q4:=(HI.ok i hi).2;exact⟨by omega,by omega⟩));have n0:=za v 0;go_wp2;refine nwE CL l (λw4 l h=>⟨rfl,l,zQ ⟨rfl,h⟩⟩) λw4 l h=> ?_;go_wp2;go_end0;exact⟨l,zO ⟨rfl,h⟩⟩
 have g1:¬(0:Int)<=vi:=by omega
 obtain⟨-,bf⟩:=aY;have ad:=zh bf;by_cases h4:op=4
 .subst h4;obtain rfl:m=1:=mc ao (by simp);have H:Hid (∀s,S s->evT (aM names s) k (zG e.a 0 ex0)=0):=zh λs G=>by have q:=an s (by decide) (by decide) G;rw[ma (by decide) (by decide) (by rw[DT,C]),cS (by rw[C];omega)] at q;exact nz4 q
  have⟨b0,o0,p0,V,E,g,o⟩:=ad 0 (by omega);subst V;have z:=zh o;have⟨ap,F⟩:=o.r;obtain⟨Aa,ca,rfl, -⟩:=F.slice;have P:=zh (xj E g);have aD:=zh (lw z.o HC.nl);have ar:=zh fun(W:World) (h:zL w2 W)=>lP (D.Q h) z;unfold exV at ar;generalize bm:kV names (zG e.a 0 ex0)=v0 at*;generalize aq:zG e.a 0 ex0=ea at*;generalize X:zN ea.a=la,Z:ea.op=oa,Y:ea.n=na,ac:ea.s=sa at*;have j:=zh (And.intro X (And.intro Z (And.intro Y ac)));have n0:=za v 0;have a0:=za u 0;go_upto_region 6 with fail;refine az ?_;have n0:=v.lat 0 _ rfl;have a0:=u.lat 0 _ rfl;have a3:=u.lat 3 _ rfl;have⟨I,J,K,M⟩:=F1 P f;simp only[Eb] at I J K M;have au:=zh fun(p:Lat w2)=>ar p.w p.h;repeat(go_big_quiet_step (first|with_reducible exact aG (au.out _)))
  refine D4 ?_;intro w4 hb;replace⟨v,u,D,l,f⟩:=zb5 v u D l f hb;rcases aD.out with e1|⟨i,hi,e1,av⟩
  .have g2:¬(0:Int)<=v0:=by omega
   go_wp2;go_end0;exact⟨l,zO ⟨rfl,L,ch,D,HI,NwL.refl _ _⟩⟩
  subst e1;have g2:=zn0 i;have CL:=zh (gW w4 gn gm gr cap n i L ch D HI hi HC.n16 0 0 (by omega) (by omega) (λs G=>by have q1:=H s G;have q2:=av s;exact⟨by omega,by omega⟩));have n0:=za v 0;go_wp2;refine nwE CL l (λw5 l h=>⟨rfl,l,zQ ⟨rfl,h⟩⟩) λw5 l h=> ?_;go_wp2;go_end0;exact⟨l,zO ⟨rfl,h⟩⟩
 by_cases aR:op=19
 .subst aR;obtain⟨ai, -, -⟩:=kD ao;subst ai;have H:Hid (∀s,S s->evT (aM names s) k (zG e.a 0 ex0)≠0/\evT (aM names s) k (zG e.a 1 ex0)≠0):=zh λs G=>by have q:=an s (by decide) (by decide) G;rw[kC (by decide) (by decide) (by rw[DT,C]),cS (by rw[C];omega),cS (by rw[C];omega)] at q;exact Y1 q
  have⟨b0,o0,p0,V,E,g,o⟩:=ad 0 (by omega);subst V;have⟨b1,o1,p1,R,T,t,B⟩:=ad 1 (by omega);simp only[DN,FK,FL] at R;obtain⟨rfl,rfl⟩:=R;have z:=zh o;have⟨ap,F⟩:=o.r;obtain⟨Aa,ca,rfl, -⟩:=F.slice;have P:=zh (xj E g);have Q:=zh B;have⟨aB,U⟩:=B.r;obtain⟨Ab,cb,rfl, -⟩:=U.slice;have ak:=zh (Qq T t);generalize aq:zG e.a 0 ex0=ea at*;generalize X:zN ea.a=la,Z:ea.op=oa,Y:ea.n=na,ac:ea.s=sa at*;have j:=zh (And.intro X (And.intro Z (And.intro Y ac)));generalize aC:zG e.a 1 ex0=eb at*;generalize ag:zN eb.a=lb,ae:eb.op=ob,al:eb.n=nb,am:eb.s=sb at*;have r:=zh (And.intro ag (And.intro ae (And.intro al am)));have n0:=za v 0;have a0:=za u 0;go_upto_region 10 with fail;refine aj 5 ?_;have n0:=v.lat 0 _ rfl;have a3:=u.lat 3 _ rfl;have⟨I,J,K,M⟩:=F1 P f;simp only[Eb] at I J K M;have⟨aw,ax,ay,aA⟩:=F1 ak f;simp only[Ee,El,Ei,D5];iterate 5 (go_big_quiet_step (fail))
  refine D4 ?_;intro w4 hb;replace⟨v,u,D,l,f⟩:=zb5 v u D l f hb;have N:=zh (aK S names known w0 w4 gn gm gr cap n L ch _ _ HC f D HI z (λs G=>(H s G).1));unfold exV at N;rw[j.2.1,j.2.2.1,j.2.2.2] at N;go_wp2;refine N.mono ?_;rintro e0 w5 ⟨hk,h9⟩;have ga:=af v D.x;have gb:=D.r.apart v (by decide);have gc:=af u D.x;have gd:=D.r.apart u (by decide);replace v:=zh (hk.box v ga gb);replace u:=zh (hk.box u gc gd);replace l:=zh (l.trans hk);replace f:=zh (hk.toBelow f HC.hg HC.hr);rcases h9 with⟨rfl,aI⟩|⟨rfl,L1,a7,aU,bh,ag⟩
  .exact⟨rfl,l,zQ ⟨rfl,aI⟩⟩
  have⟨D,HI,HL⟩:=zk3 aU bh ag;go_upto_region 11 with fail;refine aj 5 ?_;have n0:=v.lat 0 _ rfl;have a3:=u.lat 3 _ rfl;have⟨I,J,K,M⟩:=F1 P f;simp only[Eb] at I J K M;have⟨aw,ax,ay,aA⟩:=F1 ak f;simp only[Ee,El,Ei,D5];iterate 5 (go_big_quiet_step (fail))
  refine D4 ?_;intro w6 hb;replace⟨v,u,D,l,f⟩:=zb5 v u D l f hb;have N:=zh (aK S names known w0 w6 gn gm gr cap n L1 a7 _ _ HC f D HI Q (λs G=>(H s G).2));unfold exV at N;rw[r.2.1,r.2.2.1,r.2.2.2] at N;go_wp2;refine N.mono ?_;rintro e0 w7 ⟨hk,h9⟩;replace l:=zh (l.trans hk);rcases h9 with⟨rfl,aI⟩|⟨rfl,L2,a8,ai,bi,bj⟩
  .exact⟨rfl,l,zQ ⟨rfl,aI⟩⟩
  go_wp2;go_end0;exact⟨l,zO ⟨rfl,L2,a8,ai,bi,HL.trans bj⟩⟩
 by_cases aN:op=15
 .subst aN;obtain⟨ai, -, -⟩:=kD ao;subst ai;have H:Hid (∀s,S s->evT (aM names s) k (zG e.a 0 ex0)=evT (aM names s) k (zG e.a 1 ex0)):=zh λs G=>by have q:=an s (by decide) (by decide) G;rw[kC (by decide) (by decide) (by rw[DT,C]),cS (by rw[C];omega),cS (by rw[C];omega)] at q;exact Y6 q
  have⟨b0,o0,p0,V,E,g,o⟩:=ad 0 (by omega);subst V;have⟨b1,o1,p1,R,T,t,B⟩:=ad 1 (by omega);simp only[DN,FK,FL] at R;obtain⟨rfl,rfl⟩:=R;have z:=zh o;have⟨ap,F⟩:=o.r;obtain⟨Aa,ca,rfl, -⟩:=F.slice;have P:=zh (xj E g);have Q:=zh B;have⟨aB,U⟩:=B.r;obtain⟨Ab,cb,rfl, -⟩:=U.slice;have ak:=zh (Qq T t);generalize aq:zG e.a 0 ex0=ea at*;generalize X:zN ea.a=la,Z:ea.op=oa,Y:ea.n=na,ac:ea.s=sa at*;have j:=zh (And.intro X (And.intro Z (And.intro Y ac)));generalize aC:zG e.a 1 ex0=eb at*;generalize ag:zN eb.a=lb,ae:eb.op=ob,al:eb.n=nb,am:eb.s=sb at*;have r:=zh (And.intro ag (And.intro ae (And.intro al am)));have n0:=za v 0;have a0:=za u 0;go_upto_region 13 with fail;have bk:=zm;refine aj 10 ?_;have n0:=v.lat 0 _ rfl;have a3:=u.lat 3 _ rfl;have⟨I,J,K,M⟩:=F1 P f;simp only[Eb] at I J K M;have⟨aw,ax,ay,aA⟩:=F1 ak f;simp only[Ee,El,Ei,D5];iterate 10 (go_big_quiet_step (fail))
  refine D4 ?_;intro w4 hb;replace⟨v,u,D,l,f⟩:=zb5 v u D l f hb;have bb:w.heap.size≠gn:=af v D.x;have bc:w.heap.size≠gr:=D.r.apart v (by decide);have N:=zh (vI w4 HC f D HI z Q 174 #[] #[.pointer (some ⟨w.heap.size,0,none⟩)] aW (λW=>Box W w.heap.size #[zP gn] 109) v (λW W' h hb=>h.Q hb) (λW W' h hk=>hk.box h bb bc) (λa b=>a=b) (λs G=>⟨H s G,(H s G).symm⟩)
   (λW L' a6 i a b hx hm hi aH ha hb hq=>Dx W HC.n16 hm hi hx i aH a b hb ha (λs G=>by obtain⟨y,q1,q2⟩:=hq s G;rw[q2];exact q1)));unfold exV at N;rw[j.2.1,j.2.2.1,j.2.2.2] at N;rw[r.2.1,r.2.2.1,r.2.2.2] at N;go_wp2;refine nwE N l (λw5 l h=>⟨rfl,l,zQ ⟨rfl,h⟩⟩) λw5 l h=> ?_;go_wp2;go_end0;exact⟨l,zO ⟨rfl,h⟩⟩
 by_cases aO:op=16
 .subst aO;obtain⟨ai, -, -⟩:=kD ao;subst ai;have H:Hid (∀s,S s->evT (aM names s) k (zG e.a 0 ex0)≠evT (aM names s) k (zG e.a 1 ex0)):=zh λs G=>by have q:=an s (by decide) (by decide) G;rw[kC (by decide) (by decide) (by rw[DT,C]),cS (by rw[C];omega),cS (by rw[C];omega)] at q;exact Y4 q
  have⟨b0,o0,p0,V,E,g,o⟩:=ad 0 (by omega);subst V;have⟨b1,o1,p1,R,T,t,B⟩:=ad 1 (by omega);simp only[DN,FK,FL] at R;obtain⟨rfl,rfl⟩:=R;have z:=zh o;have⟨ap,F⟩:=o.r;obtain⟨Aa,ca,rfl, -⟩:=F.slice;have P:=zh (xj E g);have Q:=zh B;have⟨aB,U⟩:=B.r;obtain⟨Ab,cb,rfl, -⟩:=U.slice;have ak:=zh (Qq T t);generalize aq:zG e.a 0 ex0=ea at*;generalize X:zN ea.a=la,Z:ea.op=oa,Y:ea.n=na,ac:ea.s=sa at*;have j:=zh (And.intro X (And.intro Z (And.intro Y ac)));generalize aC:zG e.a 1 ex0=eb at*;generalize ag:zN eb.a=lb,ae:eb.op=ob,al:eb.n=nb,am:eb.s=sb at*;have r:=zh (And.intro ag (And.intro ae (And.intro al am)));have n0:=za v 0;have a0:=za u 0;go_upto_region 15 with fail;have bk:=zm;refine aj 11 ?_;have n0:=v.lat 0 _ rfl;have a3:=u.lat 3 _ rfl;have⟨I,J,K,M⟩:=F1 P f;simp only[Eb] at I J K M;have⟨aw,ax,ay,aA⟩:=F1 ak f;simp only[Ee,El,Ei,D5];iterate 11 (go_big_quiet_step (fail))
  refine D4 ?_;intro w4 hb;replace⟨v,u,D,l,f⟩:=zb5 v u D l f hb;have N:=zh (vI w4 HC f D HI z Q 175 #[zP gn] #[] aX (λ_=>True) trivial (λ_ _ _ _=>trivial) (λ_ _ _ _=>trivial) (λa b=>a≠b) (λs G=>⟨H s G,FA (H s G)⟩)
   (λW L' a6 i a b hx hm hi aH ha hb hq=>Dv W HC.n16 hm hi i aH a b hb ha hq));unfold exV at N;rw[j.2.1,j.2.2.1,j.2.2.2] at N;rw[r.2.1,r.2.2.1,r.2.2.2] at N;go_wp2;refine nwE N l (λw5 l h=>⟨rfl,l,zQ ⟨rfl,h⟩⟩) λw5 l h=> ?_;go_wp2;go_end0;exact⟨l,zO ⟨rfl,h⟩⟩
 by_cases aP:op=17
 .subst aP;obtain⟨ai, -, -⟩:=kD ao;subst ai;have H:Hid (∀s,S s->evT (aM names s) k (zG e.a 0 ex0)<evT (aM names s) k (zG e.a 1 ex0)):=zh λs G=>by have q:=an s (by decide) (by decide) G;rw[kC (by decide) (by decide) (by rw[DT,C]),cS (by rw[C];omega),cS (by rw[C];omega)] at q;exact Y3 q
  have⟨b0,o0,p0,V,E,g,o⟩:=ad 0 (by omega);subst V;have⟨b1,o1,p1,R,T,t,B⟩:=ad 1 (by omega);simp only[DN,FK,FL] at R;obtain⟨rfl,rfl⟩:=R;have z:=zh o;have⟨ap,F⟩:=o.r;obtain⟨Aa,ca,rfl, -⟩:=F.slice;have P:=zh (xj E g);have Q:=zh B;have⟨aB,U⟩:=B.r;obtain⟨Ab,cb,rfl, -⟩:=U.slice;have ak:=zh (Qq T t);generalize aq:zG e.a 0 ex0=ea at*;generalize X:zN ea.a=la,Z:ea.op=oa,Y:ea.n=na,ac:ea.s=sa at*;have j:=zh (And.intro X (And.intro Z (And.intro Y ac)));generalize aC:zG e.a 1 ex0=eb at*;generalize ag:zN eb.a=lb,ae:eb.op=ob,al:eb.n=nb,am:eb.s=sb at*;have r:=zh (And.intro ag (And.intro ae (And.intro al am)));have n0:=za v 0;have a0:=za u 0;go_upto_region 17 with fail;refine aj 9 ?_;have n0:=v.lat 0 _ rfl;have a3:=u.lat 3 _ rfl;have⟨I,J,K,M⟩:=F1 P f;simp only[Eb] at I J K M;have⟨aw,ax,ay,aA⟩:=F1 ak f;simp only[Ee,El,Ei,D5];iterate 9 (go_big_quiet_step (fail))
  refine D4 ?_;intro w4 hb;replace⟨v,u,D,l,f⟩:=zb5 v u D l f hb;have N:=zh (Bl w4 HC f D HI z Q 1 (by omega) (λs G=>by have:=H s G;omega));unfold exV at N;rw[j.2.1,j.2.2.1,j.2.2.2] at N;rw[r.2.1,r.2.2.1,r.2.2.2] at N;go_wp2;refine nwE N l (λw5 l h=>⟨rfl,l,zQ ⟨rfl,h⟩⟩) λw5 l h=> ?_;go_wp2;go_end0;exact⟨l,zO ⟨rfl,h⟩⟩
 by_cases aQ:op=18
 .subst aQ;obtain⟨ai, -, -⟩:=kD ao;subst ai;have H:Hid (∀s,S s->evT (aM names s) k (zG e.a 0 ex0)<=evT (aM names s) k (zG e.a 1 ex0)):=zh λs G=>by have q:=an s (by decide) (by decide) G;rw[kC (by decide) (by decide) (by rw[DT,C]),cS (by rw[C];omega),cS (by rw[C];omega)] at q;exact Y2 q
  have⟨b0,o0,p0,V,E,g,o⟩:=ad 0 (by omega);subst V;have⟨b1,o1,p1,R,T,t,B⟩:=ad 1 (by omega);simp only[DN,FK,FL] at R;obtain⟨rfl,rfl⟩:=R;have z:=zh o;have⟨ap,F⟩:=o.r;obtain⟨Aa,ca,rfl, -⟩:=F.slice;have P:=zh (xj E g);have Q:=zh B;have⟨aB,U⟩:=B.r;obtain⟨Ab,cb,rfl, -⟩:=U.slice;have ak:=zh (Qq T t);generalize aq:zG e.a 0 ex0=ea at*;generalize X:zN ea.a=la,Z:ea.op=oa,Y:ea.n=na,ac:ea.s=sa at*;have j:=zh (And.intro X (And.intro Z (And.intro Y ac)));generalize aC:zG e.a 1 ex0=eb at*;generalize ag:zN eb.a=lb,ae:eb.op=ob,al:eb.n=nb,am:eb.s=sb at*;have r:=zh (And.intro ag (And.intro ae (And.intro al am)));have n0:=za v 0;have a0:=za u 0;go_upto_region 19 with fail;refine aj 9 ?_;have n0:=v.lat 0 _ rfl;have a3:=u.lat 3 _ rfl;have⟨I,J,K,M⟩:=F1 P f;simp only[Eb] at I J K M;have⟨aw,ax,ay,aA⟩:=F1 ak f;simp only[Ee,El,Ei,D5];iterate 9 (go_big_quiet_step (fail))
  refine D4 ?_;intro w4 hb;replace⟨v,u,D,l,f⟩:=zb5 v u D l f hb;have N:=zh (Bl w4 HC f D HI z Q 0 (by omega) (λs G=>by have:=H s G;omega));unfold exV at N;rw[j.2.1,j.2.2.1,j.2.2.2] at N;rw[r.2.1,r.2.2.1,r.2.2.2] at N;go_wp2;refine nwE N l (λw5 l h=>⟨rfl,l,zQ ⟨rfl,h⟩⟩) λw5 l h=> ?_;go_wp2;go_end0;exact⟨l,zO ⟨rfl,h⟩⟩
 by_cases aS:op=23
 .subst aS;have⟨m3,bH⟩:=uq ao;have H:Hid (∀s,S s->eW (evT (aM names s) k (zG e.a 0 ex0)) ((e.a.drop 1).map (evT (aM names s) k))=true):=zh λs G=>by have q:=an s (by decide) (by decide) G;have q2:opT 23 (e.a.map (evT (aM names s) k))=tN (eW ((e.a.map (evT (aM names s) k)).getD 0 0) (e.a.map (evT (aM names s) k)).tail):=rfl;rw[q2,cS (by rw[C];omega)] at q;rw[List.map_drop,List.drop_one];exact YZ q
  have aL:Hid ((∀y∈e.a.drop 1,ExZ y)/\∀y∈e.a.drop 1,okE known k y=true):=zh ⟨λy hy=>aF.z.a y (List.mem_of_mem_drop hy),λy hy=>a4 y (List.mem_of_mem_drop hy)⟩;have⟨b0,o0,p0,V,E,g,o⟩:=ad 0 (by omega);subst V;have z:=zh o;have⟨ap,F⟩:=o.r;obtain⟨Aa,ca,rfl, -⟩:=F.slice;have P:=zh (xj E g);have a5:Hid (∃d,Rs (exR d) w0 (zU (some ⟨b0,o0+4,none⟩) (e.a.drop 1).length (c-1)) (e.a.drop 1) ah):=zh (by have⟨d,hr⟩:=aF.r;obtain⟨A',c',e1,bw, -⟩:=hr;simp only[DQ] at e1;obtain⟨-, -,rfl⟩:=e1;have⟨d,hr⟩:=aF.r;have bC:=C.out;have h9:=hr.drop 1 (by omega) (c-1) (by omega);rw[dY,Nat.one_mul] at h9;rw[ET,C];exact⟨d,h9⟩);have aJ:Hid ((e.a.drop 1).length=m-1):=zh (by rw[ET,C]);have aD:=zh (lw z.o HC.nl);have ar:=zh fun(W:World) (h:zL w2 W)=>lP (D.Q h) z;unfold exV at ar;generalize bm:kV names (zG e.a 0 ex0)=v0 at*;generalize aq:zG e.a 0 ex0=ea at*;generalize X:zN ea.a=la,Z:ea.op=oa,Y:ea.n=na,ac:ea.s=sa at*;have j:=zh (And.intro X (And.intro Z (And.intro Y ac)));have m0:(0:Int)<(m:Int):=by omega
  have n0:=za v 0;have a0:=za u 0;go_upto_region 21 with fail;refine az ?_;have n0:=v.lat 0 _ rfl;have a0:=u.lat 0 _ rfl;have a3:=u.lat 3 _ rfl;have⟨I,J,K,M⟩:=F1 P f;simp only[Eb] at I J K M;have au:=zh fun(p:Lat w2)=>ar p.w p.h;repeat(go_big_quiet_step (first|with_reducible exact aG (au.out _)))
  refine D4 ?_;intro w4 hb;replace⟨v,u,D,l,f⟩:=zb5 v u D l f hb;rcases aD with e1|⟨i,hi,e1,av⟩
  .have g2:¬(0:Int)<=v0:=by omega
   go_wp2;go_end0;exact⟨l,zO ⟨rfl,L,ch,D,HI,NwL.refl _ _⟩⟩
  subst e1;have g2:=zn0 i;have aE:=zh av;go_upto_region 23 with fail;refine aj 5 ?_;have n0:=v.lat 0 _ rfl;have a3:=u.lat 3 _ rfl;have aU:(1:Int)<=(m:Int):=by omega
  have bx:=aZ.out;have bz:¬c-1=0:=by omega
  have bA:¬c<=1:=by omega
  have bB:¬c=1:=by omega
  simp only[Ee,El,Ei,D5];repeat(go_big_quiet_step (fail))
  refine D4 ?_;intro w6 hb;replace⟨v,u,D,l,f⟩:=zb5 v u D l f hb;obtain⟨dx,bg⟩:=a5;have N:=zh (R5 w6 HC f D HI i hi (e.a.drop 1) (some ⟨b0,o0+4,none⟩) (c-1) dx bg aL.1 aL.2 (by have:=aJ.out;omega) (λs G=>by have q1:=H s G;rw[aE s] at q1;exact q1));rw[aJ] at N;go_wp2;refine nwE N l (λw5 l h=>⟨rfl,l,zQ ⟨rfl,h⟩⟩) λw5 l h=> ?_;go_wp2;go_end0;exact⟨l,zO ⟨rfl,h⟩⟩
 have g4:(op==4)=false:=by simpa using h4
 have bu:(op==19)=false:=by simpa using aR
 have bq:(op==15)=false:=by simpa using aN
 have br:(op==16)=false:=by simpa using aO
 have bs:(op==17)=false:=by simpa using aP
 have bt:(op==18)=false:=by simpa using aQ
 have bv:(op==23)=false:=by simpa using aS
 have a0:=za u 0;go_wp2;go_end0;exact⟨l,zO ⟨rfl,L,ch,D,HI,NwL.refl _ _⟩⟩
theorem vH:∀k,NrS k
 |0=>λS names known w0 w gn gm gr cap n L ch e x _ _ _ _ h=>by cases h.o
 |k+1=>Dy k (vH k)
end
def Du {S:List Nat->Prop} {names:List ByteArray} {w0:World} (w:World) {gn gm gr cap n:Nat} {L:List Sp} {ch:Bool} (hC:NwC names w0 gn gr n) (N:zL w0 w) (hM:NwM w gn gm gr cap names n L ch) (hI:NwI S n L) (i:Nat) (hi:i<n) (ws:List Wt) (A:Option Addr) (c:Nat) (hr:Rs wtR w0 (zU A (zN ws) c) ws ah) (hw:∀y∈ws,dG y=true) (hl:zN ws<=1000) (Z:∀s,S s->∃y∈ws,0<y.weight/\y.lo<=((zG s i 0:Nat):Int)/\((zG s i 0:Nat):Int)<=y.hi):Calls zz 105 #[zP gn,zX #[zI zi i,zU A (zN ws) c]] w (NwR S names gn gm gr cap n L ch w):=by
 have⟨H,HS⟩:=zk2 N Z;have HW:=zh λj (h:j<zN ws)=>hw _ (getD_in wt0 h);have⟨A',c',e1,hc,hx⟩:=hr.wts;simp only[DQ,true_and] at e1;obtain⟨rfl,rfl⟩:=e1;have HX:=zh hx;have CL:=zh λW z (lo p:Int) h1 h2 M=>gW (S:=S) (names:=names) W gn gm gr cap n i L ch (hM.Q z) hI hi hC.n16 lo p h1 h2 M;have⟨m,J⟩:=zvh (zN ws);rw[<-J] at hc hl HX⊢;go_enter func105,ntmps105;go_upto_region 1 with fail;generalize t:w.alloc _=w1 at*;have⟨d,f⟩:=zB1 t;obtain⟨x,af⟩:=zc2 f;go_wp2;go_loopw [4,5,11] (λlo p kk wr=>∃(a b:Int) (q:Nat),lo=zI zi a/\p=zI zi b/\kk=zI zi q/\q<=m/\((0<=a/\a<=65536∧ -1<=b/\b<=65535)/\∀j,j<q->0<(zG ws j wt0).weight->a<=(zG ws j wt0).lo/\(zG ws j wt0).hi<=b)/\zL w wr/\Box wr w.heap.size #[zI zi i,zU A m c] 126) (λ_ _ kk _=>m-(intOf kk).toNat)
 .exact⟨65536, -1,0,rfl,rfl,rfl,by omega,⟨⟨by omega,by omega,by omega,by omega⟩,λj G=>by omega⟩,d,f⟩
 obtain⟨a,b,q,rfl,rfl,rfl,hq,⟨B,T⟩,z,ab⟩:=hrel;have⟨d,f,v⟩:=zk3 z ab T;by_cases g:q<m
 .have⟨C,k0⟩:=zln g;have⟨bb,oo,e2,Q,o⟩:=HX q g;subst e2;have I:=zh (aa H d);obtain⟨v0,v1,v2,v3⟩:=zx4 I Q o;rw[Eb] at v0;have r:=HW q (by rw[<-J];exact g);have l:Hid (∀E F:Int,E<=a->b<=F->(0<(zG ws q wt0).weight->E<=(zG ws q wt0).lo/\(zG ws q wt0).hi<=F)->∀j,j<q+1->0<(zG ws j wt0).weight->E<=(zG ws j wt0).lo/\(zG ws j wt0).hi<=F):=zh λE F h1 h2 M j G D=>by
   by_cases e:j=q
   .rw[e] at D⊢;exact M D
   have:=v j (by omega) D;omega
  generalize zG ws q wt0=y at*;obtain⟨ad,ac,ae,ag⟩:=y;unfold dG at r;simp at r;simp only at v0 v1 v2 v3 l;obtain⟨o1,o2,o3,o4,o5⟩:=r;go_upto_region 5 with fail;generalize t:wr.alloc _=w3 at*;have⟨P,u⟩:=zA1 t;replace⟨f,d⟩:=zb2 f d P;by_cases D:0<ae
  .have k:=zh (l (min a ad) (max b ac) (by omega) (by omega) (λ_=>⟨by omega,by omega⟩));have p2:=za u 2;go_upto_region 6 with fail;refine az ?_;have p0:=u.lat 0 _ rfl;have p1:=u.lat 1 _ rfl;repeat(go_big_quiet_step (fail))
   refine D4 ?_;intro w7 z;replace⟨f,u,d⟩:=zb3 f u d z;go_wp2;go_roundw
   .exact⟨_,_,q+1,rfl,rfl,by go_num,by omega,⟨⟨by omega,by omega,by omega,by omega⟩,k⟩,d,f⟩
   simp[intOf];omega
  have k:=zh (l a b (by omega) (by omega) (λh=>absurd h D));have p2:=za u 2;go_wp2;go_roundw
  .exact⟨a,b,q+1,rfl,rfl,by go_num,by omega,⟨B,k⟩,d,f⟩
  simp[intOf];omega
 have C:=zge g;have Y:q=m:=by omega
 have CF:=zh (CL wr d a b (by omega) (by omega) (λs Z=>by
  have⟨y,hy,q1,q2,q3⟩:=HS s Z;obtain⟨j,G,rfl⟩:=D9.1 hy;have e:zG ws j wt0=ws[j]:=by rw[DC,DD G];rfl
  have:=v j (by rw[Y,J];exact G) (by rw[e];exact q1);rw[e] at this;omega));have x:=za f 0;go_wp2;refine CF.mono ?_;rintro e0 w2 ⟨hk,h9⟩;have HK:=zh (((K2.refl w gn gr).Q d).trans hk);rcases h9 with⟨rfl,X⟩|⟨rfl,L2,K,V,R,U⟩
 .exact⟨rfl,HK,zQ ⟨rfl,X⟩⟩
 go_wp2;go_end0;exact⟨HK,zO ⟨rfl,L2,K,V,R,U⟩⟩
section
variable {ch:Bool} {names:List ByteArray} {L:List Sp} {cap gm gn gr n:Nat} {w:World}
def TJ:Option Value->Nat
 |some (.int _ x)=>x.toNat
 |_=>0
def Pi (w:World) (gn gr n:Nat):Nat:=2*lc ((List.range n).map λi=>(TJ (w.cell? ⟨gr,i*2,none⟩),TJ (w.cell? ⟨gr,i*2+1,none⟩)))+(match w.cell? ⟨gn,2,none⟩ with
 |some (zW true)=>1
 |_=>0)
def tY (h:NwM w gn gm gr cap names n L ch) (f:zN L=n):Pi w gn gr n=2*lc L+(if ch=true then 1 else 0):=by
 have e1:((List.range n).map λi=>(TJ (w.cell? ⟨gr,i*2,none⟩),TJ (w.cell? ⟨gr,i*2+1,none⟩)))=L:=by
  refine Fz (by simp[f]) λi g a=> ?_;simp only[List.getElem_map,List.getElem_range];have⟨b,c⟩:=h.r.A a;have e:zG L i (0,0)=L[i]:=by rw[DC,DD a];rfl
  rw[e] at b c;rw[b,c];show((((L[i].1:Nat):Int).toNat),(((L[i].2:Nat):Int).toNat))=_;rw[Eh,Eh]
 have d:w.cell? ⟨gn,2,none⟩=some (zW ch):=h.x.A 2 _ rfl;unfold Pi;rw[e1,d];cases ch<;>rfl
def NwM.setCh (h:NwM w gn gm gr cap names n L ch) (q:Bool):NwM (w.setCell ⟨gn,2,none⟩ (zW q)) gn gm gr cap names n L q:=by have a:=h.ne;have b:=fp h.m h.x;exact⟨h.x.set_ 2 (zW q),i9 (p:=⟨gn,2,none⟩) h.m rfl (λe=>b e.symm) _,h.r.setNe ⟨gn,2,none⟩ _ a,h.c⟩
def RnR (S:List Nat->Prop) (names:List ByteArray) (gn gm gr cap n:Nat) (w:World) (e:Ending) (w':World):Prop:=K2 w w' gn gr/\((e= .panicked tb/\∀a,¬S a)\/(e=zE (zY #[])/\∃L ch,NwM w' gn gm gr cap names n L ch/\NwI S n L))
def Ph {p:Pb} (b:PSm p) (c:PV p):∀e∈p.h++p.s,jm (ai p.v) e:=λe a=>
 ⟨(b.ex e a).z,(b.ex e a).deep,c.exprs e a,(b.ex e a).len⟩
structure Xm (p:Pb) (S:List Nat->Prop):Prop where
 h:∀s,S s->∀e∈p.h,evT (aM (ai p.v) s) dep e≠0
 dist:∀s,S s->∀d∈p.d,∃y∈d.ws,0<y.weight/\y.lo<=((zG s d.var.toNat 0:Nat):Int)/\((zG s d.var.toNat 0:Nat):Int)<=y.hi
theorem Yz {S:List Nat->Prop} {w0:World} {p:Pb} {A1 A2 A3 A4 A5:Option Addr} {c1 c2 c3 c4 c5:Nat} (hp:PIn w0 p A1 A2 A3 A4 A5 c1 c2 c3 c4 c5) (J:PSm p) (hv:PV p) (w:World) {gn gm gr cap n:Nat} {L:List Sp} {ch:Bool} (hC:NwC (ai p.v) w0 gn gr n) (m:zL w0 w) (hM:NwM w gn gm gr cap (ai p.v) n L ch) (hI:NwI S n L) (hS:Xm p S) (aG:zN p.v=n):
  Calls zz 53 #[zP gn,pbV p A1 A2 A3 A4 A5 c1 c2 c3 c4 c5] w (RnR S (ai p.v) gn gm gr cap n w):=by
 have⟨P,a,e,H⟩:=zk4 hC m hM hI;have HW:=zh (⟨hM.x.lt,hM.r.lt⟩:gn<w.heap.size/\gr<w.heap.size);have ab:∀j,j<zN p.d->zG p.d j ds0∈p.d:=λj h=>getD_in ds0 h;have CW:=zh fun(W:World) (z:List Sp) (k:Bool) (j:Nat) (M:j<zN p.d) (A:Option Addr) (c:Nat) (h0:zL w0 W) (h:NwM W gn gm gr cap (ai p.v) n z k) (hi:NwI S n z) (hr:Rs wtR w0 (zU A (zG p.d j ds0).ws.length c) (zG p.d j ds0).ws ah)=>by
  have hd:=hv.d j M;have Q:=hd.1;unfold bY at Q;simp only[DW,Ef] at Q;have:=Du (S:=S) W hC h0 h hi (zG p.d j ds0).var.toNat (by omega) (zG p.d j ds0).ws A c hr hd.2.2.2 (J.nw _ (ab j M)) (λs hs=>hS.dist s hs _ (ab j M));have e9:(((zG p.d j ds0).var.toNat:Nat):Int)=(zG p.d j ds0).var:=by omega
  rw[e9] at this;exact this
 have ac:∀j,j<zN p.h->zG p.h j ex0∈p.h:=λj h=>getD_in ex0 h;have CX:=zh fun(j:Nat) (M:j<zN p.h) (A:Option Addr) (c d:Nat) (hr:Rs (exR d) w0 (zU A (zG p.h j ex0).a.length c) (zG p.h j ex0).a ah)=>by have aw:=Ph J hv _ (EU p.s (ac j M));exact(⟨aw.z,aw.okE,d,hr⟩:lQ (λs=>decide (s∈ai p.v)) dep w0 (zG p.h j ex0) (zU A (zG p.h j ex0).a.length c))
 have al:=zh fun(j:Nat) (M:j<zN p.h) (s:List Nat) (hs:S s)=>hS.h s hs _ (ac j M);have am:=zh hp.d.dss;have X:=zh hp.h.exs;have⟨n1,ar⟩:=zv (zN p.v);have⟨K,E⟩:=zvh (zN p.h);have⟨n3,au⟩:=zv (zN p.s);have⟨U,N⟩:=zvh (zN p.d);have⟨n5,av⟩:=zv (zN p.g);have l2:K<=1000:=by rw[E];exact J.nh
 have l4:U<=1000:=by rw[N];exact J.nd
 unfold pbV;rw[<-ar,<-E,<-au,<-N,<-av];rw[<-N] at am;rw[<-E] at X;clear hp J hv hC m hM hI hS ab ac ar au av aG;go_enter func53,ntmps53;go_upto_region 1 with fail;generalize y:w.alloc _=w1 at*;have⟨HB,f⟩:=zB1 y;clear y;replace e:=zh (e.Q HB);replace a:=zh (aa a HB);have g:=zh ((K2.refl w gn gr).Q HB);have x3:=za f 3;go_wp2;clear x3;go_loopw [13] (λi wr=>∃j:Nat,j<=U/\i=zI zi j/\zL w0 wr/\∃z k,K2 w wr gn gr/\Box wr w.heap.size #[zU A1 n1 c1,zU A2 K c2,zU A3 n3 c3,zU A4 U c4,zU A5 n5 c5] 27/\NwM wr gn gm gr cap (ai p.v) n z k/\NwI S n z) (λi _=>U-(intOf i).toNat)
 .exact⟨0,DH _,rfl,a,L,ch,g,f,e,H⟩
 obtain⟨j,M,rfl,m,z,k,u,x,r,C⟩:=hrel;have⟨a,g,f,e,H⟩:=zk5 m u x r C;clear m u x r C;by_cases l:j<U
 .have⟨B,j0⟩:=zln l;obtain⟨A',c',e1, -,T⟩:=am;simp only[DQ] at e1;obtain⟨rfl, -,rfl⟩:=e1;have⟨b,o,q,e2,G,y0,y1,v⟩:=T j l;subst e2;have R:=v;obtain⟨V,Z,rfl, -⟩:=v.slice;have CD:=zh fun(W:World) (h0:zL w0 W) (h:NwM W gn gm gr cap (ai p.v) n z k)=>CW W z k j (by rw[<-N];exact l) V Z h0 h H R;have v0:=(a.cell G).trans y0;have v1:=(a.cell G).trans y1;generalize(zG p.d j ds0).ws.length=ql,(zG p.d j ds0).var=qv at*;clear T v R y0 y1;go_upto_region 4 with fail;clear v0 v1;generalize y:wr.alloc _=w3 at*;have⟨D,F⟩:=zA1 y;clear y;replace⟨f,e,g,a⟩:=zb4 f e g a D;clear D;obtain⟨d0,d1⟩:=zc2 F;go_wp2;refine(CD w3 a e).mono ?_;clear d0 d1;rintro e0 w4 ⟨hk,h9⟩;have ga:=af f e.x;have gb:=e.r.apart f (by decide);replace f:=zh (hk.box f ga gb);replace g:=zh (g.trans hk);replace a:=zh (hk.toBelow a P.hg P.hr);clear ga gb;rcases h9 with⟨rfl,aj⟩|⟨rfl,L2,Y,ag,ad,aq⟩
  .exact⟨rfl,g,zQ ⟨rfl,aj⟩⟩
  go_wp2;go_roundw
  .exact⟨j+1,by omega,by go_num,a,L2,Y,g,f,ag,ad⟩
  simp[intOf];omega
 have B:=zge l;have g2:=e.x.A 2 _ rfl;have gz:=e.x.Z 2;have gl:=e.x.lt;go_upto_region 7 with fail;have ga:=af e.x f;replace f:=zh (f.setNe ⟨gn,2,none⟩ (zW true) ga);replace g:=zh (g.set (p:=⟨gn,2,none⟩) (zQ rfl) (zW true));replace a:=zh (a.setCell (p:=⟨gn,2,none⟩) P.hg (zW true));replace e:=zh (e.setCh true);clear g2 gz gl ga;generalize wr.setCell ⟨gn,2,none⟩ (zW true)=w2 at*;go_loopw [] (λwr=>zL w0 wr/\∃z k,K2 w wr gn gr/\Box wr w.heap.size #[zU A1 n1 c1,zU A2 K c2,zU A3 n3 c3,zU A4 U c4,zU A5 n5 c5] 27/\NwM wr gn gm gr cap (ai p.v) n z k/\NwI S n z) (λwr=>Pi wr gn gr n)
 .exact⟨a,z,true,g,f,e,H⟩
 obtain⟨m,L3,aE,u,x,r,C⟩:=hrel;have⟨a,g,f,e,H⟩:=zk5 m u x r C;have aC:=zh (tY r C.len);clear m u x r C;have g2:=e.x.A 2 _ rfl;cases aE with
 |false=>go_wp2;go_end0;exact⟨g,zO ⟨rfl,L3,false,e,H⟩⟩
 |true=>
  have gz:=e.x.Z 2;have gl:=e.x.lt;go_upto_region 9 with fail;have ga:=af e.x f;replace f:=zh (f.setNe ⟨gn,2,none⟩ (zW false) ga);replace g:=zh (g.set (p:=⟨gn,2,none⟩) (zQ rfl) (zW false));replace a:=zh (a.setCell (p:=⟨gn,2,none⟩) P.hg (zW false));replace e:=zh (e.setCh false);clear g2 gz gl ga;generalize wr.setCell ⟨gn,2,none⟩ (zW false)=w3 at*;have x1:=za f 1;go_wp2;clear x1;go_loopw [34] (λi wr=>∃j:Nat,j<=K/\i=zI zi j/\zL w0 wr/\∃z k,K2 w wr gn gr/\Box wr w.heap.size #[zU A1 n1 c1,zU A2 K c2,zU A3 n3 c3,zU A4 U c4,zU A5 n5 c5] 27/\NwM wr gn gm gr cap (ai p.v) n z k/\NwI S n z/\NwL L3 false z k) (λi _=>K-(intOf i).toNat)
  .exact⟨0,DH _,rfl,a,L3,false,g,f,e,H,NwL.refl _ _⟩
  obtain⟨j,M,rfl,m,z,k,u,x,r,C,ap⟩:=hrel;have⟨a,g,f,e,H,ak⟩:=zk6 m u x r C ap;clear m u x r C ap;by_cases l:j<K
  .have⟨B,j0⟩:=zln l;obtain⟨A',c',e1, -,T⟩:=X.out;simp only[DQ] at e1;obtain⟨rfl, -,rfl⟩:=e1;obtain⟨b,o,q,d',e2,G,aF,t,v, -⟩:=T j l;subst e2;obtain⟨V,Z,rfl, -⟩:=v.slice;have I:=CX j (by rw[<-E];exact l) V Z d' v;obtain⟨v0,v1,v2,v3⟩:=zx4 a G t;rw[Eb] at v0;clear T t v;have CN:=zh fun(W:World) (h0:zL w0 W) (h:NwM W gn gm gr cap (ai p.v) n z k)=>vH dep S (ai p.v) _ w0 W gn gm gr cap n z k _ _ P h0 h H I (al j (by rw[<-E];exact l));unfold exV at CN;generalize(zG p.h j ex0).a.length=el,(zG p.h j ex0).op=eo,(zG p.h j ex0).n=en,(zG p.h j ex0).s=em at*;clear I;go_upto_region 12 with fail;clear v0 v1 v2 v3;generalize y:wr.alloc _=w5 at*;have⟨D,F⟩:=zA1 y;clear y;replace⟨f,e,g,a⟩:=zb4 f e g a D;clear D;obtain⟨d0,d1,d2,d3⟩:=zc4 F;go_wp2;refine(CN w5 a e).mono ?_;clear d0 d1 d2 d3;rintro e0 w4 ⟨hk,h9⟩;have ga:=af f e.x;have gb:=e.r.apart f (by decide);replace f:=zh (hk.box f ga gb);replace g:=zh (g.trans hk);replace a:=zh (hk.toBelow a P.hg P.hr);clear ga gb;rcases h9 with⟨rfl,aj⟩|⟨rfl,L2,Y,ag,ad,aq⟩
   .exact⟨rfl,g,zQ ⟨rfl,aj⟩⟩
   go_wp2;go_roundw
   .exact⟨j+1,by omega,by go_num,a,L2,Y,g,f,ag,ad,ak.trans aq⟩
   simp[intOf];omega
  have B:=zge l;have x1:=za f 1;go_wp2;clear x1 l B;go_loopw [45] (λi wr=>∃j:Nat,j<=K/\i=zI zi j/\zL w0 wr/\K2 w wr gn gr/\Box wr w.heap.size #[zU A1 n1 c1,zU A2 K c2,zU A3 n3 c3,zU A4 U c4,zU A5 n5 c5] 27/\NwM wr gn gm gr cap (ai p.v) n z k) (λi _=>K-(intOf i).toNat)
  .exact⟨0,DH _,rfl,a,g,f,e⟩
  obtain⟨j,M,rfl,m,u,x,r⟩:=hrel;have⟨a,g,f,e⟩:=zk4 m u x r;clear m u x r;by_cases l:j<K
  .have⟨B,j0⟩:=zln l;obtain⟨A',c',e1, -,T⟩:=X;simp only[DQ] at e1;obtain⟨rfl, -,rfl⟩:=e1;obtain⟨b,o,q,d',e2,G,aF,t,v, -⟩:=T j l;subst e2;obtain⟨V,Z,rfl, -⟩:=v.slice;have I:=CX j (by rw[<-E];exact l) V Z d' v;obtain⟨v0,v1,v2,v3⟩:=zx4 a G t;rw[Eb] at v0;clear T t v;have CN:=zh fun(W:World) (h0:zL w0 W) (h:NwM W gn gm gr cap (ai p.v) n z k)=>kQ P h0 h H I;have aD:=zh (al j (by rw[<-E];exact l));unfold exV at CN;generalize an:EvP S (ai p.v) dep (zG p.h j ex0)=PP at*;have aA:=zh an.symm;clear an;generalize(zG p.h j ex0).a.length=el,(zG p.h j ex0).op=eo,(zG p.h j ex0).n=en,(zG p.h j ex0).s=em at*;clear I;go_upto_region 17 with fail;clear v0 v1 v2 v3;generalize y:wr.alloc _=w5 at*;have⟨D,F⟩:=zA1 y;clear y;replace⟨f,e,g,a⟩:=zb4 f e g a D;clear D;refine zhd (λW=>Box W _ #[zI zi eo,zI zi en,zV em,zU V el Z] 79) (F.Q (ae _)) (λhS=> ?_);clear hS;have D:zL w5 w5.drew:=ae _;replace⟨F,f,e,g,a⟩:=zb5 F f e g a D;clear D;generalize w5.drew=w6 at*;refine zta 0 (zP gn) rfl ?_;refine zta 1 (zP gn) rfl ?_;refine zta 2 (zP gn) rfl ?_;simp only[zp];refine zt 3 (zX #[zI zi eo,zI zi en,zV em,zU V el Z]) rfl (zQ ⟨by rfl,λW hW=>by have q0:=hW.A 0 _ rfl;have q1:=hW.A 1 _ rfl;have q2:=hW.A 2 _ rfl;have q3:=hW.A 3 _ rfl;go_simp⟩) ?_;simp only[zp];refine ay 4 rfl ?_;go_wp2;refine(CN w6 a e).mono ?_;rintro e0 w7 ⟨⟨r0,r1⟩,rfl,⟨aH,aI⟩,ao,D⟩;simp only at aH aI;simp only[spV];have ax:=zh ao;replace F:=zb F D;clear ao;replace⟨f,e,g,a⟩:=zb4 f e g a D;clear D;have CF:=zh λW=>jA W r0 r1;go_wp2;refine⟨rfl,F, ?_⟩;refine ay 5 rfl ?_;go_wp2;refine zK (CF _) λw8 D=> ?_;replace⟨F,f,e,g,a⟩:=zb5 F f e g a D;clear D;by_cases hz:r1=0
   .rw[DR hz];have az:Hid (∀s,¬S s):=zh λs hs=>by have q1:=aD s hs;have q2:=(ax _ (by rw[aA];exact⟨s,hs,rfl⟩)).2;simp only at q2;omega
    clear hz;go_wp2;refine⟨rfl,F,zdn ?_⟩;go_wp2;exact⟨rfl,g,zQ ⟨rfl,az⟩⟩
   rw[DJ hz];clear hz;go_wp2;refine⟨rfl,F,zdn ?_⟩;go_wp2;go_roundw
   .exact⟨j+1,by omega,by go_num,a,g,f,e⟩
   simp[intOf];omega
  have B:=zge l;have aB:=zh (tY e H.len);go_wp2;go_roundw
  .exact⟨a,z,k,g,f,e,H⟩
  have e1:=aC.out;have e2:=aB.out;rw[e1,e2];rcases ak with⟨rfl,rfl⟩|⟨rfl,h2⟩
  .simp
  simp;omega
end
section
variable (p:Addr) (W:World)
def vL:(Instr.typeAssert Value.nilIface 20 175 true).run zz W= .ok (zY #[zX #[],zW false]) W:=by kernel_rfl
def qP:(Instr.typeAssert (.iface 175 (zX #[])) 20 175 true).run zz W= .ok (zY #[zX #[],zW true]) W:=by have a:=underlying175;simp[Instr.typeAssert,run_underlying a,go_sem,Result.andThen]
def vC (x:Value) (w:World) (f:w.cell? p=some x) (g:w.frozen? p=false) (b:p.block<w.heap.size):CallsD zz 104 #[.pointer (some p)] .returning w λe h w'=>e=zE (zY #[])/\h= .returning/\w'=(w.alloc (zC #[] 175)).setCell p (zW true):=by
 have d:=vL;have i:(w.alloc (zC #[] 175)).cell? p=some x:=by rw[(ab w _).cell b];exact f
 have j:(w.alloc (zC #[] 175)).frozen? p=false:=by rw[(ab w _).frozen b];exact g
 refine callsD_of_wpS func104 rfl λa cs c=> ?_;apply wpS_seq;apply wpS_region;simp[wpOpsS,go_sem,recoverD,c,ntmps104,Exit.thenS];refine wpS_of_wp ?_;cases a;simp only at c;simp only[Array.replicate];go_wp2;simp_all [bodyPostS,results,results104]
def rb (x:Value) (a:List PanicEntry) (w:World) (g:w.cell? p=some x) (h:w.frozen? p=false) (c:p.block<w.heap.size):CallsD zz 104 #[.pointer (some p)] (.panicking ({v:= .iface 175 (zX #[]),recovered:=false}::a)) w λe i w'=>e=zE (zY #[])/\i= .panicking ({v:= .iface 175 (zX #[]),recovered:=true}::a)/\w'=(w.alloc (zC #[] 175)).setCell p (zW false):=by
 have f:=qP;have j:(w.alloc (zC #[] 175)).cell? p=some x:=by rw[(ab w _).cell c];exact g
 have k:(w.alloc (zC #[] 175)).frozen? p=false:=by rw[(ab w _).frozen c];exact h
 refine callsD_of_wpS func104 rfl λb cs d=> ?_;apply wpS_seq;apply wpS_region;simp[wpOpsS,go_sem,recoverD,d,ntmps104,Exit.thenS];refine wpS_of_wp ?_;cases b;simp only at d;simp only[Array.replicate];go_wp2;simp_all [bodyPostS,results,results104]
def tu (w:World) (g:Nat) (cs:Array Value) (Q:Bool->World->Prop) (o:∀W,(callFunc g cs).run zz W= .ok (.enter g cs) W) (l:Calls zz g cs (w.alloc (zC #[zW false] 4)) λe w'=>((e=zE (zY #[])/\Q true w')\/(e= .panicked tb/\Q false w'))/\Box w' w.heap.size #[zW false] 4):Calls zz 51 #[.func (.func g) #[] cs] w λe w'=>∃(q:Bool) (w0:World),e=zE (zW q)/\Q q w0/\w0.grownBy w' (some w.heap.size):=by
 have m:=zm
 go_enter_defers func51,ntmps51
 go_wp2;refine l.mono ?_;rintro e w1 ⟨⟨rfl,h⟩|⟨rfl,h⟩,a⟩
 .have x0:=a.A 0 _ rfl;have j:=a.lt;have k:=a.Z 0;go_wp2;have c:Box (w1.setCell ⟨w.heap.size,0,none⟩ (zW true)) w.heap.size #[zW true] 4:=a.set_ 0 (zW true);refine leaves_cons (f:=104) (args:=#[.pointer (some ⟨w.heap.size,0,none⟩)]) (by simp) (by simp[go_sem]) ?_;refine(vC ⟨w.heap.size,0,none⟩ _ _ (c.A 0 _ rfl) (c.Z 0) c.lt).mono ?_;rintro e n i ⟨rfl,rfl,rfl⟩;have b:Box _ w.heap.size #[zW true] 4:=(c.Q (ab _ (zC #[] 175))).set_ 0 (zW true);have d:=b.A 0 _ rfl;simp[Leaves,settle,results,results51,go_sem,d];exact⟨w1,h,bI (au (bI (bJ _ _)) (ab _ _))⟩
 have x0:=a.A 0 _ rfl;have j:=a.lt;have k:=a.Z 0;unfold tb;go_wp2;refine leaves_cons (f:=104) (args:=#[.pointer (some ⟨w.heap.size,0,none⟩)]) (by simp) (by simp[go_sem]) ?_;refine(rb ⟨w.heap.size,0,none⟩ _ [] _ x0 k j).mono ?_;rintro e n i ⟨rfl,rfl,rfl⟩;have c:Box _ w.heap.size #[zW false] 4:=(a.Q (ab w1 (zC #[] 175))).set_ 0 (zW false);have b:=c.A 0 _ rfl;simp[Leaves,settle,results,results51,go_sem,b];exact⟨w1,h,bI (au (bJ _ _) (ab _ _))⟩
end
section
variable (w:World) {c1 c2 c3 c4 c5:Nat} {A1 A2 A3 A4 A5:Option Addr} {p:Pb}
def Db {vars:List Vr} {k:Nat} (h:k<zN vars):(ai vars).drop k=(zG vars k vr0).s::(ai vars).drop (k+1):=by unfold ai;rw[<-List.map_drop,<-List.map_drop,mG (x0:=vr0) h];rfl
def NeR (p:Pb) (A:Option Addr) (m c:Nat) (w:World) (e:Ending) (w':World):Prop:=∃g gm,e=zE (zP g)/\Box w' g #[.map (some gm),zU A m c] 112/\bR φS w' gm (sR (ai p.v) 0)/\w.heap.size<=g/\w.heap.size<=gm/\zL w w'
def qO (V:PIn w p A1 A2 A3 A4 A5 c1 c2 c3 c4 c5) (t:PSm p) (A:Option Addr) (m c:Nat):Calls zz 50 #[pbV p A1 A2 A3 A4 A5 c1 c2 c3 c4 c5,zU A m c] w (NeR p A m c w):=by
 have I:=zh V.v.vrs;have r:=zh λk (h:k<zN p.v)=>t.nz _ (getD_in vr0 h);have g:=zh λk (h:k<zN p.v)=>Db h;have e:Hid ((ai p.v).length=zN p.v):=zh (by unfold ai;rw[DT]);have E:=t.nv;have U:=@run_makeMap zz;have⟨n,P⟩:=zvh (zN p.v);unfold pbV;rw[<-P] at I r g e E⊢;generalize zN p.h=n2,zN p.s=n3,zN p.d=n4,zN p.g=n5 at*;go_enter func50,ntmps50;go_upto_region 1 with fail;generalize H:w.alloc _=w1 at*;have⟨b,d⟩:=zB1 H;go_upto_region 2 with fail;have a:=zh (bR.new φS w1);have o:=zh b.size;have z:=ab w1 (.map #[] 0);replace⟨d,b⟩:=zb2 d b z;generalize w1.alloc (.map #[] 0)=w2,w1.heap.size=gm at*;have x0:=za d 0;go_wp2;go_loopw [6] (λi wr=>∃k:Nat,k<=n/\i=zI zi ((k:Int)-1)/\bR φS wr gm (sR ((ai p.v).drop k) k)/\zL w wr/\Box wr w.heap.size #[zU A1 n c1,zU A2 n2 c2,zU A3 n3 c3,zU A4 n4 c4,zU A5 n5 c5] 27) (λi _=>(intOf i+1).toNat)
 .exact⟨n,DE _,by go_num,by rw[EA (by rw[e];exact DE _)];exact a,b,d⟩
 obtain⟨k,hk,rfl,D,T,G⟩:=hrel;have⟨a,b,d⟩:=zk3 D T G;by_cases Z:0<k
 .obtain⟨j,rfl⟩:∃j,k=j+1:=⟨k-1,by omega⟩;have J:(0:Int)<=((j+1:Nat):Int)-1:=by omega
  have S:((j+1:Nat):Int)-1=(j:Int):=by omega
  have j0:=zn0 j;have j1:(j:Int)<(n:Int):=by omega
  rw[S] at J⊢;obtain⟨N,Q,e1,_,F⟩:=I;have⟨Y,ov,R,B,f⟩:=F j (by omega);obtain rfl:=zas e1 R;have L:=(b.cell B).trans (f 0 _ rfl);rw[Eb] at L;have q:=zh (r j (by omega));have l:=zh (g j (by omega));generalize zG p.v j vr0=vr at*;obtain⟨K,wd,md,vl⟩:=vr;simp only at L q l;have⟨M,W,C,s⟩:=a.upd (mT:=110) underlying110 (x:=K) q (i:=(j:Nat)) (wfN (by omega)) (by rw[uD,ET,e];unfold maxLen;omega);have X:(Instr.mapUpdate 110 (.map (some gm)) (zV K) (zI zi j)).run zz wr= .ok () M:=W;have v:Hid (bR φS M gm (sR ((ai p.v).drop j) j)):=zh (by rw[l];exact C);have y:=zh (aV d s (fp a d).symm);have u:=zh (aN b b.size o s);have x0:=za d 0;go_wp2;go_roundw
  .exact⟨j,by omega,rfl,v,u,y⟩
  simp[intOf]
 obtain rfl:k=0:=by omega
 have J:¬(0:Int)<=((0:Nat):Int)-1:=by omega
 rw[D5] at a;go_upto_region 6 with fail;go_wp2;go_ret;exact⟨wr.heap.size,gm,rfl,Box.new wr 112 _,a.Q (ab wr _),b.size,o,aa b (ab wr _)⟩
def YB (L:List Sp) (A:Option Addr) (c:Nat) (E:0<zN L->∃g o,A=some ⟨g,o,none⟩/\SpA w g o L) (D:∀i,i<zN L->lz (zG L i (0,0))) (G:zN L=zN p.v) (l:zN p.v<=1000):Calls zz 49 #[pbV p A1 A2 A3 A4 A5 c1 c2 c3 c4 c5,zU A (zN L) c] w (zR (zW true) w):=by
 have⟨x,u⟩:=zk2 E D;unfold pbV;rw[<-G] at l⊢;have⟨n,v⟩:=zvh (zN L);rw[<-v] at x u l⊢;generalize zN p.h=n2,zN p.s=n3,zN p.d=n4,zN p.g=n5 at*;go_enter func49,ntmps49;go_upto_region 1 with fail;generalize h:w.alloc _=w1 at*;have⟨f,j⟩:=zB1 h;go_wp2;go_loopw [9] (λi wr=>∃k:Nat,k<=n/\i=zI zi k/\zL w wr/\Box wr w.heap.size #[zU A1 n c1,zU A2 n2 c2,zU A3 n3 c3,zU A4 n4 c4,zU A5 n5 c5] 27) (λi _=>n-(intOf i).toNat)
 .exact⟨0,DH _,rfl,f,j⟩
 obtain⟨k,hk,rfl,F,t⟩:=hrel;have⟨f,j⟩:=zk2 F t;by_cases d:k<n
 .have⟨m,Q⟩:=zln d;have⟨g,o,e,s⟩:=x (by omega);subst e;obtain⟨J,K⟩:=(s.Q f).2 k (by rw[<-v];exact d);have⟨H,I⟩:=u k d;generalize zG L k (0,0)=r at*;obtain⟨a,b⟩:=r;simp only at J K H I;go_upto_region 4 with fail;generalize h:wr.alloc _=w3 at*;have⟨q,C⟩:=zA1 h;replace⟨j,f⟩:=zb2 j f q;obtain⟨z,B⟩:=zc2 C;have M:¬(a:Int)<0:=by omega
  have N:¬(b:Int)<(a:Int):=by omega
  have P:¬(65535:Int)<(b:Int):=by omega
  go_wp2;go_roundw
  .exact⟨k+1,by omega,by go_num,f,j⟩
  simp[intOf];omega
 have m:=zge d;have y:=za j 0;go_wp2;go_ret;exact⟨rfl,f⟩
end
def stS (v:Vr):Sp:=if v.m=0 then(v.u.toNat,v.u.toNat) else(0,2^v.w.toNat-1)
def Vy {v:Vr} (h:gM v):lz (stS v):=by
 obtain⟨-,⟨a,b⟩, -,⟨c,d⟩, -⟩:=h;have e:=Ew (n:=2) (by omega) (show v.w.toNat<=8 by omega);have f:(2:Int)^v.w.toNat=((2^v.w.toNat:Nat):Int):=by simp
 unfold stS;split
 .exact⟨DE _,by show v.u.toNat<=65535;omega⟩
 exact⟨DH _,by show 2^v.w.toNat-1<=65535;omega⟩
def Ox (w:World) (n:Nat) (h:n<=16):Calls zz 55 #[zI zi n] w (zS (zI zi (2^n-1:Nat)) w):=by
 have a:=zh (tz h);have b:¬(n:Int)<0:=by omega
 have c:¬(16:Int)<(n:Int):=by omega
 have d:=zn0 n;go_enter func55,ntmps55;go_wp2;go_ret;exact⟨Ev (λz=>Ending.returned (zI zi z)) a,rfl⟩
def StR (p:Pb) (w:World) (e:Ending) (w':World):Prop:=∃v,e=zE v/\OG spR w' w.heap.size 0 65 v (p.v.map stS)/\(zN p.v=0->v=zU none 0 0)/\zL w w'
def UR (w:World) {p:Pb} {A1 A2 A3 A4 A5:Option Addr} {c1 c2 c3 c4 c5:Nat} (hp:PIn w p A1 A2 A3 A4 A5 c1 c2 c3 c4 c5) (ag:PSm p) (hk:KW w) (hm:de w) (hv:PV p):Calls zz 21 #[pbV p A1 A2 A3 A4 A5 c1 c2 c3 c4 c5] w (StR p w):=by
 have L:=zh (evC hp ag hk hm hv);have HV:=zh hp.v.vrs;have u:=zh λk (h:k<zN p.v)=>hv.v.ok _ (getD_in vr0 h);have Y:=hv.v.len;have HT:=zh λk (h:k<zN p.v)=>(show(p.v.map stS).take (k+1)=(p.v.map stS).take k++[stS (zG p.v k vr0)] by rw[Ep,DD (by rw[DT];exact h),List.getElem_map,DC,DD h];rfl);have z:=zh λk (h:k<=zN p.v)=>(show((p.v.map stS).take k).length=k by rw[D3,DT];omega);have v:Hid (p.v.map stS=(p.v.map stS).take (zN p.v)):=zh (En (by rw[DT];exact DE _)).symm;have⟨i0,hi,ai,aj,ak⟩:=EX sX;have⟨HI,A,D,E⟩:=zk4 hi ai aj ak;have⟨n,HN⟩:=zvh (zN p.v);unfold pbV at L⊢;rw[<-HN] at L HV u HT z v Y⊢;generalize zN p.h=n2,zN p.s=n3,zN p.d=n4,zN p.g=n5 at*;unfold EvC at L;go_enter func21,ntmps21;go_upto_region 1 with fail;generalize s:w.alloc _=w1 at*;have⟨c,N⟩:=zB1 s;obtain⟨H,an,ao,ap,aq⟩:=zc5 N;go_wp2;refine zK (L w1 c) λw2 I=> ?_;replace⟨N,c⟩:=zb2 N c I;have H:=za N 0;go_wp2;have S:=zh (OG.nil spR w2 w.heap.size 0 65 (by decide) (DH _));go_loopw [3,12] (λsl i wr=>∃k:Nat,k<=n/\i=zI zi k/\OG spR wr w.heap.size 0 65 sl ((p.v.map stS).take k)/\Hid (k=0->sl=zU none 0 0)/\zL w wr) (λ_ i _=>n-(intOf i).toNat)
 .exact⟨0,DH _,rfl,S,zh λ_=>rfl,c⟩
 obtain⟨k,hk,rfl,ae,X,I⟩:=hrel;have⟨c,a⟩:=zk2 I ae;by_cases d:k<n
 .have⟨K,k0⟩:=zln d;obtain⟨ar,au,e1,_,ah⟩:=HV;have⟨bv,ov,e2,ac,q⟩:=ah k d;obtain rfl:=zas e1 e2;obtain⟨v0,v1,v2,v3⟩:=zx4 c ac q;rw[Eb] at v0;have y:=zh (HT k d);have e:=zh (z k (by omega));have af:=u k d;generalize zG p.v k vr0=vr at*;have l:Hid (stS vr=if vr.m=0 then(vr.u.toNat,vr.u.toNat) else(0,2^vr.w.toNat-1)):=zh rfl;obtain⟨nm,wd,md,vl⟩:=vr;obtain⟨-,⟨o1,o2⟩, -,⟨o3,o4⟩, -⟩:=af;simp only at v0 v1 v2 v3 l o1 o2 o3 o4;have o5:vl<256:=by
   have h5:=Ew (n:=2) (by omega) (show wd.toNat<=8 by omega);have h6:(2:Int)^wd.toNat=((2^wd.toNat:Nat):Int):=by simp
   omega
  generalize ad:(p.v.map stS).take (k+1)=nx at*;have t:=zh ad;generalize(p.v.map stS).take k=done,stS ⟨nm,wd,md,vl⟩=sv at*;obtain⟨A0,c0,rfl⟩:=a.slice;go_upto_region 7 with fail;replace a:=zh (a.Q (ab wr (zC #[zV nm,zI zi wd,zI zi md,zI zi vl] 98)));generalize s:wr.alloc _=w3 at*;have⟨aa,M⟩:=zA1 s;replace c:=zb c aa;by_cases f:md=0
  .have m:Hid (sv=(vl.toNat,vl.toNat)):=zh (by rw[l,DP f]);subst f;have R:=zh λW=>r7 W vl.toNat;have P:((vl.toNat:Nat):Int)=vl:=by omega
   simp only[spV] at R;rw[P] at R;obtain⟨G,am⟩:=zd2 M 2 3;go_wp2;refine zK (R _) λQ I=> ?_;replace⟨a,M,c⟩:=zb3 a M c I;have o:=ab Q (zC #[zI zi vl,zI zi vl] 65);have j:=zh (Rs.one (φ:=spR) (w:=Q) (F:=Ty (Q.alloc (zC #[zI zi vl,zI zi vl] 65)) 0 spR.ts) (x:=sv) (us:=[zI zi vl,zI zi vl]) (by show _=spL sv;rw[m];show _=[Value.int .i64 ((vl.toNat:Nat):Int),Value.int .i64 ((vl.toNat:Nat):Int)];rw[P]) 65);replace⟨a,c⟩:=zb2 a c o;go_wp2_with(at_builtin;refine aD (φ:=spR) (T:=65) (B:=w.heap.size) (C:=0) (xs:=done) (ys:=[sv]) rfl _ _ 58 rfl i0 (zX #[zI zi 0,zI zi 0]) 16 underlying58 HI A D E rfl rfl a (zU (some ⟨Q.heap.size,0,none⟩) 1 1) rfl j ?c1 ?c2 ?c3 ?_);case c1=>simp only[DF,D8];rw[e];omega
   case c2=>simp only[DF,D8];rw[e];unfold maxLen;omega
   case c3=>exact c.size
   intro v' w7 b r;have g:=zh (a.belowG r c c.size (DE _));rw[<-y] at b;obtain⟨A7,c7,rfl⟩:=b.slice;go_wp2;go_roundw
   .exact⟨k+1,by omega,by go_num,by rw[t];exact b,zh λh=>absurd h (by omega),g⟩
   simp[intOf];omega
  have m:Hid (sv=(0,2^wd.toNat-1)):=zh (by rw[l,DK f]);have av:(md==0)=false:=by simpa using f
  have CM:=zh λW=>Ox W wd.toNat (by omega);have P:((wd.toNat:Nat):Int)=wd:=by omega
  rw[P] at CM;generalize 2^wd.toNat-1=mk at*;obtain⟨al,G⟩:=zd2 M 1 2;go_wp2;refine zJ (CM _) ?_;have o:=ab w3 (zC #[zI zi 0,zI zi mk] 65);have j:=zh (Rs.one (φ:=spR) (w:=w3) (F:=Ty (w3.alloc (zC #[zI zi 0,zI zi mk] 65)) 0 spR.ts) (x:=sv) (us:=[zI zi 0,zI zi mk]) (by show _=spL sv;rw[m];rfl) 65);replace⟨a,c⟩:=zb2 a c o;go_wp2_with(at_builtin;refine aD (φ:=spR) (T:=65) (B:=w.heap.size) (C:=0) (xs:=done) (ys:=[sv]) rfl _ _ 58 rfl i0 (zX #[zI zi 0,zI zi 0]) 16 underlying58 HI A D E rfl rfl a (zU (some ⟨w3.heap.size,0,none⟩) 1 1) rfl j ?c1 ?c2 ?c3 ?_);case c1=>simp only[DF,D8];rw[e];omega
  case c2=>simp only[DF,D8];rw[e];unfold maxLen;omega
  case c3=>exact c.size
  intro v' w7 b r;have g:=zh (a.belowG r c c.size (DE _));rw[<-y] at b;obtain⟨A7,c7,rfl⟩:=b.slice;go_wp2;go_roundw
  .exact⟨k+1,by omega,by go_num,by rw[t];exact b,zh λh=>absurd h (by omega),g⟩
  simp[intOf];omega
 have⟨K,J⟩:=zgq hk d;rw[J,<-v] at a;obtain⟨A0,c0,rfl⟩:=a.slice;have h9:=a.out;have Z:=X.out;rw[DT] at h9 Z;rw[J] at Z;have⟨V,U⟩:=zk2 h9 Z;go_wp2;go_ret;exact⟨_,rfl,V,λh=>U (by rw[HN];exact h),c⟩
section
variable {B g:Nat} {v:Value}
section
variable {P:Program} {ops:Array Oper} {rest:List Oper} {o:Oper} {a:Act} {Q:Exit->Act->World->Prop} {w:World}
def gZ (c:o.guard=none) (s x:Operand) (t T:TypeId) (f:o.op= .call {callee:= .builtin .append,args:=#[s,x],argTypes:=#[t,t]}) (i:TypeInfo) (k:Nat) (j:P.underlying t=some (.slice T)) (hi:P.info? T=some i) (g:a.eval s=v) {B n:Nat} {xs:List Value} (d:w.ownsRow B T k v n xs) (c2:Nat) (l:a.eval x= .slice none 0 c2) (h:wpList P ops Q rest (a.put o.dst v) w):wpList P ops Q (o::rest) a w:=by refine wpList_plain c λK e=> ?_;have b:=iU (P:=P) (w:=w) B t o.type T i k c2 j hi v n xs d;unfold Oper.wp;simp[execOp,f,resolve,invoke,builtin,g,l,b,Result.andThen];exact e _ _ h
end
def kB {w:World} (h:Box w g #[] 65) (a:B<=g):w.ownsRow B 65 2 (zU (some ⟨g,0,none⟩) 0 0) 0 []:=⟨rfl,zO ⟨g,0,#[],rfl,a,h,DE _,DH _,rfl,rfl⟩⟩
def PS {w:World} {L:List Sp} (h:OG spR w B 0 65 v L) (y:0<zN L):∃gr cap,v=zU (some ⟨gr,0,none⟩) (zN L) cap/\B<=gr/\zN L<=cap/\SpB w gr L:=by
 obtain⟨_,uss,z,s,m⟩:=h;have a:∀us∈uss,zN us=2:=λus hm=>by obtain⟨j,k,rfl⟩:=D9.1 hm;have:=spR.len (m j _ (DD (by omega)));rwa [DC,DD k] at this
 rcases s.2 with⟨rfl,x⟩|⟨g,cap,cur,rfl,p,q,r,hm,t,b⟩
 .omega
 refine⟨g,cap,rfl,p,r,cur,q,λi hi=> ?_⟩;have u:=m i _ (DD hi);have d:zG uss i []=spL L[i]:=u;have e:zG L i (0,0)=L[i]:=by rw[DC,DD hi];rfl
 have f:∀j,j<2->cur[i*2+j]? =(spL L[i])[j]? :=λj k=>by
  have l:=ei a i j k;have c:i<zN uss:=by omega
  rw[DD c] at l;have n:uss[i]=spL L[i]:=by rw[DC,DD c] at d;exact d
  have o:uss.flatten[i*2+j]? =(spL L[i])[j]? :=by rw[l];simp[n]
  rw[<-o,<-b,EY (by rw[show spR.k=2 from rfl];omega),Array.getElem?_toList]
 rw[e];exact⟨f 0 (by decide),f 1 (by decide)⟩
def BI {w w':World} {g b:Nat} {L:List Sp} (h:SpB w g L) (e:w.grownBy w' (some b)) (a:g≠b):SpB w' g L:=by obtain⟨cur,c,d⟩:=h;exact⟨cur,aV c e a,d⟩
end
def O6 {w:World} {v:Value} {L:List Sp} {F G:Nat->Prop} (h:Rs spR w v L F):Rs spR w v L G:=by obtain⟨A,c,rfl,a,h⟩:=h;exact⟨A,c,rfl,a,λb=>h b⟩
def xQ {S:List Nat->Prop} {names:List ByteArray} (w:World) {f g gn gm gr cap n:Nat} {i j k l m:Value} (d:Box w f #[zP gn] 109) (a:Box w g #[i,j,k,l,m] 27) (b:Calls zz 53 #[zP gn,zX #[i,j,k,l,m]] w (RnR S names gn gm gr cap n w)):Calls zz 52 #[zP f,zP g] w (RnR S names gn gm gr cap n w):=by
 replace b:=zh b;have x0:=d.A 0 _ rfl;have q:=a.A 0 _ rfl;have r:=a.A 1 _ rfl;have s:=a.A 2 _ rfl;have t:=a.A 3 _ rfl;have u:=a.A 4 _ rfl;go_enter func52,ntmps52;go_wp2;refine b.mono ?_;rintro e w' ⟨hk,⟨rfl,c⟩|⟨rfl,h⟩⟩
 .exact⟨rfl,hk,zQ ⟨rfl,c⟩⟩
 have p:=zh hk;have o:=zh h;go_wp2;go_end0;exact⟨p,zO ⟨rfl,o⟩⟩
def YM (S:List Nat->Prop) (n:Nat) (w:World) (e:Ending) (w':World):Prop:=zL w w'/\((e=zE (zY #[zU none 0 0,zI zi 11])/\∀a,¬S a)\/∃gr cap L,e=zE (zY #[zU (some ⟨gr,0,none⟩) n cap,zI zi 0])/\n<=cap/\SpB w' gr L/\NwI S n L)
theorem Dw (w:World) {p:Pb} {A1 A2 A3 A4 A5:Option Addr} {c1 c2 c3 c4 c5:Nat} (hp:PIn w p A1 A2 A3 A4 A5 c1 c2 c3 c4 c5) (J:PSm p) (hk:KW w) (hm:de w) (hv:PV p) (S:List Nat->Prop) (hS:Xm p S) (L:List Sp) (hI:NwI S (zN p.v) L) (A:Option Addr) (c:Nat) (ag:Rs spR w (zU A (zN L) c) L ah) (aq:zN p.v=0->A=none):
  Calls zz 20 #[pbV p A1 A2 A3 A4 A5 c1 c2 c3 c4 c5,zU A (zN L) c] w (YM S (zN p.v) w):=by
 have CV:=zh (evC hp J hk hm hv);have CF:=zh fun(W:World) (r:zL w W)=>YB (A1:=A1) (A2:=A2) (A3:=A3) (A4:=A4) (A5:=A5) (c1:=c1) (c2:=c2) (c3:=c3) (c4:=c4) (c5:=c5) (p:=p) W L A c (λh0=>by obtain⟨A',c',e1, -,h⟩:=ag.spA;simp only[DQ,true_and] at e1;obtain⟨rfl,rfl⟩:=e1;obtain⟨b,o,rfl,h9⟩:=h h0;exact⟨b,o,rfl,h9.Q r⟩) (λi hi=>hI.ok i (by rw[<-hI.len];exact hi)) hI.len J.nv;have M:=zh fun(W:World) (r:zL w W) (A':Option Addr) (m' c':Nat)=>qO W (hp.Q r) J A' m' c';have CR:=zh fun(W:World) (gn gm gr cap:Nat) (r:zL w W) (h1:w.heap.size<=gn) (h2:w.heap.size<=gr) (h:NwM W gn gm gr cap (ai p.v) (zN p.v) L false)=>Yz (S:=S) hp J hv W ⟨by unfold ai;rw[DT],hv.v.len,h1,h2⟩ r h hI hS rfl;have X:=zh ag;have D:=zh hI.len;have a1:=hv.v.len;have⟨i0,hi,az,aA,aB⟩:=EX sX;have⟨HI,aP,aQ,aR⟩:=zk4 hi az aA aB;unfold EvC at CV;rw[hI.len] at CF X⊢;have aE:=zh aq;unfold pbV at*;generalize zN p.v=n,zN p.h=n2,zN p.s=n3,zN p.d=n4,zN p.g=n5 at*;clear hp J hk hm hv hS hI ag aq hi az aA aB;go_enter func20,ntmps20;go_upto_region 1 with fail;generalize aC:w.alloc _=w1 at*;have⟨g,XP⟩:=zB1 aC;clear aC;obtain⟨al,am,an,ao,ap⟩:=zc5 XP;go_wp2;refine zK (CV _ g) λw2 r=> ?_;replace⟨XP,g⟩:=zb2 XP g r;clear r;obtain⟨al,am,an,ao,ap⟩:=zc5 XP;go_wp2;refine zK (CF _ g) λw3 r=> ?_;replace⟨XP,g⟩:=zb2 XP g r;clear r;go_upto_region 3 with fail;go_cut [6] from 16 to 24 (λs6 l=>∃H gn gm gr cap,s6=zP H/\Box l H #[zP gn] 109/\NwM l gn gm gr cap (ai p.v) n L false/\w.heap.size<=gn/\w.heap.size<=gr/\zL w l/\Box l w.heap.size #[zU A1 n c1,zU A2 n2 c2,zU A3 n3 c3,zU A4 n4 c4,zU A5 n5 c5] 27)
 case first=>
  have N:=zh g;have ak:=zh XP;have aK:=zh (X.Q g);replace M:=zh fun(W:World) (r:zL w3 W) A' m' c'=>M W (aa N r) A' m' c';unfold NeR at M;refine zhd (λW=>zL w3 W) (ae _) (λhS=> ?_);have g:=zh hS;clear hS;generalize w3.drew=l at*;refine zt 0 (zX #[zU A1 n c1,zU A2 n2 c2,zU A3 n3 c3,zU A4 n4 c4,zU A5 n5 c5]) rfl (zQ ⟨by rfl,λW hW=>by have q:=ak.Q hW;have q0:=q.A 0 _ rfl;have q1:=q.A 1 _ rfl;have q2:=q.A 2 _ rfl;have q3:=q.A 3 _ rfl;have q4:=q.A 4 _ rfl;go_simp⟩) ?_;refine zta 2 (zU A n c) rfl ?_;simp only[zp];have hz:Hid (n=0)\/Hid (0<n):=by
   rcases Nat.eq_zero_or_pos n with h|h
   .exact zQ (zh h)
   exact zO (zh h)
  rcases hz with P|aJ
  iterate 8
   all_goals
    first
     |refine Zf 1 9 ?_ ?_
     |refine Zf 3 9 ?_ ?_
     |refine Ze 1 ?_
     |refine Zf 4 9 ?_ ?_
     |refine Ze 3 ?_
     |refine Zf 6 9 ?_ ?_
     |refine Ze 4 ?_
     |refine Zf 7 9 ?_ ?_
     |refine Ze 6 ?_
     |refine Zf 8 9 ?_ ?_
     |refine Ze 7 ?_
     |refine Ze 9 ?_
     |refine Ze 8 ?_
     |refine Ze 10 ?_
   all_goals
    first
     |(refine aL (i:=1) rfl ?_
       go_wp2;have d:=ab l (zC #[] 65);have E:=zh (Box.new l 65 #[])
       (try replace m:=zb m d)
       (try replace t:=zb t d)
       (try replace K:=zb K d)
       (try replace k:=zb k d)
       (try replace F:=zb F d)
       have H1:=zh g.size;replace g:=zb g d;clear d;generalize l.heap.size=g1 at*;refine⟨g, ?_⟩;have⟨l,f⟩:=zv (l.alloc (zC #[] 65));rw[<-f] at E g⊢
       (try rw[<-f] at m)
       (try rw[<-f] at t)
       (try rw[<-f] at K)
       (try rw[<-f] at k)
       (try rw[<-f] at F)
       clear f)
     |(refine aL (i:=3) rfl ?_
       refine gZ rfl _ _ 58 65 rfl i0 2 underlying58 HI rfl (kB E H1) c (by show Value.slice A n c=_;rw[aE P,P]) ?_;have t:Hid (SpB l g1 L):=zh ⟨#[],E,λi hi=>by rw[D,P] at hi;omega⟩;have⟨cap,s⟩:=zv (n:Nat);have V:Hid (n<=cap):=zh (by omega);have e9:Value.slice (some ⟨g1,0,none⟩) 0 0=zU (some ⟨g1,0,none⟩) n cap:=by rw[s,P]
       rw[e9];clear e9 s;have aj:=zh H1;generalize g1=gr at*;go_wp2;refine⟨g, ?_⟩)
     |(refine aL (i:=3) rfl ?_
       have aM:=zh (O6 (G:=Ty l 0 spR.ts) (aK.Q g));have OE:OG spR l w3.heap.size 0 65 (zU (some ⟨g1,0,none⟩) 0 0) []:=⟨⟨by decide,DH _⟩,[],rfl,kB E H1,λj x h=>by simp at h⟩;have aS:=zh OE;refine aD (φ:=spR) (T:=65) (B:=w3.heap.size) (C:=0) (xs:=[]) (ys:=L) rfl _ _ 58 rfl i0 (zX #[zI zi 0,zI zi 0]) 16 underlying58 HI aP aQ aR rfl rfl aS (zU A n c) rfl aM ?c1 ?c2 ?c3 ?_;case c1=>simp only[D8];rw[D];omega
       case c2=>simp only[D8];rw[D];unfold maxLen;omega
       case c3=>exact g.size
       intro v7 w7 Y au;have I:=Y.out;rw[List.nil_append] at I;obtain⟨gr,cap,rfl,v,s,aw⟩:=PS I (by rw[D];exact aJ);rw[D] at s⊢;have ac:l.grownBy w7 (some g1):=au;have⟨t,aj,V⟩:=zk3 aw v s
       (try replace m:=zh (aV m ac (af m E)))
       replace g:=zh (aN g g.size H1 ac);clear Y au I aw v s ac;have⟨l,f⟩:=zv (w7);rw[<-f] at t g⊢
       (try rw[<-f] at m)
       clear f;go_wp2;refine⟨g, ?_⟩)
     |(refine aL (i:=4) rfl ?_
       go_wp2;refine(M _ g _ _ _).mono ?_;rintro e0 l ⟨ge,gm,rfl,ax,av,h1,h2,r⟩;have⟨K,k⟩:=zk2 ax av
       (try replace m:=zb m r)
       replace⟨t,g⟩:=zb2 t g r;clear ax av h1 h2 r;go_wp2;refine⟨g, ?_⟩;refine zta 5 (zP ge) rfl ?_;simp only[zp];skip)
     |(refine aL (i:=6) rfl ?_
       obtain⟨x0,x1⟩:=zc2 K;go_wp2;clear x0 x1;refine⟨g, ?_⟩)
     |(refine aL (i:=7) rfl ?_
       go_wp2;refine⟨g, ?_⟩)
     |(refine aL (i:=8) rfl ?_
       go_wp2;have d:=ab l (zC #[.map (some gm),zU (some ⟨gr,0,none⟩) n cap,zW false] 116);have F:=zh (Box.new l 116 #[.map (some gm),zU (some ⟨gr,0,none⟩) n cap,zW false])
       (try replace E:=zb E d)
       (try replace m:=zb m d)
       (try replace t:=zb t d)
       (try replace K:=zb K d)
       (try replace k:=zb k d)
       have HN:=zh g.size;replace g:=zb g d;clear d;generalize l.heap.size=gn at*;refine⟨g, ?_⟩;have⟨l,f⟩:=zv (l.alloc (zC #[.map (some gm),zU (some ⟨gr,0,none⟩) n cap,zW false] 116));rw[<-f] at F g⊢
       (try rw[<-f] at E)
       (try rw[<-f] at m)
       (try rw[<-f] at t)
       (try rw[<-f] at K)
       (try rw[<-f] at k)
       clear f)
     |(refine aL (i:=9) rfl ?_
       go_wp2;have d:=ab l (zC #[.pointer none] 109);have m:=zh (Box.new l 109 #[.pointer none])
       (try replace E:=zb E d)
       (try replace t:=zb t d)
       (try replace K:=zb K d)
       (try replace k:=zb k d)
       (try replace F:=zb F d)
       have H9:=zh g.size;replace g:=zb g d;clear d;generalize l.heap.size=H at*;refine⟨g, ?_⟩;have⟨l,f⟩:=zv (l.alloc (zC #[.pointer none] 109));rw[<-f] at m g⊢
       (try rw[<-f] at E)
       (try rw[<-f] at t)
       (try rw[<-f] at K)
       (try rw[<-f] at k)
       (try rw[<-f] at F)
       clear f)
     |(refine aL (i:=10) rfl ?_
       have x0:=za m 0;have z0:=m.Z 0;have xl:=m.lt;have aX:=af m F;have aY:=t.apart m (by decide);have aZ:=fp k m;go_wp2;clear x0 z0 xl;replace m:Hid (Box _ H #[zP gn] 109):=zh (m.set_ 0 (zP gn));replace F:=zh (F.setNe ⟨H,0,none⟩ (zP gn) aX);replace t:=zh (t.setNe ⟨H,0,none⟩ (zP gn) aY);replace k:=zh (i9 (p:=⟨H,0,none⟩) k rfl (FA aZ) (zP gn));replace g:=zh (g.setCell (p:=⟨H,0,none⟩) H9 (zP gn));refine⟨g, ?_⟩)
  all_goals
   refine zdn ?_;go_wp2;go_meet;exact⟨_,_,_,_,_,rfl,m,⟨F,k,t,V⟩,D2 N.size HN,D2 N.size aj,aa N g,ak.Q g⟩
 case rest=>
  obtain⟨H,gn,gm,gr,cap,rfl,z,u,ad,v,r,ay⟩:=hcut;have C1:=zh (CR (wc.alloc (zC #[zW false] 4)) gn gm gr cap (aa r (ab _ _)) ad v (u.Q (ab _ _)));have d:=ab wc (zC #[zW false] 4);have C2:=xQ _ (z.Q d) (ay.Q d) C1;have XQ:=Box.new wc 4 #[zW false];have CA:=zh (tu wc 52 #[zP H,.pointer (some ⟨w.heap.size,0,none⟩)] (λq w'=>zL w w'/\(q=false->∀a,¬S a)/\(q=true->∃L' Q,Box w' H #[zP gn] 109/\NwM w' gn gm gr cap (ai p.v) n L' Q/\NwI S n L')) (λW=>by kernel_rfl) (C2.mono λe w' ⟨hk,h9⟩=>by
   have l1:=u.x.lt;have l2:=u.r.lt;have ar:=hk.toBelow (aa r d) ad v;have hq:=hk.box XQ (by omega) (by omega);have n1:=af z u.x;have n2:=u.r.apart z (by decide);have h6:=hk.box (z.Q d) n1 n2;refine⟨?_,hq⟩;rcases h9 with⟨rfl,aW⟩|⟨rfl,L',Q,y,U⟩
   .exact zO ⟨rfl,ar,λ_=>aW,λh=>by cases h⟩
   exact zQ ⟨rfl,ar,λh=>(by cases h),λ_=>⟨L',Q,h6,y,U⟩⟩));have⟨aO,Z⟩:=zk2 z u;have aF:=zh r.size;have a0:=zm;clear d z u ad v r ay;go_wp2;refine CA.mono ?_;rintro e w5 ⟨q,a2,rfl,⟨R,hf,ht⟩,hg⟩;have g:=zh (aN R R.size aF hg);cases q with
  |false=>have aI:=zh (hf rfl);clear hf ht hg R;go_wp2;go_ret2;exact⟨g,zQ ⟨rfl,aI⟩⟩
  |true=>have⟨L',Q,h6,y,U⟩:=ht rfl;have l6:=aO.lt;have ln:=Z.x.lt;have lm:=Z.m.lt;have lr:=Z.r.lt;have X6:=zh (aV h6 hg (by omega));have aU:=zh (aV y.x hg (by omega));have aT:=zh (BI y.r hg (by omega));have aH:=zh U;have aG:=zh y.c;clear hf ht hg R h6 y U l6 ln lm lr;have x0:=za X6 0;have x1:=za aU 1;go_wp2;go_ret2;exact⟨g,zO ⟨gr,cap,L',rfl,aG,aT,aH⟩⟩
def lvN (d:List Nd) (n f:Nat):Nat:=min (zG d f nd0).lv n
def th (w:World) (A:Option Addr) (c n f:Nat) (d:List Nd) (B:Rs ndR w (zU A (zN d) c) d ah) (m:f<zN d) (u:∀x∈d,x.lv<=1000) (K:n<=1000):Calls zz 84 #[zX #[zU A (zN d) c,zI zi n],zI zi f] w (zR (zI zi (lvN d n f:Nat)) w):=by
 obtain⟨F,G,e1,z,h⟩:=B;obtain⟨b,o,rfl,t,j⟩:=h (by omega);simp only[DQ,true_and] at e1;obtain⟨rfl,rfl⟩:=e1;have⟨us,a,s⟩:=j f _ (DD m);have p:us=ndL d[f]:=s;subst p;have hk:ndR.k=3:=rfl;rw[hk] at a;have e:zG d f nd0=d[f]:=by rw[DC,DD m];rfl
 have v:w.cell? ⟨b,o+f*3,none⟩=some (zI zi (d[f].lv:Nat)):=a 0 (by decide);have C:=u d[f] (EE m);unfold lvN;rw[e];generalize d[f].lv=lv at*;have H:=zn0 f;have I:(f:Int)<(zN d:Int):=by omega
 clear j h a s e u;clear m;generalize zN d=N at*;go_enter func84,ntmps84;go_upto_region 1 with fail;generalize k:w.alloc _=w1 at*;have⟨g,l⟩:=zB1 k;clear k;have r:=DU t g.size;have y:=(g.cell t).trans v;have E:=λq:Lat w1=>(q.h.cell r).trans y;clear v y;go_wp2;refine aj 9 ?_;have x0:=l.lat 0 _ rfl;have D:=l.lat 1 _ rfl;have J:¬((f:Int)<0):=by omega
 simp only[Ee,El,Ei,D5];repeat(go_big_quiet_step (fail))
 refine D4 ?_;intro L i;clear x0 D E;replace⟨l,g⟩:=zb2 l g i;clear i;go_wp2;go_ret;refine⟨?_,g⟩;have e:((min lv n:Nat):Int)=min (lv:Int) (n:Int):=by omega
 rw[e];rfl
def Pg {P:Program} (w:World) (ts:Array TypeId) (t:TypeId) (k c d:IntKind) (x y z:Int):(Builtin.max_ ts t #[.int k x,.int c y,.int d z]).run P w= .ok (.int k (max (max x y) z)) w:=by
 have e:∀a b:Int,(if b>a then b else a)=max a b:=λa b=>by rw[Int.max_def];split<;>split<;>omega
 simp[Builtin.max_,Builtin.max2,e]
def UJ (w:World) (d a b:Nat) (lo hi:Int):Calls zz 82 #[zX #[zI zi d,zI zi a,zI zi b],zI zi lo,zI zi hi] w (zR (zI zi (max (d:Int) (max lo hi))) w):=by go_enter func82,ntmps82;go_upto_region 1 with fail;generalize c:w.alloc _=w1 at*;have⟨e,f⟩:=zB1 c;have x0:=za f 0;have hm:=@Pg zz;go_wp2;go_ret;exact⟨rfl,e⟩
end
section
def li (d:List Nd) (e0 e1:Int) (comb:Nd->Int->Int->Int):Nat->Nat->Int
 |0,_=>0
 |k+1,i=>if i=0 then e0 else if i=1 then e1 else comb (zG d i nd0) (li d e0 e1 comb k (zG d i nd0).lo) (li d e0 e1 comb k (zG d i nd0).hi)
def qh (d:List Nd) (e0 e1:Int) (comb:Nd->Int->Int->Int) (i:Nat):Int:=li d e0 e1 comb (i+1) i
def Sr (d:List Nd):Prop:=∀i,2<=i->i<zN d->(zG d i nd0).lo<i/\(zG d i nd0).hi<i
section
variable {d:List Nd} {e0 e1:Int} {comb:Nd->Int->Int->Int}
theorem jw (h:Sr d):∀(k a i:Nat),i<zN d->i<k->i<a->li d e0 e1 comb k i=li d e0 e1 comb a i
 |0,_,_,_,h1,_=>by omega
 |_+1,0,_,_,_,h2=>by omega
 |k+1,a+1,i,hi,h1,h2=>by
  unfold li;by_cases b:i=0
  .rw[DP b,DP b]
  rw[DK b,DK b];by_cases c1:i=1
  .rw[DP c1,DP c1]
  rw[DK c1,DK c1];have⟨c,e⟩:=h i (by omega) hi;rw[jw h k a _ (by omega) (by omega) (by omega),jw h k a (zG d i nd0).hi (by omega) (by omega) (by omega)]
def xx (h:Sr d) {i:Nat} (hi:i<zN d) (b:2<=i):qh d e0 e1 comb i=comb (zG d i nd0) (qh d e0 e1 comb (zG d i nd0).lo) (qh d e0 e1 comb (zG d i nd0).hi):=by
 have⟨c,f⟩:=h i b hi;have e:qh d e0 e1 comb i=comb (zG d i nd0) (li d e0 e1 comb i (zG d i nd0).lo) (li d e0 e1 comb i (zG d i nd0).hi):=by
  have a:qh d e0 e1 comb i=if i=0 then e0 else if i=1 then e1 else comb (zG d i nd0) (li d e0 e1 comb i (zG d i nd0).lo) (li d e0 e1 comb i (zG d i nd0).hi):=rfl
  rw[a,DK (by omega),DK (by omega)]
 rw[e];unfold qh;rw[jw h i ((zG d i nd0).lo+1) _ (by omega) (by omega) (by omega),jw h i ((zG d i nd0).hi+1) (zG d i nd0).hi (by omega) (by omega) (by omega)]
end
end
section
open Go.RowKit Go.Maps
def Sq (F:Nat->Int) (kn:List Int) (dn:List Bool):Prop:=zN kn=zN dn/\∀i,i<zN dn->zG dn i false=true->zG kn i 0=F i
def Ck (F:Nat->Int) (n:Nat):Sq F (List.replicate n 0) (List.replicate n false):=⟨by simp,λi hi h=>by
 rw[Es] at hi;rw[DC,E7,DP hi] at h;cases h⟩
def Sq.set {F:Nat->Int} {kn:List Int} {dn:List Bool} (h:Sq F kn dn) {k:Nat}:Sq F (kn.set k (F k)) (dn.set k true):=⟨by rw[Er,Er,h.1],λi hi a=>by
 rw[Er] at hi;by_cases e:i=k
 .subst e;rw[DC,EL (by rw[h.1];exact hi)];rfl
 rw[DC,EP (FA e),<-DC] at a⊢;exact h.2 i hi a⟩
def fkV (gE gD gd gv gC gK:Nat):Value:= .func (.func 145) #[] #[zP gE,zP gD,zP gd,zP gv,zP gC,zP gK]
structure FkS (w0:World) (gE gD gd gv gC gK bk bd fc:Nat) (cv:Array Value) (A:Option Addr) (N c n:Nat) (e0 e1:Int) (W:World):Prop where
 hb:zL w0 W
 xe:Box W gE #[zI zi e0,zI zi e1] 157
 xD:Box W gD #[zU (some ⟨bd,0,none⟩) n n] 43
 xd:Box W gd #[zU A N c] 38
 xv:Box W gv #[fkV gE gD gd gv gC gK] 120
 xc:Box W gC #[.func (.func fc) #[] cv] 158
 xk:Box W gK #[zU (some ⟨bk,0,none⟩) n n] 32
structure FkT (F:Nat->Int) (bk bd n:Nat) (kn:List Int) (dn:List Bool) (W:World):Prop where
 rk:Box W bk (iA kn) 3
 rd:Box W bd (bA dn) 4
 ok:Sq F kn dn
 len:zN dn=n
structure Ss (w0:World) (fc:Nat) (cv:Array Value) (d:List Nd) (F:Nat->Int) (n:Nat):Prop where
 enter:∀args W,(callFunc fc args).run zz W= .ok (.enter fc args) W
 call:∀i W,2<=i->i<n->zL w0 W->Calls zz fc (#[zX #[zI zi ((ndA d i).lv:Nat),zI zi ((ndA d i).lo:Nat),zI zi ((ndA d i).hi:Nat)],zI zi (F (ndA d i).lo),zI zi (F (ndA d i).hi)]++cv) W (zR (zI zi (F i)) W)
section
variable {w0 W W':World} {gE gD gd gv gC gK bk bd fc:Nat} {cv:Array Value} {A:Option Addr} {N c n:Nat} {e0 e1:Int} {F:Nat->Int} {kn:List Int} {dn:List Bool}
def FkS.Q (h:FkS w0 gE gD gd gv gC gK bk bd fc cv A N c n e0 e1 W) (hb:zL W W'):FkS w0 gE gD gd gv gC gK bk bd fc cv A N c n e0 e1 W':=⟨aa h.hb hb,h.xe.Q hb,h.xD.Q hb,h.xd.Q hb,h.xv.Q hb,h.xc.Q hb,h.xk.Q hb⟩
instance:Zm W W' (FkS w0 gE gD gd gv gC gK bk bd fc cv A N c n e0 e1 W) (FkS w0 gE gD gd gv gC gK bk bd fc cv A N c n e0 e1 W'):=⟨λhb h=>FkS.Q h hb⟩
def FkT.Q (h:FkT F bk bd n kn dn W) (a:zL W W'):FkT F bk bd n kn dn W':=⟨h.rk.Q a,h.rd.Q a,h.ok,h.len⟩
instance:Zm W W' (FkT F bk bd n kn dn W) (FkT F bk bd n kn dn W'):=⟨λhb h=>FkT.Q h hb⟩
def FkS.k2 (h:FkS w0 gE gD gd gv gC gK bk bd fc cv A N c n e0 e1 W) (hk:K2 W W' bk bd) (a:FkT F bk bd n kn dn W) (b:w0.heap.size<=bk) (d:w0.heap.size<=bd):FkS w0 gE gD gd gv gC gK bk bd fc cv A N c n e0 e1 W':=
 ⟨hk.toBelow h.hb b d,hk.box h.xe (af h.xe a.rk) (af h.xe a.rd),hk.box h.xD (af h.xD a.rk) (af h.xD a.rd),
  hk.box h.xd (af h.xd a.rk) (af h.xd a.rd),hk.box h.xv (af h.xv a.rk) (af h.xv a.rd),
  hk.box h.xc (af h.xc a.rk) (af h.xc a.rd),hk.box h.xk (af h.xk a.rk) (af h.xk a.rd)⟩
def FkT.ne (a:FkT F bk bd n kn dn W):bk≠bd:=af a.rk a.rd
end
def FkR (F:Nat->Int) (bk bd n k:Nat) (W:World) (e:Ending) (W':World):Prop:=e=zE (zI zi (F k))/\K2 W W' bk bd/\∃kn dn,FkT F bk bd n kn dn W'
def S6N (gK gD gC gn bk bd n fc:Nat) (cv:Array Value) (a lo hi:Nat) (W:World):Prop:=Box W gK #[zU (some ⟨bk,0,none⟩) n n] 32/\Box W gD #[zU (some ⟨bd,0,none⟩) n n] 43/\Box W gC #[.func (.func fc) #[] cv] 158/\Box W gn #[zI zi a,zI zi lo,zI zi hi] 95
def SVN (gv gn:Nat) (a:Value) (b lo hi:Nat) (W:World):Prop:=Box W gv #[a] 120/\Box W gn #[zI zi b,zI zi lo,zI zi hi] 95
theorem RA {w0:World} {gE gD gd gv gC gK bk bd fc:Nat} {cv:Array Value} {A:Option Addr} {c n:Nat} {e0 e1:Int} {F:Nat->Int} {d:List Nd} (hn:n<=zN d) (an:n<=8192) (hd:Rs ndR w0 (zU A (zN d) c) d ah) (hC:Ss w0 fc cv d F n) (h0:F 0=e0) (h1:F 1=e1)
  (aj:∀i,2<=i->i<n->(ndA d i).lo<i/\(ndA d i).hi<i) (ag:w0.heap.size<=bk) (v:w0.heap.size<=bd) (k:Nat) (hk:k<n)
  (IH:∀j,j<k->∀(W:World) (kn:List Int) (dn:List Bool),FkS w0 gE gD gd gv gC gK bk bd fc cv A (zN d) c n e0 e1 W->FkT F bk bd n kn dn W->Calls zz 145 #[zI zi j,zP gE,zP gD,zP gd,zP gv,zP gC,zP gK] W (FkR F bk bd n j W))
  (W:World) (kn:List Int) (dn:List Bool) (hS:FkS w0 gE gD gd gv gC gK bk bd fc cv A (zN d) c n e0 e1 W) (hT:FkT F bk bd n kn dn W):
  Calls zz 145 #[zI zi k,zP gE,zP gD,zP gd,zP gv,zP gC,zP gK] W (FkR F bk bd n k W):=by
 have eg:=hC.enter;have am:∀args W,(callFunc 145 args).run zz W= .ok (.enter 145 args) W:=λargs W=>by kernel_rfl
 have⟨a,f,U,HC,HD,T⟩:=zk6 hS hT IH hC hd aj;have⟨I,H,H0,H1,HN⟩:=zk5 ag v h0 h1 hn;have⟨N,K⟩:=zvh (zN d);rw[<-K] at a U HD;by_cases k0:k=0
 .subst k0;have x0:=a.xe.A 0 _ rfl;go_enter func145,ntmps145;go_wp2;go_ret;exact⟨by rw[H0];rfl,⟨rfl,rfl,rfl,DE _,λ_ _ _ _=>rfl⟩,_,_,f⟩
 by_cases k1:k=1
 .subst k1;have x0:=a.xe.A 1 _ rfl;go_enter func145,ntmps145;go_wp2;go_ret;exact⟨by rw[H1];rfl,⟨rfl,rfl,rfl,DE _,λ_ _ _ _=>rfl⟩,_,_,f⟩
 have k2:¬(k:Int)<2:=by omega
 have k3:=zn0 k;have k4:(k:Int)<(n:Int):=by omega
 have x0:=a.xD.A 0 _ rfl;have s:k<zN dn:=by rw[f.len];exact hk
 have x1:=f.rd.A k _ (nW (DD s));have S:Hid (zG dn k false=dn[k]):=zh (by rw[DC,DD s];rfl);go_enter func145,ntmps145;generalize dn[k]=q at*;cases q with
 |true=>have x2:=a.xk.A 0 _ rfl;have x3:=f.rk.A k _ (eH (by rw[f.ok.1];exact s));rw[f.ok.2 k s S] at x3;go_wp2;go_ret;exact⟨rfl,⟨rfl,rfl,rfl,DE _,λ_ _ _ _=>rfl⟩,_,_,f⟩
 |false=>
  have x2:=a.xd.A 0 _ rfl;obtain⟨A',c',e1, -,ai⟩:=HD.nds;obtain⟨b,o,rfl,E,y0,R,y2⟩:=ai k (by have:=HN.out;omega);simp only[DQ] at e1;obtain⟨rfl, -,rfl⟩:=e1;replace y0:=(a.hb.cell E).trans y0;replace R:=(a.hb.cell E).trans R;replace y2:=(a.hb.cell E).trans y2;have k5:(k:Int)<(N:Int):=by have:=HN.out;have:=K.out;omega
  have CC:=zh λW' h=>HC.call k W' (by omega) hk h;have⟨l1,l2⟩:=T k (by omega) hk;have CL:=zh λW' G C h h'=>U (ndA d k).lo l1 W' G C h h';have CH:=zh λW' G C h h'=>U (ndA d k).hi l2 W' G C h h';generalize(ndA d k).lv=lv,(ndA d k).lo=lo,(ndA d k).hi=hi at*;go_upto_region 5 with fail;have t:=ab W (zC #[zI zi lv,zI zi lo,zI zi hi] 95);have g:=zh (Box.new W 95 #[zI zi lv,zI zi lo,zI zi hi]);replace⟨a,f⟩:=zb2 a f t;have u:Hid (K2 W (W.alloc (zC #[zI zi lv,zI zi lo,zI zi hi] 95)) bk bd):=zh ⟨t.os,t.tape,t.output,t.size,λb hb _ _=>t.block b hb⟩;generalize W.alloc (zC #[zI zi lv,zI zi lo,zI zi hi] 95)=w1,W.heap.size=gn at*;refine zhd (SVN gv gn (.func (.func 145) #[] #[zP gE,zP gD,zP gd,zP gv,zP gC,zP gK]) lv lo hi) ⟨a.xv,g⟩ (λhS=> ?_);have v:zL w1 w1.drew:=ae _;replace⟨a,f,u,g⟩:=zb4 a f u g v;generalize w1.drew=w2 at*;refine zt 0 (.func (.func 145) #[] #[zP gE,zP gD,zP gd,zP gv,zP gC,zP gK]) rfl (zQ ⟨by rfl,λW r=>by have q:=r.1.A 0 _ rfl;go_simp⟩) ?_;refine zta 1 (.pointer (some ⟨gn,1,none⟩)) rfl ?_;simp only[zp];refine zt 2 (zI zi lo) rfl (zQ ⟨by rfl,λW r=>by have q:=r.2.A 1 _ rfl;go_simp⟩) ?_;simp only[zp];refine zt 4 (.func (.func 145) #[] #[zP gE,zP gD,zP gd,zP gv,zP gC,zP gK]) rfl (zQ ⟨by rfl,λW r=>by have q:=r.1.A 0 _ rfl;go_simp⟩) ?_;refine zta 5 (.pointer (some ⟨gn,2,none⟩)) rfl ?_;simp only[zp];refine zt 6 (zI zi hi) rfl (zQ ⟨by rfl,λW r=>by have q:=r.2.A 2 _ rfl;go_simp⟩) ?_;simp only[zp];refine ay 3 rfl ?_;go_wp2;refine(CL w2 _ _ a f).mono ?_;rintro e w3 ⟨rfl,l,ao,al,D⟩;replace a:=zh (a.k2 l f I H);replace g:=zh (l.box g (af g f.rk) (af g f.rd));replace u:=zh (u.trans l);replace f:=zh D;go_wp2;refine⟨rfl,⟨a.xv,g⟩, ?_⟩;refine ay 7 rfl ?_;go_wp2;refine(CH w3 _ _ a f).mono ?_;rintro e w4 ⟨rfl,l,kn4,dn4,D⟩;replace a:=zh (a.k2 l f I H);replace g:=zh (l.box g (af g f.rk) (af g f.rd));replace u:=zh (u.trans l);replace f:=zh D;go_wp2;refine⟨rfl,⟨a.xv,g⟩, ?_⟩;refine ay 8 rfl ?_;go_wp2;refine⟨rfl,⟨a.xv,g⟩, ?_⟩;refine ay 9 rfl ?_;go_wp2;refine⟨rfl,⟨a.xv,g⟩,zdn ?_⟩;go_upto_region 6 with fail;refine zhd (S6N gK gD gC gn bk bd n fc cv lv lo hi) ⟨a.xk,a.xD,a.xc,g⟩ (λhS=> ?_);have v:zL w4 w4.drew:=ae _;replace⟨a,f,u,g⟩:=zb4 a f u g v;generalize w4.drew=w5 at*;refine zt 0 (zU (some ⟨bk,0,none⟩) n n) rfl (zQ ⟨by rfl,λW r=>by have q:=r.1.A 0 _ rfl;go_simp⟩) ?_;refine zta 1 (zI zi k) rfl ?_;simp only[zp];refine zt 2 (zU (some ⟨bd,0,none⟩) n n) rfl (zQ ⟨by rfl,λW r=>by have q:=r.2.1.A 0 _ rfl;go_simp⟩) ?_;refine zta 3 (zI zi k) rfl ?_;simp only[zp];refine zt 4 (.func (.func fc) #[] cv) rfl (zQ ⟨by rfl,λW r=>by have q:=r.2.2.1.A 0 _ rfl;go_simp⟩) ?_;simp only[zp];refine zt 5 (zX #[zI zi lv,zI zi lo,zI zi hi]) rfl (zQ ⟨by rfl,λW r=>by have q0:=r.2.2.2.A 0 _ rfl;have q1:=r.2.2.2.A 1 _ rfl;have q2:=r.2.2.2.A 2 _ rfl;go_simp⟩) ?_;refine zta 6 (zI zi (F lo)) rfl ?_;refine zta 7 (zI zi (F hi)) rfl ?_;simp only[zp];refine ay 8 rfl ?_;go_wp2;refine zK (CC w5 a.hb) λw6 ad=> ?_;replace⟨a,f,u,g⟩:=zb4 a f u g ad;go_wp2;refine⟨rfl,⟨a.xk,a.xD,a.xc,g⟩, ?_⟩;have ak:k<zN kn4:=by rw[f.ok.1,f.len];exact hk
  have l:k<zN dn4:=by rw[f.len];exact hk
  have r0:=f.rk.A k _ (eH ak);have r1:=f.rk.frozen k;have r2:=f.rk.lt;have r3:=f.rd.A k _ (nW (DD l));have r4:=f.rd.frozen k;have r5:=f.rd.lt;generalize dn4[k]=q4 at*;refine ay 9 rfl ?_;go_wp2;refine⟨rfl,⟨a.xk,a.xD,a.xc,g⟩, ?_⟩;refine ay 10 rfl ?_;go_wp2;have a1:=af f.rk a.xk;have a2:=af f.rk a.xD;have a3:=af f.rk a.xc;have a4:=af f.rk g;have a5:=f.ne;have y:=zh (a.xk.setNe ⟨bk,k,none⟩ (zI zi (F k)) a1);have x:=zh (a.xD.setNe ⟨bk,k,none⟩ (zI zi (F k)) a2);have w:=zh (a.xc.setNe ⟨bk,k,none⟩ (zI zi (F k)) a3);have z:=zh (g.setNe ⟨bk,k,none⟩ (zI zi (F k)) a4);have P:=zh (f.rk.set_ k (zI zi (F k)));rw[iP] at P;have m:=zh (f.rd.setNe ⟨bk,k,none⟩ (zI zi (F k)) a5);have V:=zh (u.set (p:=⟨bk,k,none⟩) (zQ rfl) (zI zi (F k)));have J:=zh f.ok;have B:=zh f.len;refine⟨rfl,⟨y,x,w,z⟩, ?_⟩;generalize w6.setCell ⟨bk,k,none⟩ (zI zi (F k))=w7 at*;have l:k<zN dn4:=by rw[B];exact hk
  have r3:=m.A k _ (nW (DD l));have r4:=m.frozen k;have r5:=m.lt;generalize dn4[k]=q4 at*;refine ay 11 rfl ?_;go_wp2;refine⟨rfl,⟨y,x,w,z⟩, ?_⟩;refine ay 12 rfl ?_;go_wp2;have a1:=af m y;have a2:=af m x;have a3:=af m w;have a4:=af m z;have M:=zh (y.setNe ⟨bd,k,none⟩ (zW true) a1);have Z:=zh (x.setNe ⟨bd,k,none⟩ (zW true) a2);have Y:=zh (w.setNe ⟨bd,k,none⟩ (zW true) a3);have aa:=zh (z.setNe ⟨bd,k,none⟩ (zW true) a4);have ac:=zh (P.setNe ⟨bd,k,none⟩ (zW true) (FA a5));have Q:=zh (m.set_ k (zW true));rw[Sd] at Q;have X:=zh (V.set (p:=⟨bd,k,none⟩) (zO rfl) (zW true));refine⟨rfl,⟨M,Z,Y,aa⟩,zdn ?_⟩;generalize w7.setCell ⟨bd,k,none⟩ (zW true)=w8 at*;have L:Hid (FkT F bk bd n (kn4.set k (F k)) (dn4.set k true) w8):=zh ⟨ac,Q,J.set,by rw[Er];exact B⟩;have y0:=za M 0;have s:k<(kn4.set k (F k)).length:=by rw[Er,J.1,B];exact hk
  have R:=L.rk.A k _ (eH s);have e9:(kn4.set k (F k)).getD k 0=F k:=by rw[DC,EL (by rw[Er] at s;exact s)];rfl
  rw[e9] at R;go_wp2;go_ret;exact⟨rfl,X,_,_,L⟩
theorem AZ {w0:World} {gE gD gd gv gC gK bk bd fc:Nat} {cv:Array Value} {A:Option Addr} {c n:Nat} {e0 e1:Int} {F:Nat->Int} {d:List Nd} (q:n<=zN d) (f:n<=8192) (p:Rs ndR w0 (zU A (zN d) c) d ah) (o:Ss w0 fc cv d F n) (g:F 0=e0) (l:F 1=e1)
  (e:∀i,2<=i->i<n->(ndA d i).lo<i/\(ndA d i).hi<i) (b:w0.heap.size<=bk) (a:w0.heap.size<=bd):∀(m k:Nat),k<m->k<n→
  ∀(W:World) (kn:List Int) (dn:List Bool),FkS w0 gE gD gd gv gC gK bk bd fc cv A (zN d) c n e0 e1 W->FkT F bk bd n kn dn W->Calls zz 145 #[zI zi k,zP gE,zP gD,zP gd,zP gv,zP gC,zP gK] W (FkR F bk bd n k W)
 |0,k,h,_=>by omega
 |m+1,k,h,hk=>λW kn dn r s=>RA q f p o g l e b a k hk (λj t=>AZ q f p o g l e b a m j (by omega) (by omega)) W kn dn r s
def oL (n:Nat) (e:n<=100000) (W:World):(Instr.makeSlice 43 (zI zi (n:Int)) (zI zi (n:Int))).run zz W= .ok (zU (some ⟨W.heap.size,0,none⟩) n n) (W.alloc (zC (bA (List.replicate n false)) 4)):=by have⟨i,hi,d,c,b⟩:=EX Vd;have a:=run_make (P:=zz) W 43 4 i (zW false) underlying43 hi d .i64 .i64 n n (by omega) (by omega) (by rw[b];omega) (by omega);rw[c] at a;simp only[Eh] at a;rw[yZ] at a;exact a
def RB {w:World} {fc:Nat} {cv:Array Value} {A:Option Addr} {c f:Nat} {e0 e1:Int} {F:Nat->Int} {d:List Nd} (hf:f<zN d) (ab:zN d<=8192) (Y:Rs ndR w (zU A (zN d) c) d ah) (V:Ss w fc cv d F (f+1)) (S:F 0=e0) (U:F 1=e1) (D:∀i,2<=i->i<f+1->(ndA d i).lo<i/\(ndA d i).hi<i):Calls zz 81 #[zX #[zU A (zN d) c],zI zi f,zX #[zI zi e0,zI zi e1],.func (.func fc) #[] cv] w (zR (zI zi (F f)) w):=by
 have R:∀args W,(callFunc 145 args).run zz W= .ok (.enter 145 args) W:=λargs W=>by kernel_rfl
 have aa:=zm;have M:=zh λgE gD gd gv gC gK bk bd C B=>AZ (gE:=gE) (gD:=gD) (gd:=gd) (gv:=gv) (gC:=gC) (gK:=gK) (bk:=bk) (bd:=bd) (show f+1<=zN d by omega) (by omega) Y V S U D C B (f+1) f (by omega) (by omega);have H:=fo (f+1) (by omega);have G:=oL (f+1) (by omega);have y:=zh (Ck F (f+1));have Z:f<=8192:=by omega
 generalize zN d=N at*;have Q:((f+1:Nat):Int)=(f:Int)+1:=by omega
 rw[Q] at H G;generalize hn:f+1=n at*;have HN:=zh hn;go_enter func81,ntmps81;go_upto_region 1 with fail;generalize h:w.alloc _=zw1 at*;generalize k:zw1.alloc _=zw2 at*;generalize E:zw2.alloc _=w1 at*;have⟨l,s,q,o⟩:=zB3 h k E;have P:=H w1;have J:=zh l.size;go_upto_region 2 with fail;generalize h:w1.alloc _=zw1 at*;generalize k:zw1.alloc _=w2 at*;have⟨a,j,t⟩:=zA2 h k;replace⟨s,q,o,l⟩:=zb4 s q o l a;have P:=G w2;have K:=zh l.size;go_upto_region 3 with fail;generalize h:w2.alloc _=zw1 at*;generalize k:zw1.alloc _=w3 at*;have⟨a,r,z⟩:=zA2 h k;replace⟨s,q,o,j,t⟩:=zb5 s q o j t a;replace l:=zb l a;have s3:=zh l.size;go_upto_region 4 with fail;generalize h:w3.alloc _=w4 at*;have⟨a,u⟩:=zA1 h;replace⟨s,q,o,j,t⟩:=zb5 s q o j t a;replace⟨r,z,l⟩:=zb3 r z l a;have ac:=za u 0;have ad:=u.Z 0;have ae:=u.lt;go_upto_region 5 with fail;have b:∀{g:Nat} {cs:Array Value} {T:TypeId},Box w4 g cs T->T≠120->Box (w4.setCell ⟨w3.heap.size,0,none⟩ (.func (.func 145) #[] #[.pointer (some ⟨w.heap.size+1,0,none⟩),.pointer (some ⟨w2.heap.size+1,0,none⟩),.pointer (some ⟨w.heap.size,0,none⟩),.pointer (some ⟨w3.heap.size,0,none⟩),.pointer (some ⟨w.heap.size+1+1,0,none⟩),.pointer (some ⟨w1.heap.size+1,0,none⟩)])) g cs T:=λI X=>I.setNe ⟨w3.heap.size,0,none⟩ _ (af u I (FA X));have m:Hid (FkS w (w.heap.size+1) (w2.heap.size+1) w.heap.size w3.heap.size (w.heap.size+1+1) (w1.heap.size+1) w1.heap.size w2.heap.size fc cv A N c n e0 e1 (w4.setCell ⟨w3.heap.size,0,none⟩ (.func (.func 145) #[] #[.pointer (some ⟨w.heap.size+1,0,none⟩),.pointer (some ⟨w2.heap.size+1,0,none⟩),.pointer (some ⟨w.heap.size,0,none⟩),.pointer (some ⟨w3.heap.size,0,none⟩),.pointer (some ⟨w.heap.size+1+1,0,none⟩),.pointer (some ⟨w1.heap.size+1,0,none⟩)]))):=zh
  ⟨l.setCell (p:=⟨w3.heap.size,0,none⟩) s3 _,b q (by decide),b z (by decide),b s (by decide),u.set_ 0 _,b o (by decide),b t (by decide)⟩;have x:Hid (FkT F w1.heap.size w2.heap.size n (List.replicate n 0) (List.replicate n false) (w4.setCell ⟨w3.heap.size,0,none⟩ (.func (.func 145) #[] #[.pointer (some ⟨w.heap.size+1,0,none⟩),.pointer (some ⟨w2.heap.size+1,0,none⟩),.pointer (some ⟨w.heap.size,0,none⟩),.pointer (some ⟨w3.heap.size,0,none⟩),.pointer (some ⟨w.heap.size+1+1,0,none⟩),.pointer (some ⟨w1.heap.size+1,0,none⟩)]))):=zh ⟨b j (by decide),b r (by decide),y,by simp⟩;generalize w4.setCell ⟨w3.heap.size,0,none⟩ (.func (.func 145) #[] #[.pointer (some ⟨w.heap.size+1,0,none⟩),.pointer (some ⟨w2.heap.size+1,0,none⟩),.pointer (some ⟨w.heap.size,0,none⟩),.pointer (some ⟨w3.heap.size,0,none⟩),.pointer (some ⟨w.heap.size+1+1,0,none⟩),.pointer (some ⟨w1.heap.size+1,0,none⟩)])=w5 at*;have x0:=m.xv.A 0 _ rfl;unfold fkV at x0;have L:=zh (M (w.heap.size+1) (w2.heap.size+1) w.heap.size w3.heap.size (w.heap.size+1+1) (w1.heap.size+1) w1.heap.size w2.heap.size J K w5 _ _ m x);go_wp2;refine L.mono ?_;rintro e w6 ⟨rfl,hk, -⟩;have v:=zh (hk.toBelow m.hb J K);go_wp2;go_ret;exact⟨rfl,v⟩
section
variable (w:World)
section
variable {d:List Nd} {n:Nat}
def te (h:DV d):Sr d:=λi a hi=>by
 have⟨_,b,c,_⟩:=h.pl i a hi;exact⟨b,c⟩
def mxF (d:List Nd) (i:Nat):Int:=qh d (-1) (-1) (λx a b=>max (x.lv:Int) (max a b)) i
def uz (h:DV d) {i:Nat} (hi:i<zN d) (a:2<=i):mxF d i=max ((ndA d i).lv:Int) (max (mxF d (ndA d i).lo) (mxF d (ndA d i).hi)):=xx (te h) hi a
theorem Wh (h:DV d) (c:Lim d n):∀i,i<zN d->mxF d i<n:=by
 intro i;induction i using Nat.strongRecOn with
 |_ i ih=>
  intro hi;by_cases a:2<=i
  .have⟨e,f,g,_⟩:=h.pl i a hi;rw[uz h hi a];have j:=ih _ f (by omega);have k:=ih _ g (by omega);have b:=c i e;unfold lvA at b;omega
  have:i=0\/i=1:=by omega
  rcases this with rfl|rfl
  .show(-1:Int)<n;omega
  show(-1:Int)<n;omega
def qL (h:DV d) (c:n<=20) (a:Lim d n) {f k:Nat} (b:f<zN d) (hk:f<=k):ir d n k f=cQ d n f:=by
 have i:bT d n f<=n:=by unfold bT;omega
 have e:=FZ h c a k f (n-bT d n f) (bT d n f) b hk (DE _) (by omega);have g:=FZ h c a f f (n-bT d n f) (bT d n f) b (DE _) (DE _) (by omega);rw[EB,Nat.pow_zero,Nat.mul_one] at e g;unfold cQ;omega
def vG (h:DV d) (b:n<=20) (a:Lim d n) {f:Nat} (g:f<zN d) (c:2<=f):cQ d n f=cQ d n (ndA d f).lo*2^(bT d n (ndA d f).lo-(ndA d f).lv-1)+cQ d n (ndA d f).hi*2^(bT d n (ndA d f).hi-(ndA d f).lv-1):=by
 have⟨i,j,l,_⟩:=h.pl f c g;obtain⟨k,rfl⟩:∃k,f=k+1:=⟨f-1,by omega⟩;have e:cQ d n (k+1)=ir d n k (ndA d (k+1)).lo*2^(bT d n (ndA d (k+1)).lo-lvA d (k+1)-1)+ir d n k (ndA d (k+1)).hi*2^(bT d n (ndA d (k+1)).hi-lvA d (k+1)-1):=by show(if k+1<=1 then _ else _)=_;rw[DK (by omega)]
 rw[e,qL h b a (by omega) (by omega),qL h b a (show(ndA d (k+1)).hi<zN d by omega) (by omega)];rfl
def qK (h:DV d) (i:n<=20) (b:Lim d n) {f l:Nat} (c:f<zN d) (e:l<=bT d n f):j7 d n f l<=2^(n-l):=by
 have g:bT d n f<=n:=by unfold bT;omega
 have a:=xw h i b c e (show n=l+(n-l) by omega);rw[<-a];unfold ni;refine D2 (List.length_filter_le _ _) ?_;rw[qH];exact DE _
end
def W0 (A:Option Addr) (c f n:Nat) (d:List Nd) (p:Rs ndR w (zU A (zN d) c) d ah) (g:DV d) (u:Lim d n) (r:f<zN d) (z:n<=20):Calls zz 41 #[zX #[zU A (zN d) c],zI zi f,zI zi n] w (zR (zW true) w):=by
 have m:=g.top;have j:∀args W,(callFunc 82 args).run zz W= .ok (.enter 82 args) W:=λargs W=>by kernel_rfl
 have t:=zh fun(W:World) (h:zL w W)=>mJ W _ d g (p.Q h);have s:=zh fun(W:World) (h:zL w W)=>RB (fc:=82) (cv:=#[]) (e0:= -1) (e1:= -1) (F:=mxF d) r m (p.Q h) ⟨j,λi W' k hi _=>by rw[uz g (by omega) k];exact UJ W' _ _ _ _ _⟩ rfl rfl (λi k hi=>te g i k (by omega));have v:=Wh g u f r;generalize mxF d f=q at*;have x:¬((f:Int)<0):=by omega
 have y:(f:Int)<(zN d:Int):=by omega
 have B:¬((n:Int)<0):=by omega
 have C:¬((n:Int)>20):=by omega
 generalize zN d=N at*;go_enter func41,ntmps41;go_upto_region 1 with fail;generalize o:w.alloc _=w1 at*;have⟨a,b⟩:=zB1 o;have e:=za b 0;go_wp2;refine zK (t w1 a) λw2 l=> ?_;replace⟨b,a⟩:=zb2 b a l;have e:=za b 0;go_wp2;refine zK (s w2 a) λD l=> ?_;replace⟨b,a⟩:=zb2 b a l;go_wp2;go_ret;exact⟨rfl,a⟩
def RC (J:Nat) (A:Option Addr) (c n i:Nat) (d:List Nd) (C:Box w J #[zU A (zN d) c,zI zi n] 93) (F:Rs ndR w (zU A (zN d) c) d ah) (s:DV d) (t:Lim d n) (H:n<=20) (K:2<=i) (hi:i<zN d):Calls zz 146 #[zX #[zI zi ((ndA d i).lv:Nat),zI zi ((ndA d i).lo:Nat),zI zi ((ndA d i).hi:Nat)],zI zi ((cQ d n (ndA d i).lo:Nat):Int),zI zi ((cQ d n (ndA d i).hi:Nat):Int),zP J] w (zR (zI zi ((cQ d n i:Nat):Int)) w):=by
 have B:=zh C;have g:=zh (vG s H t hi K);have⟨V,p2,p3,_,p5,p6⟩:=s.pl i K hi;have G:=t i V;have k:∀x∈d,x.lv<=1000:=λx C=>by obtain⟨j,M,rfl⟩:=D9.1 C;have:=s.lvle M;unfold lvA ndA at this;rw[DC,DD M] at this;have e:(some d[j]).getD nd0=d[j]:=rfl;rw[e] at this;omega
 have Y:=zh λW h=>th W A c n (ndA d i).lo d (F.Q h) (by omega) k (by omega);have X:=zh λW h=>th W A c n (ndA d i).hi d (F.Q h) (by omega) k (by omega);have o:=qK s H t (f:=(ndA d i).lo) (l:=lvA d i+1) (by omega) (by unfold bT;omega);have r:=qK s H t (f:=(ndA d i).hi) (l:=lvA d i+1) (by omega) (by unfold bT;omega);have E:2^(n-(lvA d i+1))<=1048576:=yN (by omega);have l1:(ndA d i).lv<lvN d n (ndA d i).lo:=by show _<bT d n _;unfold bT;unfold lvA at*;omega
 have l2:(ndA d i).lv<lvN d n (ndA d i).hi:=by show _<bT d n _;unfold bT;unfold lvA at*;omega
 unfold j7 at o r;have e1:bT d n (ndA d i).lo-(lvA d i+1)=lvN d n (ndA d i).lo-(ndA d i).lv-1:=by show _=bT d n _-lvA d i-1;omega
 have I:bT d n (ndA d i).hi-(lvA d i+1)=lvN d n (ndA d i).hi-(ndA d i).lv-1:=by show _=bT d n _-lvA d i-1;omega
 rw[e1] at o;rw[I] at r;have l3:lvN d n (ndA d i).lo<=20:=by show bT d n _<=20;unfold bT;omega
 have l4:lvN d n (ndA d i).hi<=20:=by show bT d n _<=20;unfold bT;omega
 replace g:Hid (cQ d n i=cQ d n (ndA d i).lo*2^(lvN d n (ndA d i).lo-(ndA d i).lv-1)+cQ d n (ndA d i).hi*2^(lvN d n (ndA d i).hi-(ndA d i).lv-1)):=g;rw[g];replace o:=D2 o E;replace r:=D2 r E;clear C F s t V p2 p3 p5 p6 G k E e1 I;generalize zN d=N,(ndA d i).hi=hi',(ndA d i).lo=lo,(ndA d i).lv=lv,cQ d n (ndA d i).hi=b,cQ d n (ndA d i).lo=a,lvN d n (ndA d i).hi=R,lvN d n (ndA d i).lo=S at*;have⟨p,P⟩:=zv (S-lv-1);have⟨q,Q⟩:=zv (R-lv-1);rw[<-P] at o⊢;rw[<-Q] at r⊢;have g1:(S:Int)-lv-1=(p:Nat):=by omega
 have g2:(R:Int)-lv-1=(q:Nat):=by omega
 have T:(a:Int)*2^p=((a*2^p:Nat):Int):=by simp
 have U:(b:Int)*2^q=((b*2^q:Nat):Int):=by simp
 have w1:IntKind.i64.wrap ((a:Int)*2^p)=((a*2^p:Nat):Int):=by rw[T];generalize a*2^p=z at*;exact Fi _ (by omega)
 have w2:IntKind.i64.wrap ((b:Int)*2^q)=((b*2^q:Nat):Int):=by rw[U];generalize b*2^q=z at*;exact Fi _ (by omega)
 clear T U;have⟨z1,u⟩:=zv (a*2^p);have⟨z2,v⟩:=zv (b*2^q);rw[<-u] at w1 o⊢;rw[<-v] at w2 r⊢;clear u v P Q;go_enter func146,ntmps146;go_upto_region 1 with fail;have Z:=zh (DM w.heap.size w);generalize y:w.alloc _=W1 at*;have⟨m,D⟩:=zB1 y;clear y;replace B:=zh (B.Q m);have x0:=B.lat 0 _ rfl;have x1:=B.lat 1 _ rfl;have y0:=D.lat 0 _ rfl;have y1:=D.lat 1 _ rfl;have y2:=D.lat 2 _ rfl;have VL:=zh λp:Lat W1=>Y p.w (aa m p.h);have VH:=zh λp:Lat W1=>X p.w (aa m p.h);refine az ?_;repeat(go_big_quiet_step (first|(with_reducible exact aG (VL.out _))|(with_reducible exact aG (VH.out _))))
 refine D4 ?_;intro w8 L;replace m:=zb m L;clear L x0 x1 y0 y1 y2;go_wp2;go_ret;exact⟨by rw[Int.natCast_add];rfl,m⟩
def UK (A:Option Addr) (c n f:Nat) (d:List Nd) (p:Rs ndR w (zU A (zN d) c) d ah) (k:DV d) (r:Lim d n) (u:n<=20) (s:f<zN d):Calls zz 83 #[zX #[zU A (zN d) c,zI zi n],zI zi f] w (zR (zI zi ((cQ d n f:Nat):Int)) w):=by
 have l:=k.top;have t:=zm;have g:∀args W,(callFunc 146 args).run zz W= .ok (.enter 146 args) W:=λargs W=>by kernel_rfl
 have q:=zh λW h (v:Box W w.heap.size #[zU A (zN d) c,zI zi n] 93)=>RB (fc:=146) (cv:=#[.pointer (some ⟨w.heap.size,0,none⟩)]) (e0:=0) (e1:=1) (F:=λi=>((cQ d n i:Nat):Int)) s l (p.Q h) ⟨g,λi W' j hi e=>RC W' w.heap.size A c n i d (v.Q e) ((p.Q h).Q e) k r u j (by omega)⟩ rfl rfl (λi j hi=>te k i j (by omega));generalize cQ d n f=R,zN d=N at*;go_enter func83,ntmps83;go_upto_region 1 with fail;generalize m:w.alloc _=w1 at*;have⟨a,b⟩:=zB1 m;have o:=za b 0;go_wp2;refine zK (q w1 a b) λw2 e=> ?_;replace⟨b,a⟩:=zb2 b a e;go_wp2;go_ret;exact⟨rfl,a⟩
def WZ (A:Option Addr) (c n f l:Nat) (d:List Nd) (r:Rs ndR w (zU A (zN d) c) d ah) (o:DV d) (q:Lim d n) (D:n<=20) (s:f<zN d) (t:l<=bT d n f):Calls zz 42 #[zX #[zU A (zN d) c,zI zi n],zI zi f,zI zi l] w (zR (zI zi ((j7 d n f l:Nat):Int)) w):=by
 have i:∀x∈d,x.lv<=1000:=λx M=>by obtain⟨j,C,rfl⟩:=D9.1 M;have:=o.lvle C;unfold lvA ndA at this;rw[DC,DD C] at this;have e:(some d[j]).getD nd0=d[j]:=rfl;rw[e] at this;omega
 have H:=zh λW h=>th W A c n f d (r.Q h) s i (by omega);have G:=zh λW h=>UK W A c n f d (r.Q h) o q D s;have g:=qK o D q s t;have v:2^(n-l)<=1048576:=yN (by omega);have R:lvN d n f<=20:=by show bT d n _<=20;unfold bT;omega
 have K:l<=lvN d n f:=t;unfold j7 at g⊢;replace g:cQ d n f*2^(lvN d n f-l)<=1048576:=D2 g v;have y:cQ d n f*2^(bT d n f-l)=cQ d n f*2^(lvN d n f-l):=rfl;rw[y];clear y r o q t i v;generalize lvN d n f=L,cQ d n f=a,zN d=N at*;have⟨p,E⟩:=zv (L-l);rw[<-E] at g⊢;have Q:(L:Int)-l=(p:Nat):=by omega
 have F:(a:Int)*2^p=((a*2^p:Nat):Int):=by simp
 have w1:IntKind.i64.wrap ((a:Int)*2^p)=((a*2^p:Nat):Int):=by rw[F];generalize a*2^p=z at*;exact Fi _ (by omega)
 clear F;have⟨T,k⟩:=zv (a*2^p);rw[<-k] at w1 g⊢;clear k E;go_enter func42,ntmps42;go_upto_region 1 with fail;generalize m:w.alloc _=W1 at*;have⟨b,u⟩:=zB1 m;clear m;have x0:=u.lat 0 _ rfl;have P:=u.lat 1 _ rfl;have J:=zh λp:Lat W1=>H p.w (aa b p.h);have I:=zh λp:Lat W1=>G p.w (aa b p.h);refine az ?_;repeat(go_big_quiet_step (first|(with_reducible exact aG (J.out _))|(with_reducible exact aG (I.out _))))
 refine D4 ?_;intro S B;replace b:=zb b B;clear B x0 P;go_wp2;go_ret;exact⟨rfl,b⟩
def Ba (A:Option Addr) (c n f:Nat) (d:List Nd) (l:Rs ndR w (zU A (zN d) c) d ah) (j:DV d) (k:Lim d n) (o:n<=20) (m:f<zN d):Calls zz 30 #[zX #[zU A (zN d) c],zI zi f,zI zi n] w (zR (zY #[zI zi ((j7 d n f 0:Nat):Int),zI zi 0]) w):=by have q:=zh λW h=>W0 W A c f n d (l.Q h) j k m o;have p:=zh λW h=>WZ W A c n f 0 d (l.Q h) j k o m (DH _);generalize j7 d n f 0=R,zN d=N at*;go_enter func30,ntmps30;go_upto_region 1 with fail;generalize i:w.alloc _=w1 at*;have⟨a,b⟩:=zB1 i;have e:=za b 0;go_wp2;refine zK (q w1 a) λw2 g=> ?_;replace⟨b,a⟩:=zb2 b a g;have e:=za b 0;go_wp2;refine zK (p w2 a) λr g=> ?_;replace⟨b,a⟩:=zb2 b a g;go_wp2;go_ret2;exact⟨by trivial,a⟩
end
theorem qi:∀(L:List Sp) (j n:Nat),j<zN L->((L.set j ((zG L j (0,0)).1,n)).map spL).flatten=((L.map spL).flatten).set (j*2+1) (zI zi n)
 |[],j,n,h=>by simp at h
 |x::L,0,n,h=>rfl
 |x::L,j+1,n,h=>by
  have ih:=qi L j n (by simpa using h);have e1:(x::L).set (j+1) (((x::L).getD (j+1) (0,0)).1,n)=x::L.set j ((zG L j (0,0)).1,n):=rfl;have a:(j+1)*2+1=(j*2+1)+1+1:=by omega
  rw[e1,FY,FP,ih,FY,FP,a];rfl
def ur {w:World} {B:Nat} {v:Value} {L:List Sp} (h:OG spR w B 0 65 v L) {j:Nat} (q:j<zN L):∃g cap,v=zU (some ⟨g,0,none⟩) (zN L) cap/\B<=g/\g<w.heap.size/\(∀i,w.frozen? ⟨g,i,none⟩=false)/\(w.cell? ⟨g,j*2+1,none⟩=some (zI zi ((zG L j (0,0)).2:Nat)))∧∀n:Nat,OG spR (w.setCell ⟨g,j*2+1,none⟩ (zI zi n)) B 0 65 v (L.set j ((zG L j (0,0)).1,n)):=by
 obtain⟨u,uss,A,s,y⟩:=h;have d:uss=L.map spL:=Fz (by rw[A,DT]) λi t E=>by have:=y i _ (DD (show i<zN L by omega));rw[DC,DD t] at this;rw[List.getElem_map];exact this
 have C:=s;rcases s.2 with⟨rfl,D⟩|⟨g,cap,cur,rfl,p,z,m,l,c,b⟩
 .omega
 have e:Box w g cur 65:=z;have f:(L.map spL).flatten.length=zN L*2:=by rw[jb (k:=2) λus o=>by obtain⟨r, -,rfl⟩:=EJ.1 o;rfl,DT]
 have a:spR.k=2:=rfl;rw[a] at c b;refine⟨g,cap,rfl,p,e.lt,λi=>e.frozen i, ?_,λn=>⟨u,(L.set j ((zG L j (0,0)).1,n)).map spL,by rw[DT], ?_,λi x hi=> ?_⟩⟩
 .rw[e.cell];have e1:(L.map spL).flatten[j*2+1]? =some (zI zi ((zG L j (0,0)).2:Nat)):=by rw[ei (k:=2) (λus o=>by obtain⟨r, -,rfl⟩:=EJ.1 o;rfl) j 1 (by omega),Ed,DC,DD q];rfl
  rw[<-d,<-b,EY (by omega),Array.getElem?_toList] at e1;exact e1
 .rw[Er,qi L j n q];refine⟨by rw[Er,f];exact rfl,zO ⟨g,cap,cur.setIfInBounds (j*2+1) (zI zi n),rfl,p,e.set_ _ _,m,l,by rw[a,Array.size_setIfInBounds];exact c, ?_⟩⟩;rw[a,Array.toList_setIfInBounds,List.take_set,b,d]
 rw[DC,Ed,hi];rfl
def jy {w w':World} (f:zL w w') {g:Nat} (e:w.heap.size<=g) (a b c d:Value):zL w ((((w'.setCell ⟨g,0,none⟩ a).setCell ⟨g,1,none⟩ b).setCell ⟨g,2,none⟩ c).setCell ⟨g,3,none⟩ d):=(((f.setCell (p:=⟨g,0,none⟩) e a).setCell (p:=⟨g,1,none⟩) e b).setCell (p:=⟨g,2,none⟩) e c).setCell (p:=⟨g,3,none⟩) e d
def pt (w:World) (n:Nat):Calls zz 262 #[zI zi n] w (zR (zX #[zI zi 1,zI zi n,zV ⟨#[]⟩,zU none 0 0]) w):=by go_enter func262,ntmps262;go_upto_region 1 with fail;generalize k:w.alloc _=w1 at*;have⟨l,a⟩:=zB1 k;obtain⟨b,c,d,e⟩:=zc4 a;have f:=a.lt;have g:=a.Z 0;have h:=a.Z 1;have i:=a.Z 2;have j:=a.Z 3;go_wp2;refine D7 (v:=zX #[zI zi 1,zI zi n,zV ⟨#[]⟩,zU none 0 0]) (by simp[results,results262,go_sem,b,c,d,e,f]) rfl ?_;exact⟨rfl,jy l (DE _) _ _ _ _⟩
def RgR (w:World) (L:List Sp) (e:Ending) (w':World):Prop:=∃v,e=zE v/\OG spR w' w.heap.size 0 65 v L/\zL w w'
def Pj {l:List Nat} {k:Nat} (h:k<zN l):fE (l.take (k+1))=rnS (fE (l.take k)) (zG l k 0):=by unfold fE;rw[cI (d:=0) h,Fp];rfl
def Tn (L:List Sp) (n:Nat):(rnS L n).length<=zN L+1:=by
 unfold rnS;split
 .rw[Er];omega
 rw[DI];exact DE _
def O9 (w:World) (l:List Nat) (vl:Value) (hl:IL w vl (nI l)) (hn:zN l<=256) (hx:∀x∈l,x<=65535):Calls zz 195 #[vl] w (RgR w (fE l)):=by
 obtain⟨Aa,ca,rfl, -,X⟩:=hl;have D:=zh X;have W:=zh λk (h:k<zN l)=>hx _ (getD_in 0 h);have V:=zh λk (h:k<zN l)=>Pj h;have S:Hid (fE (l.take 0)=[]):=zh rfl;have U:Hid (fE (l.take (zN l))=fE l):=zh (by rw[Et]);rw[aF] at D⊢;have⟨i0,hi,af,ag,ah⟩:=EX sX;have⟨HI,E,G,H⟩:=zk4 hi af ag ah;generalize zN l=n at*;go_enter func195,ntmps195;go_wp2;have R:=zh (OG.nil spR w w.heap.size 0 65 (by decide) (DH _));go_loopw [3,9] (λsl i wr=>∃k:Nat,k<=n/\i=zI zi k/\OG spR wr w.heap.size 0 65 sl (fE (l.take k))/\(fE (l.take k)).length<=k/\zL w wr) (λ_ i _=>n-(intOf i).toNat)
 .exact⟨0,DH _,rfl,by rw[S];exact R,DE _,DM _ _⟩
 obtain⟨k,hk,rfl,ad,K,hb⟩:=hrel;have⟨o,a⟩:=zk2 hb ad;by_cases s:k<n
 .have⟨M,k0⟩:=zln s;obtain⟨a1,rfl,ac,ae⟩:=D (by omega);have z0:=ae k s;rw[dV] at z0;replace z0:=(o.cell (p:=a1.add k) (by rw[bf];exact ac)).trans z0;have aj:=W k s;have f:=zh (V k s);have u:Hid ((fE (l.take (k+1))).length<=k+1):=zh (by rw[f];exact D2 (Tn _ _) (by omega));have⟨NX,c⟩:=zvh (fE (l.take (k+1)));rw[<-c] at f u;generalize zG l k 0=x,fE (l.take k)=L at*;obtain⟨A0,c0,rfl⟩:=a.slice;have⟨m,d⟩:=zvh (zN L);rw[<-d] at K⊢;by_cases Q:m≠0/\(zG L (m-1) (0,0)).2+1=x
  .obtain⟨P,h1⟩:=Q;have⟨g,cap,e1,J,Y,I,b,N⟩:=ur a (j:=m-1) (by rw[<-d];omega);have v:=zh (N x);have q:Hid (NX=L.set (m-1) ((zG L (m-1) (0,0)).1,x)):=zh (by rw[f];unfold rnS;rw[<-d,DP ⟨P,h1⟩]);obtain⟨j,Z⟩:∃j,m=j+1:=⟨m-1,by omega⟩;rw[<-d] at e1;simp only[DQ] at e1;obtain⟨rfl, -, -⟩:=e1;subst Z;rw[Nat.add_sub_cancel] at b v q h1;have ai:=I (j*2+1);have j1:((j+1:Nat):Int)-1=(j:Int):=by omega
   have j2:=zn0 j;have j3:(j:Int)<((j+1:Nat):Int):=by omega
   have x1:(((zG L j (0,0)).2:Nat):Int)=(x:Int)-1:=by omega
   rw[x1] at b;go_wp2;go_roundw
   .exact⟨k+1,by omega,by go_num,by have:=v.out;rw[<-c,q];rw[<-d] at this;exact this,by rw[<-c];exact u,o.setCell (p:=⟨g,j*2+1,none⟩) J _⟩
   simp[intOf];omega
  have q:Hid (NX=L++[(x,x)]):=zh (by rw[f];unfold rnS;rw[<-d,DK Q]);by_cases P:m=0
  .subst P;go_upto_region 8 with fail;have r:=ab wr (zC #[zI zi x,zI zi x] 65);have z:=zh (Rs.one (φ:=spR) (w:=wr) (F:=Ty (wr.alloc (zC #[zI zi x,zI zi x] 65)) 0 spR.ts) (x:=((x,x):Sp)) (us:=[zI zi x,zI zi x]) rfl 65);replace a:=zb a r;rw[<-d] at a;replace o:=zb o r;go_wp2_with(at_builtin;refine aD (φ:=spR) (T:=65) (B:=w.heap.size) (C:=0) (xs:=L) (ys:=[((x,x):Sp)]) rfl _ _ 58 rfl i0 (zX #[zI zi 0,zI zi 0]) 16 underlying58 HI E G H rfl rfl a (zU (some ⟨wr.heap.size,0,none⟩) 1 1) rfl z ?c1 ?c2 ?c3 ?_);case c1=>simp only[DF,D8];rw[<-d];omega
   case c2=>simp only[DF,D8];rw[<-d];unfold maxLen;omega
   case c3=>exact o.size
   intro v' w7 t A;have y:=zh (a.belowG A o o.size (DE _));go_wp2;go_roundw
   .exact⟨k+1,by omega,by go_num,by rw[<-c,q];exact t,by rw[<-c];exact u,y⟩
   simp[intOf];omega
  obtain⟨g,cap,e1,J,Y,I,b, -⟩:=ur a (j:=m-1) (by rw[<-d];omega);obtain⟨j,Z⟩:∃j,m=j+1:=⟨m-1,by omega⟩;rw[<-d] at e1;simp only[DQ] at e1;obtain⟨rfl, -, -⟩:=e1;subst Z;rw[Nat.add_sub_cancel] at b Q;have j1:((j+1:Nat):Int)-1=(j:Int):=by omega
  have j2:=zn0 j;have j3:(j:Int)<((j+1:Nat):Int):=by omega
  have x1:((((zG L j (0,0)).2:Nat):Int)==(x:Int)-1)=false:=by simp only[Fb];intro e;exact Q ⟨P,by omega⟩
  generalize(zG L j (0,0)).2=hi at*;go_upto_region 8 with fail;have r:=ab wr (zC #[zI zi x,zI zi x] 65);have z:=zh (Rs.one (φ:=spR) (w:=wr) (F:=Ty (wr.alloc (zC #[zI zi x,zI zi x] 65)) 0 spR.ts) (x:=((x,x):Sp)) (us:=[zI zi x,zI zi x]) rfl 65);replace a:=zb a r;rw[<-d] at a;replace o:=zb o r;go_wp2_with(at_builtin;refine aD (φ:=spR) (T:=65) (B:=w.heap.size) (C:=0) (xs:=L) (ys:=[((x,x):Sp)]) rfl _ _ 58 rfl i0 (zX #[zI zi 0,zI zi 0]) 16 underlying58 HI E G H rfl rfl a (zU (some ⟨wr.heap.size,0,none⟩) 1 1) rfl z ?c1 ?c2 ?c3 ?_);case c1=>simp only[DF,D8];rw[<-d];omega
  case c2=>simp only[DF,D8];rw[<-d];unfold maxLen;omega
  case c3=>exact o.size
  intro v' w7 t A;have y:=zh (a.belowG A o o.size (DE _));go_wp2;go_roundw
  .exact⟨k+1,by omega,by go_num,by rw[<-c,q];exact t,by rw[<-c];exact u,y⟩
  simp[intOf];omega
 have⟨M,aa⟩:=zgq hk s;subst aa;rw[U] at a;go_wp2;go_ret;exact⟨_,rfl,a,o⟩
section
variable (w:World) {us:List Value} {d g:Nat} {F:Nat->Prop} {α:Type}
def We {φ:Rd α} {w:World} {C:Nat} {T:TypeId} {x:α} (f:T∉φ.ts) (e:C<=w.heap.size) (h:φ.R w us x (Ty w C φ.ts)):OG φ (w.alloc (zC us.toArray T)) w.heap.size C T (zU (some ⟨w.heap.size,0,none⟩) 1 1) [x]:=by
 have c:=ab w (zC us.toArray T);refine⟨⟨f,e⟩,[us],rfl,⟨by have:=φ.len h;simpa using this,zO ⟨w.heap.size,1,us.toArray,rfl,DE _,heap_alloc_new w _,DE _,by unfold maxLen;omega,by have:=φ.len h;simpa using this,by have:=φ.len h;simp[<-this]⟩⟩,λj y d=> ?_⟩;obtain rfl:j=0:=by have:=(D0.1 d).1;simp at this;exact this
 obtain rfl:x=y:=by simpa using d
 exact kz h c.size λb a _=>c.block b a
def Rs.two {φ:Rd α} {w:World} {us vs:List Value} {x y:α} (h:φ.R w us x F) (d:φ.R w vs y F) (t:TypeId):Rs φ (w.alloc (zC (us++vs).toArray t)) (zU (some ⟨w.heap.size,0,none⟩) 2 2) [x,y] F:=by
 have k:=φ.len h;have l:=φ.len d;refine⟨_,2,rfl,DE _,λ_=>⟨_,_,rfl,by simp,λj z c=> ?_⟩⟩;have g:=heap_alloc_new w (zC (us++vs).toArray t);have e:∀i,(w.alloc (zC (us++vs).toArray t)).cell? ⟨w.heap.size,i,none⟩=(us++vs)[i]? :=λi=>by rw[cell_of_row _ _ _ (us++vs).toArray t (0,0) g];simp
 have f:j<2:=by have:=(D0.1 c).1;simpa using this
 by_cases e0:j=0
 .subst e0;obtain rfl:x=z:=by simpa using c
  exact⟨us,λi hi=>by rw[e,Nat.zero_mul,DY,D6 (by omega)],φ.same h (by simp) λb a _=>heap_alloc_old _ _ a⟩
 obtain rfl:j=1:=by omega
 obtain rfl:y=z:=by simpa using c
 exact⟨vs,λi hi=>by rw[e,Nat.one_mul,DY,DX (by omega),k,Nat.add_sub_cancel_left],φ.same d (by simp) λb a _=>heap_alloc_old _ _ a⟩
def pU (d:Nat) (op n:Int) (s:ByteArray) (F:Nat->Prop):(exR (d+1)).R w (exL (zU none 0 0) (.mk op n s [])) (.mk op n s []) F:=⟨_,rfl,Rs.nil _ _ _,λh=>absurd h (Nat.lt_irrefl 0)⟩
def NxR (w:World) (d:Nat) (x:Ex) (e:Ending) (w':World):Prop:=∃A c,e=zE (exV x (zU A (zN x.a) c))/\Rs (exR d) w' (zU A (zN x.a) c) x.a (λb=>w.heap.size<=b)/\In (λb=>w.heap.size<=b) (zU A (zN x.a) c) (zN x.a)/\zL w w'
def m8 (w:World) (g:Nat) (a b c d:Value):World:=(((w.setCell ⟨g,0,none⟩ a).setCell ⟨g,1,none⟩ b).setCell ⟨g,2,none⟩ c).setCell ⟨g,3,none⟩ d
def ro {g q:Nat} (h:q≠g) (a b c d:Value):(m8 w g a b c d).heap[q]? =w.heap[q]? :=by unfold m8;rw[Eo _ _ _ _ h,Eo _ _ _ _ h,Eo _ _ _ _ h,Eo _ _ _ _ h]
def rn (g:Nat) (a b c d:Value):(m8 w g a b c d).heap.size=w.heap.size:=by simp[m8,World.setCell]
def yC {w:World} {v:Value} {l:List Ex} (h:Rs (exR d) w v l F) (k:∀b,F b->b≠g) (hi:In (λb=>b≠g) v (zN l)) (a b c e:Value):Rs (exR d) (m8 w g a b c e) v l F:=by
 by_cases i:0<zN l
 .exact h.same (by rw[rn];exact DE _) (λq f=>ro w (hi i q f) a b c e) λq _ f=>ro w (k q f) a b c e
 obtain⟨A,j,rfl,m,_⟩:=h;exact⟨A,j,rfl,m,λh=>absurd h i⟩
def oT {w wr:World} {x:Ex} {A:Option Addr} {c:Nat} (f:zL w wr) (i:w.heap.size<=g) (j:Rs (exR d) wr (zU A (zN x.a) c) x.a (λb=>w.heap.size<=b/\b≠g)) (hi:In (λb=>w.heap.size<=b/\b≠g) (zU A (zN x.a) c) (zN x.a)) (u1 u2 u3 u4:Value):NxR w d x (zE (exV x (zU A (zN x.a) c))) (m8 wr g u1 u2 u3 u4):=⟨A,c,rfl,(yC j (λb h=>h.2) (λa q e=>(hi a q e).2) _ _ _ _).mono λb h=>h.1,λa q e=>(hi a q e).1,jy f i u1 u2 u3 u4⟩
def Pp {L:List Sp} {k:Nat} (h:k<zN L):rgX (L.take (k+1))=rgX (L.take k)++[gP (zG L k (0,0)).1,gP (zG L k (0,0)).2]:=by unfold rgX;rw[Ep,DD h,List.flatMap_append,DC,DD h];rfl
def Pa (s:ByteArray) (L:List Sp) (v:Value) (hr:Rs spR w v L ah) (hl:zN L<=16):Calls zz 263 #[zV s,v] w (NxR w 1 (fq s L)):=by
 obtain⟨Al,cl,rfl, -,aJ⟩:=hr.spA;have K:=zh aJ;have P:=zh λk (h:k<zN L)=>Pp h;have au:Hid (rgX (L.take 0)=[]):=zh rfl;have N:Hid (rgX (L.take (zN L))=rgX L):=zh (by rw[Et]);have G:Hid (∀k,k<=zN L->(lU s::rgX (L.take k)).length=2*k+1):=zh λk hk=>by rw[DF,sK,D3];omega
 have⟨i0,hi,aL,al,aM⟩:=EX lf;have⟨HI,av,aP,aw⟩:=zk4 hi aL al aM;have R:Hid (i0.size=(exB 1).k):=zh al;have⟨n,HN⟩:=zvh (zN L);rw[<-HN] at K P N G hl⊢;go_enter func263,ntmps263;go_upto_region 1 with fail;generalize aN:w.alloc _=w1 at*;have⟨j,f⟩:=zB1 aN;go_wp2;have aq:Hid (OG (exB 1) (w1.alloc (zC #[zI zi 2,zI zi 0,zV s,zU none 0 0] 79)) w1.heap.size 0 79 (zU (some ⟨w1.heap.size,0,none⟩) 1 1) [lU s]):=zh (We (φ:=exB 1) (us:=[zI zi 2,zI zi 0,zV s,zU none 0 0]) (by simp[exB]) (DH _) (pU _ 0 2 0 s _));have g:=ab w1 (zC #[zI zi 2,zI zi 0,zV s,zU none 0 0] 79);have am:=zh (aa j g);have ax:=zh (f.Q g);have M:Hid (w.heap.size<w1.heap.size/\w1.heap.size<=(w1.alloc (zC #[zI zi 2,zI zi 0,zV s,zU none 0 0] 79)).heap.size):=zh ⟨f.lt,g.size⟩;generalize w1.alloc (zC #[zI zi 2,zI zi 0,zV s,zU none 0 0] 79)=w2,w1.heap.size=g1 at*;have ak:=M.1;go_loopw [5,13] (λsl i wr=>∃k:Nat,k<=n/\i=zI zi k/\OG (exB 1) wr g1 0 79 sl (lU s::rgX (L.take k))/\Box wr w.heap.size #[zI zi 0,zI zi 0,zV ⟨#[]⟩,zU none 0 0] 79/\g1<=wr.heap.size/\zL w wr) (λ_ i _=>n-(intOf i).toNat)
 .exact⟨0,DH _,rfl,by rw[au];exact aq,ax,M.2,am⟩
 obtain⟨k,hk,rfl,aH,aK,e,H⟩:=hrel;have⟨j,a,f⟩:=zk3 H aH aK;have m:=G k hk;obtain⟨I,c0,rfl⟩:=a.slice;rw[m] at a⊢;by_cases t:k<n
 .have⟨af,k0⟩:=zln t;obtain⟨b,o,rfl,ai,aI⟩:=K (by omega);have⟨y0,y1⟩:=aI k (by rw[<-HN];exact t);replace y0:=(j.cell (p:=⟨b,o+k*2,none⟩) ai).trans y0;replace y1:=(j.cell (p:=⟨b,o+k*2+1,none⟩) ai).trans y1;have D:=zh (P k t);have aO:=G (k+1) (by omega);generalize zG L k (0,0)=r at*;obtain⟨lo,hi⟩:=r;simp only at y0 y1 D;have ao:Hid (lU s::rgX (L.take (k+1))=(lU s::rgX (L.take k))++[gP lo,gP hi]):=zh (by rw[D];rfl);generalize aG:lU s::rgX (L.take (k+1))=NX at*;have ap:=zh aG;generalize lU s::rgX (L.take k)=XS at*;have Q:=zh m;go_upto_region 5 with fail;have g:=ab wr (zC #[zI zi lo,zI zi hi] 65);have u:=zh (Box.new wr 65 #[zI zi lo,zI zi hi]);replace⟨a,f,j⟩:=zb3 a f j g;replace e:=D2 e g.size;generalize wr.heap.size=gq,wr.alloc (zC #[zI zi lo,zI zi hi] 65)=w3 at*;have l:=ae (w0:=w3) (w3.drawn+1);refine zhd (λW=>Box W gq #[zI zi lo,zI zi hi] 65) (u.Q l) (λhS=> ?_);replace a:Hid (OG (exB 1) w3.drew _ _ _ _ _):=zh (a.Q l);replace u:Hid (Box w3.drew _ _ _):=zh (u.Q l);replace f:Hid (Box w3.drew _ _ _):=zh (f.Q l);replace j:Hid (Below _ _ w3.drew):=zh (aa j l);replace e:g1<=w3.drew.heap.size:=D2 e l.size;generalize w3.drew=w3 at*;refine zta 0 (zU I (2*k+1) c0) rfl ?_;refine zta 1 (zP gq) rfl ?_;simp only[zp];refine zt 2 (zI zi lo) rfl (zQ ⟨by rfl,λW hW=>by have q:=hW.A 0 (zI zi lo) rfl;go_simp⟩) ?_;refine zta 4 (.pointer (some ⟨gq,1,none⟩)) rfl ?_;simp only[zp];refine zt 5 (zI zi hi) rfl (zQ ⟨by rfl,λW hW=>by have q:=hW.A 1 (zI zi hi) rfl;go_simp⟩) ?_;simp only[zp];refine ay 3 rfl ?_;go_wp2;refine zK (pt w3 lo) λw4 H=> ?_;replace⟨a,u,f,j⟩:=zb4 a u f j H;replace e:=D2 e H.size;go_wp2;refine⟨rfl,u, ?_⟩;refine ay 6 rfl ?_;go_wp2;refine zK (pt w4 hi) λw5 H=> ?_;replace⟨a,u,f,j⟩:=zb4 a u f j H;replace e:=D2 e H.size;go_wp2;refine⟨rfl,u, ?_⟩;refine ay 7 rfl ?_;go_wp2;have S:=zh (u.Q (ab w5 (zC #[zI zi 1,zI zi lo,zV ⟨#[]⟩,zU none 0 0,zI zi 1,zI zi hi,zV ⟨#[]⟩,zU none 0 0] 79)));have g:=ab w5 (zC #[zI zi 1,zI zi lo,zV ⟨#[]⟩,zU none 0 0,zI zi 1,zI zi hi,zV ⟨#[]⟩,zU none 0 0] 79);have ar:=zh (Rs.two (φ:=exB 1) (w:=w5) (F:=Ty (w5.alloc (zC #[zI zi 1,zI zi lo,zV ⟨#[]⟩,zU none 0 0,zI zi 1,zI zi hi,zV ⟨#[]⟩,zU none 0 0] 79)) 0 (exB 1).ts) (us:=[zI zi 1,zI zi lo,zV ⟨#[]⟩,zU none 0 0]) (vs:=[zI zi 1,zI zi hi,zV ⟨#[]⟩,zU none 0 0]) (x:=gP lo) (y:=gP hi) (pU _ 0 1 lo ⟨#[]⟩ _) (pU _ 0 1 hi ⟨#[]⟩ _) 79);replace⟨a,f,j⟩:=zb3 a f j g;replace e:=D2 e g.size;have aj:(([gP lo,gP hi]:List Ex)).length=2:=rfl;refine⟨rfl,S, ?_⟩;refine ay 8 rfl ?_;refine aD (φ:=exB 1) (T:=79) (B:=g1) (C:=0) (xs:=XS) (ys:=[gP lo,gP hi]) rfl _ _ 23 rfl i0 (zX #[zI zi 0,zI zi 0,zV ⟨#[]⟩,zU none 0 0]) 56 underlying23 HI av R aw rfl rfl a (zU (some ⟨w5.heap.size,0,none⟩) 2 2) rfl ar ?c1 ?c2 ?c3 ?_;case c1=>rw[Q,aj];omega
  case c2=>rw[Q,aj];unfold maxLen;omega
  case c3=>exact e
  intro v' w7 ag z;have az:=zh (a.boxKept z f (zO ak));have U:=zh (a.boxKept z S (zQ (by decide)));have an:=zh (a.belowG z j j.size (Nat.le_of_lt ak));have ad:=D2 e z.size;have J:Hid (OG (exB 1) w7 g1 0 79 v' NX):=zh (by rw[ao];exact ag);refine(show noQ _ _ _ _ from⟨rfl,U, ?_⟩);simp only[zp];refine ay 9 rfl ?_;go_wp2;refine⟨rfl,U,zdn ?_⟩;go_wp2;go_roundw
  .exact⟨k+1,by omega,by go_num,by rw[ap];exact J,az,ad,an⟩
  simp[intOf];omega
 have⟨af,aF⟩:=zgq hk t;subst aF;rw[N] at a m;have t:=a.blk;have HF:=zh t;have m:(fq s L).a.length=2*k+1:=m;have E:=zh m;have HR:Hid (Rs (exR 1) wr (zU I (2*k+1) c0) (fq s L).a λb=>w.heap.size<=b/\b≠w.heap.size):=zh (a.rs.mono λb h=>by
  rcases h with h|⟨_,_,_,_,h⟩
  .omega
  cases h);obtain⟨V,X,Y,Z⟩:=zc4 f;have ac:=f.lt;have aA:=f.Z 0;have aB:=f.Z 1;have aC:=f.Z 2;have aE:=f.Z 3;go_wp2;refine D7 (v:=zX #[zI zi 23,zI zi 0,zV ⟨#[]⟩,zU I (2*k+1) c0]) (by simp[results,results263,go_sem,V,X,Y,Z,ac]) rfl ?_;have:=oT (x:=fq s L) (d:=1) (A:=I) (c:=c0) j (DE _) (by rw[E];exact HR) (λ_ q hq=>by
  have:=HF q (by rw[E] at hq;exact hq);omega) (zI zi 23) (zI zi 0) (zV ⟨#[]⟩) (zU I (2*k+1) c0);rw[E] at this;exact this
end
section
variable {l:List Sp} {b c k o:Nat} {F:Nat->Prop} {w:World}
def Rs.spCut (h:Rs spR w (zU (some ⟨b,o,none⟩) (zN l) c) l F) (hk:k<=zN l):Rs spR w (zU (some ⟨b,o,none⟩) k c) (l.take k) F/\Rs spR w (zU (some ⟨b,o+k*2,none⟩) (zN l-k) (c-k)) (l.drop k) F:=by
 obtain⟨A,t,e,u,h⟩:=h;simp only[DQ,true_and] at e;obtain⟨rfl,rfl⟩:=e;have r:(l.take k).length=k:=by rw[D3];omega
 refine⟨⟨_,c,by rw[r],by omega,λm=> ?_⟩,⟨_,c-k,by rw[ET],by rw[ET];omega,λm=> ?_⟩⟩
 .have⟨n,s,e,d,h⟩:=h (by omega);simp only[DN,FK] at e;obtain⟨rfl,rfl, -⟩:=e;refine⟨b,o,rfl,d,λj x a=>h j x ?_⟩;have f:j<k:=by have:=(D0.1 a).1;omega
  rw[EY f] at a;exact a
 rw[ET] at m;have⟨n,s,e,d,h⟩:=h (by omega);simp only[DN,FK] at e;obtain⟨rfl,rfl, -⟩:=e;refine⟨b,o+k*2,rfl,d,λj x a=> ?_⟩;rw[Fh] at a;have⟨us,p,q⟩:=h (k+j) x a;have g:spR.k=2:=rfl;refine⟨us,λi hi=> ?_,q⟩;rw[<-p i hi,g];congr 2;omega
def Rs.spRest {b o c k m:Nat} (h:Rs spR w (zU (some ⟨b,o+k*2,none⟩) (m-k) (c-k)) l F) (hm:m<=c) (a:zN l=m-k) (e:c=k) (d:Nat):Rs spR w (zU (some ⟨b,d,none⟩) (m-k) (c-k)) l F:=⟨_,c-k,by rw[a],by omega,λf=>by omega⟩
def yE {α:Type} {φ:Rd α} {v:Value} {xs:List α} (e:∀us x,φ.R w us x F->φ.R w us x (λb=>F b/\b<w.heap.size)) (h:Rs φ w v xs F):Rs φ w v xs (λb=>F b/\b<w.heap.size):=by obtain⟨A,c,rfl,g,h⟩:=h;refine⟨A,c,rfl,g,λk=> ?_⟩;obtain⟨b,o,rfl,f,h⟩:=h k;refine⟨b,o,rfl,f,λj x i=> ?_⟩;have⟨us,a,d⟩:=h j x i;exact⟨us,a,e us x d⟩
theorem AP {w:World} {F:Nat->Prop}:∀(d:Nat) (us:List Value) (x:Ex),(exR d).R w us x F->(exR d).R w us x (λb=>F b/\b<w.heap.size)
 |0,_,_,h=>h.elim
 |d+1,us,x,⟨v,h,h1,h2⟩=>⟨v,h,yE (AP d) h1,λa q c=>⟨h2 a q c,lX h1 a q c⟩⟩
def slN:Value->Nat
 |zU _ n _=>n
 |_=>0
structure AcI (w0:Nat) (w:World) (g d:Nat) (x:Ex) (A:Option Addr) (c:Nat):Prop where
 b:Box w g #[zI zi x.op,zI zi x.n,zV x.s,zU A (zN x.a) c] 79
 r:Rs (exR d) w (zU A (zN x.a) c) x.a (λb=>w0<b/\b≠g)
 i:In (λb=>w0<b/\b≠g) (zU A (zN x.a) c) (zN x.a)
theorem Ta (w:World) (s:ByteArray) (L:List Sp) (v:Value) (hr:Rs spR w v L ah) (F:zN L<=128):Calls zz 194 #[zV s,v] w (NxR w 20 (kW s L)):=by
 obtain⟨Al,cl,rfl,aN⟩:=hr.slice;have⟨CI,B,ak⟩:=zk3 Pa hr hr;clear hr;go_enter func194,ntmps194;go_upto_region 1 with fail;generalize X:w.alloc _=w1 at*;have⟨r,f⟩:=zB1 X;clear X;replace B:=zh (B.Q r);by_cases h0:zN L=0
 .have HE:Hid (kW s L=gP 0):=zh (by unfold kW;rw[DP h0]);rw[HE,h0];go_wp2;refine zK (pt w1 0) λw2 E=> ?_;replace⟨f,r⟩:=zb2 f r E;clear E;obtain⟨I,J,K,M⟩:=zc4 f;have N:=f.lt;have am:=f.Z 0;have an:=f.Z 1;have ao:=f.Z 2;have ap:=f.Z 3;go_wp2;refine D7 (v:=zX #[zI zi 1,zI zi ((0:Nat):Int),zV ⟨#[]⟩,zU none 0 0]) (by simp[results,results194,go_sem,I,J,K,M,N]) rfl ?_;rw[HE];exact oT (x:=gP 0) (d:=20) (A:=none) (c:=0) r (DE _) (Rs.nil _ _ _) (λh=>absurd h (Nat.lt_irrefl 0)) (zI zi 1) (zI zi 0) (zV ⟨#[]⟩) (zU none 0 0)
 have⟨m,hm⟩:=zv (zN L);have H:=zh hm;rw[<-hm] at B ak aN F h0⊢;clear hm;have bj:=zh B;have m0:((m:Int)==0)=false:=by simp;omega
 obtain⟨b,o,rfl⟩:∃b o,Al=some ⟨b,o,none⟩:=by obtain⟨A',c',e, -,h⟩:=B.spA;obtain⟨b,o,e2, -⟩:=h (by rw[<-H];omega);simp only[DQ] at e;exact⟨b,o,e.1.trans e2⟩
 have⟨n,hn⟩:=zv (min 16 m);have aR:n<=m:=by omega
 have bt:n<=16:=by omega
 have bu:(n:Int)<=(m:Int):=by omega
 have n0:=zn0 n;have bv:min 16 (m:Int)=(n:Int):=by omega
 have a5:=zh hn;clear hn;go_upto_region 4 with fail;rw[H] at B ak;obtain⟨r1, -⟩:=B.spCut (k:=n) (by rw[<-H];exact aR);obtain⟨-,r2⟩:=ak.spCut (k:=n) (by rw[<-H];exact aR);rw[<-H] at r2;have⟨R1,R2⟩:=zk2 r1 r2;clear r1 r2;have ai:=zh (CI w1 s (L.take n) _ R1 (by rw[D3];omega));have HU:Hid (unF s 8 (fq s (L.take n)) (L.drop n)=kW s L):=zh (by
  unfold kW;rw[<-H,DK h0,a5];by_cases aq:16<=m
  .rw[Nat.min_eq_left aq]
  rw[Nat.min_eq_right (by omega),En (show zN L<=m by have:=H.out;omega),En (show zN L<=16 by have:=H.out;omega),List.drop_of_length_le (show zN L<=m by have:=H.out;omega),List.drop_of_length_le (show zN L<=16 by have:=H.out;omega)]);have aC:Hid ((L.drop n).length=m-n):=zh (by rw[ET,<-H]);have bs:m-n<=16*8:=by omega
 generalize L.take n=LT,L.drop n=LR at*;have⟨la,aQ⟩:=zv ((fq s LT).a.length);have G:=zh aQ;clear aQ;go_wp2;refine ai.mono ?_;rintro e w2 ⟨A2,c2,he,ad,aw,E⟩;rw[<-G] at he ad aw;have av:e=zE (zX #[zI zi 23,zI zi 0,zV ⟨#[]⟩,zU A2 la c2]):=he;subst av;have aU:w.heap.size<w1.heap.size:=f.lt;have a6:Hid (Rs (exR 2) w2 (zU A2 la c2) (fq s LT).a (λb=>w.heap.size<b/\b<w2.heap.size)):=zh (((yE (AP 1) ad).mono λb h=>⟨DU aU h.1,h.2⟩).exle (show 1<=2 by omega));have aA:Hid (In (λb=>w.heap.size<b/\b<w2.heap.size) (zU A2 la c2) la):=zh λF q t=>⟨DU aU (aw F q t),by have:=lX ad;rw[<-G] at this;exact this F q t⟩;replace⟨f,r⟩:=zb2 f r E;clear E;have aW:=f.lt;clear ad aw he;go_upto_region 5 with fail;have y:=ab w2 (zC #[zI zi 23,zI zi 0,zV ⟨#[]⟩,zU A2 la c2] 79);have a0:Hid (Rs (exR 2) (w2.alloc (zC #[zI zi 23,zI zi 0,zV ⟨#[]⟩,zU A2 la c2] 79)) (zU A2 la c2) (fq s LT).a (λb=>w.heap.size<b/\b≠w2.heap.size)):=zh ((a6.Q y).mono λb h=>⟨h.1,Nat.ne_of_lt h.2⟩);have aY:Hid (In (λb=>w.heap.size<b/\b≠w2.heap.size) (zU A2 la c2) la):=zh λF q t=>⟨(aA F q t).1,Nat.ne_of_lt (aA F q t).2⟩;clear y;generalize X:w2.alloc _=w3 at*;have⟨y,g⟩:=zA1 X;clear X;replace⟨f,r⟩:=zb2 f r y;clear y;have bp:Hid (w.heap.size<w2.heap.size):=zh aW;generalize w2.heap.size=gA at*;have C:Hid (AcI w.heap.size w3 gA 2 (fq s LT) A2 c2):=zh ⟨by rw[<-G];exact g,by rw[<-G];exact a0,by rw[<-G];exact aY⟩;go_cut [1] from 19 to 21 (λs1 wx=>wx=w3/\∃A c,s1=zU A (m-n:Nat) c/\Rs spR w s1 LR ah)
 .by_cases P:cl=n
  .subst P;have HR:=zh (R2.spRest aN aC rfl o);have e0:m-cl=0:=by omega
   rw[EB,e0] at HR;go_wp2;go_meet;exact⟨rfl,_,_,by rw[e0],HR⟩
  go_wp2;go_meet;exact⟨rfl,_,_,rfl,R2⟩
 obtain⟨aV,A9,c9,rfl,aT⟩:=hcut;rw[aV] at*;have R9:=zh aT;have ba:Hid (unF s (8-0) (fq s LT) LR=kW s L):=zh HU;have a4:Hid (zN LR<=16*(8-0)):=zh (by rw[aC];omega);clear aT aV;go_wp2;go_loopw [1,5] (λsl nv wr=>∃(j:Nat) (a:Ex) (p:List Sp) (Y:Option Addr) (Z:Nat),(∃z:Int,nv=zI zi z)/\j<=8/\Hid (unF s (8-j) a p=kW s L)/\Hid (zN p<=16*(8-j))/\Rs spR w sl p ah/\AcI w.heap.size wr gA (2+j) a Y Z/\Box wr w.heap.size #[zI zi 0,zI zi 0,zV ⟨#[]⟩,zU none 0 0] 79/\zL w wr) (λsl _ _=>slN sl)
 .exact⟨0,_,_,_,_,⟨_,rfl⟩,DH _,ba,a4,R9,C,f,r⟩
 obtain⟨j,a,p,Y,Z,⟨z,rfl⟩,hj,HU,HL,hr,aM,aX,E⟩:=hrel;have⟨f,r,C,R9⟩:=zk4 aX E aM hr;clear aX E aM hr;obtain⟨Al,D,rfl,ag⟩:=R9.slice;by_cases ac:zN p=0
 .have hz:(zN p:Int)=0:=by omega
  have HE:Hid (a=kW s L):=zh (by
   have:=HU.out;have e:p=[]:=Ec ac;rw[e] at this;cases hk:8-j with
   |zero=>rw[hk] at this;exact this
   |succ k=>rw[hk] at this;exact this);rw[ac];have⟨V,U,Q⟩:=C.out;have g:=zh V;have u:=zh (U.exle (show 2+j<=20 by omega));have aa:=zh Q;clear V U Q hz;obtain⟨aG,aH,aI,aJ⟩:=zc4 g;obtain⟨I,J,K,M⟩:=zc4 f;have N:=f.lt;have am:=f.Z 0;have an:=f.Z 1;have ao:=f.Z 2;have ap:=f.Z 3;go_wp2;refine D7 (v:=zX #[zI zi a.op,zI zi a.n,zV a.s,zU Y (zN a.a) Z]) (by simp[results,results194,go_sem,I,J,K,M,N]) rfl ?_;rw[<-HE];exact oT (x:=a) (d:=20) (A:=Y) (c:=Z) r (DE _) (u.mono λb h=>⟨Nat.le_of_lt h.1,by have:=h.1;omega⟩) (λF q t=>by have:=aa F q t;exact⟨Nat.le_of_lt this.1,by have:=this.1;omega⟩) _ _ _ _
 skip;obtain⟨b',o',rfl⟩:∃b o,Al=some ⟨b,o,none⟩:=by obtain⟨A',c',e, -,h⟩:=R9.spA;obtain⟨b,o,e2, -⟩:=h (by omega);simp only[DQ] at e;exact⟨b,o,e.1.trans e2⟩
 obtain⟨k,hk⟩:∃k,8-j=k+1:=⟨8-j-1,by have:=HL.out;omega⟩;have aP:8-(j+1)=k:=by omega
 have⟨q,t⟩:=zv (zN p);have HQ:=zh t;have aF:Hid (unF s k (.mk 20 0 ⟨#[]⟩ [a,fq s (p.take 16)]) (p.drop 16)=kW s L):=zh (by
  have:=HU.out;rw[hk] at this;rw[<-this];show _=if zN p=0 then _ else _
  rw[DK ac]);have bx:q<=16*(k+1):=by rw[t,<-hk];exact HL
 rw[<-t] at ac ag⊢;clear t;obtain⟨l,az⟩:∃n,n=min 16 q:=⟨_,rfl⟩;have R:l<=q:=by omega
 have bm:l<=16:=by omega
 have bn:(l:Int)<=(q:Int):=by omega
 have bz:=zn0 l;have bo:min 16 (q:Int)=(l:Int):=by omega
 have bw:(0:Int)<(q:Int):=by omega
 have aE:Hid (p.take 16=p.take l/\p.drop 16=p.drop l):=zh (by
  by_cases aq:16<=q
  .rw[az,Nat.min_eq_left aq];exact⟨rfl,rfl⟩
  have e:=HQ.out;rw[az,Nat.min_eq_right (by omega),En (by omega),En (by omega),List.drop_of_length_le (by omega),List.drop_of_length_le (by omega)];exact⟨rfl,rfl⟩);rw[aE.1,aE.2] at aF;rw[HQ] at R;have⟨r1,r2⟩:=(show Rs spR w (zU (some ⟨b',o',none⟩) (zN p) D) p ah from R9).spCut (k:=l) R;rw[<-HQ] at r2 R;have⟨R1,R2⟩:=zk2 r1 r2;have af:Hid ((p.drop l).length=q-l):=zh (by rw[ET,<-HQ]);have bi:q-l<=16*k:=by omega
 have ay:(p.take l).length<=16:=by rw[D3];omega
 clear r1 r2 az;generalize p.take l=LT',p.drop l=LR' at*;have ai:=zh λW E=>CI W s LT' _ (R1.Q E) ay;have⟨V,U,Q⟩:=C.out;have⟨g,u,aa⟩:=zk3 V U Q;clear V U Q;have⟨al,ar⟩:=zv (zN a.a);have aZ:=zh ar;rw[<-ar] at g u aa;clear ar;go_upto_region 9 with fail;have au:zL wr wr.drew:=ae _;refine dD (S:=λW=>Box W gA #[zI zi a.op,zI zi a.n,zV a.s,zU Y al Z] 79) 8 (by kernel_rfl) (g.Q au) (λhS=> ?_);replace⟨g,f,u,r⟩:=zb4 g f u r au;clear au;generalize wr.drew=w4 at*;refine zu 0 (zX #[zI zi a.op,zI zi a.n,zV a.s,zU Y al Z]) rfl (zQ ⟨by rfl,λW hW=>by have q0:=hW.A 0 _ rfl;have q1:=hW.A 1 _ rfl;have q2:=hW.A 2 _ rfl;have q3:=hW.A 3 _ rfl;go_simp⟩) ?_;refine zup 1 (zV s) rfl ?_;refine zup 2 (zU (some ⟨b',o',none⟩) q D) rfl ?_;refine zup 3 (zI zi l) rfl ?_;simp only[zp];refine zuP 4 (zU (some ⟨b',o',none⟩) l D) rfl (zQ ⟨by rfl,λW hW=>by go_simp;intro h9;omega⟩) ?_;simp only[zp];clear hS;refine eP 5 rfl ?_;go_wp2;refine(ai w4 r).mono ?_;rintro e w5 ⟨A5,c5,he,aS,aO,E⟩;have av:e=zE (zX #[zI zi 23,zI zi 0,zV ⟨#[]⟩,zU A5 (fq s LT').a.length c5]):=he;subst av;clear he;have aD:Hid (Rs (exR 1) w5 (zU A5 (fq s LT').a.length c5) (fq s LT').a (λb=>w.heap.size<b/\b≠gA)):=zh (aS.mono λb h=>by
  have h1:=f.lt;have h2:=g.lt;have h3:w4.heap.size<=b:=h;omega);have aB:Hid (In (λb=>w.heap.size<b/\b≠gA) (zU A5 (fq s LT').a.length c5) (fq s LT').a.length):=zh λF q t=>by
  have h1:=f.lt;have h2:=g.lt;have h3:w4.heap.size<=q:=aO F q t;omega
 replace⟨g,f,u,r⟩:=zb4 g f u r E;have⟨il,ax⟩:=zv ((fq s LT').a.length);have a3:=zh ax;clear aS aO E;rw[<-ax] at aD aB⊢;clear ax;go_wp2;refine⟨λ_=>g, ?_⟩;refine eP 6 rfl ?_;go_wp2;have br:=r.size;have bh:=f.lt;have bl:=g.lt;have y:=ab w5 (zC #[zI zi a.op,zI zi a.n,zV a.s,zU Y al Z,zI zi 23,zI zi 0,zV ⟨#[]⟩,zU A5 il c5] 79);have aK:(exR (2+j+1)).R w5 [zI zi a.op,zI zi a.n,zV a.s,zU Y al Z] a (λb=>w.heap.size<b/\b≠gA):=⟨_,rfl,u,by rw[<-aZ];exact aa⟩;have aL:(exR (2+j+1)).R w5 [zI zi 23,zI zi 0,zV ⟨#[]⟩,zU A5 il c5] (fq s LT') (λb=>w.heap.size<b/\b≠gA):=⟨_,rfl,aD.exle (show 1<=2+j by omega),by rw[<-a3];exact aB⟩;have a7:Hid (Rs (exR (2+j+1)) (w5.alloc (zC #[zI zi a.op,zI zi a.n,zV a.s,zU Y al Z,zI zi 23,zI zi 0,zV ⟨#[]⟩,zU A5 il c5] 79)) (zU (some ⟨w5.heap.size,0,none⟩) 2 2) [a,fq s LT'] (λb=>w.heap.size<b/\b≠gA)):=zh (Rs.two aK aL 79);replace⟨g,f,r⟩:=zb3 g f r y;clear y aK aL;refine⟨λ_=>g, ?_⟩;generalize w5.alloc (zC #[zI zi a.op,zI zi a.n,zV a.s,zU Y al Z,zI zi 23,zI zi 0,zV ⟨#[]⟩,zU A5 il c5] 79)=w6 at*;have aj:Hid (w5.heap.size≠gA/\w.heap.size<w5.heap.size):=zh ⟨by omega,bh⟩;generalize w5.heap.size=g6 at*;refine eP 7 rfl ?_;go_wp2;refine⟨λ_=>g, ?_⟩;obtain⟨aG,aH,aI,aJ⟩:=zc4 g;have bk:=g.lt;have bc:=g.Z 0;have bd:=g.Z 1;have be:=g.Z 2;have bf:=g.Z 3;refine bq 8 rfl ?_;go_wp2;refine dE (by kernel_rfl) ?_ _;have a8:Hid (Rs (exR (2+j+1)) (m8 w6 gA (zI zi 20) (zI zi 0) (zV ⟨#[]⟩) (zU (some ⟨g6,0,none⟩) 2 2)) (zU (some ⟨g6,0,none⟩) 2 2) [a,fq s LT'] (λb=>w.heap.size<b/\b≠gA)):=zh (yC a7 (λb h=>h.2) (λF q t=>by
  simp only[Value.ownBlock,DN] at t;rw[<-t];exact aj.1) _ _ _ _);have a2:Hid (In (λb=>w.heap.size<b/\b≠gA) (zU (some ⟨g6,0,none⟩) 2 2) 2):=zh λF q t=>by
  simp only[Value.ownBlock,DN] at t;rw[<-t];exact⟨aj.2,aj.1⟩
 have bb:Hid (Box (m8 w6 gA (zI zi 20) (zI zi 0) (zV ⟨#[]⟩) (zU (some ⟨g6,0,none⟩) 2 2)) gA #[zI zi 20,zI zi 0,zV ⟨#[]⟩,zU (some ⟨g6,0,none⟩) 2 2] 79):=zh ((((g.set_ 0 _).set_ 1 _).set_ 2 _).set_ 3 _);have T:∀i,(⟨gA,i,none⟩:Addr).block≠w.heap.size:=λi=>by show gA≠_;omega
 have bg:Hid (Box (m8 w6 gA (zI zi 20) (zI zi 0) (zV ⟨#[]⟩) (zU (some ⟨g6,0,none⟩) 2 2)) w.heap.size #[zI zi 0,zI zi 0,zV ⟨#[]⟩,zU none 0 0] 79):=zh ((((f.setNe ⟨gA,0,none⟩ _ (T 0)).setNe ⟨gA,1,none⟩ _ (T 1)).setNe ⟨gA,2,none⟩ _ (T 2)).setNe ⟨gA,3,none⟩ _ (T 3));have a1:Hid (zL w (m8 w6 gA (zI zi 20) (zI zi 0) (zV ⟨#[]⟩) (zU (some ⟨g6,0,none⟩) 2 2))):=zh (jy r (Nat.le_of_lt aW) _ _ _ _);have C:Hid (AcI w.heap.size (m8 w6 gA (zI zi 20) (zI zi 0) (zV ⟨#[]⟩) (zU (some ⟨g6,0,none⟩) 2 2)) gA (2+(j+1)) (.mk 20 0 ⟨#[]⟩ [a,fq s LT']) (some ⟨g6,0,none⟩) 2):=zh ⟨bb,a8,a2⟩;unfold m8 at*;clear T;go_wp2;have a9:Hid (Rs spR w (zU (if D=l then some ⟨b',o',none⟩ else some ⟨b',o'+l*2,none⟩) (q-l) (D-l)) LR' ah):=zh (by
  by_cases P:D=l
  .rw[DP P];exact R2.spRest ag af P o'
  rw[DK P];exact R2);go_roundw
 .exact⟨j+1,_,_,_,_,⟨_,rfl⟩,by omega,by rw[aP];exact aF,by rw[aP,af];exact zh bi,a9,C,bg,a1⟩
 show q-l<q;omega
end
theorem yp (n:Nat):∀ws:List Wt,(fh (wtI n) ws<0/\oI ws n=false)\/∃k:Nat,k<zN ws/\fh (wtI n) ws=k/\oI ws n=decide (0<(zG ws k wt0).weight)
 |[]=>zQ ⟨by simp[fh],rfl⟩
 |y::ws=>by
  by_cases h:wtI n y=true
  .refine zO ⟨0,by simp, ?_, ?_⟩
   .unfold fh;rw[List.findIdx_cons,h];simp
   unfold oI;rw[List.find?_cons,h];rfl
  have d:wtI n y=false:=by simpa using h
  have e:oI (y::ws) n=oI ws n:=by unfold oI;rw[List.find?_cons,d]
  have c:(y::ws).findIdx (wtI n)=ws.findIdx (wtI n)+1:=by rw[List.findIdx_cons,d];rfl
  rcases yp n ws with⟨a,b⟩|⟨k,hk,a,b⟩
  .refine zQ ⟨?_,by rw[e];exact b⟩;unfold fh at a⊢;rw[c,DF];split at a
   .omega
   rw[DK (by omega)];decide
  refine zO ⟨k+1,by rw[DF];omega, ?_,by rw[e];exact b⟩;unfold fh at a⊢;rw[c,DF];split at a
  .rw[DP (by omega)];omega
  omega
def BD (ws:List Wt) (k:Nat):fI ws (k+1)=if oI ws k=true then fI ws k++[k] else fI ws k:=by
 unfold fI;rw[List.range_succ,List.filter_append];split
 .rename_i h;rw[List.filter_cons_of_pos h];rfl
 rename_i h;rw[List.filter_cons_of_neg h];simp
def Tb (w:World) (gn k:Nat) (n:Box w gn #[zI zi k] 3) (y:Wt):Calls zz 193 (#[wtV y]++#[zP gn]) w (zR (zW (wtI k y)) w):=by
 obtain⟨lo,hi,h,f⟩:=y;unfold wtV wtI;simp only;generalize p:(decide (lo<=(k:Int))&&decide ((k:Int)<=hi))=r at*;have d:=zh p;have x0:=n.A 0 _ rfl;have e:=zh n;go_enter func193,ntmps193;go_upto_region 1 with fail;have b:=ab w (zC #[zI zi lo,zI zi hi,zI zi h,zW f] 133);have c:=zh b;have o:=zh (Box.new w 133 #[zI zi lo,zI zi hi,zI zi h,zW f]);replace e:=zb e b;generalize w.alloc (zC #[zI zi lo,zI zi hi,zI zi h,zW f] 133)=w1 at*;have i:=za e 0;obtain⟨j,l⟩:=zc2 o;by_cases g:lo<=(k:Int)
 .by_cases m:(k:Int)<=hi
  .have a:Hid (r=true):=zh (by rw[<-d,DR g,DR m];rfl);go_wp2;go_ret;exact⟨by rw[a];rfl,c⟩
  have a:Hid (r=false):=zh (by rw[<-d,DR g,DJ m];rfl);go_wp2;go_ret;exact⟨by rw[a];rfl,c⟩
 have a:Hid (r=false):=zh (by rw[<-d,DJ g];rfl);go_wp2;go_ret;exact⟨by rw[a];rfl,c⟩
def wE {w:World} {p:Pb} {A1 A2 A3 A4 A5:Option Addr} {c1 c2 c3 c4 c5:Nat} (hp:PIn w p A1 A2 A3 A4 A5 c1 c2 c3 c4 c5) (hv:PV p) (j:Nat) (hj:j<zN p.d) (Aw:Option Addr) (cw:Nat) (hw:Rs wtR w (zU Aw (zG p.d j ds0).ws.length cw) (zG p.d j ds0).ws ah):Calls zz 119 #[pbV p A1 A2 A3 A4 A5 c1 c2 c3 c4 c5,zX #[zI zi (zG p.d j ds0).var,zU Aw (zG p.d j ds0).ws.length cw]] w (NxR w 20 (sB p (zG p.d j ds0))):=by
 obtain⟨d1, -,d3, -⟩:=hv.d j hj;generalize zG p.d j ds0=d at*;obtain⟨dv,ws⟩:=d;simp only at*;unfold bY at d1;simp only[DW,Ef] at d1;obtain⟨vi,rfl⟩:∃vi:Nat,dv=vi:=⟨dv.toNat,by omega⟩;rw[Eh] at d1;have aa:vi<zN p.v:=by omega
 have ho:=hv.v.ok _ (getD_in vr0 aa);have HU:Hid (sB p ⟨(vi:Nat),ws⟩=kW (zG p.v vi vr0).s (fE (fI ws (2^(zG p.v vi vr0).w.toNat)))):=zh rfl;rw[HU];obtain⟨A',c',e1, -,hx⟩:=hp.v.vrs;have⟨b,o,e2,L,r⟩:=hx vi aa;simp only[DQ,true_and] at e1;obtain⟨rfl,rfl⟩:=e1;subst e2;have y0:=r 0 _ rfl;have y1:=r 1 _ rfl;have y2:=r 2 _ rfl;have y3:=r 3 _ rfl;rw[Eb] at y0;have h1:=ho.2.1;generalize zG p.v vi vr0=vr at*;obtain⟨nm,wd,md,vl⟩:=vr;simp only at*;obtain⟨wn,rfl⟩:∃wn:Nat,wd=wn:=⟨wd.toNat,by omega⟩;rw[Eh] at HU⊢;have bf:=ko (show wn<=20 by omega);have ax:2^wn<=256:=by have:=Ew (n:=2) (by omega) (show wn<=8 by omega);simpa using this
 have bl:=zh hp.v;have HW:=zh hw;have ag:=zh λk=>yp k ws;have aY:=zh (BD ws);have aX:Hid (fI ws 0=[]):=zh rfl;have R:=zh λk=>sA ws k;have af:=zh (yF ws ax);have CI:=zh fun(W:World) (gn k:Nat) (z:zL w W) (hx:Box W gn #[zI zi k] 3)=>uP W _ ws (hw.Q z) (by omega) 193 #[zP gn] (wtI k) (λargs W=>by kernel_rfl) (λW2 y h2 _=>Tb W2 gn k (hx.Q h2) y);have ai:=zh hw.wts;have bo:=zm;have⟨i0,hi,aK,aL,aM⟩:=EX jZ;have⟨HI,aZ,a0,a1⟩:=zk4 hi aK aL aM;have⟨m,ay⟩:=zv (2^wn);have⟨nw,Z⟩:=zv (zN ws);have bm:=zh Z;rw[<-ay] at bf ax af⊢;rw[<-Z] at HW CI ai ag d3⊢;have⟨n1,az⟩:=zv (zN p.v);unfold pbV;rw[<-az] at aa⊢;generalize zN p.h=n2,zN p.s=n3,zN p.d=n4,zN p.g=n5 at*;have bp:=zn0 vi;have br:(vi:Int)<(n1:Int):=by omega
 clear hp hv hj hw d1 ho hx r ay Z az hi aK aL aM;go_enter func119,ntmps119;go_upto_region 1 with fail;generalize u:w.alloc _=zw1 at*;generalize aN:zw1.alloc _=zw2 at*;generalize aO:zw2.alloc _=w1 at*;have⟨f,XP,t,g⟩:=zB3 u aN aO;clear u aN aO;have z0:=(f.cell (p:=⟨b,o+vi*4,none⟩) L).trans y0;have z1:=(f.cell (p:=⟨b,o+vi*4+1,none⟩) L).trans y1;have z2:=(f.cell (p:=⟨b,o+vi*4+2,none⟩) L).trans y2;have z3:=(f.cell (p:=⟨b,o+vi*4+3,none⟩) L).trans y3;have bj:=za XP 0;have bi:=za t 0;go_upto_region 2 with fail;clear y0 y1 y2 y3 z0 z1 z2 z3;generalize u:w1.alloc _=w2 at*;have⟨J,s⟩:=zA1 u;clear u;replace⟨XP,t,g,f⟩:=zb4 XP t g f J;clear J;have be:=g.lt;have aC:=s.lt;have aT:=zh (OG.nil eG w2 w2.heap.size 0 3 (by decide) (DH _));have bk:=za s 1;go_wp2;have I:Hid (OG eG w2 w2.heap.size 0 3 (zU none 0 0) (nI (fI ws 0))):=zh (by rw[aX];exact aT);have ao:w.heap.size<=w2.heap.size:=f.size;generalize ba:w1.heap.size=gV at*;have⟨CC,X⟩:=zv (w2.heap.size);rw[<-X] at be aC I ao;have l:Hid (CC<=w2.heap.size):=zh (Nat.le_of_eq X);clear ba X;go_loopw [6,18] (λsl i wr=>∃k:Nat,k<=m/\i=zI zi k/\OG eG wr CC 0 3 sl (nI (fI ws k))/\CC<=wr.heap.size/\Box wr gV #[zV nm,zI zi wn,zI zi md,zI zi vl] 98/\Box wr (w.heap.size+1) #[zI zi vi,zU Aw nw cw] 126/\Box wr (w.heap.size+1+1) #[zI zi 0,zI zi 0,zV ⟨#[]⟩,zU none 0 0] 79/\zL w wr) (λ_ i _=>m+1-(intOf i).toNat)
 .exact⟨0,DH _,rfl,I,l,s,t,g,f⟩
 obtain⟨k,hk,rfl,aA,ar,aJ,aH,aI,z⟩:=hrel;have⟨a,l,s,t,g,f⟩:=zk6 aA ar aJ aH aI z;clear aA ar aJ aH aI z;obtain⟨Al,cl,rfl⟩:=a.slice;have bd:=(R k).2.2;have⟨ll,Y⟩:=zv ((fI ws k).length);have E:=zh Y;rw[aF] at a⊢;rw[<-Y] at bd a⊢;clear Y;by_cases av:k<m
 .have⟨aw,k0⟩:=zln av;go_upto_region 6 with fail;replace a:=zh (a.Q (ab wr (zC #[zI zi k] 3)));replace l:=zh (D2 l (ab wr (zC #[zI zi k] 3)).size);generalize u:wr.alloc _=w3 at*;have⟨J,XN⟩:=zA1 u;clear u;replace⟨s,t,g,f⟩:=zb4 s t g f J;clear J;have aP:=zh (CI w3 wr.heap.size k f XN);have M:=za t 1;go_wp2;refine zK aP λw4 z=> ?_;replace a:=zb a z;replace l:=zh (D2 l z.size);replace⟨s,t,g,XN,f⟩:=zb5 s t g XN f z;clear z;have Q:=zh (aY k);rcases ag k with⟨hf,D⟩|⟨q,hq,hf,D⟩
  .have bn:¬(fh (wtI k) ws≥0):=by omega
   have H:Hid (fI ws (k+1)=fI ws k):=zh (by rw[Q,D];simp);generalize fh (wtI k) ws=fi at*;clear D;go_wp2;go_roundw
   .exact⟨k+1,by omega,by go_num,by rw[H];have:=a.out;rw[E] at this;rw[E];exact this,l,s,t,g,f⟩
   simp[intOf];omega
  rw[hf];obtain⟨A7,c7,e7, -,aG⟩:=ai;have⟨b7,o7,e8,ap,aq⟩:=aG q hq;simp only[DQ,true_and] at e7;obtain⟨rfl,rfl⟩:=e7;subst e8;have y2:=(f.cell ap).trans (aq 2 _ rfl);have q0:=zn0 q;have q1:(q:Int)<(nw:Int):=by omega
  generalize(zG ws q wt0).weight=wg at*;clear aG aq ap;by_cases aE:0<wg
  .have H:Hid (fI ws (k+1)=fI ws k++[k]):=zh (by rw[Q,D,DR aE];simp);clear D hf;have M:=za t 1;go_upto_region 8 with fail;clear y2;have bh:=za XN 0;have V:=ab w4 (zC #[zI zi k] 3);have aU:=zh (Rs.one (φ:=eG) (w:=w4) (F:=Ty (w4.alloc (zC #[zI zi k] 3)) 0 eG.ts) (x:=(k:Int)) (us:=[zI zi k]) rfl 3);replace⟨a,s,t,g,f⟩:=zb5 a s t g f V;replace l:=zh (D2 l V.size);clear V;go_wp2_with(at_builtin;refine aD (φ:=eG) (T:=3) (B:=CC) (C:=0) (xs:=nI (fI ws k)) (ys:=[(k:Int)]) rfl _ _ 32 rfl i0 (zI zi 0) 8 underlying32 HI aZ a0 a1 rfl rfl a (zU (some ⟨w4.heap.size,0,none⟩) 1 1) rfl aU ?c1 ?c2 ?c3 ?_);case c1=>simp only[DF,D8];rw[aF,<-E];omega
   case c2=>simp only[DF,D8];rw[aF,<-E];unfold maxLen;omega
   case c3=>exact l
   intro v' w8 N G;have a8:=zh (a.boxKept G s (zQ (by decide)));have a2:=zh (a.boxKept G t (zQ (by decide)));have a3:=zh (a.boxKept G g (zQ (by decide)));have aQ:=zh (a.belowG G f f.size ao);have ac:=zh (D2 l G.size);have ad:Hid (OG eG w8 CC 0 3 v' (nI (fI ws (k+1)))):=zh (by rw[H,<-sQ];exact N);clear G N bh;go_wp2;go_roundw
   .exact⟨k+1,by omega,by go_num,ad,ac,a8,a2,a3,aQ⟩
   simp[intOf];omega
  have H:Hid (fI ws (k+1)=fI ws k):=zh (by rw[Q,D,DJ aE];simp);clear D hf;have M:=za t 1;go_wp2;go_roundw
  .exact⟨k+1,by omega,by go_num,by rw[H];have:=a.out;rw[E] at this;rw[E];exact this,l,s,t,g,f⟩
  simp[intOf];omega
 have⟨aw,bb⟩:=zgq hk av;subst bb;have P:=zh a.il;have aS:=zh (R k).2.1;have bc:=(R k).2.2;go_upto_region 10 with fail;have U:zL wr wr.drew:=ae _;refine dD (S:=λW=>Box W gV #[zV nm,zI zi wn,zI zi md,zI zi vl] 98) 5 (by kernel_rfl) (s.Q U) (λhS=> ?_);replace⟨P,s,g,f⟩:=zb4 P s g f U;clear U;generalize wr.drew=w4 at*;refine zup 0 (zP gV) rfl ?_;simp only[zp];refine zu 1 (zV nm) rfl (zQ ⟨by rfl,λW hW=>by have q0:=hW.A 0 _ rfl;go_simp⟩) ?_;refine zup 2 (zU Al ll cl) rfl ?_;simp only[zp];clear hS;have CR:=zh (O9 w4 (fI ws k) _ P (by omega) (λx hx=>by have:=(aS x hx).1;omega));refine eP 3 rfl ?_;go_wp2;refine CR.mono ?_;rintro e w5 ⟨vr,rfl,K,z⟩;have aV:=zh K.any;obtain⟨Ar,cr,rfl⟩:=K.slice;clear K;replace⟨s,g,f⟩:=zb3 s g f z;clear z;have CU:=zh (Ta w5 nm (fE (fI ws k)) _ aV af.1);generalize bg:kW nm (fE (fI ws k))=x at*;generalize(fE (fI ws k)).length=rl at*;clear bg;go_wp2;refine⟨λ_=>s, ?_⟩;refine eP 4 rfl ?_;go_wp2;refine CU.mono ?_;rintro e w6 ⟨A6,c6,he,aB,au,z⟩;have a9:e=zE (zX #[zI zi x.op,zI zi x.n,zV x.s,zU A6 (zN x.a) c6]):=he;subst a9;have aW:Hid (Rs (exR 20) w6 (zU A6 (zN x.a) c6) x.a (λb=>w.heap.size<=b/\b≠w.heap.size+1+1)):=zh (aB.mono λb h=>by
  have h1:=g.lt;have h2:w5.heap.size<=b:=h;omega);have aR:Hid (In (λb=>w.heap.size<=b/\b≠w.heap.size+1+1) (zU A6 (zN x.a) c6) (zN x.a)):=zh λhl q hq=>by
  have h1:=g.lt;have h2:w5.heap.size<=q:=au hl q hq;omega
 clear he aB au;replace⟨s,g,f⟩:=zb3 s g f z;clear z;go_wp2;refine⟨λ_=>s, ?_⟩;obtain⟨aj,ak,al,am⟩:=zc4 g;have an:=g.lt;have a4:=g.Z 0;have a5:=g.Z 1;have a6:=g.Z 2;have a7:=g.Z 3;refine bq 5 rfl ?_;go_wp2;refine dE (by kernel_rfl) ?_ _;go_wp2;refine D7 (v:=zX #[zI zi x.op,zI zi x.n,zV x.s,zU A6 (zN x.a) c6]) (by simp[results,results119,go_sem,aj,ak,al,am,an]) rfl ?_;exact oT (x:=x) (d:=20) (A:=A6) (c:=c6) f (by omega) aW aR _ _ _ _
section
variable {l:List Ex} {d g n:Nat} {w:World}
theorem lB:∀(vs:List Value) (o:Nat) (cs:Array Value),(dI cs o vs).size=cs.size
 |[],_,_=>rfl
 |v::r,o,cs=>by unfold dI;rw[lB r];simp
def km (w:World) (g d:Nat) (l:List Ex) (n:Nat):Prop:=∃cur:Array Value,Box w g cur 79/\cur.size=n*4/\∀j x,l[j]? =some x->∃us,(∀i,i<4->cur[j*4+i]? =us[i]?)/\(exR d).R w us x (λb=>b≠g)
def km.Q {w w':World} (h:km w g d l n) (a:zL w w'):km w' g d l n:=by obtain⟨cur,e,f,i⟩:=h;refine⟨cur,e.Q a,f,λj x o=> ?_⟩;have⟨us,k,m⟩:=i j x o;exact⟨us,k,(exR d).same m a.size λb c _=>a.block b c⟩
instance {w w':World} {g d n:Nat} {l:List Ex}:Zm w w' (km w g d l n) (km w' g d l n):=⟨λhb h=>km.Q h hb⟩
def km.lt (h:km w g d l n):g<w.heap.size:=by obtain⟨cur,a,b,c⟩:=h;exact a.lt
def km.rs (h:km w g d l n) (k:zN l<=n):Rs (exR d) w (zU (some ⟨g,0,none⟩) (zN l) n) l ah:=by obtain⟨cur,a,m,b⟩:=h;refine⟨_,n,rfl,k,λ_=>⟨g,0,rfl,a.lt,λj x f=> ?_⟩⟩;have⟨us,c,e⟩:=b j x f;refine⟨us,λi hi=> ?_,(exR d).mono e λ_ _=>trivial⟩;rw[dY] at hi;rw[a.cell,dY,DY];exact c i hi
def km.push {g d n q:Nat} {x:Ex} {us:List Value} (ty:TypeId) (h:km w g d l n) (H:zN l<n) (E:Box w q us.toArray 79) (r:(exR d).R w us x (λb=>b≠g)):∃w',(Builtin.append_ #[23,23] ty #[zU (some ⟨g,0,none⟩) (zN l) n,zU (some ⟨q,0,none⟩) 1 1]).run zz w= .ok (zU (some ⟨g,0,none⟩) (zN l+1) n) w'/\km w' g d (l++[x]) n/\w.grownBy w' (some g):=by
 obtain⟨cur,m,s,A⟩:=h;have⟨t,o,F,a,G⟩:=EX lf;have a:t.size=4:=a;have hk:zN us=4:=by have:=(exR d).len r;rw[dY] at this;exact this
 have f:=run_append_room_cells (P:=zz) (w:=w) 23 ty 79 t underlying23 o g 0 (zN l) n ⟨q,0,none⟩ 1 1 us (by rw[a,hk]) (λj u c=>by
  rw[cC,DY,E.cell,Ek];exact c) ((exR d).one r) (by omega) (λj c=>by
  rw[m.cell,Array.getElem?_eq_getElem (by rw[a];omega)];rfl) (λj c=>m.frozen _);rw[a,DY] at f;have k:=cM g us (zN l*4) w;have v:∀vs y,(exR d).R w vs y (λb=>b≠g)->(exR d).R (w.setCells g (zN l*4) us) vs y (λb=>b≠g):=λvs y h=>(exR d).same h k.size λb p D=>k.block b p λe=>D (Eu e);refine⟨_,f,⟨dI cur (zN l*4) us,fC us (zN l*4) w cur m,by rw[lB];exact s,λj y c=> ?_⟩,k⟩;by_cases e:j<zN l
 .rw[D6 e] at c;have⟨vs,B,C⟩:=A j y c;exact⟨vs,λi hi=>by rw[hO us _ _ _ (by omega)];exact B i hi,v vs y C⟩
 rw[DX (by omega)] at c;have z:j-zN l=0:=by have:=(D0.1 c).1;simp at this;omega
 rw[z] at c;obtain rfl:x=y:=by simpa using c
 obtain rfl:j=zN l:=by omega
 exact⟨us,λi hi=>kt us _ _ i (by rw[hk,s];omega) (by omega),v us x r⟩
def dQ (p:Pb):List Ex:=p.d.map (sB p)
def BA {p:Pb} {k:Nat} (h:k<zN p.d):(dQ p).take (k+1)=(dQ p).take k++[sB p (zG p.d k ds0)]:=by unfold dQ;rw[cI (d:=ex0) (by rw[DT];exact h)];congr 2;rw[DC,Ed,DC,DD h];rfl
def oK (n:Nat) (f:n<=100000) (W:World):(Instr.makeSlice 23 (zI zi 0) (zI zi (n:Int))).run zz W= .ok (zU (some ⟨W.heap.size,0,none⟩) 0 n) (W.alloc (zC (madeCells xA.cells (n*4)) 79)):=by have⟨i,e,b,c,d⟩:=EX lf;have a:=run_make (P:=zz) W 23 79 i xA underlying23 e b .i64 .i64 0 n (by omega) (by omega) (by rw[d];omega) (by omega);rw[c] at a;simp only[Eh] at a;exact a
def Xl (p:Pb) (w:World) (e:Ending) (w':World):Prop:=∃g,e=zE (zU (some ⟨g,0,none⟩) (zN p.d) (zN p.d))/\km w' g 21 (dQ p) (zN p.d)/\zL w w'
def BO {p:Pb} {A1 A2 A3 A4 A5:Option Addr} {c1 c2 c3 c4 c5:Nat} (hp:PIn w p A1 A2 A3 A4 A5 c1 c2 c3 c4 c5) (hs:PSm p) (hk:KW w) (hm:de w) (hv:PV p):Calls zz 69 #[pbV p A1 A2 A3 A4 A5 c1 c2 c3 c4 c5] w (Xl p w):=by
 have Z:=zh (evC hp hs hk hm hv);have CS:=zh λW l (j:Nat) (hj:j<zN p.d) (Aw:Option Addr) (cw:Nat) (hw:Rs wtR W (zU Aw (zG p.d j ds0).ws.length cw) (zG p.d j ds0).ws ah)=>wE (hp.Q l) hv j hj Aw cw hw;have B:=zh hp.d.dss;have E:=zh λk (h:k<zN p.d)=>BA h;have ad:Hid ((dQ p).take 0=[]):=zh rfl;have n:(dQ p).length=zN p.d:=by unfold dQ;rw[DT]
 have G:Hid (∀k,k<=zN p.d->((dQ p).take k).length=k):=zh λk h=>by rw[D3,n];omega
 have D:Hid ((dQ p).take (zN p.d)=dQ p):=zh (by rw[<-n,Et]);have l4:=hs.nd;unfold Xl;unfold EvC at Z;unfold pbV at Z CS⊢;have⟨r,R⟩:=zv (zN p.d);rw[<-R] at Z CS B E G D l4⊢;have⟨L,v⟩:=zv (madeCells xA.cells (r*4));have HZ:Hid (L.size=r*4):=zh (by rw[v,nB]);have MK:=oK r (by omega);rw[<-v] at MK;generalize zN p.v=n1,zN p.h=n2,zN p.s=n3,zN p.g=n5 at*;clear hp hs hk hm hv v n R;go_enter func69,ntmps69;go_upto_region 1 with fail;generalize s:w.alloc _=w1 at*;have⟨d,f⟩:=zB1 s;clear s;obtain⟨H,I,J,m,K⟩:=zc5 f;go_wp2;refine zK (Z w1 d) λw2 l=> ?_;replace⟨f,d⟩:=zb2 f d l;clear l;have an:=MK w2;have m:=za f 3;go_upto_region 4 with fail;have c:=ab w2 (zC L 79);have a:Hid (km (w2.alloc (zC L 79)) w2.heap.size 21 ((dQ p).take 0) r):=zh ⟨L,Box.new w2 _ _,HZ,λj x h=>by rw[ad] at h;simp at h⟩;have ag:w.heap.size<w2.heap.size:=f.lt;replace⟨f,d⟩:=zb2 f d c;clear c;generalize w2.alloc (zC L 79)=w3,w2.heap.size=gs at*;have m:=za f 3;go_wp2;go_loopw [3,16] (λsl i wr=>∃k:Nat,k<=r/\i=zI zi k/\sl=zU (some ⟨gs,0,none⟩) k r/\km wr gs 21 ((dQ p).take k) r/\Box wr w.heap.size #[zU A1 n1 c1,zU A2 n2 c2,zU A3 n3 c3,zU A4 r c4,zU A5 n5 c5] 27/\zL w wr) (λ_ i _=>r+1-(intOf i).toNat)
 .exact⟨0,DH _,rfl,rfl,a,f,d⟩
 obtain⟨k,hk,rfl,rfl,T,hx,l⟩:=hrel;have⟨a,f,d⟩:=zk3 T hx l;clear T hx l;by_cases g:k<r
 .have⟨Q,k0⟩:=zln g;obtain⟨A',c',e1, -,X⟩:=B;have⟨b,o,q,e2,y,y0,y1,A⟩:=X k g;simp only[DQ] at e1;obtain⟨rfl, -,rfl⟩:=e1;subst e2;obtain⟨Aq,cq,rfl, -⟩:=A.slice;have v0:=(d.cell y).trans y0;have v1:=(d.cell y).trans y1;have CD:=zh λW l=>CS W l k g Aq cq (A.Q l);have F:=zh (E k g);have P:=G k hk;generalize sB p (zG p.d k ds0)=x,(zG p.d k ds0).ws.length=ql,(zG p.d k ds0).var=qv at*;generalize M:(dQ p).take (k+1)=L2 at*;have ac:=zh M;clear M;generalize(dQ p).take k=L1 at*;clear X A y0 y1 y;go_upto_region 7 with fail;clear v0 v1;generalize s:wr.alloc _=w4 at*;have⟨c,XD⟩:=zA1 s;clear s;replace⟨f,a,d⟩:=zb3 f a d c;clear c;obtain⟨H,I,J,m,K⟩:=zc5 f;obtain⟨aj,ak⟩:=zc2 XD;go_wp2;refine(CD w4 d).mono ?_;rintro e w5 ⟨Y,c6,he,S,N,l⟩;have af:e=zE (zX #[zI zi x.op,zI zi x.n,zV x.s,zU Y (zN x.a) c6]):=he;subst af;have al:=a.lt;have U:(exR 21).R w5 [zI zi x.op,zI zi x.n,zV x.s,zU Y (zN x.a) c6] x (λb=>b≠gs):=⟨_,rfl,S.mono λb h=>by
   have h2:w4.heap.size<=b:=h;omega,λhl q hq=>by
   have h2:w4.heap.size<=q:=N hl q hq;omega⟩;clear he S N;replace⟨f,a,d⟩:=zb3 f a d l;clear l;have c:=ab w5 (zC #[zI zi x.op,zI zi x.n,zV x.s,zU Y (zN x.a) c6] 79);have V:=(exR 21).same U c.size (λb g _=>c.block b g);have XQ:=Box.new w5 79 #[zI zi x.op,zI zi x.n,zV x.s,zU Y (zN x.a) c6];replace⟨f,a,d⟩:=zb3 f a d c;clear c;have⟨w7,t,u,z⟩:=a.push 23 (by rw[P];exact g) XQ V;rw[P] at t;have am:=a.lt;have ae:=zh (aV f z (by omega));have aa:=zh (aN d d.size (Nat.le_of_lt ag) z);have C:Hid (km w7 gs 21 L2 r):=zh (by rw[F];exact u);clear U V u z;go_wp2_with(at_builtin;refine cR rfl _ _ 23 23 rfl _ _ rfl rfl t ?_);go_wp2;go_roundw
  .exact⟨k+1,by omega,by go_num,rfl,by rw[ac];exact C,ae,aa⟩
  simp[intOf];omega
 have⟨Q,ai⟩:=zgq hk g;subst ai;rw[D] at a;go_wp2;go_ret;exact⟨gs,rfl,a,d⟩
end
section
variable {l:List Ex} {P:Program} {dT sT ty:TypeId} {v:Value}
def bK (p:Pb):List Ex:=p.h++dQ p
def i8 (p:Pb):(bK p).length=zN p.h+zN p.d:=by unfold bK dQ;rw[DI,DT]
def gQ {p:Pb} (c:PSm p) (b:PV p):∀e∈bK p++p.s,jm (ai p.v) e:=λe a=>by
 rcases EK.1 a with a|a
 .rcases EK.1 a with a|a
  .exact Ph c b e (EU _ a)
  obtain⟨d,h,rfl⟩:=EJ.1 a;obtain⟨j,g,rfl⟩:=D9.1 h;have f:=(b.d j g).1;rw[DC,DD g] at f;exact(SU b c.nz f).ru (by omega) (by omega)
 exact Ph c b e (Fd _ a)
def pA {w:World} {d:Nat} {F:Nat->Prop} (z:Rs (exR d) w v l F):∃uss:List (List Value),zN uss=zN l/\(∀us∈uss,zN us=4)/\zN uss.flatten=zN l*4/\(∀j x,l[j]? =some x->(exR d).R w (zG uss j []) x F)/\(∀u∈uss.flatten,u.oneCell'=true)∧(0<zN l->∃b o c,v=zU (some ⟨b,o,none⟩) (zN l) c/\b<w.heap.size/\∀j u,uss.flatten[j]? =some u->w.cell? ⟨b,o+j,none⟩=some u):=by
 have⟨uss,k,f,q⟩:=z.rows;have hk:=dY d;have a:∀us∈uss,zN us=4:=λus p=>by obtain⟨j,g,rfl⟩:=D9.1 p;have:=(exR d).len (f j _ (DD (by omega)));rw[DC,DD g,hk] at this;exact this
 have i:zN uss.flatten=zN l*4:=by rw[jb a,k]
 refine⟨uss,k,a,i,f,λu p=> ?_,λy=> ?_⟩
 .have⟨us,h,m⟩:=List.mem_flatten.1 p;obtain⟨j,g,rfl⟩:=D9.1 h;have:=(exR d).one (f j _ (DD (by omega)));rw[DC,DD g] at this;exact this u m
 obtain⟨b,o,c,rfl,s,n⟩:=q y;refine⟨b,o,c,rfl,s,λj u g=> ?_⟩;have t:j<zN l*4:=by rw[<-i];exact(D0.1 g).1
 have h:=n (j/4) (j%4) (by omega) (by rw[hk];omega);have m:=ei a (j/4) (j%4) (by omega);have e:j/4*4+j%4=j:=by omega
 rw[e,g,DD (show j/4<zN uss by omega)] at m;rw[hk,DC,DD (show j/4<zN uss by omega)] at h;have r:o+j/4*4+j%4=o+j:=by omega
 rw[r] at h;rw[h,m];rfl
def Bb {w:World} {g d k N:Nat} {cur:Array Value} {F:Nat->Prop} {m:Option Addr} {r dc:Nat} (H:P.underlying dT=some (.slice 79)) (G:(P.info? 79).map (·.size)=some 4) (C:Box w g cur 79) (K:cur.size=N*4) (hk:k+l.length<=N) (t:l.length<=r) (I:0<l.length->m=some ⟨g,k*4,none⟩) (E:Rs (exR d) w v l F):∃(w':World) (uss:List (List Value)),(Builtin.copy_ #[dT,sT] ty #[.slice m r dc,v]).run P w= .ok (goInt l.length) w'/\w.grownBy w' (some g)/\uss.length=l.length/\(∀us∈uss,us.length=4)/\uss.flatten.length=l.length*4/\Box w' g (cur.toList.take (k*4)++uss.flatten++cur.toList.drop ((k+l.length)*4)).toArray 79/\∀j x,l[j]? =some x->(exR d).R w (uss.getD j []) x F:=by
 obtain⟨uss,p,f,a,q,n,B⟩:=pA E;by_cases D:l.length=0
 .obtain⟨A,c,rfl, -⟩:=E.slice;have z:uss=[]:=Ec (by omega);refine⟨w,uss, ?_,⟨rfl,rfl,rfl,DE _,λ_ _ _=>rfl⟩,p,f,a, ?_,q⟩
  .rw[D];exact pz w dT sT ty _ _ _ _ _ _ _ 4 H G (Nat.zero_min _)
  rw[z,D,Eb,List.flatten_nil,EN,List.take_append_drop];exact C
 obtain⟨b,o,c,rfl,L,s⟩:=B (by omega);rw[I (by omega)];have h:Nat.min l.length r=l.length:=Nat.min_eq_left t;have i:=qX (P:=P) w dT sT ty 79 g (k*4) r dc ⟨b,o,none⟩ l.length c 4 cur 79 uss.flatten H G C (by rw[h,a]) (λj u J=>by rw[cC];exact s j u J) (by rw[a,K];omega) n;rw[h,a,<-Nat.add_mul] at i;exact⟨_,uss,i,⟨rfl,rfl,rfl,by simp[World.setRow],λk _ y=>setRow_other w g k _ (λe=>y (by rw[e]))⟩,p,f,a,setRow_heap w g cur _ _ _ C,q⟩
def UL {w:World} {g d:Nat} {a:Array Value} {F:Nat->Prop} (p:P.underlying dT=some (.slice 79)) (o:(P.info? 79).map (·.size)=some 4) (q:Box w g a 79) (c:a.size=l.length*4) (n:Rs (exR d) w v l F):∃w',(Builtin.copy_ #[dT,sT] ty #[.slice (some ⟨g,0,none⟩) l.length l.length,v]).run P w= .ok (goInt l.length) w'/\w.grownBy w' (some g)/\∃uss:List (List Value),uss.length=l.length/\uss.flatten.length=l.length*4/\Box w' g uss.flatten.toArray 79/\∀j x,l[j]? =some x->(exR d).R w (uss.getD j []) x F:=by obtain⟨w',uss,e,f,h, -,i,b,m⟩:=Bb (k:=0) (dc:=l.length) (ty:=ty) p o q c (by omega) (DE _) (λ_=>by rw[Nat.zero_mul]) n;rw[Nat.zero_mul,El,List.nil_append,DY,List.drop_of_length_le (by rw[Array.length_toList,c];exact DE _),EN] at b;exact⟨w',e,f,uss,h,i,b,m⟩
def NdR (w:World) (p:Pb) (e:Ending) (w':World):Prop:=∃v C,e=zE v/\w.heap.size<=C/\C<=w'.heap.size/\OG (exB KE) w' C C 79 v (bK p)/\zL w w'
section
variable {w:World} {p:Pb} {A1 A2 A3 A4 A5:Option Addr} {c1 c2 c3 c4 c5:Nat}
def tU (hp:PIn w p A1 A2 A3 A4 A5 c1 c2 c3 c4 c5) (hs:PSm p) (hk:KW w) (hm:de w) (hv:PV p):Calls zz 34 #[pbV p A1 A2 A3 A4 A5 c1 c2 c3 c4 c5] w (NdR w p):=by
 have X:=zh fun(W:World) (n:zL w W)=>BO (hp.Q n) hs (hk.Q n) (hm.Q n) hv;have HH:=zh hp.h;have⟨i0,ak,_,al,_⟩:=EX lf;have K:(zz.info? 79).map (·.size)=some 4:=by rw[ak];simp[al]
 have Y:=zh fun(W:World) (g k N:Nat) (cur:Array Value) (v:Value) (l:List Ex) (az:Option Addr) (dl dc:Nat) (ty:TypeId) (hx:Box W g cur 79) (hz:cur.size=N*4) (hk:k+zN l<=N) (aA:zN l<=dl) (hd:0<zN l->az=some ⟨g,k*4,none⟩) (hr:Rs (exR KE) W v l (λb=>b<g))=>Bb (P:=zz) (dT:=23) (sT:=23) (ty:=ty) (dc:=dc) underlying23 K hx hz hk aA hd hr;have aD:=hs.nh;have aC:=hs.nd;have i:Hid ((dQ p).length=zN p.d):=zh (by unfold dQ;rw[DT]);have⟨H,Q⟩:=zv (madeCells xA.cells ((zN p.h+zN p.d)*4));have y:Hid (H.size=(zN p.h+zN p.d)*4):=zh (by rw[Q,nB]);have MK:=jP (zN p.h+zN p.d) (by omega);rw[<-Q] at MK;unfold NdR;unfold Xl at X;unfold pbV at X⊢;have⟨s,f⟩:=zvh (zN p.h);have⟨U,aa⟩:=zvh (zN p.d);rw[<-f] at X HH MK y aD⊢;rw[<-aa] at X MK y aC i⊢;generalize zN p.v=n1,zN p.s=n3,zN p.g=n5 at*;have Z:=zh MK;have⟨nn,E⟩:=zv (s+U);have d:Hid (((nn:Nat):Int)=(s:Int)+(U:Int)/\nn=s+U):=zh ⟨by omega,E⟩;rw[<-E] at Z y;clear hp hs hk hm hv Q ak al E K;go_enter func34,ntmps34;go_upto_region 1 with fail;generalize au:w.alloc _=w1 at*;have⟨u,z⟩:=zB1 au;clear au;obtain⟨aE,J,aF,aG,aH⟩:=zc5 z;go_wp2;refine(X w1 u).mono ?_;rintro e w2 ⟨gs,rfl,L,n⟩;have ac:=zh L;clear L;replace⟨z,u⟩:=zb2 z u n;clear n;have ay:=Z w2;rw[d.1] at ay;have J:=za z 1;go_upto_region 3 with fail;have o:=z.lt;have aJ:=zh (Nat.le_of_lt o);have aw:=zh (ac.rs (by rw[i];exact DE _));have aj:=ac.lt;have aI:=zh u;have XG:=zh (Box.new w2 79 H);have I:=ab w2 (zC H 79);have ax:Hid (Rs (exR 21) (w2.alloc (zC H 79)) (zU (some ⟨gs,0,none⟩) (dQ p).length U) (dQ p) (λb=>b<w2.heap.size)):=zh ((kx (nR 21) aw).Q I);have av:Hid (Rs (exR KE) (w2.alloc (zC H 79)) (zU A2 s c2) p.h (λb=>b<w2.heap.size)):=zh ((kx (nR KE) (HH.Q u)).Q I);replace⟨z,u⟩:=zb2 z u I;clear I;generalize w2.alloc (zC H 79)=w3,w2.heap.size=g at*;have⟨V,q,a,ah,an,B,af,ar,ap⟩:=Y w3 g 0 nn H (zU A2 s c2) p.h (some ⟨g,0,none⟩) nn nn 3 XG y (by rw[<-f];have:=d.2;omega) (by rw[<-f];have:=d.2;omega) (λ_=>by rw[Nat.zero_mul]) av;have t:=zh ah;have m:=zh (And.intro an (And.intro B (And.intro af ap)));have X4:=zh ar;clear ah an B af ar ap;rw[<-f] at a;have J:=za z 1;go_upto_region 4 with(at_builtin;refine eR rfl _ _ 23 23 rfl _ _ rfl rfl a ?_);clear a;replace z:=zh (aV z t (by omega));replace u:=zh (aN u u.size (Nat.le_of_lt o) t);have A:∀b,b<w3.heap.size->b<g->V.heap[b]? =w3.heap[b]? :=λb D n=>t.block b D (λe=>by have:=Eu e;omega);have aM:=XG.lt;have ad:Hid (Rs (exR 21) V (zU (some ⟨gs,0,none⟩) (dQ p).length U) (dQ p) (λb=>b<g)):=zh (ax.same t.size (λb n=>by
  simp only[Value.ownBlock,DN] at n;subst n;exact A _ (by omega) aj) A);have⟨cur,r⟩:=zv ((H.toList.take (0*4)++q.flatten++H.toList.drop ((0+zN p.h)*4)).toArray);rw[<-r] at X4;have R:cur.size=nn*4:=by
  have h1:=m.2.2.1;have h2:=y.out;have h3:=d.2;have h4:=f.out;rw[r];simp only[ED,DI,D3,ET,Array.length_toList,h1,h2];omega
 have ae:cur.toList.take (s*4)=q.flatten:=by have h1:=m.2.2.1;rw[r,Nat.zero_mul,El,List.nil_append,f,<-h1,List.take_left]
 have⟨w5,us2,a,ai,ao,C,ag,T,aq⟩:=Y V g s nn cur (zU (some ⟨gs,0,none⟩) (dQ p).length U) (dQ p) (if nn=s then some ⟨g,0,none⟩ else some ⟨g,s*4,none⟩) (nn-s) (nn-s) 3 X4 R (by rw[i];have:=d.2;omega) (by rw[i];have:=d.2;omega) (λh=>by rw[DK];rw[i] at h;have:=d.2;omega) (ad.exle (by decide));rw[ae,i,List.drop_of_length_le (by rw[Array.length_toList,R];have:=d.2;omega),EN,<-List.flatten_append] at T;rw[i] at a;have G:=zh ai;have M:=zh (And.intro ao (And.intro C (And.intro ag aq)));have X5:=zh T;have aK:=zn0 s;have aL:(s:Int)<=(nn:Int):=by have:=d.2;omega
 clear ai ao C ag T aq R ae r A;have F:=zh (aN u u.size (Nat.le_of_lt o) G);have c:Hid (g<=w5.heap.size/\OG (exB KE) w5 g g 79 (zU (some ⟨g,0,none⟩) nn nn) (bK p)):=zh (by
  have e4:(exB KE).k=4:=oF KE;have aB:(q++us2).length=(bK p).length:=by rw[i8,DI,m.1,M.1];unfold dQ;rw[DT]
  have E:(bK p).length=nn:=by rw[i8,<-f,<-aa];exact d.2.symm
  have S:(q++us2).flatten.length=nn*4:=by rw[List.flatten_append,DI,m.2.2.1,M.2.2.1,<-f,i];have:=d.2;omega
  refine⟨Nat.le_of_lt X5.lt,⟨by simp[exB],DE _⟩,q++us2,aB, ?_,λj x hj=> ?_⟩
  .rw[E,e4];exact⟨S,zO ⟨g,nn,(q++us2).flatten.toArray,rfl,DE _,X5,DE _,by have:=d.2;unfold maxLen;omega,by rw[ED,S],by show(q++us2).flatten.take (nn*4)=_;rw[<-S,Et]⟩⟩
  have am:∀b,b<V.heap.size->b<g->w5.heap[b]? =V.heap[b]? :=λb D n=>G.block b D (λe=>by have:=Eu e;omega);have A:∀b,b<w3.heap.size->b<g->V.heap[b]? =w3.heap[b]? :=λb D n=>t.block b D (λe=>by have:=Eu e;omega);unfold bK at hj;by_cases e:j<zN p.h
  .rw[D6 e] at hj;rw[DC,D6 (by rw[m.1];exact e),<-DC];exact(exR KE).mono ((exR KE).same ((exR KE).same (m.2.2.2 j x hj) t.size A) G.size am) λb n=>zQ n
  rw[DX (by omega)] at hj;rw[DC,DX (by rw[m.1];omega),m.1,<-DC];exact(exR KE).mono ((exR KE).same (M.2.2.2 _ x hj) G.size am) λb n=>zQ n);have x1:=za z 1;by_cases hq:nn=s
 .rw[DP hq] at a;subst hq;rw[EB] at a;go_wp2_with(at_builtin;refine eR rfl _ _ 23 23 rfl _ _ rfl rfl a ?_);go_wp2;go_ret;first|exact⟨_,rfl,g,Nat.le_of_lt o,c.1,c.2,F⟩|exact⟨_,g,rfl,Nat.le_of_lt o,c.1,c.2,F⟩
 rw[DK hq] at a;go_wp2_with(at_builtin;refine eR rfl _ _ 23 23 rfl _ _ rfl rfl a ?_);go_wp2;go_ret;first|exact⟨_,rfl,g,Nat.le_of_lt o,c.1,c.2,F⟩|exact⟨_,g,rfl,Nat.le_of_lt o,c.1,c.2,F⟩
end
end
def Bu (c:Array Value) (k:Nat):(Builtin.zeroCells c k).size=k*c.size:=by simp[Builtin.zeroCells]
theorem ki {W:World} {d C:Nat} {A:Option Addr} {c:Nat} {Y:Value} {l:List Ex} {a:Ex} (ty:TypeId) (hC:C<=W.heap.size) (hr:Rs (exB d) W (zU A (zN l) c) l (Ty W C [])) (hs:Rs (exB d) W Y [a] (Ty W C [])) (hl:zN l<=100000):
  ∃v W',(Builtin.append_ #[23,23] ty #[zU A (zN l) (zN l),Y]).run zz W= .ok v W'/\OG (exB d) W' W.heap.size C 79 v (l++[a])/\zL W W':=by
 have⟨D,R,U,V,X⟩:=EX lf;have⟨f,n,ac,m,G,ae,F⟩:=pA (jr hr);have⟨us2,H,af,p,J,I,i⟩:=pA (jr hs);obtain⟨b2,o2,c2,rfl,ag,i⟩:=i (by simp);have hk:=dY d;have B:D.size=4:=V;have L:D.bytes=56:=X;have z:Src zz D.size 23 (zU (some ⟨b2,o2,none⟩) 1 c2) 1 us2.flatten W:=by rw[B];exact Src.ofSlice W underlying23 _ _ c2 _ (by rw[p];rfl) (λj u g=>by rw[cC];exact i j u g) I
 have w:(Builtin.firstCells D.size (zN l) (zU A (zN l) (zN l))).run zz W.drew= .ok f.flatten.toArray W.drew:=by
  rw[B];by_cases h0:zN l=0
  .have T:f=[]:=Ec (by omega);rw[h0,T];cases A with
   |none=>exact run_firstCells_none W.drew 4 0 0 0
   |some ad=>exact run_firstCells_some W.drew 4 0 ad 0 0 [] rfl λj v g=>by simp at g
  have⟨b,o,c',e1,hb,M⟩:=F (by omega);simp only[DQ,true_and] at e1;rw[e1.1];refine run_firstCells_some W.drew 4 (zN l) ⟨b,o,none⟩ _ _ _ m λj v g=> ?_;rw[cC,World.cell?_drew];exact M j v g
 have y:=run_append_grow_src W 23 23 ty 79 D _ underlying23 R U A (zN l) (zN l) f.flatten w _ 1 us2.flatten z (by omega) (by omega) (by rw[L];have:=nextslicecap_le (need:=zN l+1) (old:=zN l) (by omega);omega);refine⟨_,_,y, ?_, ?_⟩
 .have K:(Builtin.zeroCells (Value.agg #[zI zi 0,zI zi 0,zV ⟨#[]⟩,zU none 0 0]).cells (grownCap W (zN l+1) (zN l) 79-(zN l+1))).size=(grownCap W (zN l+1) (zN l) 79-(zN l+1))*4:=Bu _ _;generalize hZ:Builtin.zeroCells _ _=Z at*;have N:grownCap W (zN l+1) (zN l) 79<=maxLen:=grownCap_le_maxLen W _ _ _ (by unfold maxLen;omega);generalize t:grownCap W (zN l+1) (zN l) 79=cap at*;have Q:zN l+1<=cap:=t▸grownCap_ge W _ _ _;have r:zL W (W.drew.alloc (zC ((f.flatten++us2.flatten).toArray++Z) 79)):=aa (w1:=W.drew) ⟨rfl,rfl,rfl,DE _,λ_ _=>rfl⟩ (ab W.drew _);have s:Box (W.drew.alloc (zC ((f.flatten++us2.flatten).toArray++Z) 79)) W.heap.size ((f.flatten++us2.flatten).toArray++Z) 79:=Box.new W.drew _ _;have P:zN us2.flatten=4:=p;have q:zN us2=1:=H;have k:(f.flatten++us2.flatten).length=(zN l+1)*4:=by rw[DI,m,P];omega
  refine⟨⟨by simp[exB],hC⟩,f++us2,by rw[DI,n,q,DI];rfl, ?_,λj x g=> ?_⟩
  .rw[oF,List.flatten_append,DI];refine⟨by rw[k];rfl,zO ⟨W.heap.size,cap,_,rfl,DE _,s,Q,N, ?_, ?_⟩⟩
   .rw[Array.size_append,ED,k,K];omega
   rw[Array.toList_append,List.take_append_of_le_length (by show(zN l+1)*4<=(f.flatten++us2.flatten).length;omega)];show(f.flatten++us2.flatten).take ((zN l+1)*4)=_;rw[<-k,Et]
  have E:∀us,(exB d).R W us x (Ty W C (exB d).ts)->(exB d).R (W.drew.alloc (zC ((f.flatten++us2.flatten).toArray++Z) 79)) us x (Ty _ C (exB d).ts):=λus h=>kz (φ:=exB d) h r.size λb S _=>r.block b S;by_cases e:j<zN l
  .rw[D6 e] at g;rw[DC,D6 (by omega),<-DC];exact E _ (G j x g)
  rw[DX (by omega)] at g;rw[DC,DX (by omega),<-DC,n];exact E _ (J _ x g)
 exact aa (w1:=W.drew) ⟨rfl,rfl,rfl,DE _,λ_ _=>rfl⟩ (ab W.drew _)
def kpT (p:Pb):Nat->List Ex×List Nat
 |0=>(bK p,[])
 |k+1=>
  let s:=kpT p k
  let i:=zN p.s-(k+1)
  if cJ p (s.1++[zG p.s i ex0]) then(s.1++[zG p.s i ex0],s.2++[i]) else s
theorem xi (p:Pb):∀k,k<=zN p.s->(∀e∈(kpT p k).1,e∈bK p++p.s)/\(kpT p k).1.length<=(bK p).length+k/\(∀i∈(kpT p k).2,i<zN p.s)/\(kpT p k).2.length<=k
 |0,_=>⟨λe b=>EU _ b,DE _,(λi hi=>(by simp[kpT] at hi)),DE _⟩
 |k+1,hk=>by
  have⟨c,f,d,g⟩:=xi p k (by omega);have hi:zN p.s-(k+1)<zN p.s:=by omega
  unfold kpT;simp only;split
  .refine⟨λe b=> ?_,by simp;omega,λi a=> ?_,by simp;omega⟩
   .rcases EK.1 b with b|b
    .exact c e b
    simp only[DS,DZ,EC] at b;rw[b];exact Fd _ (getD_in ex0 hi)
   rcases EK.1 a with a|a
   .exact d i a
   simp only[DS,DZ,EC] at a;omega
  exact⟨c,by omega,d,by omega⟩
section
variable {L:List Nat} {k:Nat} {W:World}
def rvP (L:List Nat) (k:Nat):List Int:=List.replicate (zN L-k) 0++nI (L.take k).reverse
def VS (h:k<zN L):(rvP L k).set (zN L-1-k) (zG L k 0:Nat)=rvP L (k+1):=by
 unfold rvP;have e:zN L-k=(zN L-(k+1))+1:=by omega
 rw[e,List.replicate_succ',Eg,cI (d:=0) h,List.reverse_append];have a:(List.replicate (zN L-(k+1)) (0:Int)).length=zN L-1-k:=by rw[Es];omega
 rw[Fy _ _ (by omega),a,EB];rfl
def VT (h:k<=zN L):(rvP L k).length=zN L:=by unfold rvP;rw[DI,Es,aF,List.length_reverse,D3];omega
def pS {B b:Nat} (h:Ty W B [] b):b<B:=by
 rcases h with h|⟨_,_,_,_,h⟩
 .exact h
 cases h
def KpR (w:World) (p:Pb) (e:Ending) (w':World):Prop:=zL w w'/\((cJ p (bK p)=false/\e=zE (zY #[zU none 0 0,zI zi 11]))\/(cJ p (bK p)=true/\∃v,e=zE (zY #[v,zI zi 0])/\IL w' v (nI (kpT p (zN p.s)).2.reverse)))
def SKp (g:Nat) (a us:Array Value) (b o:Nat) (W:World):Prop:=Box W g a 27/\(W.cell? ⟨b,o,none⟩=us[0]? ∧W.cell? ⟨b,o+1,none⟩=us[1]? ∧W.cell? ⟨b,o+2,none⟩=us[2]? ∧W.cell? ⟨b,o+3,none⟩=us[3]?)
def SKp.Q {g:Nat} {d us:Array Value} {b o:Nat} {W W':World} (h:SKp g d us b o W) (c:b<W.heap.size) (a:zL W W'):SKp g d us b o W':=⟨h.1.Q a,(a.cell c).trans h.2.1,(a.cell c).trans h.2.2.1,(a.cell c).trans h.2.2.2.1,(a.cell c).trans h.2.2.2.2⟩
def VG {w:World} {p:Pb} {A1 A2 A3 A4 A5:Option Addr} {c1 c2 c3 c4 c5:Nat} (hp:PIn w p A1 A2 A3 A4 A5 c1 c2 c3 c4 c5) (hs:PSm p) (hk:KW w) (hm:de w) (hv:PV p) (a1:fa (bE p.v)<=18) (hn:zN p.h+zN p.d+zN p.s<=1000):Calls zz 33 #[pbV p A1 A2 A3 A4 A5 c1 c2 c3 c4 c5] w (KpR w p):=by
 have bL:=zh (gQ hs hv);have CE:=zh (evC hp hs hk hm hv);have CN:=zh fun(W:World) (d:zL w W)=>tU (hp.Q d) hs (hk.Q d) (hm.Q d) hv;have CS:=zh fun(W:World) (d:zL w W) (l:List Ex) (Al:Option Addr) (cl:Nat) (hr:Rs (exR KE) W (zU Al (zN l) cl) l ah) (hl:zN l<=1000) (b0:∀e∈l,e∈bK p++p.s)=>pr (hp.Q d) hs (hk.Q d) (hm.Q d) hv a1 l Al cl hr hl λe he=>bL e (b0 e he);have aX:=zh hp.s;have aL:=zh (xi p);have aK:Hid (kpT p 0=(bK p,[])):=zh rfl;have aN:Hid (∀k,kpT p (k+1)=if cJ p ((kpT p k).1++[zG p.s (zN p.s-(k+1)) ex0]) then((kpT p k).1++[zG p.s (zN p.s-(k+1)) ex0],(kpT p k).2++[zN p.s-(k+1)]) else kpT p k):=zh λk=>rfl;have⟨i0,hi,bq,br,bs⟩:=EX jZ;have⟨HI,bP,bQ,bR⟩:=zk4 hi bq br bs;have aO:Hid ((bK p).length+zN p.s<=1000):=zh (by rw[i8];exact hn);unfold KpR;unfold EvC at CE;unfold pbV at CE CN CS⊢;have⟨n2,bh⟩:=zv (zN p.h);have⟨n3,al⟩:=zvh (zN p.s);have⟨m2,ak⟩:=zvh ((bK p).length);rw[<-ak,<-al] at aO;rw[<-bh] at CE CN CS⊢;rw[<-al] at CE CN CS aX aL aN⊢;generalize zN p.v=n1,zN p.d=n4,zN p.g=n5 at*;have cb:=aO.out;clear hp hs hk hm hv a1 hn bh hi bq br bs;generalize kpT p=KT at*;go_enter func33,ntmps33;go_upto_region 1 with fail;generalize ai:w.alloc _=w1 at*;have⟨f,n⟩:=zB1 ai;clear ai;obtain⟨R,S,I,U,V⟩:=zc5 n;go_wp2;refine zK (CE w1 f) λw2 d=> ?_;replace⟨n,f⟩:=zb2 n f d;clear d;obtain⟨R,S,I,U,V⟩:=zc5 n;go_wp2;have bx:=zh f.size;refine(CN w2 f).mono ?_;rintro e w3 ⟨v,CC,rfl,a2,E,M,d⟩;replace⟨n,f⟩:=zb2 n f d;clear d;have s:=zh M;obtain⟨Ar,cr,rfl⟩:=M.slice;have bT:w.heap.size<=CC:=D2 bx a2;clear M a2;have aE:=CS w3 f (bK p) Ar cr (jr s.any) (by rw[<-ak];omega) (λe he=>EU _ he);rw[<-ak] at aE s⊢;obtain⟨R,S,I,U,V⟩:=zc5 n;go_wp2;refine zK aE λw4 d=> ?_;have au:=D2 E d.size;replace⟨s,n,f⟩:=zb3 s n f d;clear d;generalize bm:cJ p (bK p)=sb at*;have aW:=zh bm;clear bm;cases sb
 .go_wp2;go_ret2;exact⟨f,zQ ⟨aW,by trivial⟩⟩
 have bD:=zh (OG.nil eG w4 CC 0 3 (by decide) (DH _));have I:=za n 2;go_wp2;have aT:Hid (OG (exB KE) w4 CC CC 79 (zU Ar m2 cr) (KT 0).1):=zh (by rw[aK];exact s);have aP:Hid (OG eG w4 CC 0 3 (zU none 0 0) (nI (KT 0).2)):=zh (by rw[aK];exact bD);have aH:=zh au;clear au;go_loopw [4,5,6] (λrv lv i wr=>∃k:Nat,k<=n3/\i=zI zi ((n3:Int)-k-1)/\OG (exB KE) wr CC CC 79 rv (KT k).1/\CC<=wr.heap.size/\OG eG wr CC 0 3 lv (nI (KT k).2)/\Box wr w.heap.size #[zU A1 n1 c1,zU A2 n2 c2,zU A3 n3 c3,zU A4 n4 c4,zU A5 n5 c5] 27/\zL w wr) (λ_ _ i _=>(intOf i+1).toNat)
 .exact⟨0,DH _,by go_num,aT,aH,aP,n,f⟩
 obtain⟨k,hk,rfl,bk,a5,M,hx,d⟩:=hrel;have⟨n,f,s,am⟩:=zk4 hx d bk M;clear hx d bk M;obtain⟨A,c,rfl,Z⟩:=s.rs.slice;obtain⟨A6,c6,rfl⟩:=am.slice;rw[aF] at am⊢;have⟨be,az,bX,bd⟩:=aL k hk;rw[<-ak] at az;have aM:=zh be;clear be bX;by_cases aA:k<n3
 .have⟨j,hj⟩:=zv (n3-(k+1));have bb:((n3:Int)-(k:Int)-1)=(j:Int):=by omega
  rw[bb];have j0:=zn0 j;have j1:(j:Int)<(n3:Int):=by omega
  have bc:j<n3:=by omega
  have aw:=zh (aN k);rw[<-hj] at aw;obtain⟨A',c',e1,_,bo⟩:=(jr (iJ aX f)).exs;have⟨b,o,u,d',e2,X,a9,y,bl,av⟩:=bo j (by rw[<-al];exact bc);obtain rfl:=zas e1 e2;obtain rfl:d'=29:=by unfold KE at a9;omega
  have aC:Rs (exR 29) wr u (zG p.s j ex0).a (λb=>b<w.heap.size):=bl.mono λb d=>pS d;have aJ:Hid (In (λb=>b<w.heap.size) u (zG p.s j ex0).a.length):=zh λh b d=>pS (av h b d);have ba:zG p.s j ex0∈bK p++p.s:=Fd _ (getD_in ex0 (by rw[<-al];exact bc));have bB:=zh ba;have v0:=y 0 _ rfl;have v1:=y 1 _ rfl;have v2:=y 2 _ rfl;have v3:=y 3 _ rfl;rw[Eb] at v0;have K:=X;generalize zG p.s j ex0=a at*;obtain⟨Ap,cp,rfl, -⟩:=aC.slice;have bN:=zh aC;have aY:Hid (SKp w.heap.size #[zU A1 n1 c1,zU A2 n2 c2,zU (some ⟨b,o,none⟩) n3 c3,zU A4 n4 c4,zU A5 n5 c5] #[zI zi a.op,zI zi a.n,zV a.s,zU Ap (zN a.a) cp] b (o+j*4) wr):=zh ⟨n,v0,v1,v2,v3⟩;have⟨m,HM⟩:=zvh ((KT k).1.length);rw[<-HM] at az s Z⊢;have HJ:=zh hj;clear v0 v1 v2 v3 e1 e2 bo y bl aC ba av X a9 hj bb;go_wp2;have b7:=zh (f.size);refine zhd (SKp w.heap.size #[zU A1 n1 c1,zU A2 n2 c2,zU (some ⟨b,o,none⟩) n3 c3,zU A4 n4 c4,zU A5 n5 c5] #[zI zi a.op,zI zi a.n,zV a.s,zU Ap (zN a.a) cp] b (o+j*4)) aY (λhS=> ?_);have D:=ae (w0:=wr) (wr.drawn+1);have aZ:Hid (SKp w.heap.size #[zU A1 n1 c1,zU A2 n2 c2,zU (some ⟨b,o,none⟩) n3 c3,zU A4 n4 c4,zU A5 n5 c5] #[zI zi a.op,zI zi a.n,zV a.s,zU Ap (zN a.a) cp] b (o+j*4) wr.drew):=zh (aY.Q K D);have b9:Hid (Box wr.drew _ _ _):=zh (n.Q D);have bt:Hid (Below _ _ wr.drew):=zh (aa f D);have aU:Hid (OG (exB KE) wr.drew _ _ _ _ _):=zh (s.Q D);have aQ:Hid (OG eG wr.drew _ _ _ _ _):=zh (am.Q D);have aV:Hid (Rs (exR 29) wr.drew _ _ _):=zh (bN.Q D);have Y:b<wr.drew.heap.size:=DU K D.size;have a6:CC<=wr.drew.heap.size:=D2 a5 D.size;clear D K a5;generalize wr.drew=w4 at*;refine zta 0 (zU A m c) rfl ?_;refine zta 1 (zU A m c) rfl ?_;refine zta 2 (zI zi m) rfl ?_;refine zta 3 (zU A m c) rfl ?_;refine zta 4 (zI zi m) rfl ?_;refine zta 5 (zU A m m) rfl ?_;refine zta 6 (.pointer (some ⟨w.heap.size,2,none⟩)) rfl ?_;simp only[zp];refine zt 7 (zU (some ⟨b,o,none⟩) n3 c3) rfl (zQ ⟨by rfl,λW hW=>by have q:=hW.1.A 2 _ rfl;go_simp⟩) ?_;refine zta 8 (zI zi j) rfl ?_;refine zta 9 (.pointer (some ⟨b,o+j*4,none⟩)) rfl ?_;simp only[zp];refine zt 10 (zX #[zI zi a.op,zI zi a.n,zV a.s,zU Ap (zN a.a) cp]) rfl (zQ ⟨by rfl,λW hW=>by have q0:W.cell? ⟨b,o+j*4,none⟩=some (zI zi a.op):=hW.2.1;have q1:W.cell? ⟨b,o+j*4+1,none⟩=some (zI zi a.n):=hW.2.2.1;have q2:W.cell? ⟨b,o+j*4+2,none⟩=some (zV a.s):=hW.2.2.2.1;have q3:W.cell? ⟨b,o+j*4+3,none⟩=some (zU Ap (zN a.a) cp):=hW.2.2.2.2;go_simp⟩) ?_;simp only[zp];clear hS;refine ay 11 rfl ?_;go_wp2;have t:=ab w4 (zC #[zI zi a.op,zI zi a.n,zV a.s,zU Ap (zN a.a) cp] 79);have ax:=zh (Rs.one (φ:=exB KE) (w:=w4) (F:=λb=>b<w.heap.size) (x:=a) (us:=[zI zi a.op,zI zi a.n,zV a.s,zU Ap (zN a.a) cp]) ⟨_,rfl,aV,aJ⟩ 79);have aq:=zh (aZ.Q Y t);have bu:=zh (aa bt t);have ap:=zh (aU.Q t);have aR:=zh (aQ.Q t);have ar:=DU Y t.size;have E:=D2 a6 t.size;clear t Y;generalize w4.alloc (zC #[zI zi a.op,zI zi a.n,zV a.s,zU Ap (zN a.a) cp] 79)=w5,w4.heap.size=g4 at*;refine⟨rfl,aq, ?_⟩;refine ay 12 rfl ?_;have bg:Rs (exB KE) w5 (zU A (KT k).1.length c) (KT k).1 (Ty w5 CC []):=by rw[<-HM];exact ap.rs
  have⟨v',w6,ag,aB,J⟩:=ki 23 E bg (ax.mono λb d=>zQ (by omega)) (by rw[<-HM];omega);rw[<-HM] at ag;refine cR rfl _ _ 23 23 rfl _ _ rfl rfl ag ?_;have Q:=zh (aq.Q ar J);have G:=zh (yR aB E (DE _));have a7:=D2 E J.size;have P:=zh (ap.Q J);have g:=zh (aR.Q J);have bv:=zh (aa bu J);obtain⟨A9,c9,rfl⟩:=aB.slice;clear bg ag aB J ar;refine(show noQ _ _ _ _ from⟨rfl,Q, ?_⟩);simp only[zp];refine ay 13 rfl ?_;go_wp2;refine⟨rfl,Q,zdn ?_⟩;have n:=zh Q.1;have f:=zh bv;have aG:=CS w6 f ((KT k).1++[a]) A9 c9 (jr G.any) (by rw[DI,<-HM];simp;omega) (λe he=>by
   rcases EK.1 he with he|he
   .exact aM e he
   simp only[DS,DZ,EC] at he;rw[he];exact bB);have H:((KT k).1++[a]).length=m+1:=by rw[DI,<-HM];rfl
  have b5:=zh H;rw[H] at aG G;rw[<-HM];clear H;generalize bn:cJ p ((KT k).1++[a])=sv at*;have b6:=zh bn;clear bn;obtain⟨R,S,I,U,V⟩:=zc5 n;go_wp2;refine zK aG λw7 d=> ?_;replace⟨G,P,g⟩:=zb3 G P g d;have ac:=D2 a7 d.size;replace⟨n,f⟩:=zb2 n f d;clear d;cases sv
  .have N:Hid (KT (k+1)=KT k):=zh (by rw[aw];simp);go_wp2;go_roundw
   .exact⟨k+1,by omega,by have:=HJ.out;go_num,by rw[N];exact P,ac,by rw[N];exact g,n,f⟩
   have:=HJ.out;simp[intOf]
  have N:Hid (KT (k+1)=((KT k).1++[a],(KT k).2++[j])):=zh (by rw[aw];simp);have⟨tl,z⟩:=zv ((KT k).2.length);have a0:=zh z;rw[<-z] at g bd⊢;clear z;have K:=ab w7 (zC #[zI zi j] 3);have ax:=zh (Rs.one (φ:=eG) (w:=w7) (F:=Ty (w7.alloc (zC #[zI zi j] 3)) 0 eG.ts) (x:=(j:Int)) (us:=[zI zi j]) rfl 3);replace⟨g,n,G,f⟩:=zb4 g n G f K;clear K;go_wp2_with(at_builtin;refine aD (φ:=eG) (T:=3) (B:=CC) (C:=0) (xs:=nI (KT k).2) (ys:=[(j:Int)]) rfl _ _ 32 rfl i0 (zI zi 0) 8 underlying32 HI bP bQ bR rfl rfl g (zU (some ⟨w7.heap.size,0,none⟩) 1 1) rfl ax ?c1 ?c2 ?c3 ?_);case c1=>simp only[DF,D8];rw[aF,<-a0];omega
  case c2=>simp only[DF,D8];rw[aF,<-a0];unfold maxLen;omega
  case c3=>exact D2 ac (ab w7 _).size
  intro v' w8 af ad;have bS:=zh (g.boxKept ad n (zQ (by decide)));have bG:=zh (G.growO g ad (by decide) (by simp[exB]) (DE _));have bw:=zh (g.belowG ad f f.size bT);have a8:=D2 ac (D2 (ab w7 (zC #[zI zi j] 3)).size ad.size);have aS:Hid (OG eG w8 CC 0 3 v' (nI (KT (k+1)).2)):=zh (by rw[N,<-sQ];exact af);have bH:Hid (OG (exB KE) w8 CC CC 79 (zU A9 (m+1) c9) (KT (k+1)).1):=zh (by rw[N];exact bG);obtain⟨b4,ca,rfl⟩:=af.slice;generalize(nI (KT k).2++[(j:Int)]).length=tl2 at*;clear ad af;go_wp2;go_roundw
  .exact⟨k+1,by omega,by have:=HJ.out;go_num,bH,a8,aS,bS,bw⟩
  simp[intOf]
 have bY:=zeq hk aA;have b1:((n3:Int)-(k:Int)-1)= -1:=by omega
 rw[b1];subst bY;have bA:=zh am.il;have b2:(KT k).2.length<=1000:=by omega
 have bU:=zh n.lt;clear Z az;generalize a3:(KT k).2=L at*;have bC:=zh a3;clear a3;have⟨tl,z⟩:=zv (zN L);have bO:=zh z;have bF:Hid (rvP L 0=List.replicate tl 0):=zh (by unfold rvP;rw[z];simp[nI]);have bM:Hid (∀q,q<tl->(rvP L q).set (tl-1-q) (zG L q 0:Nat)=rvP L (q+1)):=zh λq hq=>by rw[z] at hq⊢;exact VS hq
 have bI:Hid (∀q,q<=tl->(rvP L q).length=tl):=zh λq hq=>by rw[z] at hq⊢;exact VT hq
 have bJ:Hid (rvP L tl=nI L.reverse):=zh (by unfold rvP;rw[z,EB,Et];rfl);have bz:Hid (∀q,q<tl->∃b o,A6=some ⟨b,o,none⟩/\b<wr.heap.size/\wr.cell? ⟨b,o+q,none⟩=some (zI zi (zG L q 0:Nat))):=zh λq hq=>by
  rcases bA.form with⟨A,c,h1,h2⟩|⟨b,o,c,h1, -, -,aA,h2⟩
  .have h3:=Ev List.length h2;rw[aF] at h3;have h4:zN L=0:=h3;omega
  have h3:=h2 q (by rw[aF];omega);rw[dV] at h3;simp only[DQ] at h1;exact⟨b,o,h1.1,aA,h3⟩
 rw[<-z] at bd⊢;have MK:=iN tl (by omega);rw[oV,<-bF] at MK;have b8:=MK wr;clear z b2;have k1:¬((-1:Int)≥0):=by decide
 go_upto_region 15 with fail;generalize ai:wr.alloc _=w5 at*;have⟨an,XO⟩:=zA1 ai;clear ai;replace n:=zb n an;have aj:=zh an;have bV:=f.size;replace f:=zb f an;clear an;have bW:=n.lt;have bZ:w.heap.size<wr.heap.size:=bU;have⟨gr,aI⟩:=zvh (wr.heap.size);rw[<-aI] at bZ XO bV⊢;clear bW;go_wp2;go_loopw [54] (λi wq=>∃q:Nat,q<=tl/\i=zI zi q/\Box wq gr (iA (rvP L q)) 3/\zL wr wq/\zL w wq) (λi _=>tl-(intOf i).toNat)
 .exact⟨0,DH _,rfl,XO,aj,f⟩
 obtain⟨q,hq,rfl,bp,a4,d⟩:=hrel;have⟨XO,aj,f⟩:=zk3 bp a4 d;clear bp a4 d;by_cases ao:q<tl
 .have⟨bj,q0⟩:=zln ao;obtain⟨b,o,rfl,X,Z⟩:=bz q ao;have y0:=(aj.cell X).trans Z;have⟨r,hr⟩:=zv (tl-1-q);have cc:((tl:Int)-1-(q:Int))=(r:Int):=by omega
  have cd:(r:Int)<(tl:Int):=by omega
  have r0:=zn0 r;have b3:r<tl:=by omega
  have s:=zh (bM q ao);rw[<-hr] at s;have bf:=bI q hq;have x0:=XO.A r _ (eH (by rw[bf];exact b3));have x1:=XO.frozen r;have x2:=XO.lt;generalize zG L q 0=lv,(rvP L q).getD r 0=ov at*;clear Z X hr bf;go_wp2;go_roundw
  .refine⟨q+1,by omega,by go_num, ?_,aj.setCell (p:=⟨gr,r,none⟩) (by show _<=gr;rw[aI];exact DE _) _,f.setCell (p:=⟨gr,r,none⟩) (by show w.heap.size<=gr;omega) _⟩;have:=XO.set_ r (zI zi lv);rw[iP,s] at this;exact this
  simp[intOf];omega
 have⟨bj,bi⟩:=zgq hq ao;rw[bi,bJ] at XO;clear bi;go_wp2;go_ret2;exact⟨f,zO ⟨aW,_,by trivial,by rw[bC];exact lI XO tl (by rw[aF,List.length_reverse,bO])⟩⟩
end
section
variable {l:List Ex} {us':List Value} {a d g k:Nat} {w:World}
def iz (w:World) (g d:Nat) (l:List Ex) (k a:Nat):Prop:=∃uss:List (List Value),zN uss=zN l/\(∀us∈uss,zN us=4)/\zN uss.flatten=zN l*4/\(∃Z:Array Value,Box w g (uss.flatten.toArray++Z) 79)/\∀j x,l[j]? =some x->(exR d).R w (zG uss j []) x (λb=>b≠g/\(j<k->a<=b))
def iz.Q {w w':World} {g d k B0:Nat} (h:iz w g d l k B0) (a:zL w w'):iz w' g d l k B0:=by obtain⟨uss,e,f,i,⟨Z,m⟩,n⟩:=h;exact⟨uss,e,f,i,⟨Z,m.Q a⟩,λj x o=>(exR d).same (n j x o) a.size λb c _=>a.block b c⟩
instance {w w':World} {g d k B0:Nat} {l:List Ex}:Zm w w' (iz w g d l k B0) (iz w' g d l k B0):=⟨λhb h=>iz.Q h hb⟩
theorem iz.A {w:World} {g d k q:Nat} {l:List Ex} (h:iz w g d l k q) {j:Nat} (y:j<zN l):∃f A c,d=f+1/\(∀i u,(exL (zU A (zG l j ex0).a.length c) (zG l j ex0))[i]? =some u->w.cell? ⟨g,j*4+i,none⟩=some u)/\Rs (exR f) w (zU A (zG l j ex0).a.length c) (zG l j ex0).a ah:=by
 obtain⟨uss,z,r,s,⟨Z,t⟩,x⟩:=h;have e:l[j]? =some (zG l j ex0):=by rw[DC,DD y];rfl
 have n:=x j _ e;cases d with
 |zero=>exact n.elim
 |succ f=>
  obtain⟨v,a,o,hi⟩:=n;obtain⟨A,c,rfl, -⟩:=o.slice;refine⟨f,A,c,rfl,λi u p=> ?_,o.mono λ_ _=>trivial⟩;have m:i<4:=by have:=(D0.1 p).1;simpa [exL] using this
  rw[t.cell,Array.getElem?_append_left (by rw[ED,s];omega),Ek,ei r j i m,DD (show j<zN uss by omega)];rw[DC,DD (show j<zN uss by omega)] at a;have b:uss[j]=exL (zU A (zG l j ex0).a.length c) (zG l j ex0):=a;show uss[j][i]? =some u;rw[b];exact p
def iz.lt (h:iz w g d l k a):g<w.heap.size:=by obtain⟨uss,c,e,f,⟨Z,b⟩,i⟩:=h;exact b.lt
def iz.froz (h:iz w g d l k a) (i:Nat):w.frozen? ⟨g,i,none⟩=false:=by obtain⟨uss,c,e,f,⟨Z,b⟩,j⟩:=h;exact b.frozen i
theorem pu:∀(vs:List Value) (o:Nat) (cs Z:Array Value),o+zN vs<=cs.size->dI (cs++Z) o vs=dI cs o vs++Z
 |[],_,_,_,_=>rfl
 |v::r,o,cs,Z,h=>by unfold dI;simp only[DF] at h;rw[Array.setIfInBounds_append_left (by omega),pu r (o+1) _ Z (by simp;omega)]
def ZZ {uss:List (List Value)} (c:∀us∈uss,zN us=4) (b:zN us'=4) (hk:k<zN uss):(uss.set k us').flatten.toArray=dI uss.flatten.toArray (k*4) us':=by
 have d:∀us∈uss.set k us',zN us=4:=λus m=>by
  rcases List.mem_or_eq_of_mem_set m with h|h
  .exact c us h
  rw[h];exact b
 have l:zN uss.flatten=zN uss*4:=jb c;refine Array.ext_getElem? λi=> ?_;have e:i/4*4+i%4=i:=by omega
 have f:=ei d (i/4) (i%4) (by omega);have g:=ei c (i/4) (i%4) (by omega);rw[e] at f g;rw[Ek,f];by_cases hi:i/4=k
 .have j:i=k*4+i%4:=by omega
  have a:=kt us' (k*4) uss.flatten.toArray (i%4) (by rw[b,ED,l];omega) (by rw[b];omega);rw[<-j] at a;rw[a,hi,EL hk];rfl
 rw[hO us' (k*4) _ i (by rw[b];omega),Ek,g,EP (FA hi)]
def iz.store {g d k m B1:Nat} (h:iz w g d l k m) (hk:k<zN l) (o:zN us'=4) (z:(exR d).R w us' (zG l k ex0) (λb=>B1<=b)) (C:m<=B1) (D:g<B1):iz (w.setCells g (k*4) us') g d l (k+1) m:=by
 obtain⟨uss,u,q,r,⟨Z,v⟩,y⟩:=h;have i:=cM g us' (k*4) w;have s:=ZZ q o (show k<zN uss by omega);have a:∀b,b<w.heap.size->b≠g->(w.setCells g (k*4) us').heap[b]? =w.heap[b]? :=λb c p=>i.block b c λe=>p (Eu e);refine⟨uss.set k us',by rw[Er,u],λus A=> ?_, ?_, ?_,λj x t=> ?_⟩
 .rcases List.mem_or_eq_of_mem_set A with h|h
  .exact q us h
  rw[h];exact o
 .have:=Ev Array.size s;rw[lB,ED,ED,r] at this;exact this
 .refine⟨Z, ?_⟩;rw[s,<-pu us' (k*4) _ Z (by rw[o,ED,r];omega)];exact fC _ _ _ _ v
 by_cases e:j=k
 .subst e;have B:x=zG l j ex0:=by rw[DC,t];rfl
  rw[DC,EL (by omega),B];exact(exR d).mono ((exR d).same z i.size λb c f=>a b c (by have n:B1<=b:=f;omega)) λb f=>by have n:B1<=b:=f;exact⟨by omega,λ_=>by omega⟩
 rw[DC,EP (FA e),<-DC];exact(exR d).mono ((exR d).same (y j x t) i.size λb c f=>a b c f.1) λb f=>⟨f.1,λh=>f.2 (by omega)⟩
def iz.rs {g d e c:Nat} (h:iz w g d l (zN l) e) (p:zN l<=c):Rs (exR d) w (zU (some ⟨g,0,none⟩) (zN l) c) l (λb=>e<=b):=by obtain⟨uss,r,k,m,⟨Z,f⟩,n⟩:=h;refine⟨_,_,rfl,p,λ_=>⟨g,0,rfl,f.lt,λj x a=>⟨zG uss j [],λi hi=> ?_,(exR d).mono (n j x a) λb o=>o.2 (D0.1 a).1⟩⟩⟩;have q:=(D0.1 a).1;rw[dY] at hi⊢;rw[f.cell,DY,Array.getElem?_append_left (by rw[ED,m];omega),Ek,ei k j i hi,DD (show j<zN uss by omega),DC,DD (show j<zN uss by omega)];rfl
def B8 {e y:Ex} (h:y∈e.a):(ax k y).length<=(ax (k+1) e).length:=by have e1:ax (k+1) e=e::e.a.flatMap (ax k):=rfl;rw[e1,DF];have:(ax k y).length<=(e.a.flatMap (ax k)).length:=(List.sublist_flatten_of_mem (EJ.2 ⟨y,h,rfl⟩):(ax k y).Sublist (e.a.map (ax k)).flatten).length_le;omega
theorem PD {w:World} {F:Nat->Prop} {d:Nat} {v:Value} {e:Ex} (h:Rs (exR d) w v e.a F):zN e.a<=(ax (d+1) e).length:=by
 cases d with
 |zero=>
  obtain⟨A,c, -, -,h⟩:=h;by_cases g:0<zN e.a
  .obtain⟨b,o, -, -,h⟩:=h g;obtain⟨us, -,h⟩:=h 0 _ (DD g);exact h.elim
  omega
 |succ d=>
  have e1:ax (d+1+1) e=e::e.a.flatMap (ax (d+1)):=rfl;rw[e1,DF];have f:∀l:List Ex,zN l<=(l.flatMap (ax (d+1))).length:=by
   intro l;induction l with
   |nil=>simp
   |cons a r ih=>
    rw[EM,DI,DF];have:1<=(ax (d+1) a).length:=by have i:ax (d+1) a=a::a.a.flatMap (ax d):=rfl;rw[i,DF];omega
    omega
  have:=f e.a;omega
def CpR (w:World) (d:Nat) (x:Ex) (e:Ending) (w':World):Prop:=∃A c,e=zE (exV x (zU A (zN x.a) c))/\Rs (exR d) w' (zU A (zN x.a) c) x.a (λb=>w.heap.size<=b)/\In (λb=>w.heap.size<=b) (zU A (zN x.a) c) (zN x.a)/\zL w w'
theorem Pc (d:Nat):∀(w:World) (x:Ex) (A:Option Addr) (c:Nat),Rs (exR d) w (zU A (zN x.a) c) x.a ah->(ax (d+1) x).length<=1000→
  Calls zz 35 #[exV x (zU A (zN x.a) c)] w (CpR w d x):=by
 induction d using Nat.strongRecOn with
 |ind d ih=>
 intro w x A c hr B;have aK:zN x.a<=1000:=D2 (PD hr) B;have⟨ZC,M⟩:=zv (madeCells xA.cells (zN x.a*4));have ac:Hid (ZC.size=zN x.a*4):=zh (by rw[M,nB]);have MK:=jP (zN x.a) (by omega);rw[<-M] at MK;have⟨Y,HR⟩:=zk2 MK hr;have⟨i0,aj,_,ak,_⟩:=EX lf;have J:(zz.info? 79).map (·.size)=some 4:=by rw[aj];simp[ak]
 have X:=zh fun(W:World) (g:Nat) (ZC:Array Value) (ty:TypeId) (hx:Box W g ZC 79) (hz:ZC.size=zN x.a*4) (a:zL w W)=>UL (P:=zz) (dT:=23) (sT:=23) (ty:=ty) underlying23 J hx hz ((kx (nR d) hr).Q a);have⟨aB,aD⟩:=zk2 ih B;unfold exV CpR;unfold exV;have⟨n,E⟩:=zvh (zN x.a);rw[<-E] at ac Y HR X aK⊢;clear hr B ih M aj ak J;generalize x.op=xo,x.n=xn,x.s=xm at*;go_enter func35,ntmps35;go_upto_region 1 with fail;generalize C:w.alloc _=zw1 at*;generalize az:zw1.alloc _=w1 at*;have⟨t,r,D⟩:=zB2 C az;clear C az;have aP:=Y w1;have ad:=za r 3;go_upto_region 2 with fail;have aM:=t.size;have aR:=D.lt;generalize C:w1.alloc _=w3 at*;have⟨ae,XG⟩:=zA1 C;clear C;replace⟨r,D,t⟩:=zb3 r D t ae;clear ae;generalize w1.heap.size=g at*;have⟨w4,K,s,uss,ar,ag,au,N⟩:=X w3 g ZC 3 XG ac t;have ad:=za r 3;go_upto_region 3 with(at_builtin;refine eR rfl _ _ 23 23 rfl _ _ rfl rfl K ?_);clear K;have f:Hid (iz w4 g d x.a 0 (w.heap.size+2)):=zh ⟨uss,by rw[ar,E],λus hu=>by obtain⟨j,hj,rfl⟩:=D9.1 hu;have aQ:=E.out;have:=(exR d).len (N j _ (DD (by omega)));rw[DC,DD hj,dY] at this;exact this,by rw[ag,E],⟨#[],by rw[Array.append_empty];exact au⟩,λj y hj=>(exR d).mono ((exR d).same (N j y hj) s.size λb m a=>s.block b m λe=>by have e2:b=g:=Eu e;have G:b<w.heap.size:=a;omega) λb a=>⟨by have G:b<w.heap.size:=a;omega,λh=>by omega⟩⟩;replace r:=zh (aV r s (by omega));replace D:=zh (aV D s (by omega));replace t:=zh (aN t t.size aM s);clear s ar ag au N;go_wp2;go_loopw [15] (λi wr=>∃k:Nat,k<=n/\i=zI zi k/\iz wr g d x.a k (w.heap.size+2)/\Box wr w.heap.size #[zI zi xo,zI zi xn,zV xm,zU A n c] 79/\Box wr (w.heap.size+1) #[zI zi 0,zI zi 0,zV ⟨#[]⟩,zU none 0 0] 79/\zL w wr) (λi _=>n-(intOf i).toNat)
 .exact⟨0,DH _,rfl,f,r,D,t⟩
 obtain⟨k,hk,rfl,af,av,aw,a⟩:=hrel;have⟨f,r,D,t⟩:=zk4 af av aw a;clear af av aw a;by_cases m:k<n
 .have⟨an,k0⟩:=zln m;have⟨d',Ac,cc,aL,l,ap⟩:=f.A (j:=k) (by rw[<-E];exact m);subst aL;have v0:=l 0 _ rfl;have v1:=l 1 _ rfl;have v2:=l 2 _ rfl;have v3:=l 3 _ rfl;rw[Eb] at v0;have H:=zh (aB d' (by omega) wr (zG x.a k ex0) Ac cc ap ?hpre);case hpre=>exact D2 (B8 (getD_in ex0 (by rw[<-E];exact m))) aD
  unfold exV at H;unfold CpR at H;unfold exV at H;generalize ay:zG x.a k ex0=y at*;have aG:=zh ay;clear ay;have⟨yo,T⟩:=zv (y.op);have⟨yn,S⟩:=zv (y.n);have⟨ym,R⟩:=zv (y.s);have⟨yl,Q⟩:=zv (zN y.a);have HY:=zh (And.intro T (And.intro S (And.intro R Q)));rw[<-T] at H v0;rw[<-S] at H v1;rw[<-R] at H v2;rw[<-Q] at H v3;clear T S R Q l ap;go_wp2;refine H.mono ?_;rintro e w5 ⟨An,cn,rfl,ao,al,a⟩;have aS:=(a.cell f.lt).trans v0;have aT:=(a.cell f.lt).trans v1;have aU:=(a.cell f.lt).trans v2;have aW:=(a.cell f.lt).trans v3;have ai:=DU f.lt a.size;have z0:=(f.Q a).froz (k*4);have z1:=(f.Q a).froz (k*4+1);have z2:=(f.Q a).froz (k*4+2);have z3:=(f.Q a).froz (k*4+3);have⟨u,aE,aC⟩:=zk3 a ao al;clear v0 v1 v2 v3 a ao al;go_wp2;have aO:g<wr.heap.size:=f.lt;have aq:=(f.Q u).store (k:=k) (by rw[<-E];exact m) (us':=[zI zi yo,zI zi yn,zV ym,zU An yl cn]) rfl (B1:=wr.heap.size) (by rw[aG];exact⟨zU An yl cn,by unfold exL;rw[<-HY.1,<-HY.2.1,<-HY.2.2.1],aE,by rw[<-HY.2.2.2];exact aC⟩) (by have:=D.lt;omega) aO;have o:=cM g [zI zi yo,zI zi yn,zV ym,zU An yl cn] (k*4) w5;have aH:=zh (aV (r.Q u) o (by omega));have aI:=zh (aV (D.Q u) o (by omega));have aA:=zh (aN (aa t u) (aa t u).size (by omega) o);have aF:=zh aq;clear aq o;go_roundw
  .exact⟨k+1,by omega,by go_num,aF,aH,aI,aA⟩
  simp[intOf];omega
 have⟨an,am⟩:=zgq hk m;have Z:Hid (Rs (exR d) wr (zU (some ⟨g,0,none⟩) n n) x.a (λb=>w.heap.size+2<=b)):=zh (by have h:=f.out;rw[am,E] at h;rw[E];exact h.rs (DE _));clear am;have z3:=r.Z 3;have x3:=za r 3;have xl:=r.lt;have ai:=Z.form;go_upto_region 9 with fail;have F:=zh (r.set_ 3 (zU (some ⟨g,0,none⟩) n n));have q:=zh (D.setNe ⟨w.heap.size,3,none⟩ (zU (some ⟨g,0,none⟩) n n) (by show w.heap.size≠w.heap.size+1;omega));have U:=zh (t.setCell (p:=⟨w.heap.size,3,none⟩) (DE _) (zU (some ⟨g,0,none⟩) n n));have L:(wr.setCell ⟨w.heap.size,3,none⟩ (zU (some ⟨g,0,none⟩) n n)).heap.size=wr.heap.size:=by simp[World.setCell]
 have ab:=zh (iV (w':=wr.setCell ⟨w.heap.size,3,none⟩ (zU (some ⟨g,0,none⟩) n n)) Z (Nat.le_of_eq L.symm) (λ_ b _ a=>Eo wr ⟨w.heap.size,3,none⟩ _ b (by
  have e:g=b:=Eu a;show b≠w.heap.size;omega)) (λb _ a=>Eo wr ⟨w.heap.size,3,none⟩ _ b (by
  have G:w.heap.size+2<=b:=a;show b≠w.heap.size;omega)));clear x3 z3 xl ai L;generalize wr.setCell ⟨w.heap.size,3,none⟩ (zU (some ⟨g,0,none⟩) n n)=w6 at*;have y0:w6.cell? ⟨w.heap.size,0,none⟩=some (zI zi xo):=F.A 0 _ rfl;have y1:w6.cell? ⟨w.heap.size,1,none⟩=some (zI zi xn):=F.A 1 _ rfl;have y2:w6.cell? ⟨w.heap.size,2,none⟩=some (zV xm):=F.A 2 _ rfl;have y3:w6.cell? ⟨w.heap.size,3,none⟩=some (zU (some ⟨g,0,none⟩) n n):=F.A 3 _ rfl;obtain⟨r0,r1,r2,r3⟩:=zc4 q;have q0:=q.Z 0;have q1:=q.Z 1;have q2:=q.Z 2;have q3:=q.Z 3;have ql:=q.lt;go_wp2;clear y0 y1 y2 y3 r0 r1 r2 r3 q0 q1 q2 q3 ql;have z:=zh (fC [zI zi xo,zI zi xn,zV xm,zU (some ⟨g,0,none⟩) n n] 0 w6 _ q);have o:=cM (w.heap.size+1) [zI zi xo,zI zi xn,zV xm,zU (some ⟨g,0,none⟩) n n] 0 w6;have I:=zh (iV ab o.size (λ_ b m a=>o.block b m (λe=>by
  have e1:g=b:=Eu a;have e2:b=w.heap.size+1:=Eu e;omega)) (λb m a=>o.block b m (λe=>by
  have G:w.heap.size+2<=b:=a;have e2:b=w.heap.size+1:=Eu e;omega)));have V:=zh (aN U U.size (Nat.le_succ _) o);change Hid (Box ((((w6.setCell ⟨w.heap.size+1,0,none⟩ (zI zi xo)).setCell ⟨w.heap.size+1,1,none⟩ (zI zi xn)).setCell ⟨w.heap.size+1,2,none⟩ (zV xm)).setCell ⟨w.heap.size+1,3,none⟩ (zU (some ⟨g,0,none⟩) n n)) (w.heap.size+1) #[zI zi xo,zI zi xn,zV xm,zU (some ⟨g,0,none⟩) n n] 79) at z;change Hid (Rs (exR d) ((((w6.setCell ⟨w.heap.size+1,0,none⟩ (zI zi xo)).setCell ⟨w.heap.size+1,1,none⟩ (zI zi xn)).setCell ⟨w.heap.size+1,2,none⟩ (zV xm)).setCell ⟨w.heap.size+1,3,none⟩ (zU (some ⟨g,0,none⟩) n n)) _ _ _) at I;change Hid (zL w ((((w6.setCell ⟨w.heap.size+1,0,none⟩ (zI zi xo)).setCell ⟨w.heap.size+1,1,none⟩ (zI zi xn)).setCell ⟨w.heap.size+1,2,none⟩ (zV xm)).setCell ⟨w.heap.size+1,3,none⟩ (zU (some ⟨g,0,none⟩) n n))) at V;generalize(((w6.setCell ⟨w.heap.size+1,0,none⟩ (zI zi xo)).setCell ⟨w.heap.size+1,1,none⟩ (zI zi xn)).setCell ⟨w.heap.size+1,2,none⟩ (zV xm)).setCell ⟨w.heap.size+1,3,none⟩ (zU (some ⟨g,0,none⟩) n n)=w7 at*;have c0:w7.cell? ⟨w.heap.size+1,0,none⟩=some (zI zi xo):=z.A 0 _ rfl;have aJ:w7.cell? ⟨w.heap.size+1,1,none⟩=some (zI zi xn):=z.A 1 _ rfl;have c2:w7.cell? ⟨w.heap.size+1,2,none⟩=some (zV xm):=z.A 2 _ rfl;have c3:w7.cell? ⟨w.heap.size+1,3,none⟩=some (zU (some ⟨g,0,none⟩) n n):=z.A 3 _ rfl;refine D7 (v:=zX #[zI zi xo,zI zi xn,zV xm,zU (some ⟨g,0,none⟩) n n]) (by simp[results,results35,go_sem,c0,aJ,c2,c3]) rfl ?_;exact⟨some ⟨g,0,none⟩,n,rfl,I.mono λb a=>by(have G:w.heap.size+2<=b:=a);show w.heap.size<=b;omega,λ_ b a=>by(have e1:g=b:=Eu a);show w.heap.size<=b;omega,V⟩
end
section
variable (p:Pb) {l:List Ex} {w:World}
def pZ (p:Pb):List Nat:=(kpT p (zN p.s)).2.reverse
def aI (p:Pb):List Ex:=bK p++(pZ p).map λi=>zG p.s i ex0
def uK:(∀i∈pZ p,i<zN p.s)/\(pZ p).length<=zN p.s:=by obtain⟨-, -,a,b⟩:=xi p (zN p.s) (DE _);unfold pZ;exact⟨λi hi=>a i (List.mem_reverse.1 hi),by rw[List.length_reverse];exact b⟩
def ew:(∀e∈aI p,e∈bK p++p.s)/\(aI p).length<=(bK p).length+zN p.s:=by
 have⟨b,c⟩:=uK p;unfold aI;refine⟨λe a=> ?_,by rw[DI,DT];omega⟩;rcases EK.1 a with a|a
 .exact EU _ a
 obtain⟨i,hi,rfl⟩:=EJ.1 a;exact Fd _ (getD_in ex0 (b i hi))
def Uv {B d:Nat} {v:Value} (h:OG (exB d) w B B 79 v l):zN l=0\/∃g c,v=zU (some ⟨g,0,none⟩) (zN l) c/\zN l<=c/\B<=g/\iz w g d l 0 0:=by
 obtain⟨-,uss,o,m,p⟩:=h;rw[oF] at m;rcases m.2 with⟨-,q⟩|⟨g,cap,cur,rfl,r,a,k,t,u,n⟩
 .exact zQ q
 have f:zN uss.flatten=zN l*4:=m.1;refine zO ⟨g,cap,rfl,k,r,uss,o,λus y=> ?_,f,⟨(cur.toList.drop (zN l*4)).toArray, ?_⟩,λj x i=>(exR d).mono (p j x i) λb s=>⟨by have:=pS s;omega,λh=>by omega⟩⟩
 .obtain⟨j,i,rfl⟩:=D9.1 y;have:=(exR d).len (p j _ (DD (by omega)));rw[DC,DD i,dY] at this;exact this
 have e:uss.flatten.toArray++(cur.toList.drop (zN l*4)).toArray=cur:=by rw[<-n];apply Array.toList_inj.1;simp
 rw[e];exact a
def iz.up {g d k a:Nat} (h:iz w g d l k a):iz w g d l k 0:=by obtain⟨uss,c,e,f,i,m⟩:=h;exact⟨uss,c,e,f,i,λj x o=>(exR d).mono (m j x o) λb n=>⟨n.1,λ_=>DH _⟩⟩
def RlR (w:World) (p:Pb) (e:Ending) (w':World):Prop:=zL w w'/\((cJ p (bK p)=false/\e=zE (zY #[zU none 0 0,zI zi 11]))\/(cJ p (bK p)=true/\∃v,e=zE (zY #[v,zI zi 0])/\Rs (exR KE) w' v (aI p) ah))
def yx {p:Pb} {A1 A2 A3 A4 A5:Option Addr} {c1 c2 c3 c4 c5:Nat} (hp:PIn w p A1 A2 A3 A4 A5 c1 c2 c3 c4 c5) (hs:PSm p) (hk:KW w) (hm:de w) (hv:PV p) (aM:fa (bE p.v)<=18) (hn:zN p.h+zN p.d+zN p.s<=1000):Calls zz 9 #[pbV p A1 A2 A3 A4 A5 c1 c2 c3 c4 c5] w (RlR w p):=by
 have CK:=zh fun(W:World) (l:zL w W)=>VG (hp.Q l) hs (hk.Q l) (hm.Q l) hv aM hn;have CN:=zh fun(W:World) (l:zL w W)=>tU (hp.Q l) hs (hk.Q l) (hm.Q l) hv;have aG:=zh hp.s;have am:=zh (uK p);have bn:Hid (∀e∈bK p++p.s,(ax KE e).length<=1000/\Deep KE e):=zh λe he=>⟨(gQ hs hv e he).len,(gQ hs hv e he).deep⟩;have aC:=zh (ew p);have⟨i0,hi,be,bf,bg⟩:=EX lf;have⟨HI,bC,bD,bF⟩:=zk4 hi be bf bg;have bt:Hid (aI p=bK p++(pZ p).map λi=>zG p.s i ex0):=zh rfl;have bm:Hid ((kpT p (zN p.s)).2.reverse=pZ p):=zh rfl;unfold RlR;unfold KpR at CK;rw[bm] at CK;unfold NdR at CN;unfold pbV at CK CN⊢;have⟨n2,a2⟩:=zv (zN p.h);have⟨n3,S⟩:=zvh (zN p.s);have⟨m2,an⟩:=zvh ((bK p).length);have bT:m2+n3<=1000:=by rw[an,S,i8];exact hn
 rw[<-a2] at CK CN⊢;rw[<-S] at CK CN aG am⊢;generalize zN p.v=n1,zN p.d=n4,zN p.g=n5 at*;clear hp hs hk hm hv aM hn a2 hi be bf bg;generalize pZ p=K at*;have⟨m,HM⟩:=zvh (zN K);have bS:m<=n3:=by rw[HM];exact am.2
 have⟨X,hX⟩:=zv (λk=>bK p++(K.take k).map λi=>zG p.s i ex0:Nat->List Ex);have bw:Hid (X 0=bK p):=zh (by rw[hX];simp);have bA:Hid (∀k,k<m->X (k+1)=X k++[zG p.s (zG K k 0) ex0]):=zh λk hk=>by rw[hX];simp only;rw[cI (d:=0) (show k<zN K by rw[<-HM];exact hk),Fl,<-Eg];rfl
 have bx:Hid (∀k,(X k).length<=1000):=zh λk=>by rw[hX];simp only;have:=HM.out;rw[DI,DT,D3,<-an];omega
 have bz:Hid (X m=aI p):=zh (by rw[hX,bt];simp only;rw[En (by rw[<-HM];exact DE _)]);clear hX;go_enter func9,ntmps9;go_upto_region 1 with fail;generalize bh:w.alloc _=w1 at*;have⟨s,P⟩:=zB1 bh;clear bh;obtain⟨aH,aJ,ae,aK,aL⟩:=zc5 P;go_wp2;refine(CK w1 s).mono ?_;rintro e w2 ⟨l,bN⟩;replace⟨P,s⟩:=zb2 P s l;clear l;rcases bN with⟨V,rfl⟩|⟨V,v,rfl,aX⟩
 .have H1:=zh V;clear V;go_wp2;go_ret2;exact⟨s,zQ ⟨H1,by trivial⟩⟩
 have⟨H1,az⟩:=zk2 V aX;obtain⟨Ak,ck,rfl, -, -⟩:=aX;rw[aF,<-HM] at az⊢;clear V;obtain⟨aH,aJ,ae,aK,aL⟩:=zc5 P;go_wp2;have ba:=s.size;refine(CN w2 s).mono ?_;rintro e w3 ⟨v,z,rfl,aO,aP,M,l⟩;have ao:Hid (w.heap.size<=z):=zh (D2 ba aO);have⟨Q,ak⟩:=zk2 l aP;clear ba aP;replace⟨P,s⟩:=zb2 P s l;clear l;have aB:Hid (OG (exB KE) w3 z z 79 v (X 0)):=zh (by rw[bw];exact M);clear M;go_wp2;go_loopw [6,22] (λov i wr=>∃k:Nat,k<=m/\i=zI zi k/\OG (exB KE) wr z z 79 ov (X k)/\z<=wr.heap.size/\zL w2 wr/\Box wr w.heap.size #[zU A1 n1 c1,zU A2 n2 c2,zU A3 n3 c3,zU A4 n4 c4,zU A5 n5 c5] 27/\zL w wr) (λ_ i _=>m-(intOf i).toNat)
 .exact⟨0,DH _,rfl,aB,ak,Q,P,s⟩
 obtain⟨k,hk,rfl,M,aS,aQ,hx,l⟩:=hrel;have⟨ak,E,Q,P,s⟩:=zk5 aS M aQ hx l;clear M aS aQ hx l;obtain⟨Ao,co,rfl⟩:=E.slice;by_cases L:k<m
 .have⟨a1,k0⟩:=zln L;obtain⟨bk,ok,ek,aR,yk⟩:∃b o,Ak=some ⟨b,o,none⟩/\b<w2.heap.size/\w2.cell? ⟨b,o+k,none⟩=some (zI zi (zG K k 0:Nat)):=by
   rcases az.form with⟨A,c,V,h2⟩|⟨b,o,c,V, -, -,a0,h2⟩
   .have h3:=Ev List.length h2;rw[aF] at h3;have h4:zN K=0:=h3;have:=HM.out;omega
   have h3:=h2 k (by rw[aF,<-HM];exact L);rw[dV] at h3;simp only[DQ] at V;exact⟨b,o,V.1,a0,h3⟩
  subst ek;have y0:=(Q.cell aR).trans yk;have bM:zG K k 0<n3:=am.1 _ (getD_in 0 (by rw[<-HM];exact L));have bv:=zh (bA k L);obtain⟨A',c',e1,_,bb⟩:=(jr (iJ aG s)).exs;have⟨b,o,u,d',e2,bI,aT,f,a7,af⟩:=bb (zG K k 0) (by rw[<-S];exact bM);obtain rfl:=zas e1 e2;obtain rfl:d'=29:=by unfold KE at aT;omega
  have a8:=zh (a7.mono λb l=>pS l);have aA:Hid (In (λb=>b<w.heap.size) u (zG p.s (zG K k 0) ex0).a.length):=zh λh b l=>pS (af h b l);have v0:=f 0 _ rfl;have v1:=f 1 _ rfl;have v2:=f 2 _ rfl;have v3:=f 3 _ rfl;rw[Eb] at v0;generalize zG p.s (zG K k 0) ex0=a at*;obtain⟨Ap,cp,rfl, -⟩:=a8.slice;have bc:=bx k;have⟨ol,U⟩:=zvh ((X k).length);have bP:ol<=1000:=by rw[U];exact bc
  rw[<-U] at E⊢;generalize zG K k 0=j at*;have j0:=zn0 j;have j1:(j:Int)<(n3:Int):=by omega
  clear e1 e2 bb f a7 af bI aT aR yk bc;have ae:=za P 2;go_upto_region 8 with fail;clear y0;have H:=ab wr (zC #[zI zi a.op,zI zi a.n,zV a.s,zU Ap (zN a.a) cp] 79);have bo:=zh (Rs.one (φ:=exB KE) (w:=wr) (F:=λb=>b<w.heap.size) (x:=a) (us:=[zI zi a.op,zI zi a.n,zV a.s,zU Ap (zN a.a) cp]) ⟨_,rfl,a8,aA⟩ 79);have D:=zh (E.Q H);have bG:=zh (P.Q H);have aw:=zh (aa s H);have Z:=zh (aa Q H);have ac:=zh (D2 ak H.size);have bp:=zh (bo.mono (G:=Ty (wr.alloc (zC #[zI zi a.op,zI zi a.n,zV a.s,zU Ap (zN a.a) cp] 79)) z (exB KE).ts) λb l=>zQ (DU l ao));clear H;go_wp2_with(at_builtin;refine aD (φ:=exB KE) (T:=79) (B:=z) (C:=z) (xs:=X k) (ys:=[a]) rfl _ _ 23 rfl i0 (zX #[zI zi 0,zI zi 0,zV ⟨#[]⟩,zU none 0 0]) 56 underlying23 HI bC (by rw[oF];exact bD) bF (by rw[oF];rfl) rfl D (zU (some ⟨wr.heap.size,0,none⟩) 1 1) rfl bp ?c1 ?c2 ?c3 ?_);case c1=>simp only[DF,D8];rw[<-U];omega
  case c2=>simp only[DF,D8];rw[<-U];unfold maxLen;omega
  case c3=>exact ac
  intro v' w7 ai J;have bH:=zh (D.boxKept J bG (zQ (by decide)));have bj:=zh (D.belowG J aw aw.size ao);have av:=zh (D.belowG J Z Z.size aO);have ay:=zh (D2 ac J.size);have ad:Hid (OG (exB KE) w7 z z 79 v' (X (k+1))):=zh (by rw[bv];exact ai);obtain⟨A7,c7,rfl⟩:=ad.slice;clear ai;generalize(X (k+1)).length=ol2 at*;clear J v0 v1 v2 v3;go_wp2;go_roundw
  .exact⟨k+1,by omega,by go_num,ad,ay,av,bH,bj⟩
  simp[intOf];omega
 have⟨a1,aZ⟩:=zgq hk L;rw[aZ] at E⊢;have al:=zh (Uv E);have aE:=zh E.any;rw[bz] at al aE⊢;have⟨r,t⟩:=zvh ((aI p).length);have bQ:r<=1000:=by rw[t];have e1:=aC.2;have e2:=an.out;have e3:=S.out;omega
 rw[<-t] at al aE⊢;clear aZ;have R:Hid (r=0\/∃g c,Value.slice Ao r co=zU (some ⟨g,0,none⟩) r c/\r<=c/\z<=g/\iz wr g KE (aI p) 0 0):=zh al;have bq:Hid (r=0->(aI p)=[]):=zh λh=>Ec (by rw[<-t];exact h);go_wp2;go_loopw [37] (λi wq=>∃q:Nat,q<=r/\i=zI zi q/\Hid (r=0\/∃g c,Value.slice Ao r co=zU (some ⟨g,0,none⟩) r c/\r<=c/\z<=g/\iz wq g KE (aI p) q 0)/\zL w wq) (λi _=>r-(intOf i).toNat)
 .exact⟨0,DH _,rfl,R,s⟩
 obtain⟨q,hq,rfl,aV,l⟩:=hrel;have R:=zh aV;have s:=zh l;clear aV l;by_cases N:q<r
 .have⟨a4,q0⟩:=zln N;have⟨g,cg,he,bJ,bL,I⟩:=R.resolve_left (by omega);simp only[DQ,true_and] at he;obtain⟨rfl,rfl⟩:=he;have n:=zh I;have⟨d',Ac,cc,aU,f,a6⟩:=n.A (j:=q) (by rw[<-t];exact N);obtain rfl:d'=29:=by unfold KE at aU;omega
  have v0:=f 0 _ rfl;have v1:=f 1 _ rfl;have v2:=f 2 _ rfl;have v3:=f 3 _ rfl;rw[Eb] at v0;have ag:=aC.1 _ (getD_in ex0 (show q<(aI p).length by rw[<-t];exact N));have Y:=zh (Pc 29 wr ((aI p).getD q ex0) Ac cc a6 (bn _ ag).1);unfold exV at Y;unfold CpR at Y;unfold exV at Y;generalize bd:(aI p).getD q ex0=y at*;have bB:=zh bd;have⟨yo,au⟩:=zv (y.op);have⟨yn,ar⟩:=zv (y.n);have⟨ym,aq⟩:=zv (y.s);have⟨yl,ap⟩:=zv (zN y.a);have HY:=zh (And.intro au (And.intro ar (And.intro aq ap)));rw[<-au] at Y v0;rw[<-ar] at Y v1;rw[<-aq] at Y v2;rw[<-ap] at Y v3;have bO:=n.lt;clear bd au ar aq ap f a6 I aU ag;go_wp2;refine Y.mono ?_;rintro e w5 ⟨An,cn,rfl,a5,aY,l⟩;have bU:=(l.cell n.lt).trans v0;have bV:=(l.cell n.lt).trans v1;have bW:=(l.cell n.lt).trans v2;have bX:=(l.cell n.lt).trans v3;have bR:=DU n.lt l.size;have z0:=(n.Q l).froz (q*4);have z1:=(n.Q l).froz (q*4+1);have z2:=(n.Q l).froz (q*4+2);have z3:=(n.Q l).froz (q*4+3);have⟨aj,br,bl⟩:=zk3 l a5 aY;clear v0 v1 v2 v3 l a5 aY;go_wp2;have a9:=(n.Q aj).store (k:=q) (by rw[<-t];exact N) (us':=[zI zi yo,zI zi yn,zV ym,zU An yl cn]) rfl (B1:=wr.heap.size) (by rw[bB];exact⟨zU An yl cn,by unfold exL;rw[<-HY.1,<-HY.2.1,<-HY.2.2.1],br,by rw[<-HY.2.2.2];exact bl⟩) (DH _) n.lt;have aW:=cM g [zI zi yo,zI zi yn,zV ym,zU An yl cn] (q*4) w5;have bi:=zh (aN (aa s aj) (aa s aj).size (by have:=ao.out;omega) aW);have bu:Hid (r=0\/∃g' c,Value.slice (some ⟨g,0,none⟩) r co=zU (some ⟨g',0,none⟩) r c/\r<=c/\z<=g'/\iz _ g' KE (aI p) (q+1) 0):=zh (zO ⟨g,co,rfl,bJ,bL,a9⟩);clear a9 aW;go_roundw
  .exact⟨q+1,by omega,by go_num,bu,bi⟩
  simp[intOf];omega
 have⟨a4,a3⟩:=zgq hq N;have bs:Hid (Rs (exR KE) wr (zU Ao r co) (aI p) ah):=zh (by
  rcases R with h0|⟨g,c,he,hc, -,I⟩
  .rw[bq h0,h0];exact⟨Ao,co,rfl,DH _,λh=>absurd h (by simp)⟩
  rw[he];rw[a3] at I;have e:=t.out;rw[e] at I hc⊢;exact(I.rs hc).mono λ_ _=>trivial);clear a3;go_wp2;go_ret2;exact⟨s,zO ⟨H1,_,by trivial,bs⟩⟩
end
end
end Go.Proofs.YtdahpdnhkflnnaaGreatDoor
