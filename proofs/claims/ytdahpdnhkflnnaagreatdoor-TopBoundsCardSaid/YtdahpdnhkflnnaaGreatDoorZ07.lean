/- Laws for TopBounds, part 7: made small by a program of mine. -/
import Derived.Test.YtdahpdnhkflnnaaGreatDoorZ06
set_option linter.unusedVariables false
set_option linter.unusedSimpArgs false
set_option linter.unusedSectionVars false
set_option linter.defProp false
set_option maxRecDepth 100000
set_option maxHeartbeats 64000000
namespace Go.Proofs.YtdahpdnhkflnnaaGreatDoor
open Value renaming int → zI, slice → zU, string → zV, bool → zW, agg → zX, tuple → zY
open IntKind renaming i64 → zi
open Ending renaming returned → zE
open Obj renaming cells → zC
open List renaming length → zN, getD → zG
open Or renaming inl → zQ, inr → zO
open Go.Proofs.Tryz
section
open Go.RowKit
section
variable {a:Addr} {n s v wd:Int} {k:Nat} {w w':World}
structure Rg where
 lo:Int
 hi:Int
 wt:Int
 ea:Bool
def rg0:Rg:=⟨0,0,0,false⟩
def Rg.fit (r:Rg):Prop:=I64 r.lo/\I64 r.hi/\I64 r.wt
def pB (r:Rg) (wd:Int):Bool:=decide (0<=r.lo/\r.lo<=r.hi/\r.hi<2^wd.toNat/\0<=r.wt/\r.wt<=1000)
def lY {r:Rg}:pB r wd=true↔0<=r.lo/\r.lo<=r.hi/\r.hi<2^wd.toNat/\0<=r.wt/\r.wt<=1000:=by unfold pB;simp
def vld (l:List Rg) (wd:Int):Int:=if wd<1\/8<wd then 1 else if 16<zN l then 2 else if zN l=0 then 1 else if l.all (λr=>pB r wd) then 0 else 1
def tE {l:List Rg} (h:vld l wd=0):1<=wd/\wd<=8/\zN l<=16/\0<zN l/\∀r∈l,pB r wd=true:=by
 unfold vld at h;by_cases a:wd<1\/8<wd
 .rw[DP a] at h;simp at h
 rw[DK a] at h;by_cases b:16<zN l
 .rw[DP b] at h;simp at h
 rw[DK b] at h;by_cases c:zN l=0
 .rw[DP c] at h;simp at h
 rw[DK c] at h;by_cases d:l.all (λr=>pB r wd)=true
 .exact⟨by omega,by omega,by omega,by omega,λr e=>Fa.1 d r e⟩
 rw[DK d] at h;simp at h
def SH {l:List Rg} (a:¬(wd<1\/8<wd)) (b:¬16<zN l) (hk:k<zN l) (h:pB (zG l k rg0) wd=false):vld l wd=1:=by unfold vld;rw[DK a,DK b,DK (by omega),DK];intro c;have:=Fa.1 c (zG l k rg0) (by rw[DC,DD hk];exact EE hk);rw[h] at this;cases this
def OD {l:List Rg} (a:¬(wd<1\/8<wd)) (b:¬16<zN l) (c:¬zN l=0) (h:∀k,k<zN l->pB (zG l k rg0) wd=true):vld l wd=0:=by unfold vld;rw[DK a,DK b,DK c,DP];refine Fa.2 λr d=> ?_;obtain⟨k,hk,rfl⟩:=List.getElem_of_mem d;have:=h k hk;rwa [DC,DD hk] at this
structure RG (w:World) (a:Addr) (l:List Rg):Prop where
 lt:a.block<w.heap.size
 cells:∀k,k<zN l->w.cell? (a.add (k*4))=some (zI zi (zG l k rg0).lo)/\w.cell? ⟨(a.add (k*4)).block,(a.add (k*4)).off+1,none⟩=some (zI zi (zG l k rg0).hi)/\w.cell? ⟨(a.add (k*4)).block,(a.add (k*4)).off+2,none⟩=some (zI zi (zG l k rg0).wt)/\w.cell? ⟨(a.add (k*4)).block,(a.add (k*4)).off+3,none⟩=some (zW (zG l k rg0).ea)
def RG.Q {l:List Rg} (h:RG w a l) (c:zL w w'):RG w' a l:=
 ⟨DU h.lt c.size,λk hk=>by
  have b:∀n,(a.add n).block<w.heap.size:=λn=>by rw[bf];exact h.lt
  rw[c.cell (b (k*4)),c.cell (p:=⟨(a.add (k*4)).block,_,none⟩) (b (k*4)),c.cell (p:=⟨(a.add (k*4)).block,_,none⟩) (b (k*4)),c.cell (p:=⟨(a.add (k*4)).block,_,none⟩) (b (k*4))];exact h.cells k hk⟩
instance {w w':World} {a:Addr} {l:List Rg}:Zm w w' (RG w a l) (RG w' a l):=⟨λhb h=>RG.Q h hb⟩
def DL (w:World) (v:Value) (l:List Rg):Prop:=∃(A:Option Addr) (c:Nat),v=zU A (zN l) c/\zN l<=c/\zN l<=9223372036854775807/\(0<zN l->∃a,A=some a/\RG w a l)
def DL.Q {v:Value} {l:List Rg} (h:DL w v l) (d:zL w w'):DL w' v l:=by obtain⟨A,c,j,e,hm,i⟩:=h;exact⟨A,c,j,e,hm,λf=>by obtain⟨a,b,g⟩:=i f;exact⟨a,b,g.Q d⟩⟩
instance {w w':World} {v:Value} {l:List Rg}:Zm w w' (DL w v l) (DL w' v l):=⟨λhb h=>DL.Q h hb⟩
def LF (l:List Rg):Prop:=∀k,k<zN l->(zG l k rg0).fit
def Ts (r:Rg) (wd:Int) (B:Int) (a:B=2^wd.toNat):(pB r wd=false/\((decide (r.lo<0)=true)\/(decide (r.lo<0)=false/\decide (r.hi<r.lo)=true)\/(decide (r.lo<0)=false/\decide (r.hi<r.lo)=false/\decide (B-1<r.hi)=true/\decide (B<=r.hi)=true)∨(decide (r.lo<0)=false/\decide (r.hi<r.lo)=false/\(decide (B-1<r.hi)=false/\decide (B<=r.hi)=false)/\decide (r.wt<0)=true)∨(decide (r.lo<0)=false/\decide (r.hi<r.lo)=false/\(decide (B-1<r.hi)=false/\decide (B<=r.hi)=false)/\decide (r.wt<0)=false/\decide (1000<r.wt)=true)))∨(pB r wd=true/\(decide (r.lo<0)=false/\decide (r.hi<r.lo)=false/\(decide (B-1<r.hi)=false/\decide (B<=r.hi)=false)/\decide (r.wt<0)=false/\decide (1000<r.wt)=false)):=by
 by_cases h:pB r wd=true
 .right;refine⟨h, ?_⟩;rw[lY,<-a] at h;obtain⟨b,c,d,e,f⟩:=h;simp only[FR];omega
 left;refine⟨by simpa using h, ?_⟩;rw[lY,<-a] at h;simp only[FR,Ef];omega
def PE (a:1<=wd) (b:wd<=8):∃B:Int,B=2^wd.toNat/\2<=B/\B<=256/\IntKind.i64.wrap (2^wd.toNat)=B:=by
 have:wd=1\/wd=2\/wd=3\/wd=4\/wd=5\/wd=6\/wd=7\/wd=8:=by omega
 rcases this with rfl|rfl|rfl|rfl|rfl|rfl|rfl|rfl<;>exact⟨_,rfl,by decide,by decide,by decide⟩
def dJ:List Rg->Int->Int×Int
 |[],s=>(s,0)
 |r::l,s=>if r.ea=true then dJ l s else if cE (Int.lcm s (r.hi-r.lo+1))=0 then dJ l (Int.lcm s (r.hi-r.lo+1)) else(0,3)
def scl (l:List Rg):Int×Int:=dJ l 1
def ik (l:List Rg) (k:Nat) (h:k<zN l):l.drop k=zG l k rg0::l.drop (k+1):=by rw[Eq h,DC,DD h];rfl
def Pe {l:List Rg} (h:k<zN l) (a:(zG l k rg0).ea=true):dJ (l.drop k) s=dJ (l.drop (k+1)) s:=by rw[ik l k h,dJ,DP a]
def VP {l:List Rg} (h:k<zN l) (b:(zG l k rg0).ea=false) (a:cE (Int.lcm s ((zG l k rg0).hi-(zG l k rg0).lo+1))=0):dJ (l.drop k) s=dJ (l.drop (k+1)) (Int.lcm s ((zG l k rg0).hi-(zG l k rg0).lo+1)):=by rw[ik l k h,dJ,DK (by rw[b];decide),DP a]
def Te {l:List Rg} (h:k<zN l) (b:(zG l k rg0).ea=false) (a:cE (Int.lcm s ((zG l k rg0).hi-(zG l k rg0).lo+1))≠0):dJ (l.drop k) s=(0,3):=by rw[ik l k h,dJ,DK (by rw[b];decide),DK a]
def Tf {l:List Rg}:dJ (l.drop (zN l)) s=(s,0):=by rw[List.drop_length,dJ]
theorem m9:∀(l:List Rg) (s:Int),(∀r∈l,r.lo<=r.hi)->1<=s->s<=9223372036854775807->(dJ l s=(0,3))\/((dJ l s).2=0/\1<=(dJ l s).1/\(dJ l s).1<=9223372036854775807)
 |[],s,_,h1,h2=>zO ⟨rfl,h1,h2⟩
 |r::l,s,hr,h1,h2=>by
  unfold dJ;by_cases c:r.ea=true
  .rw[DP c];exact m9 l s (λx b=>hr x (by simp[b])) h1 h2
  rw[DK c];by_cases a:cE (Int.lcm s (r.hi-r.lo+1))=0
  .rw[DP a];have e:=hr r (by simp);have f:0<Int.lcm s (r.hi-r.lo+1):=Fq λd=>by rcases Int.lcm_eq_zero_iff.1 d with h|h<;>omega
   have g:=UM a;exact m9 l _ (λx b=>hr x (by simp[b])) (by omega) (by omega)
  rw[DK a];exact zQ rfl
def VQ {l:List Rg} (h:vld l wd=0):(scl l=(0,3))\/((scl l).2=0/\1<=(scl l).1/\(scl l).1<=9223372036854775807):=by have⟨_,_,_,_,h⟩:=tE h;exact m9 l 1 (λr a=>(lY.1 (h r a)).2.1) (by omega) (by omega)
def inR (v:Int) (r:Rg):Bool:=decide (r.lo<=v)&&decide (v<=r.hi)
def kY (l:List Rg) (v:Int):Option Rg:=l.find? (inR v)
def Ul {l:List Rg} (h:k<zN l) (hi:inR v (zG l k rg0)=true):kY (l.drop k) v=some (zG l k rg0):=by unfold kY;rw[ik l k h,List.find?_cons,hi]
def WE {l:List Rg} (h:k<zN l) (hi:inR v (zG l k rg0)=false):kY (l.drop k) v=kY (l.drop (k+1)) v:=by unfold kY;rw[ik l k h,List.find?_cons,hi]
def Um {l:List Rg}:kY (l.drop (zN l)) v=none:=by unfold kY;rw[List.drop_length];rfl
def T7 (v:Int) (r:Rg):(inR v r=true/\decide (r.lo<=v)=true/\decide (v<=r.hi)=true)\/(inR v r=false/\(decide (r.lo<=v)=false\/(decide (r.lo<=v)=true/\decide (v<=r.hi)=false))):=by unfold inR;cases decide (r.lo<=v)<;>cases decide (v<=r.hi)<;>simp
def AI {l:List Rg} {r:Rg} (h:kY l v=some r):r∈l/\r.lo<=v/\v<=r.hi:=by unfold kY at h;refine⟨List.mem_of_find?_eq_some h, ?_⟩;have:=List.find?_some h;unfold inR at this;simpa using this
def v8 (r:Rg) (n:Int):Int:=if r.ea=true then r.wt*n else r.wt*(n/(r.hi-r.lo+1))
def wgt (l:List Rg) (n v:Int):Int×Int:=match kY l v with
 |none=>(0,0)
 |some r=>(cV (v8 r n),cE (v8 r n))
def RV (l:List Rg):Prop:=∀k,k<zN l->0<=(zG l k rg0).lo/\(zG l k rg0).lo<=(zG l k rg0).hi/\(zG l k rg0).hi<=255/\0<=(zG l k rg0).wt/\(zG l k rg0).wt<=1000
def OF {l:List Rg} (h:vld l wd=0):RV l:=by have⟨a,b,_,_,h⟩:=tE h;intro k hk;have⟨B,c,_,d,_⟩:=PE a b;have:=lY.1 (h (zG l k rg0) (by rw[DC,DD hk];exact EE hk));rw[<-c] at this;omega
def RV.mem {l:List Rg} (h:RV l) {r:Rg} (a:r∈l):0<=r.lo/\r.lo<=r.hi/\r.hi<=255/\0<=r.wt/\r.wt<=1000:=by obtain⟨k,hk,rfl⟩:=List.getElem_of_mem a;have:=h k hk;rwa [DC,DD hk] at this
def RG.A {l:List Rg} (h:RG w a l) (c:zL w w') (hk:k<zN l) {lo hi wt:Int} {b:Bool} (d:zG l k rg0=⟨lo,hi,wt,b⟩):w'.cell? (a.add (k*4))=some (zI zi lo)/\w'.cell? ⟨(a.add (k*4)).block,(a.add (k*4)).off+1,none⟩=some (zI zi hi)/\w'.cell? ⟨(a.add (k*4)).block,(a.add (k*4)).off+2,none⟩=some (zI zi wt)/\w'.cell? ⟨(a.add (k*4)).block,(a.add (k*4)).off+3,none⟩=some (zW b):=by have:=(h.Q c).cells k hk;rw[d] at this;exact this
def tD {r:Rg} (b:0<=r.lo/\r.lo<=r.hi/\r.hi<=255/\0<=r.wt/\r.wt<=1000) (a:1<=n):0<=v8 r n:=by
 unfold v8;split
 .exact Int.mul_nonneg (by omega) (by omega)
 exact Int.mul_nonneg (by omega) (Int.ediv_nonneg (by omega) (by omega))
def OB {l:List Rg} (e:RV l) (c:1<=n) (v:Int):((wgt l n v).2=0/\0<=(wgt l n v).1/\(wgt l n v).1<=9223372036854775807)\/wgt l n v=(0,3):=by
 unfold wgt;rcases hf:kY l v with _|r
 .left;simp
 have d:=tD (e.mem (AI hf).1) c;rcases RI (v8 r n) with⟨e1,a,f,b⟩|⟨e1,a,_⟩
 .left;simp only[e1,a];exact⟨trivial,d,b⟩
 right;simp only[e1,a]
def OQ (l:List Rg) (n:Int):Nat->Nat->Int->Int×Int
 |0,_,s=>(s,0)
 |k+1,v,s=>if(wgt l n v).2=0 then(if cE (s+(wgt l n v).1)=0 then OQ l n k (v+1) (s+(wgt l n v).1) else(0,3)) else(0,3)
def wl (l:List Rg) (n:Int) (k:Nat):List Int:=(List.range k).map λv:Nat=>(wgt l n (v:Int)).1
def two (wd:Int):Nat:=2^wd.toNat
def tot (l:List Rg) (wd:Int):Int×Int:=if vld l wd≠0 then(0,vld l wd) else if(scl l).2≠0 then(0,(scl l).2) else OQ l (scl l).1 (two wd) 0 0
end
def Dc (w:World) (v:Value) (l:List Rg) (wd:Int) (h:DL w v l) (J:LF l) (w0: -9223372036854775808<=wd) (w1:wd<=9223372036854775807):Calls zz 274 #[v,zI zi wd] w (zR (zI zi (vld l wd)) w):=by
 obtain⟨A,c,rfl,hc,hm,P⟩:=h;by_cases V:wd<1
 .have e:vld l wd=1:=by unfold vld;rw[DP (zQ V)]
  rw[e];clear e;go_enter func274,ntmps274;go_wp2;go_ret;exact⟨rfl,DM _ _⟩
 by_cases W:8<wd
 .have e:vld l wd=1:=by unfold vld;rw[DP (zO W)]
  rw[e];clear e;go_enter func274,ntmps274;go_wp2;go_ret;exact⟨rfl,DM _ _⟩
 by_cases h3:(16:Int)<zN l
 .have e:vld l wd=2:=by unfold vld;rw[DK (by omega),DP (by omega)]
  rw[e];clear e;go_enter func274,ntmps274;go_wp2;go_ret;exact⟨rfl,DM _ _⟩
 by_cases C:zN l=0
 .have e:vld l wd=1:=by unfold vld;rw[DK (by omega),DK (by omega),DP (by omega)]
  rw[e];clear e;have f:((zN l:Int)==0)=true:=by simpa using C
  clear C;go_enter func274,ntmps274;go_wp2;go_ret;exact⟨rfl,DM _ _⟩
 obtain⟨a,rfl,M⟩:=P (by omega);have⟨N,D⟩:=zv (zN l);have f:((N:Int)==0)=false:=by simp;omega
 have⟨B,H,B1,B2,aa⟩:=PE (wd:=wd) (by omega) (by omega);have u:=zh H;clear H;have d:=zh D;rw[<-D];have X:¬(16:Int)<N:=by omega
 have⟨S,R⟩:=zk2 M J;have L:0<N:=by omega
 clear P D M J C;go_enter func274,ntmps274;go_wp2;go_loopw [24] (λc wr=>∃(k:Nat),k<=N/\c=zI zi k/\(∀j,j<k->pB (zG l j rg0) wd=true)/\zL w wr) (λc _=>N-(intOf c).toNat)
 .exact⟨0,DH _,rfl,λj t=>absurd t (by omega),DM _ _⟩
 obtain⟨k,hk,rfl,K,I⟩:=hrel;have⟨m,F⟩:=zk2 I K;clear I K;by_cases b:k<N
 .have o:=zlt b;obtain⟨c0,c1,c2,c3⟩:=(S.Q m).cells k (by rw[<-d];exact b);have⟨⟨_,_⟩,⟨_,_⟩,⟨_,_⟩⟩:=R k (by rw[<-d];exact b);have y:=SH (l:=l) (wd:=wd) (by omega) (by rw[<-d];omega) (k:=k) (by rw[<-d];exact b);have T:=zh y;generalize p:zG l k rg0=r at*;have x:=zh p;clear p;rcases Ts r wd B u with⟨q,Z⟩|⟨q,n,s,⟨z,i⟩,G,U⟩
  .have g:=zh (T q);clear q;rcases Z with n|⟨n,s⟩|⟨n,s,z,i⟩|⟨n,s,⟨z,i⟩,G⟩|⟨n,s,⟨z,i⟩,G,U⟩
   all_goals
    go_wp2;go_quiet (fail);go_wp2;go_ret;exact⟨aU g.symm,aE (m.alloc m.size _) _⟩
  have g:=zh q;clear q;go_wp2;go_quiet (fail);go_wp2;go_roundw
  .exact⟨k+1,by omega,by go_num,λj t=>by
    by_cases Y:j=k
    .subst Y;rw[x];exact g
    exact F j (by omega),aE (m.alloc m.size _) _⟩
  simp[intOf];omega
 have E:=zeq hk b;have o:=zge b;have e:vld l wd=0:=OD (by omega) (by rw[<-d];omega) (by rw[<-d];omega) (λj t=>F j (by rw[<-d] at t;omega));have Q:=zh e;clear E e;go_wp2;go_ret;exact⟨aU Q.symm,m⟩
def vu (lo hi wt:Int) (a:Bool) (w:World):Calls zz 318 #[zX #[zI zi lo,zI zi hi,zI zi wt,zW a]] w (zR (zI zi (if a=true then 1 else 0)) w):=by
 cases a;all_goals
  go_enter func318,ntmps318;go_wp2;go_ret;exact⟨rfl,(DM _ _).alloc (DE _) _⟩
def qy (lo hi wt:Int) (a:Bool) (w:World) (b:0<=lo) (c:lo<=hi) (d:hi<=255):Calls zz 279 #[zX #[zI zi lo,zI zi hi,zI zi wt,zW a]] w (zR (zI zi (hi-lo+1)) w):=by go_enter func279,ntmps279;go_wp2;go_ret;exact⟨rfl,(DM _ _).alloc (DE _) _⟩
def qz (lo hi wt:Int) (d:Bool) (c:Int) (h:c=115\/c=101) (w:World):Calls zz 277 #[zX #[zI zi lo,zI zi hi,zI zi wt,zW d],.int .u8 c] w (zR (zW (if c=115 then !d else d)) w):=by
 cases d<;>rcases h with rfl|rfl
 all_goals
  go_enter func277,ntmps277;go_wp2;refine zK (vu _ _ _ _ _) λw1 a=> ?_;have b:=(Box.new w 133 _).Q a;have e:=zh (aa (ab w _) a);have i:=b.A 0 _ rfl;have j:=b.A 1 _ rfl;have k:=b.A 2 _ rfl;have l:=b.A 3 _ rfl;go_wp2;refine zK (vu _ _ _ _ _) λw2 g=> ?_;have f:=zh (aa e g);go_wp2;go_ret;exact⟨rfl,f⟩
def Dd (w:World) (v:Value) (l:List Rg) (h:DL w v l) (Z:RV l):Calls zz 275 #[v] w (zR (zY #[zI zi (scl l).1,zI zi (scl l).2]) w):=by
 obtain⟨A,c,rfl,V,hm,Y⟩:=h;have⟨N,P⟩:=zv (zN l);have R:=zh P;rw[<-P];have⟨HS,HV⟩:=zk2 Y Z;have HC:Hid (zN l<=c):=V;have ac:N<=9223372036854775807:=by omega
 clear Y P Z V;go_enter func275,ntmps275;go_wp2;go_loopw [10,4] (λc s wr=>∃(k:Nat) (n:Int),k<=N/\c=zI zi k/\s=zI zi n/\1<=n/\n<=9223372036854775807/\dJ (l.drop k) n=scl l/\zL w wr) (λc _ _=>N-(intOf c).toNat)
 .exact⟨0,1,DH _,rfl,rfl,by omega,by omega,rfl,DM _ _⟩
 obtain⟨k,n,hk,rfl,rfl,ad,ae,W,U⟩:=hrel;have⟨y,D⟩:=zk2 U W;clear U W;by_cases t:k<N
 .have C:=zlt t;have d:k<zN l:=by rw[<-R];exact t
  obtain⟨a,rfl,X⟩:=HS (by omega);have⟨v0,v1,v2,v3,v4⟩:=HV k d;obtain⟨r,u⟩:∃r,zG l k rg0=r:=⟨_,rfl⟩;have o:=λs=>VP (s:=s) d;have j:=λs=>Pe (s:=s) d;have m:=λs=>Te (s:=s) d;rw[u] at v0 v1 v2 v3 v4 o j m;obtain⟨lo,hi,wt,ea⟩:=r;simp only at v0 v1 v2 v3 v4 o j m;have⟨M,c1,c2,c3⟩:=X.A y d u;have⟨K,I,J⟩:=zk3 o j m;have S:Hid (∀w,Calls zz 317 #[zI zi n,zI zi (hi-lo+1)] w λe w'=>e=zE (zY #[zI zi (cV (Int.lcm n (hi-lo+1))),zI zi (cE (Int.lcm n (hi-lo+1)))])/\∃n,w'=w.drewN n):=λw=>Wf n (hi-lo+1) w (by omega) (by omega) (by omega) (by omega);have hp:(0:Int)<((Int.lcm n (hi-lo+1):Nat):Int):=by
   have:0<Int.lcm n (hi-lo+1):=Fq λh0=>by rcases Int.lcm_eq_zero_iff.1 h0 with h|h<;>omega
   omega
  clear X o j m d u;cases ea
  .rcases RI (Int.lcm n (hi-lo+1)) with⟨e1,q,T,e4⟩|⟨e1,q,T⟩
   .have f:=S.out;simp only[e1,q] at f;have f:=zh f;have x:=zh ((K n rfl q).symm.trans D);clear e1 q;generalize((Int.lcm n (hi-lo+1):Nat):Int)=L at*;go_wp2;refine zK (qz _ _ _ _ _ (zQ rfl) _) λw1 b=> ?_;have z:=zh ((Box.new wr 133 _).Q b);have g:=zh (aa y (aa (ab wr _) b));obtain⟨E,F,G,H⟩:=zc4 z;clear b M c1 c2 c3;go_wp2;refine zK (qy _ _ _ _ _ (by omega) (by omega) (by omega)) λw2 i=> ?_;have p:=zh (aa g i);clear i E F G H;go_wp2;refine(f _).mono ?_;rintro e w3 ⟨rfl,n3,rfl⟩;go_wp2;go_roundw
    .exact⟨k+1,L,by omega,by go_num,rfl,by omega,by omega,x,aE p _⟩
    simp[intOf];omega
   have f:=S.out;simp only[e1,q] at f;have f:=zh f;have x:Hid (scl l=(0,3)):=zh (D.symm.trans (J n rfl (by rw[q];decide)));clear e1 q T hp;go_wp2;refine zK (qz _ _ _ _ _ (zQ rfl) _) λw1 b=> ?_;have z:=zh ((Box.new wr 133 _).Q b);have g:=zh (aa y (aa (ab wr _) b));obtain⟨E,F,G,H⟩:=zc4 z;clear b M c1 c2 c3;go_wp2;refine zK (qy _ _ _ _ _ (by omega) (by omega) (by omega)) λw2 i=> ?_;have p:=zh (aa g i);clear i E F G H;go_wp2;refine(f _).mono ?_;rintro e w3 ⟨rfl,n3,rfl⟩;go_wp2;go_ret2;exact⟨qY (by rw[x]) (by rw[x]),aE p _⟩
  have x:=zh ((I n rfl).symm.trans D);go_wp2;refine zK (qz _ _ _ _ _ (zQ rfl) _) λw1 b=> ?_;have z:=zh ((Box.new wr 133 _).Q b);have g:=zh (aa y (aa (ab wr _) b));obtain⟨E,F,G,H⟩:=zc4 z;clear b M c1 c2 c3;go_wp2;go_roundw
  .exact⟨k+1,n,by omega,by go_num,rfl,by omega,by omega,x,g⟩
  simp[intOf];omega
 have B:k=N:=by omega
 have C:=zge t;have Q:Hid ((n,0)=scl l):=zh (by have:=D.out;rw[B,R,Tf] at this;exact this);clear B;go_wp2;go_ret2;exact⟨qY (by rw[<-Q]) (by rw[<-Q]),y⟩
def iM (l:List Rg):Int×Int:=if vld l 8=0 then scl l else(0,vld l 8)
def tf (w:World) (v:Value) (l:List Rg) (h:DL w v l) (i:LF l):Calls zz 217 #[v] w (zR (zY #[zI zi (iM l).1,zI zi (iM l).2]) w):=by
 have b:Hid (∀w,DL w v l->Calls zz 274 #[v,zI zi 8] w (zR (zI zi (vld l 8)) w)):=λw h=>Dc w v l 8 h i (by omega) (by omega);have g:=zh h;by_cases e:vld l 8=0
 .have c:Hid (iM l=scl l):=zh (by unfold iM;rw[DP e]);have j:=zh (OF e);have b:=b.out;rw[e] at b;have b:=zh b;go_enter func217,ntmps217;go_wp2;refine zK (b _ g) λw1 d=> ?_;have a:=zh d;go_wp2;refine zK (Dd _ _ _ (g.Q a) j) λw2 d=> ?_;have f:=zh (aa a d);go_wp2;go_ret2;exact⟨qY (by rw[c]) (by rw[c]),f⟩
 have c:Hid (iM l=(0,vld l 8)):=zh (by unfold iM;rw[DK e]);have k:(vld l 8 !=0)=true:=by simpa using e
 go_enter func217,ntmps217;go_wp2;refine zK (b _ g) λw1 d=> ?_;have a:=zh d;go_wp2;go_ret2;exact⟨qY (by rw[c]) (by rw[c]),a⟩
def V7 (o:Option Rg):Value:=match o with
 |none=>zY #[zX #[zI zi 0,zI zi 0,zI zi 0,zW false],zW false]
 |some r=>zY #[zX #[zI zi r.lo,zI zi r.hi,zI zi r.wt,zW r.ea],zW true]
def De (w:World) (v:Value) (l:List Rg) (x:Int) (h:DL w v l) (x0: -9223372036854775808<=x) (W:x<=9223372036854775807):Calls zz 276 #[v,zI zi x] w (zR (V7 (kY l x)) w):=by
 obtain⟨A,c,rfl,M,hm,S⟩:=h;have⟨N,D⟩:=zv (zN l);have s:=zh D;rw[<-D];have I:=zh S;have U:Hid (zN l<=c):=M;have Q:N<=9223372036854775807:=by omega
 go_enter func276,ntmps276;go_wp2;go_loopw [10] (λc wr=>∃(k:Nat),k<=N/\c=zI zi k/\kY (l.drop k) x=kY l x/\Box wr w.heap.size #[zI zi 0,zI zi 0,zI zi 0,zW false] 133/\zL w wr) (λc _=>N-(intOf c).toNat)
 .exact⟨0,DH _,rfl,rfl,Box.new _ _ _,ab _ _⟩
 obtain⟨k,hk,rfl,P,F,L⟩:=hrel;have⟨g,n,f⟩:=zk3 L P F;have T:w.heap.size<wr.heap.size:=F.lt;obtain⟨y,z,B,C⟩:=zc4 f;have X:=f.Z 0;have Y:=f.Z 1;have Z:=f.Z 2;have z3:=f.Z 3;by_cases d:k<N
 .have i:=zlt d;have b:k<zN l:=by rw[<-s];exact d
  obtain⟨a,rfl,R⟩:=I (by omega);obtain⟨r,j⟩:∃r,zG l k rg0=r:=⟨_,rfl⟩;have G:=Ul (v:=x) b;have E:=WE (v:=x) b;rw[j] at G E;obtain⟨lo,hi,wt,t⟩:=r;have⟨V,c1,c2,c3⟩:=R.A g b j;have⟨J,p⟩:=zk2 G E;have m:=T7 x ⟨lo,hi,wt,t⟩;simp only at m;rcases m with⟨e,u,K⟩|⟨e,m⟩
  .have o:=zh (n.symm.trans (J e));go_wp2;refine D7 (v:=zY #[zX #[zI zi lo,zI zi hi,zI zi wt,zW t],zW true]) (by simp[results,results276,go_sem,y,z,B,C,T]) rfl ⟨by rw[o];rfl, ?_⟩;exact((((g.setCell (DE _) _).setCell (DE _) _).setCell (DE _) _).setCell (DE _) _).alloc (by simp;omega) _
  have o:=zh ((p e).symm.trans n);rcases m with u|⟨u,K⟩
  all_goals
   go_wp2;go_roundw
   .exact⟨k+1,by omega,by go_num,o,f.Q (ab _ _),g.alloc g.size _⟩
   simp[intOf];omega
 have q:=zeq hk d;have i:=zge d;have H:Hid (kY l x=none):=zh (by have:=n.out;rw[q,s,Um] at this;exact this.symm);go_wp2;refine D7 (v:=zY #[zX #[zI zi 0,zI zi 0,zI zi 0,zW false],zW false]) (by simp[results,results276,go_sem,y,z,B,C]) rfl ⟨by rw[H];rfl, ?_⟩;exact(((g.setCell (DE _) _).setCell (DE _) _).setCell (DE _) _).setCell (DE _) _
def Vk {r:Rg} {n:Int} (b:0<=r.lo/\r.lo<=r.hi/\r.hi<=255/\0<=r.wt/\r.wt<=1000) (a:1<=n):0<=n/(r.hi-r.lo+1)/\n/(r.hi-r.lo+1)<=n:=⟨Int.ediv_nonneg (by omega) (by omega),Int.ediv_le_self _ (by omega)⟩
def xH (w:World) (v:Value) (l:List Rg) (n x:Int) (h:DL w v l) (u:RV l) (y:1<=n) (H:n<=9223372036854775807) (x0: -9223372036854775808<=x) (B:x<=9223372036854775807):Calls zz 218 #[v,zI zi n,zI zi x] w (zR (zY #[zI zi (wgt l n x).1,zI zi (wgt l n x).2]) w):=by
 have f:=zh (De w v l x h x0 B);rcases hf:kY l x with _|r
 .have i:Hid (wgt l n x=(0,0)):=zh (by unfold wgt;rw[hf]);rw[hf] at f;simp only[V7] at f;go_enter func218,ntmps218;go_wp2;refine(f).mono ?_;rintro e w1 ⟨rfl,c⟩;have a:=zh c;go_wp2;go_ret2;exact⟨qY (by rw[i]) (by rw[i]),a.alloc a.size _⟩
 have i:Hid (wgt l n x=(cV (v8 r n),cE (v8 r n))):=zh (by unfold wgt;rw[hf]);rw[hf] at f;have o:=u.mem (AI hf).1;have p:=Vk o y;obtain⟨lo,hi,wt,s⟩:=r;simp only at o p;obtain⟨I,J,K,L,M⟩:=o;obtain⟨C,D⟩:=p;simp only[V7] at f;cases s
 .have N:IntKind.i64.wrap (hi-lo)=hi-lo:=Fi _ (by omega);have P:IntKind.i64.wrap (hi-lo+1)=hi-lo+1:=Fi _ (by omega);have Q:IntKind.i64.wrap (n/(hi-lo+1))=n/(hi-lo+1):=Fi _ (by omega);have z:¬(hi-lo+1=0):=by omega
  have R:(hi-lo+1==0)=false:=by simpa using z
  have q:Hid (∀w,Calls zz 279 #[zX #[zI zi lo,zI zi hi,zI zi wt,zW false]] w (zR (zI zi (hi-lo+1)) w)):=λw=>qy lo hi wt false w (by omega) (by omega) (by omega);have k:Hid (∀w,Calls zz 278 #[zI zi wt,zI zi (n/(hi-lo+1))] w (zS (zY #[zI zi (cV (wt*(n/(hi-lo+1)))),zI zi (cE (wt*(n/(hi-lo+1))))]) w)):=λw=>PT wt _ w (by omega) (by omega) (by omega) (by omega);have b:Hid (wgt l n x=(cV (wt*(n/(hi-lo+1))),cE (wt*(n/(hi-lo+1))))):=zh (by rw[i];rfl);go_enter func218,ntmps218;go_wp2;refine(f).mono ?_;rintro e w1 ⟨rfl,c⟩;have a:=zh c;go_wp2;refine(qz _ _ _ _ _ (zO rfl) _).mono ?_;rintro e w2 ⟨rfl,c⟩;have g:=zh ((Box.new w1 133 _).Q c);have d:=zh (aa a (aa (ab w1 _) c));have E:=g.lat 0 _ rfl;have F:=g.lat 1 _ rfl;have t:=g.lat 2 _ rfl;have G:=g.lat 3 _ rfl;go_wp2;refine az ?_;repeat(go_big_quiet_step (first|exact aG (q _)|exact mo (k _)))
  refine D4 ?_;intro A m;have j:=zh (aa d m);go_wp2;go_ret2;exact⟨qY (by rw[b]) (by rw[b]),j⟩
 have k:Hid (∀w,Calls zz 278 #[zI zi wt,zI zi n] w (zS (zY #[zI zi (cV (wt*n)),zI zi (cE (wt*n))]) w)):=λw=>PT wt _ w (by omega) (by omega) (by omega) (by omega);have b:Hid (wgt l n x=(cV (wt*n),cE (wt*n))):=zh (by rw[i];rfl);go_enter func218,ntmps218;go_wp2;refine(f).mono ?_;rintro e w1 ⟨rfl,c⟩;have a:=zh c;go_wp2;refine(qz _ _ _ _ _ (zO rfl) _).mono ?_;rintro e w2 ⟨rfl,c⟩;have g:=zh ((Box.new w1 133 _).Q c);have d:=zh (aa a (aa (ab w1 _) c));have t:=za g 2;go_wp2;refine(k _).mono ?_;rintro e A ⟨rfl,rfl⟩;go_wp2;go_ret2;exact⟨qY (by rw[b]) (by rw[b]),d⟩
def kU (l:List Rg) (x:Int):Int×Int:=if(iM l).2=0 then wgt l (iM l).1 x else(0,(iM l).2)
def rp (l:List Rg):((iM l).2=0/\RV l/\iM l=scl l/\1<=(iM l).1/\(iM l).1<=9223372036854775807)\/((iM l).2≠0/\(iM l).1=0):=by
 unfold iM;by_cases a:vld l 8=0
 .rw[DP a];rcases VQ a with h|⟨b,c,d⟩
  .right;rw[h];simp
  exact zQ ⟨b,OF a,rfl,c,d⟩
 rw[DK a];exact zO ⟨a,rfl⟩
def ra (w:World) (v:Value) (l:List Rg) (x:Int) (h:DL w v l) (o:LF l) (x0: -9223372036854775808<=x) (t:x<=9223372036854775807):Calls zz 141 #[v,zI zi x] w (zR (zY #[zI zi (kU l x).1,zI zi (kU l x).2]) w):=by
 have e:=zh (tf w v l h o);have k:=zh h;have j:=rp l;have g:kU l x=if(iM l).2=0 then wgt l (iM l).1 x else(0,(iM l).2):=rfl
 generalize iM l=r at*;obtain⟨n,er⟩:=r;simp only at e j g;rcases j with⟨rfl,p,_,q,s⟩|⟨i,rfl⟩
 .have b:Hid (kU l x=wgt l n x):=zh (by rw[g];rfl);have m:=zh p;go_enter func141,ntmps141;go_wp2;refine zK (e) λw1 c=> ?_;have a:=zh c;go_wp2;refine zK (xH _ _ l n x (k.Q a) m q s x0 t) λw2 c=> ?_;have d:=zh (aa a c);go_wp2;go_ret2;exact⟨qY (by rw[b]) (by rw[b]),d⟩
 have b:Hid (kU l x=(0,er)):=zh (by rw[g,DK i]);have f:(er !=0)=true:=by simpa using i
 go_enter func141,ntmps141;go_wp2;refine zK (e) λw1 c=> ?_;have a:=zh c;go_wp2;go_ret2;exact⟨qY (by rw[b]) (by rw[b]),a⟩
end
section
section
variable {i j m n x y:Nat}
abbrev Sp:=Nat×Nat
def lz (r:Sp):Prop:=r.1<=r.2/\r.2<=65535
def dt (x:Nat) (r:Sp):Prop:=r.1<=x/\x<=r.2
def Bg (h:x<2^16):x<2^Lib.bitLen x:=by
 unfold Lib.bitLen;by_cases a:x=0
 .subst a;exact Nat.two_pow_pos _
 exact(Lib.bitLenAux_bounds 64 x (DU h (by decide)) a).2.2
def RM (h:x<=65535):Lib.bitLen x<=16:=Lib.bitLen_le x 16 (by decide) (by omega)
def pO (x:Nat):Nat:=2^Lib.bitLen x-1
def Wj (h:x<=65535):pO x<=65535:=by have:=Ew (n:=2) (by omega) (RM h);unfold pO;omega
def Wi (h:x<=65535):x<=pO x:=by have:=Bg (x:=x) (by omega);unfold pO;omega
def V8 (b:x<=m) (c:y<=m) (h:m<=65535):x|||y<=pO m:=by
 have:=Bg (x:=m) (by omega);have a:x|||y<2^Lib.bitLen m:=Nat.or_lt_two_pow (by omega) (by omega)
 unfold pO;omega
def St (b:x<=m) (c:y<=m) (h:m<=65535):x^^^y<=pO m:=by have:=Bg (x:=m) (by omega);have a:x^^^y<2^Lib.bitLen m:=Nat.xor_lt_two_pow (by omega) (by omega);unfold pO;omega
def U7 (x y:Nat):x<=x|||y/\y<=x|||y:=⟨Nat.left_le_or,Nat.right_le_or⟩
def Vw (q:Bool):tN q<=1:=by unfold tN;split<;>omega
theorem OY {f:Nat->Nat} (m:Nat) (a:∀k,f k<=1) (b:∀k,m<=k->f k=0):∀n,((List.range n).map f).sum<=m
 |0=>DH _
 |n+1=>by
  rw[List.range_succ,Fl,List.sum_append,FY,List.map_nil,List.sum_cons,List.sum_nil,Eb];have c:((List.range n).map f).sum<=n:=by
   induction n with
   |zero=>simp
   |succ n ih=>rw[List.range_succ,Fl,List.sum_append,FY,List.map_nil,List.sum_cons,List.sum_nil,Eb];have:=a n;omega
  have:=OY m a b n;rcases FO n m with h|h
  .have:=a n;omega
  have:=b n h;omega
def PF {x h:Nat} (d:x<=h) (a:h<=65535):jt x<=Lib.bitLen h:=by refine OY _ (λk=>Vw _) (λk hk=> ?_) 16;have b:=Bg (x:=h) (by omega);have c:=Ew (n:=2) (by omega) hk;rw[Nat.testBit_lt_two_pow (by omega)];rfl
theorem PG {x:Nat} (e:x≠0) (f:x<=65535):1<=jt x:=by
 refine E8 λg=>e (Nat.eq_of_testBit_eq λi=> ?_);rw[Nat.zero_testBit];rcases FO i 16 with hi|hi
 .have c:∀l:List Nat,i∈l->tN (x.testBit i)<=(l.map λk=>tN (x.testBit k)).sum:=by
   intro l;induction l with
   |nil=>intro h;cases h
   |cons a l ih=>
    intro h;rw[FY,List.sum_cons];rcases DS.1 h with rfl|h
    .omega
    have:=ih h;omega
  have b:=c (List.range 16) (Fv.2 hi);have d:jt x=((List.range 16).map λk=>tN (x.testBit k)).sum:=rfl;cases hb:x.testBit i with
  |false=>rfl
  |true=>rw[hb] at b;unfold tN at b;rw[DP rfl] at b;unfold tN at d;omega
 have d:=Ew (n:=2) (by omega) hi;exact Nat.testBit_lt_two_pow (by omega)
def tP {x a n m:Nat} (h:x<=a) (b:m<=n):x/2^n<=a/2^m:=D2 (Nat.div_le_div_right h) (Nat.div_le_div_left (Ew (by omega) b) (Nat.two_pow_pos _))
theorem uM {x:Nat}:∀{l:List Nat} (k:Nat),2*k+1<zN l->zG l (2*k) 0<=x->x<=zG l (2*k+1) 0->eW x l=true
 |[],k,h,_,_=>by simp at h
 |[a],k,h,_,_=>by simp at h
 |lo::hi::r,0,_,h1,h2=>by unfold eW;have b:lo<=x:=h1;have c:x<=hi:=h2;simp[b,c]
 |lo::hi::r,k+1,h,h1,h2=>by unfold eW;rw[uM (l:=r) k (by simp only[DF] at h;omega) (by rw[show 2*(k+1)=2*k+1+1 by omega] at h1;exact h1) (by rw[show 2*(k+1)+1=2*k+1+1+1 by omega] at h2;exact h2),Bool.or_true]
theorem y9 {x:Nat}:∀{l:List Nat},(∀k,2*k+1<zN l->¬(zG l (2*k) 0<=x/\x<=zG l (2*k+1) 0))->eW x l=false
 |[],_=>rfl
 |[a],_=>rfl
 |lo::hi::r,h=>by unfold eW;have c:=h 0 (by simp only[DF];omega);have b:¬(lo<=x/\x<=hi):=c;rw[y9 (l:=r) λk hk=>by have:=h (k+1) (by simp only[DF];omega);rw[show 2*(k+1)=2*k+1+1 by omega,show 2*k+1+1+1=(2*k+1)+1+1 by omega] at this;exact this];simpa using b
structure NwI (S:List Nat->Prop) (n:Nat) (L:List Sp):Prop where
 len:zN L=n
 ok:∀i,i<n->lz (zG L i (0,0))
 sol:∀a,S a->∀i,i<n->dt (zG a i 0) (zG L i (0,0))
def fR {L:List Sp} {r:Sp} (h:j<zN L):(L.set j r).getD j (0,0)=r:=by rw[DC,EL h];rfl
def getD_set_ne {L:List Sp} {r:Sp} (h:j≠i):(L.set i r).getD j (0,0)=zG L j (0,0):=by rw[DC,EP (λe=>h e.symm),<-DC]
def NwI.set {S:List Nat->Prop} {L:List Sp} (h:NwI S n L) (hi:i<n) {r:Sp} (d:lz r) (f:∀a,S a->dt (zG a i 0) r):NwI S n (L.set i r):=by
 refine⟨by rw[Er];exact h.len,λj b=> ?_,λa c j b=> ?_⟩
 .by_cases e:j=i
  .subst e;rw[fR (by rw[h.len];exact hi)];exact d
  rw[getD_set_ne e];exact h.ok j b
 by_cases e:j=i
 .subst e;rw[fR (by rw[h.len];exact hi)];exact f a c
 rw[getD_set_ne e];exact h.sol a c j b
def lc (L:List Sp):Nat:=(L.map λr=>r.2-r.1).sum
theorem tX:∀{L:List Sp} {i:Nat} {r:Sp},i<zN L->r.2-r.1<(zG L i (0,0)).2-(zG L i (0,0)).1->lc (L.set i r)<lc L
 |[],i,r,h,_=>by simp at h
 |x::L,0,r,_,h=>by have a:r.2-r.1<x.2-x.1:=h;show(r.2-r.1)+lc L<(x.2-x.1)+lc L;omega
 |x::L,i+1,r,hi,h=>by have:=tX (L:=L) (i:=i) (r:=r) (by simpa using hi) h;show(x.2-x.1)+lc (L.set i r)<(x.2-x.1)+lc L;omega
end
end
section
open Go.RowKit Go.Maps
section
variable (w:World)
def spV (r:Sp):Value:=zX #[zI zi (r.1:Nat),zI zi (r.2:Nat)]
def SpQ (P:Nat->Prop) (w:World) (e:Ending) (w':World):Prop:=∃r,e=zE (spV r)/\lz r/\(∀z,P z->dt z r)/\zL w w'
def knS (p q:Bool):Sp:=if p=true then(1,1) else if q=true then(0,0) else(0,1)
def oy (p q:Bool):lz (knS p q):=by cases p<;>cases q<;>exact⟨by decide,by decide⟩
def mr {p q z:Bool} (a:p=true->z=true) (b:q=true->z=false):dt (tN z) (knS p q):=by cases p<;>cases q<;>cases z<;>simp_all [knS,dt,tN]
def ak {w w':World} (b:zL w w') {g:Nat} {u v:Value} (a:w.heap.size<=g:=by omega):zL w ((w'.setCell ⟨g,0,none⟩ u).setCell ⟨g,1,none⟩ v):=(b.setCell (p:=⟨g,0,none⟩) a u).setCell (p:=⟨g,1,none⟩) a v
def vJ:Calls zz 178 #[] w (zR (spV (0,65535)) w):=by go_enter func178,ntmps178;go_upto_region 1 with fail;generalize f:w.alloc _=w1 at*;have⟨g,h⟩:=zB1 f;have⟨a,b,c,d,e⟩:=zr h;go_wp2;refine D7 (v:=zX #[zI zi 0,zI zi 65535]) (by simp[results,results178,go_sem,a,b,c]) rfl ?_;exact⟨rfl,ak g (DE _)⟩
def Xb:Calls zz 246 #[] w (zR (spV (0,1)) w):=by go_enter func246,ntmps246;go_upto_region 1 with fail;generalize f:w.alloc _=w1 at*;have⟨g,h⟩:=zB1 f;have⟨a,b,c,d,e⟩:=zr h;go_wp2;refine D7 (v:=zX #[zI zi 0,zI zi 1]) (by simp[results,results246,go_sem,a,b,c]) rfl ?_;exact⟨rfl,ak g (DE _)⟩
def r7 (n:Nat):Calls zz 54 #[zI zi n] w (zR (spV (n,n)) w):=by go_enter func54,ntmps54;go_upto_region 1 with fail;generalize f:w.alloc _=w1 at*;have⟨g,h⟩:=zB1 f;have⟨a,b,c,d,e⟩:=zr h;go_wp2;refine D7 (v:=zX #[zI zi n,zI zi n]) (by simp[results,results54,go_sem,a,b,c]) rfl ?_;exact⟨rfl,ak g (DE _)⟩
def Vj:Calls zz 244 #[] w (zR (spV (1,1)) w):=by have C:=zh λW=>r7 W 1;unfold spV at C;go_enter func244,ntmps244;go_upto_region 1 with fail;generalize h:w.alloc _=w1 at*;have⟨d,e⟩:=zB1 h;go_wp2;refine zK (C _) λw2 i=> ?_;replace⟨e,d⟩:=zb2 e d i;have⟨a,b,c,f,g⟩:=zr e;go_wp2;refine D7 (v:=zX #[zI zi ((1:Nat):Int),zI zi ((1:Nat):Int)]) (by simp[results,results244,go_sem,a,b,c]) rfl ?_;exact⟨rfl,ak d (DE _)⟩
def Xe:Calls zz 245 #[] w (zR (spV (0,0)) w):=by have C:=zh λW=>r7 W 0;unfold spV at C;go_enter func245,ntmps245;go_upto_region 1 with fail;generalize h:w.alloc _=w1 at*;have⟨d,e⟩:=zB1 h;go_wp2;refine zK (C _) λw2 i=> ?_;replace⟨e,d⟩:=zb2 e d i;have⟨a,b,c,f,g⟩:=zr e;go_wp2;refine D7 (v:=zX #[zI zi ((0:Nat):Int),zI zi ((0:Nat):Int)]) (by simp[results,results245,go_sem,a,b,c]) rfl ?_;exact⟨rfl,ak d (DE _)⟩
theorem mR (w:World) (p q:Bool):Calls zz 179 #[zW p,zW q] w (zR (spV (knS p q)) w):=by
 have⟨j,k,l⟩:=zk3 Vj Xe Xb;unfold spV at j k l;go_enter func179,ntmps179;go_upto_region 1 with fail;generalize i:w.alloc _=w1 at*;have⟨f,g⟩:=zB1 i;cases p with
 |true=>go_wp2;refine zK (j _) λw2 h=> ?_;replace⟨g,f⟩:=zb2 g f h;have⟨a,b,c,d,e⟩:=zr g;go_wp2;refine D7 (v:=zX #[zI zi ((1:Nat):Int),zI zi ((1:Nat):Int)]) (by simp[results,results179,go_sem,a,b,c]) rfl ?_;exact⟨rfl,ak f (DE _)⟩
 |false=>
  cases q with
  |true=>go_wp2;refine zK (k _) λw2 h=> ?_;replace⟨g,f⟩:=zb2 g f h;have⟨a,b,c,d,e⟩:=zr g;go_wp2;refine D7 (v:=zX #[zI zi ((0:Nat):Int),zI zi ((0:Nat):Int)]) (by simp[results,results179,go_sem,a,b,c]) rfl ?_;exact⟨rfl,ak f (DE _)⟩
  |false=>go_wp2;refine zK (l _) λw2 h=> ?_;replace⟨g,f⟩:=zb2 g f h;have⟨a,b,c,d,e⟩:=zr g;go_wp2;refine D7 (v:=zX #[zI zi ((0:Nat):Int),zI zi ((1:Nat):Int)]) (by simp[results,results179,go_sem,a,b,c]) rfl ?_;exact⟨rfl,ak f (DE _)⟩
def is (a b:Nat):Calls zz 243 #[zX #[zI zi a,zI zi b]] w (zR (zW (decide (a=b))) w):=by
 have h:(((a:Int)==(b:Int))=decide (a=b)):=by rw[Fo];simp<;>omega
 generalize(decide (a=b))=q at*;go_enter func243,ntmps243;go_upto_region 1 with fail;generalize c:w.alloc _=w1 at*;have⟨d,g⟩:=zB1 c;obtain⟨e,f⟩:=zc2 g;go_wp2;go_ret;first|exact⟨rfl,d⟩|exact⟨by rw[h],d⟩
def qN (a b:Nat):Calls zz 180 #[zX #[zI zi a,zI zi b]] w (zR (zW (decide (0<a))) w):=by go_enter func180,ntmps180;go_upto_region 1 with fail;generalize c:w.alloc _=w1 at*;have⟨f,g⟩:=zB1 c;obtain⟨d,e⟩:=zc2 g;go_wp2;go_ret;exact⟨rfl,f⟩
def jA (a b:Nat):Calls zz 107 #[zX #[zI zi a,zI zi b]] w (zR (zW (decide (b=0))) w):=by
 have h:(((b:Int)==0)=decide (b=0)):=by rw[Fo];simp<;>omega
 generalize(decide (b=0))=q at*;go_enter func107,ntmps107;go_upto_region 1 with fail;generalize c:w.alloc _=w1 at*;have⟨d,g⟩:=zB1 c;obtain⟨e,f⟩:=zc2 g;go_wp2;go_ret;first|exact⟨rfl,d⟩|exact⟨by rw[h],d⟩
end
section
variable (w:World)
def OpP (f:Nat->Nat->Nat) (a b c d z:Nat):Prop:=∃x y,(a<=x/\x<=b)/\(c<=y/\y<=d)/\z=f x y
def sD {x y:Int} {a b:Nat} (h:x=(a:Nat)) (c:y=(b:Nat)):Ending.returned (zX #[zI zi x,zI zi y])=zE (spV (a,b)):=by rw[h,c];rfl
def nV (lo hi:Nat):Calls zz 250 #[zI zi lo,zI zi hi] w (zR (spV (if 65535<hi then(0,65535) else(lo,hi))) w):=by
 have C:=zh vJ;simp only[spV] at C;go_enter func250,ntmps250;go_upto_region 1 with fail;generalize j:w.alloc _=w1 at*;have⟨f,i⟩:=zB1 j;by_cases h:65535<hi
 .have g:(65535:Int)<(hi:Int):=by omega
  go_wp2;refine zK (C _) λw2 k=> ?_;replace⟨i,f⟩:=zb2 i f k;have⟨a,b,c,d,e⟩:=zr i;go_wp2;refine D7 (v:=zX #[zI zi (((0:Nat):Int)),zI zi (((65535:Nat):Int))]) (by simp[results,results250,go_sem,a,b,c]) rfl ?_;exact⟨rfl,ak f⟩
 skip;have g:¬(65535:Int)<(hi:Int):=by omega
 have⟨a,b,c,d,e⟩:=zr i;go_wp2;refine D7 (v:=zX #[zI zi lo,zI zi hi]) (by simp[results,results250,go_sem,a,b,c]) rfl ?_;exact⟨rfl,ak f⟩
def Yx (a b c d:Nat) (I:a<=b) (J:b<=65535) (K:c<=d) (L:d<=65535):Calls zz 248 #[zX #[zI zi a,zI zi b],zX #[zI zi c,zI zi d]] w (SpQ (OpP (λx y=>(x+y)%65536) a b c d) w):=by
 have q:=zh λW=>nV W (a+c) (b+d);simp only[spV] at q;go_enter func248,ntmps248;go_upto_region 1 with fail;generalize u:w.alloc _=zw1 at*;generalize A:zw1.alloc _=zw2 at*;generalize B:zw2.alloc _=w1 at*;have⟨m,o,p,n⟩:=zB3 u A B;refine az ?_;have E:=o.lat 0 _ rfl;have F:=o.lat 1 _ rfl;have G:=p.lat 0 _ rfl;have H:=p.lat 1 _ rfl;repeat(go_big_quiet_step (fail))
 refine D4 ?_;intro w2 r;replace⟨o,p,n,m⟩:=zb4 o p n m r;by_cases h:65535<a+c
 .have g:(65535:Int)<(a:Int)+(c:Int):=by omega
  have⟨f,i,j,k,l⟩:=zr n;go_wp2;refine D7 (v:=zX #[zI zi ((a:Int)+(c:Int)-65536),zI zi ((b:Int)+(d:Int)-65536)]) (by simp[results,results248,go_sem,f,i,j]) rfl ?_;exact⟨(a+c-65536,b+d-65536),sD (by omega) (by omega),⟨by show _<=_;omega,by show _<=_;omega⟩,λz ⟨x,y,⟨hx1,hx2⟩,⟨hy1,hy2⟩,e⟩=>by dsimp only at e;subst e;exact⟨by show _<=_;omega,by show _<=_;omega⟩,ak m⟩
 skip;have g:¬(65535:Int)<(a:Int)+(c:Int):=by omega
 have s:((a+c:Nat):Int)=(a:Int)+(c:Int):=by omega
 have t:((b+d:Nat):Int)=(b:Int)+(d:Int):=by omega
 rw[s,t] at q;by_cases C:65535<b+d
 .rw[DP C] at q;go_wp2;refine zK (q _) λD r=> ?_;replace⟨o,p,n,m⟩:=zb4 o p n m r;have⟨f,i,j,k,l⟩:=zr n;go_wp2;refine D7 (v:=zX #[zI zi (((0:Nat):Int)),zI zi (((65535:Nat):Int))]) (by simp[results,results248,go_sem,f,i,j]) rfl ?_;exact⟨(0,65535),rfl,⟨by decide,by decide⟩,λz ⟨x,y,⟨hx1,hx2⟩,⟨hy1,hy2⟩,e⟩=>by dsimp only at e;subst e;exact⟨DH _,by show _<=_;omega⟩,ak m⟩
 skip;rw[DK C] at q;go_wp2;refine zK (q _) λD r=> ?_;replace⟨o,p,n,m⟩:=zb4 o p n m r;have⟨f,i,j,k,l⟩:=zr n;go_wp2;refine D7 (v:=zX #[zI zi (a+c:Nat),zI zi (b+d:Nat)]) (by simp[results,results248,go_sem,f,i,j]) rfl ?_;exact⟨(a+c,b+d),rfl,⟨by show _<=_;omega,by show _<=_;omega⟩,λz ⟨x,y,⟨hx1,hx2⟩,⟨hy1,hy2⟩,e⟩=>by dsimp only at e;subst e;exact⟨by show _<=_;omega,by show _<=_;omega⟩,ak m⟩
def Xg (a b c d:Nat) (G:a<=b) (H:b<=65535) (I:c<=d) (J:d<=65535):Calls zz 249 #[zX #[zI zi a,zI zi b],zX #[zI zi c,zI zi d]] w (SpQ (OpP (λx y=>(x+(65536-y))%65536) a b c d) w):=by
 have u:=zh vJ;simp only[spV] at u;go_enter func249,ntmps249;go_upto_region 1 with fail;generalize r:w.alloc _=zw1 at*;generalize s:zw1.alloc _=zw2 at*;generalize t:zw2.alloc _=w1 at*;have⟨m,o,p,n⟩:=zB3 r s t;refine az ?_;have B:=o.lat 0 _ rfl;have C:=o.lat 1 _ rfl;have D:=p.lat 0 _ rfl;have E:=p.lat 1 _ rfl;repeat(go_big_quiet_step (fail))
 refine D4 ?_;intro w2 q;replace⟨o,p,n,m⟩:=zb4 o p n m q;by_cases h:d<=a
 .have g:(0:Int)<=(a:Int)-(d:Int):=by omega
  have⟨f,i,j,k,l⟩:=zr n;go_wp2;refine D7 (v:=zX #[zI zi ((a:Int)-(d:Int)),zI zi ((b:Int)-(c:Int))]) (by simp[results,results249,go_sem,f,i,j]) rfl ?_;exact⟨(a-d,b-c),sD (by omega) (by omega),⟨by show _<=_;omega,by show _<=_;omega⟩,λz ⟨x,y,⟨hx1,hx2⟩,⟨hy1,hy2⟩,e⟩=>by dsimp only at e;subst e;exact⟨by show _<=_;omega,by show _<=_;omega⟩,ak m⟩
 have g:¬(0:Int)<=(a:Int)-(d:Int):=by omega
 by_cases F:b<c
 .skip;have A:(b:Int)-(c:Int)<0:=by omega
  have⟨f,i,j,k,l⟩:=zr n;go_wp2;refine D7 (v:=zX #[zI zi ((a:Int)-(d:Int)+65536),zI zi ((b:Int)-(c:Int)+65536)]) (by simp[results,results249,go_sem,f,i,j]) rfl ?_;exact⟨(a+65536-d,b+65536-c),sD (by omega) (by omega),⟨by show _<=_;omega,by show _<=_;omega⟩,λz ⟨x,y,⟨hx1,hx2⟩,⟨hy1,hy2⟩,e⟩=>by dsimp only at e;subst e;exact⟨by show _<=_;omega,by show _<=_;omega⟩,ak m⟩
 skip;have A:¬(b:Int)-(c:Int)<0:=by omega
 go_wp2;refine zK (u _) λK q=> ?_;replace⟨o,p,n,m⟩:=zb4 o p n m q;have⟨f,i,j,k,l⟩:=zr n;go_wp2;refine D7 (v:=zX #[zI zi (((0:Nat):Int)),zI zi (((65535:Nat):Int))]) (by simp[results,results249,go_sem,f,i,j]) rfl ?_;exact⟨(0,65535),rfl,⟨by decide,by decide⟩,λz ⟨x,y,⟨hx1,hx2⟩,⟨hy1,hy2⟩,e⟩=>by dsimp only at e;subst e;exact⟨DH _,by show _<=_;omega⟩,ak m⟩
end
def tz:∀{k:Nat},k<=16->wrap64 (wrap64 ((2:Int)^k)-1)=((2^k-1:Nat):Int):=by
 intro k h;have:k=0\/k=1\/k=2\/k=3\/k=4\/k=5\/k=6\/k=7\/k=8\/k=9\/k=10\/k=11\/k=12\/k=13\/k=14\/k=15\/k=16:=by omega
 rcases this with rfl|rfl|rfl|rfl|rfl|rfl|rfl|rfl|rfl|rfl|rfl|rfl|rfl|rfl|rfl|rfl|rfl<;>decide+kernel
def Xf (w:World) (n:Nat) (h:n<=65535):Calls zz 305 #[zI zi n] w (zS (zI zi (pO n:Nat)) w):=by have C:=zh λW=>Tryz.bits_Len (n:Int) W (by omega) (by omega);simp only[Eh] at C;have hk:=RM h;have a:=zh (tz hk);unfold pO;generalize Lib.bitLen n=k at*;go_enter func305,ntmps305;go_wp2;refine zJ (C _) ?_;go_wp2;go_ret;exact⟨Ev (λz=>Ending.returned (zI zi z)) a,rfl⟩
section
variable (w:World) {a b:Nat} {r:Sp}
def OnP (f:Nat->Nat) (a b z:Nat):Prop:=∃x,(a<=x/\x<=b)/\z=f x
def du {x y:Int} {P:Nat->Prop} {w w':World} (h:x=(a:Nat)) (c:y=(b:Nat)) (e:lz (a,b)) (f:∀z,P z->dt z (a,b)) (d:zL w w'):SpQ P w (zE (zX #[zI zi x,zI zi y])) w':=⟨(a,b),sD h c,e,f,d⟩
def yv (a c:Nat) (b:a<=65535) (d:c<16):wrap64 ((a:Int)*2^c)=((a*2^c:Nat):Int):=by
 have h:a*2^c<=65535*32768:=Nat.mul_le_mul b (by have:=Ew (n:=2) (by omega) (show c<=15 by omega);simpa using this);have e:((a*2^c:Nat):Int)=(a:Int)*2^c:=by push_cast;rfl
 rw[<-e,IntWalk.wrap64_in _ (by omega)]
def VC {z c a:Nat} (b:c<16) (h:z<=a) (d:¬65535<a):(if c<16 then z%65536 else 0)=z:=by rw[DP b,E9 (by omega)]
def TA {a x:Nat} (h:a<=x) (b:x<=65535):min a 1<=jt x:=by
 rcases Nat.eq_zero_or_pos x with c|c
 .omega
 have:=PG (x:=x) (by omega) b;omega
def onP {f:Nat->Nat} (h:∀x,a<=x->x<=b->dt (f x) r):∀z,OnP f a b z->dt z r:=λz ⟨x,⟨h1,h2⟩,e⟩=>e▸h x h1 h2
def opP {f:Nat->Nat->Nat} {a b c d:Nat} (h:∀x y,a<=x->x<=b->c<=y->y<=d->dt (f x y) r):∀z,OpP f a b c d z->dt z r:=λz ⟨x,y,⟨h1,h2⟩,⟨h3,h4⟩,e⟩=>e▸h x y h1 h2 h3 h4
def YA (a b:Nat) (B:a<=b) (C:b<=65535):Calls zz 181 #[zX #[zI zi a,zI zi b]] w (SpQ (OnP (λx=>(65536-x)%65536) a b) w):=by
 have o:=zh λW=>jA W a b;have r:=zh λW=>qN W a b;have⟨y,u⟩:=zk2 Xe vJ;simp only[spV] at y u;go_enter func181,ntmps181;go_upto_region 1 with fail;generalize s:w.alloc _=zw1 at*;generalize t:zw1.alloc _=w1 at*;have⟨d,c,e⟩:=zB2 s t;obtain⟨j,k⟩:=zc2 c;by_cases h:b=0
 .rw[DR h] at o;subst h;go_wp2;refine zK (o _) λw2 l=> ?_;replace⟨c,e,d⟩:=zb3 c e d l;obtain⟨j,k⟩:=zc2 c;go_wp2;refine zK (y _) λA l=> ?_;replace⟨c,e,d⟩:=zb3 c e d l;have⟨f,g,i,m,n⟩:=zr e;go_wp2;refine D7 (v:=zX #[zI zi (((0:Nat):Int)),zI zi (((0:Nat):Int))]) (by simp[results,results181,go_sem,f,g,i]) rfl ?_;refine du (a:=0) (b:=0) rfl rfl ⟨by decide,by decide⟩ (onP λx p q=> ?_) (ak d);have:x=0:=by omega
  subst this;exact⟨by decide,by decide⟩
 rw[DJ h] at o;by_cases z:0<a
 .skip;rw[DR z] at r;go_wp2;refine zK (o _) λw2 l=> ?_;replace⟨c,e,d⟩:=zb3 c e d l;obtain⟨j,k⟩:=zc2 c;go_wp2;refine zK (r _) λA l=> ?_;replace⟨c,e,d⟩:=zb3 c e d l;obtain⟨j,k⟩:=zc2 c;have⟨f,g,i,m,n⟩:=zr e;go_wp2;refine D7 (v:=zX #[zI zi (65536-(b:Int)),zI zi (65536-(a:Int))]) (by simp[results,results181,go_sem,f,g,i]) rfl ?_;exact du (a:=65536-b) (b:=65536-a) (by omega) (by omega) ⟨by show _<=_;omega,by show _<=_;omega⟩ (onP λx p q=>⟨by show _<=_;omega,by show _<=_;omega⟩) (ak d)
 skip;rw[DJ z] at r;go_wp2;refine zK (o _) λw2 l=> ?_;replace⟨c,e,d⟩:=zb3 c e d l;obtain⟨j,k⟩:=zc2 c;go_wp2;refine zK (r _) λA l=> ?_;replace⟨c,e,d⟩:=zb3 c e d l;go_wp2;refine zK (u _) λD l=> ?_;replace⟨c,e,d⟩:=zb3 c e d l;have⟨f,g,i,m,n⟩:=zr e;go_wp2;refine D7 (v:=zX #[zI zi (((0:Nat):Int)),zI zi (((65535:Nat):Int))]) (by simp[results,results181,go_sem,f,g,i]) rfl ?_;exact du (a:=0) (b:=65535) rfl rfl ⟨by decide,by decide⟩ (onP λx p q=>⟨DH _,by show _<=_;omega⟩) (ak d)
def RZ (n k:Nat) (b:n<=65535) (hk:k<=65535):Calls zz 253 #[zI zi n,zI zi k] w (zS (zI zi (if k<16 then n/2^k else 0:Nat)) w):=by
 by_cases h:k<16
 .have g:¬(16:Int)<=(k:Int):=by omega
  have a:=zn0 k;rw[DP h];go_enter func253,ntmps253;go_wp2;go_ret;exact⟨Ev (λz=>Ending.returned (zI zi z)) (by push_cast;rfl),rfl⟩
 have g:(16:Int)<=(k:Int):=by omega
 rw[DK h];go_enter func253,ntmps253;go_wp2;go_ret;exact⟨rfl,rfl⟩
def Yy (a b c d:Nat) (K:a<=b) (U:b<=65535) (h3:c<=d) (h4:d<=65535):Calls zz 252 #[zX #[zI zi a,zI zi b],zX #[zI zi c,zI zi d]] w (SpQ (OpP (λx y=>if y<16 then(x*2^y)%65536 else 0) a b c d) w):=by
 have C:=zh λW=>jA W a b;have G:=zh λW=>is W c d;have⟨I,P⟩:=zk2 Xe vJ;simp only[spV] at I P;go_enter func252,ntmps252;go_upto_region 1 with fail;generalize D:w.alloc _=zw1 at*;generalize E:zw1.alloc _=zw2 at*;generalize F:zw2.alloc _=w1 at*;have⟨k,n,l,m⟩:=zB3 D E F;clear D E F;obtain⟨R,S⟩:=zc2 n;obtain⟨q,r⟩:=zc2 l;by_cases h:b=0
 .rw[DR h] at C;subst h;go_wp2;refine zK (C _) λw2 e=> ?_;replace⟨n,l,m,k⟩:=zb4 n l m k e;clear e;go_wp2;refine zK (I _) λN e=> ?_;replace⟨n,l,m,k⟩:=zb4 n l m k e;clear e;have⟨f,i,j,o,p⟩:=zr m;go_wp2;refine D7 (v:=zX #[zI zi (((0:Nat):Int)),zI zi (((0:Nat):Int))]) (by simp[results,results252,go_sem,f,i,j]) rfl ?_;exact du (a:=0) (b:=0) rfl rfl ⟨by decide,by decide⟩ (opP λx y s t u z=>⟨DH _,by show _<=_;(obtain rfl:x=0:=by omega);split<;>simp⟩) (ak k)
 rw[DJ h] at C;by_cases h':16<=c
 .skip;have g:(16:Int)<=(c:Int):=by omega
  go_wp2;refine zK (C _) λw2 e=> ?_;replace⟨n,l,m,k⟩:=zb4 n l m k e;clear e;obtain⟨q,r⟩:=zc2 l;go_wp2;refine zK (I _) λN e=> ?_;replace⟨n,l,m,k⟩:=zb4 n l m k e;clear e;have⟨f,i,j,o,p⟩:=zr m;go_wp2;refine D7 (v:=zX #[zI zi (((0:Nat):Int)),zI zi (((0:Nat):Int))]) (by simp[results,results252,go_sem,f,i,j]) rfl ?_;exact du (a:=0) (b:=0) rfl rfl ⟨by decide,by decide⟩ (opP λx y s t u z=>⟨DH _,by show _<=_;rw[DK (by omega)];exact DE _⟩) (ak k)
 have g:¬(16:Int)<=(c:Int):=by omega
 by_cases L:c=d
 .skip;rw[DR L] at G;subst L;have H:=zh λW=>nV W (a*2^c) (b*2^c);simp only[spV] at H;have s1:=yv a c (by omega) (by omega);have s2:=yv b c (by omega) (by omega);have g0:=zn0 c;have hp:0<2^c:=Nat.two_pow_pos _;have hm:a*2^c<=b*2^c:=Nat.mul_le_mul_right _ K;have Q:Hid (∀x,a<=x->x<=b->a*2^c<=x*2^c/\x*2^c<=b*2^c):=zh λx K U=>⟨Nat.mul_le_mul_right _ K,Nat.mul_le_mul_right _ U⟩;have⟨T,A⟩:=zv (a*2^c);have⟨J,B⟩:=zv (b*2^c);rw[<-A,<-B] at H Q hm;rw[<-A] at s1;rw[<-B] at s2;clear A B;go_wp2;refine zK (C _) λw2 e=> ?_;replace⟨n,l,m,k⟩:=zb4 n l m k e;clear e;obtain⟨q,r⟩:=zc2 l;go_wp2;refine zK (G _) λN e=> ?_;replace⟨n,l,m,k⟩:=zb4 n l m k e;clear e;go_wp2;refine aj 11 ?_;have X:=n.lat 0 _ rfl;have Y:=n.lat 1 _ rfl;have Z:=l.lat 0 _ rfl;simp only[Ee,El,Ei,D5];repeat(go_big_quiet_step (first|with_reducible exact aG (H.out _)))
  refine D4 ?_;intro w4 e;clear X Y Z;replace⟨n,l,m,k⟩:=zb4 n l m k e;clear e;have⟨f,i,j,o,p⟩:=zr m;by_cases M:65535<J
  .rw[DP M];go_wp2;refine D7 (v:=zX #[zI zi (((0:Nat):Int)),zI zi (((65535:Nat):Int))]) (by simp[results,results252,go_sem,f,i,j]) rfl ?_;exact du (a:=0) (b:=65535) rfl rfl ⟨by decide,by decide⟩ (opP λx y s t u z=>⟨DH _,by show _<=_;split<;>omega⟩) (ak k)
  rw[DK M];go_wp2;refine D7 (v:=zX #[zI zi ((T:Nat)),zI zi ((J:Nat))]) (by simp[results,results252,go_sem,f,i,j]) rfl ?_;refine du (a:=T) (b:=J) rfl rfl ⟨hm,by show _<=_;omega⟩ (opP λx y s t u z=> ?_) (ak k);obtain rfl:y=c:=by omega
  have⟨q1,V⟩:=Q x s t;rw[VC (by omega) V M];exact⟨q1,V⟩
 skip;rw[DJ L] at G;go_wp2;refine zK (C _) λw2 e=> ?_;replace⟨n,l,m,k⟩:=zb4 n l m k e;clear e;obtain⟨q,r⟩:=zc2 l;go_wp2;refine zK (G _) λN e=> ?_;replace⟨n,l,m,k⟩:=zb4 n l m k e;clear e;go_wp2;refine zK (P _) λw4 e=> ?_;replace⟨n,l,m,k⟩:=zb4 n l m k e;clear e;have⟨f,i,j,o,p⟩:=zr m;go_wp2;refine D7 (v:=zX #[zI zi (((0:Nat):Int)),zI zi (((65535:Nat):Int))]) (by simp[results,results252,go_sem,f,i,j]) rfl ?_;exact du (a:=0) (b:=65535) rfl rfl ⟨by decide,by decide⟩ (opP λx y s t u z=>⟨DH _,by show _<=_;split<;>omega⟩) (ak k)
def ChP (a b c d e f z:Nat):Prop:=∃x y g,(a<=x/\x<=b)/\(c<=y/\y<=d)/\(e<=g/\g<=f)/\z=if x≠0 then y else g
def Sa (a b c d e f:Nat) (R:a<=b) (S:b<=65535) (L:c<=d) (M:d<=65535) (N:e<=f) (P:f<=65535):Calls zz 183 #[zX #[zI zi a,zI zi b],zX #[zI zi c,zI zi d],zX #[zI zi e,zI zi f]] w (SpQ (ChP a b c d e f) w):=by
 have F:=zh λW=>jA W a b;have E:=zh λW=>qN W a b;go_enter func183,ntmps183;go_upto_region 1 with fail;generalize H:w.alloc _=zw1 at*;generalize I:zw1.alloc _=zw2 at*;generalize J:zw2.alloc _=zw3 at*;generalize K:zw3.alloc _=w1 at*;have⟨k,l,m,n,o⟩:=zB4 H I J K;obtain⟨t,u⟩:=zc2 l;obtain⟨A,B⟩:=zc2 m;obtain⟨C,D⟩:=zc2 n;by_cases h:0<a
 .rw[DR h] at E;go_wp2;refine zK (E _) λw2 s=> ?_;replace⟨l,m,n,o,k⟩:=zb5 l m n o k s;obtain⟨A,B⟩:=zc2 m;have⟨g,i,j,p,r⟩:=zr o;go_wp2;refine D7 (v:=zX #[zI zi ((c:Nat)),zI zi ((d:Nat))]) (by simp[results,results183,go_sem,g,i,j]) rfl ?_;exact du (a:=c) (b:=d) rfl rfl ⟨L,M⟩ (λz ⟨x,y,y',⟨q1,q2⟩,⟨q3,q4⟩,⟨q5,q6⟩,q⟩=>by subst q;rw[DP (by omega)];exact⟨q3,q4⟩) (ak k)
 rw[DJ h] at E;by_cases G:b=0
 .skip;rw[DR G] at F;subst G;go_wp2;refine zK (E _) λw2 s=> ?_;replace⟨l,m,n,o,k⟩:=zb5 l m n o k s;obtain⟨t,u⟩:=zc2 l;go_wp2;refine zK (F _) λQ s=> ?_;replace⟨l,m,n,o,k⟩:=zb5 l m n o k s;obtain⟨C,D⟩:=zc2 n;have⟨g,i,j,p,r⟩:=zr o;go_wp2;refine D7 (v:=zX #[zI zi ((e:Nat)),zI zi ((f:Nat))]) (by simp[results,results183,go_sem,g,i,j]) rfl ?_;exact du (a:=e) (b:=f) rfl rfl ⟨N,P⟩ (λz ⟨x,y,y',⟨q1,q2⟩,⟨q3,q4⟩,⟨q5,q6⟩,q⟩=>by subst q;rw[DK (by omega)];exact⟨q5,q6⟩) (ak k)
 skip;rw[DJ G] at F;go_wp2;refine zK (E _) λw2 s=> ?_;replace⟨l,m,n,o,k⟩:=zb5 l m n o k s;obtain⟨t,u⟩:=zc2 l;go_wp2;refine zK (F _) λQ s=> ?_;replace⟨l,m,n,o,k⟩:=zb5 l m n o k s;obtain⟨A,B⟩:=zc2 m;obtain⟨C,D⟩:=zc2 n;have⟨g,i,j,p,r⟩:=zr o;go_wp2;refine D7 (v:=zX #[zI zi (min (c:Int) (e:Int)),zI zi (max (d:Int) (f:Int))]) (by simp[results,results183,go_sem,g,i,j]) rfl ?_;exact du (a:=min c e) (b:=max d f) (by omega) (by omega) ⟨by show _<=_;omega,by show _<=_;omega⟩ (λz ⟨x,y,y',⟨q1,q2⟩,⟨q3,q4⟩,⟨q5,q6⟩,q⟩=>by subst q;split<;>exact⟨by show _<=_;omega,by show _<=_;omega⟩) (ak k)
def Xc (a b:Nat) (M:a<=b) (t:b<=65535):Calls zz 182 #[zX #[zI zi a,zI zi b]] w (SpQ (OnP jt a b) w):=by
 have s:=zh λW=>is W a b;have D:=zh λW=>tC W a (by omega);have y:=zh λW=>r7 W (jt a);have C:=zh λW=>(Tryz.bits_Len (b:Int) W (by omega) (by omega)).mono λ_ _ q=>(⟨q.1,q.2.symm⟩:_/\W=_);simp only[Eh] at C;simp only[spV] at y;have G:=zh λx (z:x<=b)=>PF z t;have F:=zh λx (z:a<=x) (h:x<=65535)=>TA z h;have N:=RM t;have H:0<b->1<=Lib.bitLen b:=λh=>by have:=PG (x:=b) (by omega) t;have:=PF (DE b) t;omega
 have I:=sN a;have⟨u,m⟩:=zvh (jt a);rw[<-m] at D y I;generalize Lib.bitLen b=E at*;go_enter func182,ntmps182;go_upto_region 1 with fail;generalize A:w.alloc _=zw1 at*;generalize B:zw1.alloc _=w1 at*;have⟨d,c,e⟩:=zB2 A B;obtain⟨n,o⟩:=zc2 c;by_cases h:a=b
 .rw[DR h] at s;subst h;go_wp2;refine zK (s _) λw2 j=> ?_;replace⟨c,e,d⟩:=zb3 c e d j;obtain⟨n,o⟩:=zc2 c;go_wp2;refine zK (D _) λP j=> ?_;replace⟨c,e,d⟩:=zb3 c e d j;go_wp2;refine zK (y _) λJ j=> ?_;replace⟨c,e,d⟩:=zb3 c e d j;have⟨f,g,i,k,l⟩:=zr e;go_wp2;refine D7 (v:=zX #[zI zi ((u:Nat)),zI zi ((u:Nat))]) (by simp[results,results182,go_sem,f,g,i]) rfl ?_;exact du (a:=u) (b:=u) rfl rfl ⟨DE _,by show _<=_;omega⟩ (onP λx p r=>by rw[show x=a by omega,<-m];exact⟨DE _,DE _⟩) (ak d)
 skip;rw[DJ h] at s;go_wp2;refine zK (s _) λw2 j=> ?_;replace⟨c,e,d⟩:=zb3 c e d j;go_wp2;refine aj 8 ?_;have K:=c.lat 0 _ rfl;have L:=c.lat 1 _ rfl;simp only[Ee,El,Ei,D5];repeat(go_big_quiet_step (first|with_reducible exact mo (C.out _)))
 refine D4 ?_;intro J j;replace⟨c,e,d⟩:=zb3 c e d j;have⟨f,g,i,k,l⟩:=zr e;go_wp2;refine D7 (v:=zX #[zI zi (min (a:Int) 1),zI zi ((E:Nat))]) (by simp[results,results182,go_sem,f,g,i]) rfl ?_;exact du (a:=min a 1) (b:=E) (by omega) rfl ⟨by show _<=_;omega,by show _<=_;omega⟩ (onP λx p r=>⟨F x p (by omega),G x r⟩) (ak d)
end
theorem Sb (w:World) (op:Int) (g:Nat->Nat->Nat) (a b c d:Nat) (h1:a<=b) (h2:b<=65535) (h3:c<=d) (h4:d<=65535)
  (ho:op=10/\g=(λx y=>x&&&y)/\bits .and .i64 (a:Int) (c:Int)=((g a c:Nat):Int)\/op=11/\g=(λx y=>x|||y)/\bits .or .i64 (a:Int) (c:Int)=((g a c:Nat):Int)\/op=12/\g=(λx y=>x^^^y)/\bits .xor .i64 (a:Int) (c:Int)=((g a c:Nat):Int)):Calls zz 251 #[zI zi op,zX #[zI zi a,zI zi b],zX #[zI zi c,zI zi d]] w (SpQ (OpP g a b c d) w):=by
 have T:=zh λW=>Xf W (max b d) (by omega);have em:((max b d:Nat):Int)=max (b:Int) (d:Int):=by omega
 rw[em] at T;have D:=zh fun(x y:Nat) (K:x<=max b d) (Y:y<=max b d)=>V8 K Y (show max b d<=65535 by omega);have E:=zh fun(x y:Nat) (K:x<=max b d) (Y:y<=max b d)=>St K Y (show max b d<=65535 by omega);have V:=Wj (show max b d<=65535 by omega);have X:=Wi (show max b d<=65535 by omega);have⟨R,L⟩:=zv (pO (max b d));rw[<-L] at T D E V X;clear L em;have t:=zh λW=>is W a b;have C:=zh λW=>is W c d;have⟨r,U⟩:=zvh (g a c);rw[<-U] at ho;have Z:=zh λW=>r7 W r;simp only[spV] at Z;rcases ho with⟨rfl,rfl,K⟩|⟨rfl,rfl,K⟩|⟨rfl,rfl,K⟩
 all_goals
  go_enter func251,ntmps251;go_upto_region 1 with fail;generalize M:w.alloc _=zw1 at*;generalize N:zw1.alloc _=zw2 at*;generalize P:zw2.alloc _=w1 at*;have⟨p,q,j,s⟩:=zB3 M N P;clear M N P;obtain⟨u,z⟩:=zc2 q;obtain⟨k,l⟩:=zc2 j;go_wp2;refine zJ (T _) ?_;by_cases h:a=b;case' pos=>
   rw[DR h] at t;have H:=zh h;clear h;by_cases Q:c=d
   .rw[DR Q] at C;have H':=zh Q;clear Q;go_wp2;refine zK (t _) λw2 o=> ?_;replace⟨q,j,s,p⟩:=zb4 q j s p o;clear o;obtain⟨k,l⟩:=zc2 j;go_wp2;refine zK (C _) λw3 o=> ?_;replace⟨q,j,s,p⟩:=zb4 q j s p o;clear o;obtain⟨u,z⟩:=zc2 q;obtain⟨k,l⟩:=zc2 j;go_wp2;refine zK (Z _) λw4 o=> ?_;replace⟨q,j,s,p⟩:=zb4 q j s p o;clear o;have⟨e,f,i,A,B⟩:=zr s;go_wp2;refine D7 (v:=zX #[zI zi ((r:Nat)),zI zi ((r:Nat))]) (by simp[results,results251,go_sem,e,f,i]) rfl ?_;have ha:=H.out;have hc:=H'.out;have r6:r<=65535:=by have S:=U.out;(try simp only at S);have q1:=Nat.and_le_left (n:=a) (m:=c);have q2:=D a c (by omega) (by omega);have q3:=E a c (by omega) (by omega);omega
    exact du (a:=r) (b:=r) rfl rfl ⟨DE _,r6⟩ (opP λx y F G I J=>by rw[show x=a by omega,show y=c by omega];have S:=U.out;exact⟨Nat.le_of_eq S,Nat.le_of_eq S.symm⟩) (ak p)
   rw[DJ Q] at C;go_wp2;refine zK (t _) λw2 o=> ?_;replace⟨q,j,s,p⟩:=zb4 q j s p o;clear o;obtain⟨k,l⟩:=zc2 j;go_wp2;refine zK (C _) λw3 o=> ?_;replace⟨q,j,s,p⟩:=zb4 q j s p o;clear o;obtain⟨u,z⟩:=zc2 q;obtain⟨k,l⟩:=zc2 j;have⟨e,f,i,A,B⟩:=zr s;go_wp2
  case' neg=>rw[DJ h] at t;go_wp2;refine zK (t _) λw2 o=> ?_;replace⟨q,j,s,p⟩:=zb4 q j s p o;clear o;obtain⟨u,z⟩:=zc2 q;obtain⟨k,l⟩:=zc2 j;have⟨e,f,i,A,B⟩:=zr s;go_wp2
  all_goals
   first
    |(refine D7 (v:=zX #[zI zi (((0:Nat):Int)),zI zi (min (b:Int) (d:Int))]) (by simp[results,results251,go_sem,e,f,i]) rfl ?_
      refine du (a:=0) (b:=min b d) (by omega) (by omega) ⟨by show _<=_;omega,by show _<=_;omega⟩ (opP λx y F G I J=> ?_) (ak p);have q1:=Nat.and_le_left (n:=x) (m:=y);have q2:=Nat.and_le_right (n:=x) (m:=y);exact⟨DH _,by show x&&&y<=min b d;omega⟩)
    |(refine D7 (v:=zX #[zI zi (max (a:Int) (c:Int)),zI zi ((R:Nat))]) (by simp[results,results251,go_sem,e,f,i]) rfl ?_
      refine du (a:=max a c) (b:=R) (by omega) (by omega) ⟨by show _<=_;omega,by show _<=_;omega⟩ (opP λx y F G I J=> ?_) (ak p);have⟨q1,q2⟩:=U7 x y;exact⟨by show max a c<=x|||y;omega,D x y (by omega) (by omega)⟩)
    |(refine D7 (v:=zX #[zI zi (((0:Nat):Int)),zI zi ((R:Nat))]) (by simp[results,results251,go_sem,e,f,i]) rfl ?_
      refine du (a:=0) (b:=R) (by omega) (by omega) ⟨by show _<=_;omega,by show _<=_;omega⟩ (opP λx y F G I J=> ?_) (ak p);exact⟨DH _,E x y (by omega) (by omega)⟩)
def SaR (a b c d:Nat) (w:World) (e:Ending) (w':World):Prop:=∃p q,e=zE (zY #[zW p,zW q])/\(p=true->a=b/\c=d/\a=c)/\(q=true->b<c\/d<a)/\zL w w'
def Xa (w:World) (a b c d:Nat):Calls zz 254 #[zX #[zI zi a,zI zi b],zX #[zI zi c,zI zi d]] w (SaR a b c d w):=by
 have e:=zh λW=>is W a b;have f:=zh λW=>is W c d;have y:((a:Int)==(c:Int))=decide (a=c):=by rw[Fo];simp<;>omega
 have z:decide ((b:Int)<(c:Int))=decide (b<c):=by rw[Fo];simp<;>omega
 have A:decide ((d:Int)<(a:Int))=decide (d<a):=by rw[Fo];simp<;>omega
 have m:Hid (decide (a=b)=true->a=b):=zh Ey;have n:Hid (decide (c=d)=true->c=d):=zh Ey;have o:Hid (decide (a=c)=true->a=c):=zh Ey;have p:Hid (decide (b<c)=true->b<c):=zh Ey;have q:Hid (decide (d<a)=true->d<a):=zh Ey;generalize decide (a=b)=p1,decide (c=d)=p2,decide (a=c)=p3 at*;generalize s:decide (b<c)=p4,hq5:decide (d<a)=p5 at*;go_enter func254,ntmps254;go_upto_region 1 with fail;generalize i:w.alloc _=zw1 at*;generalize j:zw1.alloc _=w1 at*;have⟨g,k,l⟩:=zB2 i j;refine az ?_;have t:=k.lat 0 _ rfl;have u:=k.lat 1 _ rfl;have v:=l.lat 0 _ rfl;have x:=l.lat 1 _ rfl;cases p1<;>cases p2<;>cases p3<;>cases p4<;>cases p5
 all_goals
  repeat(go_big_quiet_step (first|with_reducible exact aG (e.out _)|with_reducible exact aG (f.out _)))
  refine D4 ?_;intro w2 r;replace g:=zb g r;go_wp2;go_ret2;exact⟨_,_,rfl,λh=>by first|exact⟨m (by trivial),n (by trivial),o (by trivial)⟩|(cases h;done),λh=>by first|exact zQ (p (by trivial))|exact zO (q (by trivial))|(cases h;done),g⟩
section
variable (w:World)
def yT (a c:Nat) (b:a<=65535) (d:c<=65535):wrap64 ((a:Int)*(c:Int))=((a*c:Nat):Int):=by
 have h:a*c<=65535*65535:=Nat.mul_le_mul b d;have e:((a*c:Nat):Int)=(a:Int)*(c:Int):=by push_cast;rfl
 rw[<-e,IntWalk.wrap64_in _ (by omega)]
def Dz (op:Int) (fn:Nat) (f:Array Value) (a b c d:Nat) (K:a<=b) (L:b<=65535) (M:c<=d) (N:d<=65535) (C:∀W,Calls zz fn f W (SpQ (OpP (op2 op) a b c d) W)) (h:op=7/\fn=248/\f=#[zX #[zI zi a,zI zi b],zX #[zI zi c,zI zi d]]\/op=8/\fn=249/\f=#[zX #[zI zi a,zI zi b],zX #[zI zi c,zI zi d]]\/op=10/\fn=251/\f=#[zI zi 10,zX #[zI zi a,zI zi b],zX #[zI zi c,zI zi d]]\/op=11/\fn=251/\f=#[zI zi 11,zX #[zI zi a,zI zi b],zX #[zI zi c,zI zi d]]\/op=12/\fn=251/\f=#[zI zi 12,zX #[zI zi a,zI zi b],zX #[zI zi c,zI zi d]]\/op=13/\fn=252/\f=#[zX #[zI zi a,zI zi b],zX #[zI zi c,zI zi d]]):Calls zz 185 #[zI zi op,zX #[zI zi a,zI zi b],zX #[zI zi c,zI zi d]] w (SpQ (OpP (op2 op) a b c d) w):=by
 rcases h with⟨rfl,rfl,rfl⟩|⟨rfl,rfl,rfl⟩|⟨rfl,rfl,rfl⟩|⟨rfl,rfl,rfl⟩|⟨rfl,rfl,rfl⟩|⟨rfl,rfl,rfl⟩
 all_goals
  replace C:=zh C;go_enter func185,ntmps185;go_upto_region 1 with fail;generalize n:w.alloc _=zw1 at*;generalize o:zw1.alloc _=zw2 at*;generalize p:zw2.alloc _=w1 at*;have⟨q,s,t,u⟩:=zB3 n o p;clear n o p;obtain⟨D,E⟩:=zc2 s;obtain⟨F,G⟩:=zc2 t;go_wp2;refine(C _).mono ?_;rintro e0 P ⟨⟨I,J⟩,rfl,⟨l,m⟩,k,H⟩;have r:=zh k;clear k;simp only at l m;simp only[spV];replace⟨s,t,u,q⟩:=zb4 s t u q H;clear H;have⟨g,i,j,A,B⟩:=zr u;go_wp2;refine D7 (v:=zX #[zI zi ((I:Nat)),zI zi ((J:Nat))]) (by simp[results,results185,go_sem,g,i,j]) rfl ?_;exact du (a:=I) (b:=J) rfl rfl ⟨l,m⟩ (λz ⟨x,y,q1,q2,e⟩=>r z ⟨x,y,q1,q2,e⟩) (ak q)
def Y8 (a b c d:Nat) (M:a<=b) (T:b<=65535) (N:c<=d) (U:d<=65535):Calls zz 185 #[zI zi 9,zX #[zI zi a,zI zi b],zX #[zI zi c,zI zi d]] w (SpQ (OpP (op2 9) a b c d) w):=by
 have C:=zh λW=>nV W (a*c) (b*d);simp only[spV] at C;have P:=yT a c (by omega) (by omega);have Q:=yT b d (by omega) (by omega);have hm:a*c<=b*d:=Nat.mul_le_mul M N;have F:Hid (∀x y,a<=x->x<=b->c<=y->y<=d->a*c<=x*y/\x*y<=b*d):=zh λx y D E R S=>⟨Nat.mul_le_mul D R,Nat.mul_le_mul E S⟩;have⟨B,h⟩:=zv (a*c);have⟨r,i⟩:=zv (b*d);rw[<-h,<-i] at C F hm;rw[<-h] at P;rw[<-i] at Q;clear h i;go_enter func185,ntmps185;go_upto_region 1 with fail;generalize n:w.alloc _=zw1 at*;generalize o:zw1.alloc _=zw2 at*;generalize p:zw2.alloc _=w1 at*;have⟨q,s,t,u⟩:=zB3 n o p;clear n o p;obtain⟨G,H⟩:=zc2 s;obtain⟨I,J⟩:=zc2 t;go_wp2;refine zK (C _) λV L=> ?_;replace⟨s,t,u,q⟩:=zb4 s t u q L;clear L;have⟨e,f,g,z,A⟩:=zr u;by_cases K:65535<r
 .rw[DP K];go_wp2;refine D7 (v:=zX #[zI zi (((0:Nat):Int)),zI zi (((65535:Nat):Int))]) (by simp[results,results185,go_sem,e,f,g]) rfl ?_;exact du (a:=0) (b:=65535) rfl rfl ⟨by decide,by decide⟩ (opP λx y j k l m=>⟨DH _,by show(x*y)%65536<=65535;omega⟩) (ak q)
 rw[DK K];go_wp2;refine D7 (v:=zX #[zI zi ((B:Nat)),zI zi ((r:Nat))]) (by simp[results,results185,go_sem,e,f,g]) rfl ?_;refine du (a:=B) (b:=r) rfl rfl ⟨hm,by show _<=_;omega⟩ (opP λx y j k l m=> ?_) (ak q);have⟨D,E⟩:=F x y j k l m;show dt ((x*y)%65536) (B,r);rw[E9 (by omega)];exact⟨D,E⟩
def YE (a b c d:Nat) (L:a<=b) (M:b<=65535) (N:c<=d) (V:d<=65535):Calls zz 185 #[zI zi 14,zX #[zI zi a,zI zi b],zX #[zI zi c,zI zi d]] w (SpQ (OpP (op2 14) a b c d) w):=by
 have F:=zh λW=>RZ W a d (by omega) (by omega);have G:=zh λW=>RZ W b c (by omega) (by omega);have r:Hid (∀x y,a<=x->x<=b->c<=y->y<=d->(if d<16 then a/2^d else 0)<=op2 14 x y/\op2 14 x y<=(if c<16 then b/2^c else 0)):=zh λx y P Q R S=>by
  show _<=(if y<16 then x/2^y else 0)/\(if y<16 then x/2^y else 0)<=_;have T:=tP P S;have U:=tP Q R;constructor
  .by_cases D:d<16
   .rw[DP D,DP (by omega)];exact T
   rw[DK D];exact DH _
  by_cases E:y<16
  .rw[DP E,DP (by omega)];exact U
  rw[DK E];exact DH _
 have hm:(if d<16 then a/2^d else 0)<=(if c<16 then b/2^c else 0):=by have:=r a c (DE _) L (DE _) N;omega
 have q:(if c<16 then b/2^c else 0)<=65535:=by
  split
  .exact D2 (Nat.div_le_self _ _) M
  omega
 generalize(if d<16 then a/2^d else 0)=A,(if c<16 then b/2^c else 0)=B at*;go_enter func185,ntmps185;go_upto_region 1 with fail;generalize j:w.alloc _=zw1 at*;generalize k:zw1.alloc _=zw2 at*;generalize l:zw2.alloc _=w1 at*;have⟨m,e,f,n⟩:=zB3 j k l;clear j k l;obtain⟨s,t⟩:=zc2 e;obtain⟨u,z⟩:=zc2 f;go_wp2;refine aj 11 ?_;have H:=e.lat 0 _ rfl;have I:=e.lat 1 _ rfl;have J:=f.lat 0 _ rfl;have K:=f.lat 1 _ rfl;simp only[Ee,El,Ei,D5];repeat(go_big_quiet_step (first|with_reducible exact mo (F.out _)|with_reducible exact mo (G.out _)))
 refine D4 ?_;intro X C;clear H I J K;replace⟨e,f,n,m⟩:=zb4 e f n m C;clear C;have⟨g,h,i,o,p⟩:=zr n;go_wp2;refine D7 (v:=zX #[zI zi ((A:Nat)),zI zi ((B:Nat))]) (by simp[results,results185,go_sem,g,h,i]) rfl ?_;exact du (a:=A) (b:=B) rfl rfl ⟨hm,q⟩ (opP r) (ak m)
theorem YD (w:World) (op:Int) (a b c d:Nat) (N:a<=b) (P:b<=65535) (Q:c<=d) (R:d<=65535)
  (M:op=15\/op=16):Calls zz 185 #[zI zi op,zX #[zI zi a,zI zi b],zX #[zI zi c,zI zi d]] w (SpQ (OpP (op2 op) a b c d) w):=by
 have C:=zh λW=>Xa W a b c d;have L:=zh mR;rcases M with rfl|rfl
 all_goals
  go_enter func185,ntmps185;go_upto_region 1 with fail;generalize n:w.alloc _=zw1 at*;generalize o:zw1.alloc _=zw2 at*;generalize r:zw2.alloc _=w1 at*;have⟨i,j,k,l⟩:=zB3 n o r;clear n o r;obtain⟨F,G⟩:=zc2 j;obtain⟨H,I⟩:=zc2 k;go_wp2;refine(C _).mono ?_;rintro e0 S ⟨p,q,rfl,J,K,m⟩;have⟨D,E⟩:=zk2 J K;clear J K;replace⟨j,k,l,i⟩:=zb4 j k l i m;clear m;go_wp2;refine zK (L _ _ _) λT m=> ?_;simp only[spV];replace⟨j,k,l,i⟩:=zb4 j k l i m;clear m;have⟨e,f,g,s,t⟩:=zr l;go_wp2;first
   |(refine D7 (v:=zX #[zI zi (((knS p q).1:Nat)),zI zi (((knS p q).2:Nat))]) (by simp[results,results185,go_sem,e,f,g]) rfl ?_
     refine du (a:=(knS p q).1) (b:=(knS p q).2) rfl rfl (oy _ _) (opP λx y u z A B=> ?_) (ak i);show dt (tN (decide (x=y))) (knS p q);exact mr (λh=>by have:=D h;simp;omega) (λh=>by have:=E h;simp;omega))
   |(refine D7 (v:=zX #[zI zi (((knS q p).1:Nat)),zI zi (((knS q p).2:Nat))]) (by simp[results,results185,go_sem,e,f,g]) rfl ?_
     refine du (a:=(knS q p).1) (b:=(knS q p).2) rfl rfl (oy _ _) (opP λx y u z A B=> ?_) (ak i);show dt (tN (!decide (x=y))) (knS q p);exact mr (λh=>by have:=E h;simp;omega) (λh=>by have:=D h;simp;omega))
def YC (op:Int) (p q:Bool) (a b c d:Nat) (G:a<=b) (H:b<=65535) (I:c<=d) (J:d<=65535) (F:op=17/\p=decide (b<c)/\q=decide (d<=a)\/op=18/\p=decide (b<=c)/\q=decide (d<a)) (l:∀x y,a<=x->x<=b->c<=y->y<=d->dt (op2 op x y) (knS p q)):Calls zz 185 #[zI zi op,zX #[zI zi a,zI zi b],zX #[zI zi c,zI zi d]] w (SpQ (OpP (op2 op) a b c d) w):=by
 have E:Hid (lz (knS p q)):=zh (oy _ _);have D:=zh λW=>mR W p q;rcases F with⟨rfl,rfl,rfl⟩|⟨rfl,rfl,rfl⟩
 all_goals
  replace l:=zh l;go_enter func185,ntmps185;go_upto_region 1 with fail;generalize h:w.alloc _=zw1 at*;generalize i:zw1.alloc _=zw2 at*;generalize j:zw2.alloc _=w1 at*;have⟨k,m,n,o⟩:=zB3 h i j;clear h i j;obtain⟨u,z⟩:=zc2 m;obtain⟨A,B⟩:=zc2 n;go_wp2;refine zK (D _) λK C=> ?_;simp only[spV];replace⟨m,n,o,k⟩:=zb4 m n o k C;clear C;have⟨e,f,g,s,t⟩:=zr o;go_wp2;generalize knS _ _=r at*;refine D7 (v:=zX #[zI zi (r.1:Nat),zI zi (r.2:Nat)]) (by simp[results,results185,go_sem,e,f,g]) rfl ?_;exact du (a:=r.1) (b:=r.2) rfl rfl E (opP l) (ak k)
def Xh (op:Int) (r:Sp) (a b c d:Nat) (P:a<=b) (Q:b<=65535) (R:c<=d) (S:d<=65535) (N:op=19/\r=knS (decide (0<a)&&decide (0<c)) (decide (b=0)||decide (d=0))\/op=20/\r=knS (decide (0<a)||decide (0<c)) (decide (b=0)&&decide (d=0))\/op=21/\r=knS (decide (b=0)||decide (0<c)) (decide (0<a)&&decide (d=0))) (u:lz r) (t:∀x y,a<=x->x<=b->c<=y->y<=d->dt (op2 op x y) r):Calls zz 185 #[zI zi op,zX #[zI zi a,zI zi b],zX #[zI zi c,zI zi d]] w (SpQ (OpP (op2 op) a b c d) w):=by
 have p:=zh λW=>qN W a b;have q:=zh λW=>qN W c d;have n:=zh λW=>jA W a b;have o:=zh λW=>jA W c d;have C:=zh mR;simp only[spV] at C;generalize decide (0<a)=p1,decide (0<c)=p2,decide (b=0)=q1,decide (d=0)=q2 at*;replace u:=zh u;rcases N with⟨rfl,m⟩|⟨rfl,m⟩|⟨rfl,m⟩
 all_goals
  have I:=zh m;replace t:=zh t;clear m;go_enter func185,ntmps185;go_upto_region 1 with fail;generalize j:w.alloc _=zw1 at*;generalize k:zw1.alloc _=zw2 at*;generalize l:zw2.alloc _=w1 at*;have⟨s,e,f,z⟩:=zB3 j k l;clear j k l;obtain⟨D,E⟩:=zc2 e;obtain⟨F,G⟩:=zc2 f;cases p1<;>cases p2<;>cases q1<;>cases q2
  all_goals
   go_wp2;refine aj 13 ?_;have J:=e.lat 0 _ rfl;have K:=e.lat 1 _ rfl;have L:=f.lat 0 _ rfl;have M:=f.lat 1 _ rfl;simp only[Ee,El,Ei,D5];repeat(go_big_quiet_step (first|with_reducible exact aG (p.out _)|with_reducible exact aG (q.out _)|with_reducible exact aG (n.out _)|with_reducible exact aG (o.out _)|with_reducible exact aG (C.out _ _ _)))
   refine D4 ?_;intro T H;clear J K L M;replace⟨e,f,z,s⟩:=zb4 e f z s H;clear H;have⟨g,h,i,A,B⟩:=zr z;go_wp2;refine D7 (v:=zX #[zI zi (r.1:Nat),zI zi (r.2:Nat)]) (by simp[results,results185,go_sem,g,h,i,I.out]) rfl ?_;exact du rfl rfl u (opP t) (ak s)
end
def Pf (w:World) (v:Vr) (s:ByteArray) (g:Nat) (e:Box w g #[zV s] 9):Calls zz 158 (#[vrV v]++#[zP g]) w (zR (zW (decide (v.s=s))) w):=by
 obtain⟨b,k,l,m⟩:=v;unfold vrV;simp only;have d:=zh e;clear e;have j:((b.toList==s.toList)=decide (b=s)):=by
  by_cases h:b=s
  .subst h;simp
  rw[(ly h).1,DJ h]
 generalize decide (b=s)=q at*;show Calls _ _ #[zX #[zV b,zI zi k,zI zi l,zI zi m],zP g] _ _;go_enter func158,ntmps158;go_upto_region 1 with fail;generalize c:w.alloc _=w1 at*;have⟨a,i⟩:=zA1 c;clear c;replace d:=zb d a;have f:=zh a;have n:=za i 0;have o:=za d 0;clear a;go_wp2;go_ret;exact⟨rfl,f⟩
def Tg {w:World} {p:Pb} {A1 A2 A3 A4 A5:Option Addr} {c1 c2 c3 c4 c5:Nat} (hp:PIn w p A1 A2 A3 A4 A5 c1 c2 c3 c4 c5) (hs:PSm p) (hk:KW w) (hm:de w) (a:Ex) (I:Option Addr) (M:Nat) (hr:Rs (exR 29) w (zU I (zN a.a) M) a.a ah) (q:jm (ai p.v) a):Calls zz 91 #[pbV p A1 A2 A3 A4 A5 c1 c2 c3 c4 c5,exV a (zU I (zN a.a) M)] w (zR (zW true) w):=by
 have ag:=zm;have f:(ax (29+1) a).length<=1000:=q.len;have⟨D,E,F⟩:=q.ok;have CV:=zh λW c=>mD W a 29 I M q.z (hk.Q c) (hm.Q c) (hr.Q c) (by decide) f;have Z:=zh λW c=>j9 W a 29 I M q.z (hr.Q c) f;have CN:=zh λW c=>mE W a 29 I M q.z (hr.Q c) f;have G:=ib ff (ax (29+1) a) [];have T:(dm ff (ax (29+1) a)).length<=1000:=by rw[D8,DY] at G;exact D2 G f
 have HH:=zh fun(W:World) (s:ByteArray) (g:Nat) (c:zL w W) (H:s∈ai p.v) (hx:Box W g #[zV s] 9)=>uS W (zU A1 (zN p.v) c1) p.v (hp.v.Q c) hs.nv 158 #[zP g] (λv=>decide (v.s=s)) (λargs W=>by kernel_rfl) (λW' t hW _=>Pf W' t s g (hx.Q hW));have L:=zh fun(W:World) (s:ByteArray) (g:Nat) (c:zL w W) (H:s∈ai p.v) (hx:Box W g #[zV s] 9)=>(HH W s g c H hx).mono fun{e w'} (h:e=zE (zW (p.v.any λv=>decide (v.s=s)))/\zL W w')=>(show e=zE (zW true)/\zL W w' from⟨by rw[h.1,show(p.v.any λv=>decide (v.s=s))=true from by have⟨v,hv,e⟩:=EJ.1 H;exact Ez.2 ⟨v,hv,DR e⟩],h.2⟩);have H1:Hid (fZ (29+1) a=0):=zh D;have H2:Hid (dm gH (ax (29+1) a)=[]):=zh E;have H3:Hid (∀s∈dm ff (ax (29+1) a),s∈ai p.v):=zh F;rw[H1] at CV;rw[H2] at Z;unfold NmR at Z CN;unfold exV at CV Z CN⊢;unfold pbV;generalize dm ff (ax (29+1) a)=nv at*;have⟨n1,S⟩:=zv (zN p.v);rw[<-S] at L⊢;generalize ai p.v=NV,zN p.h=n2,zN p.s=n3,zN p.d=n4,zN p.g=n5 at*;clear hp hs hk hm q S D E F G hr f;generalize a.op=ao,a.n=an,a.s=am,zN a.a=al at*;go_enter func91,ntmps91;go_upto_region 1 with fail;generalize u:w.alloc _=zw1 at*;generalize Y:zw1.alloc _=w1 at*;have⟨d,j,x⟩:=zB2 u Y;clear u Y;obtain⟨z,A,B,C⟩:=zc4 x;go_wp2;refine zK (CV w1 d) λw4 c=> ?_;replace⟨j,x,d⟩:=zb3 j x d c;clear c;obtain⟨z,A,B,C⟩:=zc4 x;go_wp2;refine(Z w4 d).mono ?_;rintro e w5 ⟨va,rfl,r,c⟩;obtain⟨U,uc,rfl,ae, -⟩:=r.cellF;clear r;replace⟨j,x,d⟩:=zb3 j x d c;clear c;simp only[D8] at ae⊢;obtain⟨z,A,B,C⟩:=zc4 x;go_wp2;refine(CN w5 d).mono ?_;rintro e w2 ⟨vn,rfl,r,c⟩;obtain⟨U2,aj,rfl,V,Q⟩:=r.cellF;have K:=zh Q;have⟨m,HM⟩:=zvh (zN nv);rw[<-HM] at V K T⊢;clear r Q;replace⟨j,x,d⟩:=zb3 j x d c;clear c;go_wp2;go_loopw [19] (λi wr=>∃k:Nat,k<=m/\i=zI zi k/\zL w2 wr/\Box wr w.heap.size #[zU A1 n1 c1,zU A2 n2 c2,zU A3 n3 c3,zU A4 n4 c4,zU A5 n5 c5] 27/\zL w wr) (λi _=>m-(intOf i).toNat)
 .exact⟨0,DH _,rfl,DM _ _,j,d⟩
 obtain⟨k,hk,rfl,N,X,c⟩:=hrel;have⟨d,n,j⟩:=zk3 c N X;clear c N X;by_cases y:k<m
 .have⟨R,k0⟩:=zln y;have⟨b,o,e2,ad,y0⟩:=K k y;subst e2;replace y0:=(n.cell ad).trans y0;have ac:=zh (H3 _ (getD_in (l:=nv) ⟨#[]⟩ (k:=k) (by rw[<-HM];exact y)));generalize zG nv k ⟨#[]⟩=s at*;go_upto_region 6 with fail;clear y0;have J:=zh (aa n (ab wr (zC #[zV s] 9)));generalize u:wr.alloc _=w3 at*;have⟨P,XG⟩:=zA1 u;clear u;replace⟨j,d⟩:=zb2 j d P;clear P;have n:=zh J;have af:=za j 0;go_wp2;refine zK (L w3 s _ d ac XG) λw4 c=> ?_;replace⟨n,j,XG,d⟩:=zb4 n j XG d c;clear c;go_wp2;go_roundw
  .exact⟨k+1,by omega,by go_num,n,j,d⟩
  simp[intOf];omega
 have R:=zge y;go_wp2;go_ret;exact⟨rfl,d⟩
section
variable {l:List Vr} {k:Nat}
def wdT (v:Vr):Wd:=⟨v.w.toNat,if v.m=0 then some v.u.toNat else none⟩
def bE (l:List Vr):List Wd:=l.map wdT
def fzV (v:Vr):Int:=if v.m=0 then v.u else 0
def fzT (l:List Vr) (k:Nat):List Int:=(l.take k).map fzV++List.replicate (zN l-k) 0
def QQ (h:k<=zN l):(fzT l k).length=zN l:=by unfold fzT;rw[DI,DT,D3,Es];omega
def AF (h:k<zN l):fzT l (k+1)=(l.take k).map fzV++(fzV (zG l k vr0)::List.replicate (zN l-(k+1)) 0):=by unfold fzT;rw[Ep,DD h,Fl,Eg,DC,DD h];rfl
def AG (h:k<zN l):fzT l k=(l.take k).map fzV++(0::List.replicate (zN l-(k+1)) 0):=by
 unfold fzT;have e:zN l-k=(zN l-(k+1))+1:=by omega
 rw[e,List.replicate_succ]
def WC (h:k<zN l) (hm:(zG l k vr0).m=0):(fzT l k).set k (zG l k vr0).u=fzT l (k+1):=by
 rw[AF h,AG h];have a:((l.take k).map fzV).length=k:=by rw[DT,D3];omega
 rw[Fy _ _ (by omega),a,EB,Fg];unfold fzV;rw[DP hm]
def Ui (h:k<zN l) (hm:(zG l k vr0).m≠0):fzT l k=fzT l (k+1):=by rw[AF h,AG h];unfold fzV;rw[DK hm]
def Uh (l:List Vr):fzT l 0=List.replicate (zN l) 0:=by simp[fzT]
theorem WD:∀{l:List Vr},(∀v∈l,0<=v.u)->fzT l (zN l)=nI (fu (bE l)):=by
 intro l h;unfold fzT;rw[Et,EB,List.replicate_zero,EN];induction l with
 |nil=>rfl
 |cons v r ih=>
  have b:=h v (by simp);have c:=ih λx d=>h x (Ea _ d);rw[FY,c];have e:fu (bE (v::r))=(match(wdT v).fixed with |some x=>x|none=>0)::fu (bE r):=rfl;have a:∀(x:Nat) (y:List Nat),nI (x::y)=(x:Int)::nI y:=λ_ _=>rfl;rw[e,a];congr 1;unfold fzV wdT;by_cases hm:v.m=0
  .rw[DP hm];simp only[hm,if_true];exact(Int.toNat_of_nonneg b).symm
  rw[DK hm];simp only[hm,FN];rfl
def uZ (p:Pb) (A1 A2 A3 A4 A5:Option Addr) (c1 c2 c3 c4 c5:Nat) (l:Nat) (Al:Option Addr) (cl ga:Nat) (a:Bool) (steps:Int):Array Value:=#[zU A1 (zN p.v) c1,zU A2 (zN p.h) c2,zU A3 (zN p.s) c3,zU A4 (zN p.d) c4,zU A5 (zN p.g) c5,zU Al l cl,zU (some ⟨ga,0,none⟩) (zN p.v) (zN p.v),zW a,zI zi steps]
def Xu (w:World) (p:Pb) (A1 A2 A3 A4 A5:Option Addr) (c1 c2 c3 c4 c5:Nat) (l:Nat) (Al:Option Addr) (cl:Nat) (steps:Int) (e:Ending) (w':World):Prop:=∃g ga,e=zE (zY #[zP g,zI zi 0])/\Box w' g (uZ p A1 A2 A3 A4 A5 c1 c2 c3 c4 c5 l Al cl ga false steps) 107∧
 Box w' ga (iA (nI (fu (bE p.v)))) 3/\zL w w'/\w.heap.size<=g/\w.heap.size<=ga
def Th {w:World} {p:Pb} {A1 A2 A3 A4 A5:Option Addr} {c1 c2 c3 c4 c5:Nat} (hp:PIn w p A1 A2 A3 A4 A5 c1 c2 c3 c4 c5) (hs:PSm p) (hk:KW w) (hm:de w) (hv:PV p) (l:List Ex) (Al:Option Addr) (cl:Nat) (hr:Rs (exR KE) w (zU Al (zN l) cl) l ah) (hl:zN l<=1000) (y:∀e∈l,jm (ai p.v) e) (steps:Int) (h0:0<=steps) (h1:steps<=262144):Calls zz 46 #[pbV p A1 A2 A3 A4 A5 c1 c2 c3 c4 c5,zU Al (zN l) cl,zI zi steps] w (Xu w p A1 A2 A3 A4 A5 c1 c2 c3 c4 c5 (zN l) Al cl steps):=by
 have hn:=hs.nv;have⟨n1,t⟩:=zv (zN p.v);have HN:=zh t;have CE:=zh (evC hp hs hk hm hv);have CK:=zh λW f (a:Ex) (N:Option Addr) (cp:Nat) (ha:a∈l) (aR:Rs (exR 29) W (zU N (zN a.a) cp) a.a ah)=>Tg (hp.Q f) hs (hk.Q f) (hm.Q f) a N cp aR (y a ha);have S:=zh hp.v;have av:=hv.v;have aH:Hid (∀v∈p.v,0<=v.u):=zh λv h=>(av.ok v h).2.2.2.1.1;have aE:Hid (fzT p.v n1=nI (fu (bE p.v))):=zh (by rw[t];exact WD aH);have aD:Hid (fzT p.v 0=List.replicate n1 0):=zh (by rw[t];exact Uh _);have MK:=zh (iN n1 (by omega));rw[oV,<-aD] at MK;have⟨AL,cL,e1,aK,az⟩:=hr.exs;obtain⟨rfl,rfl⟩:Al=AL/\cl=cL:=by simpa using e1
 have T:=zh az;clear e1;unfold Xu uZ;unfold EvC at CE;unfold pbV at CE CK⊢;rw[<-t] at CE CK S⊢;unfold exV at CK;rw[<-aE];obtain⟨m,I⟩:∃m,m=zN l:=⟨_,rfl⟩;have aF:=zh I;rw[<-I] at aK T hl⊢;generalize zN p.h=n2,zN p.s=n3,zN p.d=n4,zN p.g=n5 at*;have s0:¬steps<0:=by omega
 have s1:¬steps>262144:=by omega
 clear hp hs hk hm hv hr y t I av az h0 h1;go_enter func46,ntmps46;go_upto_region 1 with fail;generalize n:w.alloc _=w1 at*;have⟨d,c⟩:=zB1 n;clear n;obtain⟨G,X,Y,Z,ac⟩:=zc5 c;go_wp2;refine zK (CE w1 d) λw2 f=> ?_;replace⟨c,d⟩:=zb2 c d f;clear f;go_wp2;go_loopw [26] (λi wr=>∃k:Nat,k<=m/\i=zI zi k/\Box wr w.heap.size #[zU A1 n1 c1,zU A2 n2 c2,zU A3 n3 c3,zU A4 n4 c4,zU A5 n5 c5] 27/\zL w wr) (λi _=>m-(intOf i).toNat)
 .exact⟨0,DH _,rfl,c,d⟩
 obtain⟨k,hk,rfl,A,f⟩:=hrel;have⟨d,c⟩:=zk2 f A;clear f A;by_cases E:k<m
 .have⟨ar,k0⟩:=zln E;obtain⟨b,o,u,d',e2,D,hd,j,y, -⟩:=T k E;subst e2;obtain rfl:d'=29:=by unfold KE at hd;omega
  obtain⟨M,v1,v2,v3⟩:=zx4 d D j;rw[Eb] at M;have aq:=getD_in ex0 (show k<zN l by rw[<-aF];exact E);have K:=y.Q d;clear j y;generalize zG l k ex0=a at*;obtain⟨N,cp,rfl,aL⟩:=K.slice;have aB:=zh fun(W:World) (f:zL wr W)=>CK W (aa d f) a N cp aq (K.Q f);generalize a.op=ao,a.n=an,a.s=am,zN a.a=al at*;clear aq aL K;go_upto_region 6 with fail;clear M v1 v2 v3;have HW:=zh (ab wr (zC #[zI zi ao,zI zi an,zV am,zU N al cp] 79));generalize n:wr.alloc _=w3 at*;have⟨s,L⟩:=zA1 n;clear n;replace⟨c,d⟩:=zb2 c d s;clear s;obtain⟨G,X,Y,Z,ac⟩:=zc5 c;obtain⟨aS,aT,U,aU⟩:=zc4 L;go_wp2;refine zK (aB w3 HW) λw4 f=> ?_;replace⟨c,L,d⟩:=zb3 c L d f;clear f;go_wp2;go_roundw
  .exact⟨k+1,by omega,by go_num,c,d⟩
  simp[intOf];omega
 have ar:=zge E;go_wp2;have aG:=zh d.size;have⟨B0,ad⟩:=zv (w.heap.size);have P:=zh ad;clear ad;refine bB 7 (Kit.of [oC 5 [] B0 n1 n1 (iA (fzT p.v 0)) 3]) (Kit.of_stable ?_) (Kit.of_known ?_) ?_
 .intro z hz;simp only[DS,DZ,EC] at hz;rcases hz with rfl
  .apply qe
 .intro z hz;simp only[DS,DZ,EC] at hz;rcases hz with rfl
  .apply qg
 intro γ aA C hC aP;obtain⟨ga,e5⟩:∃g,γ 5=zU (some ⟨g,0,none⟩) n1 n1:=aA 5 rfl;have p0:=c.latC (C:=C) 0 _ rfl;have p1:=c.latC (C:=C) 1 _ rfl;have p2:=c.latC (C:=C) 2 _ rfl;have p3:=c.latC (C:=C) 3 _ rfl;have p4:=c.latC (C:=C) 4 _ rfl;simp only[Ee,El,Ei,D5];iterate 5 (refine aO rfl ?_;go_big_quiet_step (fail);refine D4 ?_)
 refine b6 rfl (mA rfl (λw=>Cy rfl rfl rfl (MK w)) (λw' g hg hx=>⟨g,rfl,hx,by rw[P];exact D2 aG hg⟩)) ?_;simp only[DY,Nat.reduceAdd,e5];go_simp;iterate 1 (refine aO rfl ?_;go_big_quiet_step (fail);refine D4 ?_)
 intro w5 f hF;have⟨Y5,ae⟩:=uV e5 (hF 5 (by decide) rfl);have r:=zh Y5;clear hF p0 p1 p2 p3 p4 aA hC e5 aP;replace⟨c,d⟩:=zb2 c d f;clear f;have ag:w.heap.size<=ga:=by rw[<-P];exact ae
 clear ae;go_upto_region 10 with fail;have aN:=r.lt;generalize n:w5.alloc _=w6 at*;have⟨s,B⟩:=zA1 n;clear n;replace⟨c,r,d⟩:=zb3 c r d s;clear s;have aM:w.heap.size<=w5.heap.size:=by omega
 have aV:w5.heap.size≠ga:=by omega
 have ap:ga≠w5.heap.size:=by omega
 generalize w5.heap.size=g at*;clear aN;have G:=za c 0;go_upto_region 11 with fail;go_loopw [47] (λi wr=>∃k:Nat,k<=n1/\i=zI zi k/\Box wr w.heap.size #[zU A1 n1 c1,zU A2 n2 c2,zU A3 n3 c3,zU A4 n4 c4,zU A5 n5 c5] 27/\zL w wr/\Box wr g #[zU A1 n1 c1,zU A2 n2 c2,zU A3 n3 c3,zU A4 n4 c4,zU A5 n5 c5,zU Al m cl,zU (some ⟨ga,0,none⟩) n1 n1,zW false,zI zi steps] 107/\Box wr ga (iA (fzT p.v k)) 3) (λi _=>n1-(intOf i).toNat)
 .exact⟨0,DH _,rfl,c,d,B,r⟩
 obtain⟨q,hq,rfl,A,f,ax,ay⟩:=hrel;have⟨d,c,B,r⟩:=zk4 f A ax ay;clear f A ax ay;by_cases J:q<n1
 .have⟨au,q0⟩:=zln J;have x:q<zN p.v:=by rw[<-HN];exact J
  have⟨A',c',e1,_,aw⟩:=S.vrs;have⟨b,o,e2,D,j⟩:=aw q x;obtain rfl:=zas e1 e2;obtain⟨M,v1,v2,v3⟩:=zx4 d D j;rw[Eb] at M;have R:=zh λh=>WC x h;have Q:=zh λh=>Ui x h;have aW:q<(iA (fzT p.v q)).size:=by rw[Aj,QQ (by omega)];exact x
  have ak:(iA (fzT p.v q))[q]? =some (zI zi ((fzT p.v q).getD q 0)):=eH (by rw[QQ (by omega)];exact x);generalize zG p.v q vr0=vr at*;obtain⟨nm,x2,x3,x4⟩:=vr;simp only at M v1 v2 v3 R Q;clear e1 e2 aw D j;go_upto_region 13 with fail;clear M v1 v2 v3;generalize n:wr.alloc _=w3 at*;have⟨s,L⟩:=zA1 n;clear n;replace⟨c,B,r,d⟩:=zb4 c B r d s;clear s;have U:=za L 2;by_cases F:x3=0;case neg=>
   have g1:(x3==0)=false:=by simpa using F
   have H:=zh (Q F);rw[H] at r;go_wp2;go_roundw
   .exact⟨q+1,by omega,by go_num,c,d,B,r⟩
   simp[intOf];omega
  have H:=zh (R F);subst F;go_upto_region 14 with fail;refine aj 8 ?_;have a3:=L.lat 3 _ rfl;have f6:=B.lat 6 _ rfl;have q1:¬((q:Int)<0):=by omega
  simp only[Ee,El,Ei,D5];repeat(go_big_quiet_step (fail))
  refine D4 ?_;intro w8 f;clear a3 f6;replace⟨c,B,r,d⟩:=zb4 c B r d f;clear f;have i0:=r.A q _ ak;have i1:=r.frozen q;have i2:=r.lt;go_upto_region 15 with fail;have V:=zh (r.set_ q (zI zi x4));have aJ:=zh (c.setNe ⟨ga,q,none⟩ (zI zi x4) (by show ga≠_;exact λe=>by have:=af r c;exact this e));have aI:=zh (B.setNe ⟨ga,q,none⟩ (zI zi x4) ap);have aC:=zh (d.setCell (p:=⟨ga,q,none⟩) ag (zI zi x4));rw[iP,H] at V;go_wp2;go_roundw
  .exact⟨q+1,by omega,by go_num,aJ,aC,aI,V⟩
  simp[intOf];omega
 have⟨au,aQ⟩:=zgq hq J;rw[aQ] at r;go_wp2;go_ret2;exact⟨g,rfl,ga,B,r,d,aM,ag⟩
end
end
section
theorem qr {κ:Type} [DecidableEq κ]:∀{l:List (κ×Int)} {x:κ},(∀q∈l,q.1≠x)->bZ l x=none
 |[],x,h=>rfl
 |q::l,x,h=>by rw[cW,DK (h q (by simp)),qr λr a=>h r (Ea _ a)]
theorem uB {vars:List Vr}:∀(k:Nat) (q:ByteArray×Int),q∈mg vars k->∃i,i<k/\q.1=(zG vars i vr0).s
 |0,q,h=>by cases h
 |k+1,q,h=>by
  rcases DS.1 h with rfl|h
  .exact⟨k,by omega,rfl⟩
  have⟨i,hi,e⟩:=uB k q h;exact⟨i,by omega,e⟩
theorem rK:∀{l:List ByteArray} {s:ByteArray} {i:Nat},eO l s=some i->l[i]? =some s
 |[],s,i,h=>by cases h
 |x::l,s,i,h=>by
  unfold eO at h;by_cases e:x=s
  .rw[DP e] at h;simp only[DN] at h;subst h;rw[e];rfl
  rw[DK e] at h;cases hq:eO l s with
  |none=>rw[hq] at h;cases h
  |some j=>rw[hq] at h;simp only[ES,DN] at h;subst h;show l[j]? =some s;exact rK (l:=l) hq
theorem nJ:∀{l:List ByteArray} {s:ByteArray},eO l s=none->s∉l
 |[],s,h=>by simp
 |x::l,s,h=>by
  unfold eO at h;by_cases e:x=s
  .rw[DP e] at h;cases h
  rw[DK e] at h;rw[DS];rintro(h1|h1)
  .exact e h1.symm
  exact nJ (Option.map_eq_none_iff.1 h) h1
end
section
open Go.RowKit
section
variable (ws:List Wt) {s:ByteArray} {σ:ByteArray->Nat} {e:Ex} {L l:List (Nat×Nat)} {names:List ByteArray} {args:List Ex} {N d n:Nat} {p:Pb}
theorem nA {s:ByteArray} (h:b9 s=true):iC s=true:=by
 unfold b9 at h;unfold iC;cases hn:aQ s with
 |true=>simp
 |false=>
  rw[hn,FJ,DW,DW] at h;obtain⟨-,c,e⟩:=h;have⟨i,hi,f⟩:=Ez.1 e;have l:=Fv.1 hi;have g:s=bj (cO 91 s) i:=Ey f;generalize cO 91 s=a at*;have n:=(cj.1 c).1.1;subst g;rw[Bool.or_false];refine DR ?_;have m:(bj a i).size=a.size+3:=kK a i;have d:zN a.data.toList=a.size:=(EW a).symm;have b:∀j,byt (bj a i) (a.size+j)=byt ⟨#[91,UInt8.ofNat (48+i),93]⟩ j:=λj=>by unfold byt bj;simp only[Array.toList_append,DC];rw[DX (by omega),d,Nat.add_sub_cancel_left]
  unfold Elt;rw[m,show a.size+3-1=a.size+2 by omega,show a.size+3-3=a.size+0 by omega,show a.size+3-2=a.size+1 by omega,b,b,b];have k:(bj a i).extract 0 (a.size+0)=a:=lq (by
   rw[FU];unfold bj;simp only[Array.toList_append,Eb,Nat.sub_zero,D5];rw[<-d,List.take_left]);rw[k];have hm:byt ⟨#[91,UInt8.ofNat (48+i),93]⟩ 1=(48+i:Nat):=by
   have:i=0\/i=1\/i=2\/i=3\/i=4\/i=5\/i=6\/i=7:=by omega
   rcases this with rfl|rfl|rfl|rfl|rfl|rfl|rfl|rfl<;>rfl
  rw[hm];exact⟨by omega,rfl,rfl,by omega,by omega,c⟩
structure GX (names:List ByteArray) (d N:Nat) (e:Ex):Prop where
 z:ExZ e
 deep:Deep d e
 nd:∀x∈ax d e,aT x=0/\gH x.op=false/\(x.op=2->x.s∈names)
 len:(ax d e).length<=N
def GX.le {d N a N':Nat} (h:GX names d N e) (b:d<=a) (c:N<=N'):GX names a N' e:=by have e1:=Tz h.deep b;exact⟨h.z,h.deep.le b,by rw[e1];exact h.nd,by rw[e1];exact D2 h.len c⟩
theorem AM {f:Ex->List Ex} {n:Nat}:∀{l:List Ex},(∀a∈l,(f a).length<=n)->(l.flatMap f).length<=zN l*n
 |[],_=>by simp
 |a::l,h=>by rw[EM,DI,DF,Nat.succ_mul];have d:=h a (by simp);have e:=AM (f:=f) (n:=n) (l:=l) λb c=>h b (Ea _ c);omega
def GX.mk' {op m:Int} (e:aT (.mk op m s args)=0) (g:gH op=false) (i:op=2->s∈names) (j:I64 op) (k:I64 m) (o:s.size<=maxLen) (p:zN args<=maxLen) (h:∀a∈args,GX names d n a):GX names (d+1) (1+zN args*n) (.mk op m s args):=by
 refine⟨.mk j k o p λa b=>(h a b).z,λa b=>(h a b).deep,λx c=> ?_, ?_⟩
 .rcases DS.1 c with rfl|c
  .exact⟨e,g,i⟩
  have⟨a,b,c⟩:=List.mem_flatMap.1 c;exact(h a b).nd x c
 have:=AM (f:=ax d) (n:=n) (l:=args) λa b=>(h a b).len;show(_::args.flatMap (ax d)).length<=_;rw[DF];omega
def GX.ru (h:GX names d N e) (j:d<=24) (i:N<=400):jm names e:=by
 have a:=h.le (show d<=KE by unfold KE;omega) (DE N);have g:cP KE e<=24:=by rw[Df h.deep (show d<=KE by unfold KE;omega)];have:=mI d e;omega
 refine⟨h.z,a.deep,⟨?_, ?_, ?_⟩,by have:=a.len;omega⟩
 .unfold fZ;rw[DP (qp.2 λx b=>(a.nd x b).1),DK (by have:=a.len;omega)]
 .rw[List.eq_nil_iff_forall_not_mem];intro s f;obtain⟨x,b,c, -⟩:=fT.1 f;rw[(a.nd x b).2.1] at c;cases c
 intro s f;obtain⟨x,b,c,rfl⟩:=fT.1 f;exact(a.nd x b).2.2 (Ey c)
def P7 {op n:Int} (c:1<=op/\op<=25) (d:op=1->0<=n/\n<=65535) (f:op≠1->n=0) (g:op≠2->s.size=0) (a:kX op (zN args)=true) (b:op=2->iC s=true) (i:op≠3/\op≠24):aT (.mk op n s args)=0:=by
 unfold aT;show(if op<1\/25<op then 1 else if(op=1/\(n<0\/65535<n))\/(op≠1/\n≠0) then 1 else if(¬(op=2\/op=3\/op=24)/\s.size≠0)\/kX op (zN args)=false then 1 else if(op=2/\iC s=false)\/((op=3\/op=24)/\aQ s=false) then 7 else 0)=(0:Int);rw[DK (by omega),DK (by omega),DK ?_,DK ?_]
 .rintro(⟨e,h⟩|⟨e,h⟩)
  .rw[b e] at h;cases h
  omega
 rintro(⟨e,h⟩|h)
 .omega
 rw[a] at h;cases h
def lg {n:Int} (h:0<=n/\n<=65535):I64 n:=by unfold I64;omega
def bz0:(⟨#[]⟩:ByteArray).size<=maxLen:=DH _
def gP (n:Nat):Ex:= .mk 1 n ⟨#[]⟩ []
def lU (s:ByteArray):Ex:= .mk 2 0 s []
def eqX (s:ByteArray) (n:Nat):Ex:= .mk 15 0 ⟨#[]⟩ [lU s,gP n]
def rgX (l:List (Nat×Nat)):List Ex:=l.flatMap λr=>[gP r.1,gP r.2]
def fq (s:ByteArray) (l:List (Nat×Nat)):Ex:= .mk 23 0 ⟨#[]⟩ (lU s::rgX l)
def unF (s:ByteArray):Nat->Ex->List (Nat×Nat)->Ex
 |0,a,_=>a
 |k+1,a,l=>if zN l=0 then a else unF s k (.mk 20 0 ⟨#[]⟩ [a,fq s (l.take 16)]) (l.drop 16)
def kW (s:ByteArray) (l:List (Nat×Nat)):Ex:=if zN l=0 then gP 0 else unF s 8 (fq s (l.take 16)) (l.drop 16)
def rnS (L:List (Nat×Nat)) (n:Nat):List (Nat×Nat):=if zN L≠0/\(zG L (zN L-1) (0,0)).2+1=n then L.set (zN L-1) ((zG L (zN L-1) (0,0)).1,n) else L++[(n,n)]
def fE (l:List Nat):List (Nat×Nat):=l.foldl rnS []
def wtI (n:Nat) (y:Wt):Bool:=decide (y.lo<=(n:Int))&&decide ((n:Int)<=y.hi)
def oI (ws:List Wt) (n:Nat):Bool:=match ws.find? (wtI n) with
 |some y=>decide (0<y.weight)
 |none=>false
def fI (ws:List Wt) (k:Nat):List Nat:=(List.range k).filter (oI ws)
def sB (p:Pb) (d:Ds):Ex:=kW (zG p.v d.var.toNat vr0).s (fE (fI d.ws (2^(zG p.v d.var.toNat vr0).w.toNat)))
def oU (h:n<=65535):GX names 1 1 (gP n):=GX.mk' (op:=1) (m:=n) (s:=⟨#[]⟩) (args:=[]) (d:=0) (n:=0) (P7 (by omega) (by omega) (by omega) (λ_=>rfl) rfl (by omega) (by omega)) rfl (by omega) (lg (by omega)) (lg (by omega)) bz0 (DH _) (λa h=>by cases h)
def yf (h:s∈names) (b:iC s=true) (c:s.size<=maxLen):GX names 1 1 (lU s):=GX.mk' (op:=2) (m:=0) (s:=s) (args:=[]) (d:=0) (n:=0) (P7 (by omega) (by omega) (by omega) (by omega) rfl (λ_=>b) (by omega)) rfl (λ_=>h) (lg (by omega)) (lg (by omega)) c (DH _) (λa h=>by cases h)
def Re (h:s∈names) (e:iC s=true) (f:s.size<=maxLen) (c:n<=65535):GX names 2 3 (eqX s n):=
 GX.mk' (op:=15) (m:=0) (s:=⟨#[]⟩) (args:=[lU s,gP n]) (d:=1) (n:=1) (P7 (by omega) (by omega) (by omega) (λ_=>rfl) rfl (by omega) (by omega)) rfl (by omega) (lg (by omega)) (lg (by omega)) bz0 (show 2<=maxLen by unfold maxLen;decide) (λa b=>by
  rcases DS.1 b with rfl|b
  .exact yf h e f
  rw[ER.1 b];exact oU c)
theorem sK:∀l:List (Nat×Nat),(rgX l).length=2*zN l
 |[]=>rfl
 |r::l=>by show(gP r.1::gP r.2::rgX l).length=_;rw[DF,DF,sK l,DF];omega
def Ai (h:s∈names) (k:iC s=true) (o:s.size<=maxLen) (p:0<zN l) (i:zN l<=16) (j:∀r∈l,r.1<=65535/\r.2<=65535):GX names 2 34 (fq s l):=by
 have b:(lU s::rgX l).length=1+2*zN l:=by rw[DF,sK];omega
 refine(GX.mk' (op:=23) (m:=0) (s:=⟨#[]⟩) (args:=lU s::rgX l) (d:=1) (n:=1) (P7 (by omega) (by omega) (by omega) (λ_=>rfl) ?_ (by omega) (by omega)) rfl (by omega) (lg (by omega)) (lg (by omega)) bz0 (by rw[b];unfold maxLen;omega) (λa c=> ?_)).le (DE _) (by rw[b];omega)
 .rw[b];unfold kX;simp;omega
 rcases DS.1 c with rfl|c
 .exact yf h k o
 have⟨r,e,c⟩:=List.mem_flatMap.1 c;have⟨f,g⟩:=j r e;simp only[DS,DZ,EC] at c;rcases c with rfl|rfl
 .exact oU f
 exact oU g
def GX.two {d N M:Nat} {a b:Ex} (h:GX names d N a) (f:GX names d M b):GX names (d+1) (1+N+M) (.mk 20 0 ⟨#[]⟩ [a,b]):=by
 have g:=GX.mk' (op:=20) (m:=0) (s:=⟨#[]⟩) (args:=[a,b]) (d:=d) (n:=N+M) (names:=names) (P7 (by omega) (by omega) (by omega) (λ_=>rfl) rfl (by omega) (by omega)) rfl (by omega) (lg (by omega)) (lg (by omega)) bz0 (show 2<=maxLen by unfold maxLen;decide) (λx c=>by
  rcases DS.1 c with rfl|c
  .exact h.le (DE _) (by omega)
  rw[ER.1 c];exact f.le (DE _) (by omega));refine⟨g.z,g.deep,g.nd, ?_⟩;have e:ax (d+1) (.mk 20 0 ⟨#[]⟩ [a,b])= .mk 20 0 ⟨#[]⟩ [a,b]::(ax d a++(ax d b++[])):=rfl;rw[e,DF,DI,EN];have i:=h.len;have j:=f.len;omega
theorem OP {names:List ByteArray} {s:ByteArray} (h:s∈names) (c:iC s=true) (e:s.size<=maxLen):∀(k d N:Nat) (a:Ex) (l:List (Nat×Nat)),2<=d->GX names d N a->(∀r∈l,r.1<=65535/\r.2<=65535)->GX names (d+k) (N+35*k) (unF s k a l)
 |0,d,N,a,l,hd,ha,hr=>ha
 |k+1,d,N,a,l,hd,ha,hr=>by
  unfold unF;split
  .exact ha.le (by omega) (by omega)
  have f:=Ai (l:=l.take 16) h c e (by rw[D3];omega) (by rw[D3];omega) λr b=>hr r (List.mem_of_mem_take b);exact(OP h c e k (d+1) (1+N+34) _ _ (by omega) (ha.two (f.le hd (DE _))) λr b=>hr r (List.mem_of_mem_drop b)).le (by omega) (by omega)
def SO (h:s∈names) (c:iC s=true) (d:s.size<=maxLen) (b:∀r∈l,r.1<=65535/\r.2<=65535):GX names 10 314 (kW s l):=by
 unfold kW;split
 .exact(oU (by omega)).le (by omega) (by omega)
 exact OP h c d 8 2 34 _ _ (DE _) (Ai h c d (by rw[D3];omega) (by rw[D3];omega) λr a=>b r (List.mem_of_mem_take a)) λr a=>b r (List.mem_of_mem_drop a)
def xE (σ:ByteArray->Nat) (k n:Nat):evT σ (k+1) (gP n)=n:=by show(if(1:Int)=1 then((n:Int)).toNat else _)=n;rw[DP rfl,Eh]
theorem Qy (σ:ByteArray->Nat) (k x:Nat):∀l:List (Nat×Nat),eW x ((rgX l).map (evT σ (k+1)))=true->∃r∈l,r.1<=x/\x<=r.2
 |[],h=>by cases h
 |r::l,h=>by
  have e:(rgX (r::l)).map (evT σ (k+1))=evT σ (k+1) (gP r.1)::evT σ (k+1) (gP r.2)::(rgX l).map (evT σ (k+1)):=rfl;rw[e,xE,xE] at h;unfold eW at h;rw[FX,DW,Ef,Ef] at h;rcases h with h|h
  .exact⟨r,by simp,h⟩
  have⟨c,a,b⟩:=Qy σ k x l h;exact⟨c,Ea _ a,b⟩
theorem Ra {σ:ByteArray->Nat} {j:Nat} {s:ByteArray} {l:List (Nat×Nat)} (a:2<=j) (h:evT σ j (fq s l)≠0):∃r∈l,r.1<=σ s/\σ s<=r.2:=by
 obtain⟨k,rfl⟩:∃k,j=k+1+1:=⟨j-2,by omega⟩;have e:evT σ (k+1+1) (fq s l)=tN (eW (σ s) ((rgX l).map (evT σ (k+1)))):=rfl;rw[e] at h;refine Qy σ k _ l ?_;cases hq:eW (σ s) ((rgX l).map (evT σ (k+1))) with
 |true=>rfl
 |false=>rw[hq] at h;exact absurd rfl h
theorem tG {σ:ByteArray->Nat} {s:ByteArray} {P:Prop}:∀(k D:Nat) (a:Ex) (l:List (Nat×Nat)) (K:Nat),2<=D->D+k<=K->(∀j,D<=j->evT σ j a≠0->P)->(∀r∈l,r.1<=σ s->σ s<=r.2->P)->evT σ K (unF s k a l)≠0->P
 |0,D,a,l,K,hD,hK,ha,hl,h=>ha K hK h
 |k+1,D,a,l,K,hD,hK,ha,hl,h=>by
  unfold unF at h;split at h
  .exact ha K (by omega) h
  refine tG k (D+1) _ _ K (by omega) (by omega) (λj n b=> ?_) (λr c=>hl r (List.mem_of_mem_drop c)) h;obtain⟨i,rfl⟩:∃i,j=i+1:=⟨j-1,by omega⟩;have e:evT σ (i+1) (.mk 20 0 ⟨#[]⟩ [a,fq s (l.take 16)])=tN (decide (evT σ i a≠0)||decide (evT σ i (fq s (l.take 16))≠0)):=rfl;rw[e] at b;by_cases d:evT σ i a=0
  .by_cases f:evT σ i (fq s (l.take 16))=0
   .rw[DJ (λh=>h d),DJ (λh=>h f)] at b;exact absurd rfl b
   have⟨r,c,g,m⟩:=Ra (by omega) f;exact hl r (List.mem_of_mem_take c) g m
  exact ha i (by omega) d
def By {K:Nat} (f:10<=K) (h:evT σ K (kW s l)≠0):∃r∈l,r.1<=σ s/\σ s<=r.2:=by
 unfold kW at h;split at h
 .obtain⟨k,rfl⟩:∃k,K=k+1:=⟨K-1,by omega⟩;rw[xE] at h;exact absurd rfl h
 refine tG (P:=∃r∈l,r.1<=σ s/\σ s<=r.2) 8 2 _ _ K (DE _) (by omega) (λj e c=> ?_) (λr b a d=>⟨r,List.mem_of_mem_drop b,a,d⟩) h;have⟨r,b,a⟩:=Ra e c;exact⟨r,List.mem_of_mem_take b,a⟩
structure RnI (S:Nat->Prop) (L:List (Nat×Nat)) (m:Nat):Prop where
 len:zN L≠0->2*zN L<=(zG L (zN L-1) (0,0)).2+2
 low:∀r∈L,r.1<=r.2/\r.2<m
 mem:∀r∈L,∀x,r.1<=x->x<=r.2->S x
def nL (h:zN L≠0):zG L (zN L-1) (0,0)∈L:=getD_in (0,0) (by omega)
def RnI.step {S:Nat->Prop} {m n:Nat} (h:RnI S L m) (l:m<=n) (f:S n):RnI S (rnS L n) (n+1):=by
 unfold rnS;split
 .rename_i hc;obtain⟨d,k⟩:=hc;have hm:=nL d;have e:(L.set (zN L-1) ((zG L (zN L-1) (0,0)).1,n)).getD (zN L-1) (0,0)=((zG L (zN L-1) (0,0)).1,n):=by rw[DC,EL (by omega)];rfl
  have j:=h.len d;have⟨g,i⟩:=h.low _ hm;refine⟨λ_=> ?_,λr a=> ?_,λr a x b c=> ?_⟩
  .rw[Er,e];show _<=n+2;omega
  .rcases List.mem_or_eq_of_mem_set a with a|rfl
   .have:=h.low r a;omega
   simp only;omega
  rcases List.mem_or_eq_of_mem_set a with a|rfl
  .exact h.mem r a x b c
  simp only at b c;by_cases e:x=n
  .rw[e];exact f
  exact h.mem _ hm x b (by omega)
 rename_i hc;refine⟨λ_=> ?_,λr a=> ?_,λr a x b c=> ?_⟩
 .rw[DI,Ej,Nat.add_sub_cancel,DC,DX (DE _),EB];show _<=n+2;by_cases d:zN L=0
  .omega
  have j:=h.len d;have⟨g,i⟩:=h.low _ (nL d);have:¬(zG L (zN L-1) (0,0)).2+1=n:=λe=>hc ⟨d,e⟩;omega
 .rcases EK.1 a with a|a
  .have:=h.low r a;omega
  rw[ER.1 a];simp only;omega
 rcases EK.1 a with a|a
 .exact h.mem r a x b c
 rw[ER.1 a] at b c;simp only at b c;have:x=n:=by omega
 rw[this];exact f
theorem Pm {S:Nat->Prop}:∀(l:List Nat) (L:List (Nat×Nat)) (m b:Nat),m<=b->l.Pairwise (· < ·)->(∀x∈l,m<=x/\x<b/\S x)->RnI S L m->RnI S (l.foldl rnS L) b
 |[],L,m,b,hb,_,_,h=>⟨h.len,λr g=>by have:=h.low r g;omega,h.mem⟩
 |x::l,L,m,b,hb,hp,hx,h=>by have⟨e,j,f⟩:=hx x (by simp);exact Pm l _ (x+1) b (by omega) hp.of_cons (λy a=>by have:=List.rel_of_pairwise_cons hp a;have⟨i,c,d⟩:=hx y (Ea _ a);exact⟨by omega,c,d⟩) (h.step e f)
def Pk {l:List Nat} {b:Nat} (i:l.Pairwise (· < ·)) (g:∀x∈l,x<b):2*(fE l).length<=b+1/\(∀r∈fE l,r.1<=r.2/\r.2<b)/\∀r∈fE l,∀x,r.1<=x->x<=r.2->x∈l:=by
 have h:=Pm (S:=λx=>x∈l) l [] 0 b (DH _) i (λx d=>⟨DH _,g x d,d⟩) ⟨λh=>absurd rfl h,λr a=>(by cases a),λr a=>(by cases a)⟩;refine⟨?_,h.low,h.mem⟩;by_cases c:(fE l).length=0
 .omega
 have e:=h.len c;have f:=h.low _ (nL c);have j:((fE l).getD ((fE l).length-1) (0,0)).2<b:=f.2;have k:2*(fE l).length<=((fE l).getD ((fE l).length-1) (0,0)).2+2:=e;omega
def sA (k:Nat):(fI ws k).Pairwise (· < ·)/\(∀x∈fI ws k,x<k/\oI ws x=true)/\(fI ws k).length<=k:=by
 refine⟨List.pairwise_lt_range.filter _,λx c=> ?_, ?_⟩
 .have⟨a,b⟩:=List.mem_filter.1 c;exact⟨Fv.1 a,b⟩
 have:=List.length_filter_le (oI ws) (List.range k);rw[EV] at this;exact this
theorem BE {ws:List Wt} {n:Nat} (h:oI ws n=true):∃y∈ws,0<y.weight/\y.lo<=(n:Int)/\(n:Int)<=y.hi:=by
 unfold oI at h;cases hq:ws.find? (wtI n) with
 |none=>rw[hq] at h;cases h
 |some y=>rw[hq] at h;have a:=List.find?_some hq;unfold wtI at a;rw[DW,Ef,Ef] at a;exact⟨y,List.mem_of_find?_eq_some hq,Ey h,a⟩
def rj {d:Ds} (h:evT σ dep (sB p d)≠0):∃y∈d.ws,0<y.weight/\y.lo<=((σ (zG p.v d.var.toNat vr0).s:Nat):Int)/\((σ (zG p.v d.var.toNat vr0).s:Nat):Int)<=y.hi:=by have⟨r,f,c,e⟩:=By (by decide) h;have⟨b,a,i⟩:=sA d.ws (2^(zG p.v d.var.toNat vr0).w.toNat);obtain⟨-, -,q⟩:=Pk b λx g=>(a x g).1;exact BE (a _ (q r f _ c e)).2
def yF {k:Nat} (hk:k<=256):(fE (fI ws k)).length<=128/\∀r∈fE (fI ws k),r.1<=65535/\r.2<=65535:=by have⟨a,b,f⟩:=sA ws k;obtain⟨g,c, -⟩:=Pk a λx e=>(b x e).1;exact⟨by omega,λr d=>by have:=c r d;omega⟩
def SU {d:Ds} (e:PV p) (f:∀v∈p.v,v.s.size<=maxLen) (b:bY p.v d.var=true):GX (ai p.v) 10 314 (sB p d):=by
 unfold bY at b;simp only[DW,Ef] at b;have hm:=getD_in vr0 (show d.var.toNat<zN p.v by omega);have a:=e.v.ok _ hm;have c:2^(zG p.v d.var.toNat vr0).w.toNat<=256:=by have:=Ew (n:=2) (by omega) (show(zG p.v d.var.toNat vr0).w.toNat<=8 by have:=a.2.1;omega);simpa using this
 exact SO (EJ.2 ⟨_,hm,rfl⟩) (nA a.1) (f _ hm) (yF d.ws c).2
section
open Go.RowKit
instance ziL {w w':World} {v:Value} {l:List Int}:Zm w w' (IL w v l) (IL w' v l):=⟨λhb h=>IL.Q h hb⟩
end
end
end
section
open Go.RowKit Go.Maps
section
variable {α:Type} {w w1 w2:World}
def K2.refl (w:World) (g gt:Nat):K2 w w g gt:=⟨rfl,rfl,rfl,DE _,λ_ _ _ _=>rfl⟩
def K2.Q {g gt:Nat} (h:K2 w w1 g gt) (a:zL w1 w2):K2 w w2 g gt:=⟨a.os.trans h.os,a.tape.trans h.tape,a.output.trans h.output,D2 h.size a.size,λb c d e=>(a.block b (DU c h.size)).trans (h.block b c d e)⟩
instance {w w1 w2:World} {g gt:Nat}:Zm w1 w2 (K2 w w1 g gt) (K2 w w2 g gt):=⟨λhb h=>K2.Q h hb⟩
def K2.set {g gt:Nat} (h:K2 w w1 g gt) {p:Addr} (i:p.block=g\/p.block=gt) (u:Value):K2 w (w1.setCell p u) g gt:=
 ⟨h.os,h.tape,h.output,by simpa [World.setCell] using h.size,λb c d f=>by
  rw[<-h.block b c d f];have a:p.block≠b:=by rcases i with e|e<;>rw[e]<;>omega
  simp[World.setCell,Array.getElem?_modify,a]⟩
def K2.toBelow {w0 w w':World} {g b:Nat} (h:K2 w w' g b) (a:zL w0 w) (c:w0.heap.size<=g) (d:w0.heap.size<=b):zL w0 w':=⟨h.os.trans a.os,h.tape.trans a.tape,h.output.trans a.output,D2 a.size h.size,λk hk=>(h.block k (DU hk a.size) (by omega) (by omega)).trans (a.block k hk)⟩
def K2.trans {g gt:Nat} (h:K2 w w1 g gt) (k:K2 w1 w2 g gt):K2 w w2 g gt:=⟨k.os.trans h.os,k.tape.trans h.tape,k.output.trans h.output,D2 h.size k.size,λb a c d=>(k.block b (DU a h.size) c d).trans (h.block b a c d)⟩
def wV (l:List Nat) (k v:Nat):(nI l).set k (v:Int)=nI (l.set k v):=by unfold nI;rw[List.map_set]
def adC (ws:List Wd) (a:List Nat) (k:Nat):List Nat:=a.take k++(dA (ws.drop k) (a.drop k)).1
def adD (ws:List Wd) (a:List Nat) (k:Nat):Bool:=(dA (ws.drop k) (a.drop k)).2
def wd0:Wd:=⟨0,none⟩
theorem Sj (v:Wd) (vs:List Wd) (x:Nat) (t:List Nat):dA (v::vs) (x::t)=if(dA vs t).2=false then(x::(dA vs t).1,false) else match v.fixed with
  |some y=>(x::(dA vs t).1,true)
  |none=>if x+1<2^v.w then((x+1)::(dA vs t).1,false) else(0::(dA vs t).1,true):=rfl
theorem qR:∀(ws:List Wd) (a:List Nat),(dA ws a).1.length=zN ws
 |[],a=>rfl
 |v::vs,a=>by
  have ih:=qR vs a.tail;unfold dA;simp only;split
  .simp[ih]
  split
  .simp[ih]
  split<;>simp[ih]
def xZ {ws:List Wd} {a:List Nat} (h:zN a=zN ws) {k:Nat} (hk:k<=zN ws):(adC ws a k).length=zN ws:=by unfold adC;rw[DI,D3,qR,ET];omega
def Y9 {ws:List Wd} {a:List Nat} (h:zN a=zN ws):adC ws a (zN ws)=a/\adD ws a (zN ws)=true:=by unfold adC adD;rw[List.drop_length,En (by omega)];exact⟨EN _,rfl⟩
def YH (ws:List Wd) (a:List Nat):dA ws a=(adC ws a 0,adD ws a 0):=by unfold adC adD;simp
def drop_one {l:List α} {d:α} {k:Nat} (h:k<zN l):l.drop k=zG l k d::l.drop (k+1):=by rw[Eq h,DC,DD h];rfl
def cI {l:List α} {d:α} {k:Nat} (h:k<zN l):l.take (k+1)=l.take k++[zG l k d]:=by rw[Ep,DC,DD h];rfl
section
variable {ws:List Wd} {a:List Nat} {k:Nat}
def YG (h:zN a=zN ws) (hk:k<zN ws):(adC ws a (k+1)).getD k 0=zG a k 0:=by unfold adC;rw[cI (d:=0) (by omega),Eg,DC,DX (by rw[D3];omega),D3,Nat.min_eq_left (by omega),EB];rfl
def vV (h:zN a=zN ws) (hk:k<zN ws) (x:Nat):(adC ws a (k+1)).set k x=a.take k++x::(dA (ws.drop (k+1)) (a.drop (k+1))).1:=by
 unfold adC;have b:(a.take k).length=k:=by rw[D3];omega
 rw[cI (d:=0) (by omega),Eg,Fy _ _ (by omega),b,EB];rfl
theorem pb (h:zN a=zN ws) (hk:k<zN ws):dA (ws.drop k) (a.drop k)=if adD ws a (k+1)=false then(zG a k 0::(dA (ws.drop (k+1)) (a.drop (k+1))).1,false) else match(zG ws k wd0).fixed with
  |some y=>(zG a k 0::(dA (ws.drop (k+1)) (a.drop (k+1))).1,true)
  |none=>if zG a k 0+1<2^(zG ws k wd0).w then((zG a k 0+1)::(dA (ws.drop (k+1)) (a.drop (k+1))).1,false) else(0::(dA (ws.drop (k+1)) (a.drop (k+1))).1,true):=by
 rw[drop_one (d:=wd0) hk,drop_one (d:=0) (show k<zN a by omega),Sj];rfl
def Sm (h:zN a=zN ws) (hk:k<zN ws) (b:adD ws a (k+1)=true) {y:Nat} (c:(zG ws k wd0).fixed=some y):adC ws a k=adC ws a (k+1)/\adD ws a k=true:=by have e:=pb h hk;rw[b,c] at e;simp only[Bool.true_eq_false,FN] at e;refine⟨?_,by unfold adD;rw[e]⟩;unfold adC;rw[e,cI (d:=0) (show k<zN a by omega),Eg];rfl
def UW (h:zN a=zN ws) (hk:k<zN ws) (b:adD ws a (k+1)=true) (c:(zG ws k wd0).fixed=none) (d:¬zG a k 0+1<2^(zG ws k wd0).w):(adC ws a (k+1)).set k 0=adC ws a k/\adD ws a k=true:=by have e:=pb h hk;rw[b,c] at e;simp only[Bool.true_eq_false,FN,d] at e;refine⟨?_,by unfold adD;rw[e]⟩;rw[vV h hk];unfold adC;rw[e]
theorem vU (h:zN a=zN ws):∀{k:Nat},k<=zN ws->adD ws a k=false->dA ws a=(adC ws a k,false)
 |0,_,hd=>by rw[YH,hd]
 |k+1,hk,hd=>by
  have e:=pb h (show k<zN ws by omega);rw[DP hd] at e;have b:adD ws a k=false:=by unfold adD;rw[e]
  rw[vU h (by omega) b];congr 1;unfold adC;rw[e,cI (d:=0) (show k<zN a by omega),Eg];rfl
def UX (h:zN a=zN ws) (hk:k<zN ws) (c:adD ws a (k+1)=true) (d:(zG ws k wd0).fixed=none) (f:zG a k 0+1<2^(zG ws k wd0).w):dA ws a=((adC ws a (k+1)).set k (zG a k 0+1),false):=by
 have e:=pb h hk;rw[c,d] at e;simp only[Bool.true_eq_false,FN,f,if_true] at e;have b:adD ws a k=false:=by unfold adD;rw[e]
 rw[vU h (by omega) b,vV h hk];congr 1;unfold adC;rw[e]
end
def OC {l:List Vr} {k:Nat} (h:k<zN l):(bE l).getD k wd0=wdT (zG l k vr0):=by unfold bE;rw[DC,Ed,DC,DD h];rfl
def lT (l:List Vr):(bE l).length=zN l:=by simp[bE]
theorem BR {w0 w:World} {p:Pb} {A1 A2 A3 A4 A5:Option Addr} {c1 c2 c3 c4 c5:Nat} (hp:Rs vrR w0 (zU A1 (zN p.v) c1) p.v ah) (hs:PSm p) (hv:cB p.v) (aj:zL w0 w) (m:Nat) (Al:Option Addr) (cl g ga:Nat) (hg:w0.heap.size<=g) (ak:w0.heap.size<=ga) (F:Bool) (steps:Int) (a:List Nat) (hl:zN a=zN p.v) (ha:∀x∈a,x<65536)
  (V:Box w g (uZ p A1 A2 A3 A4 A5 c1 c2 c3 c4 c5 m Al cl ga F steps) 107) (hi:Box w ga (iA (nI a)) 3):
  Calls zz 93 #[zP g] w λe w'=>e=zE (zY #[])/\Box w' g (uZ p A1 A2 A3 A4 A5 c1 c2 c3 c4 c5 m Al cl ga (F||(dA (bE p.v) a).2) steps) 107/\Box w' ga (iA (nI (dA (bE p.v) a).1)) 3/\K2 w w' g ga:=by
 have ad:=zh hp;have⟨n1,HN⟩:=zvh (zN p.v);have hn:n1<=1000:=by rw[HN];exact hs.nv
 have z:Hid ((bE p.v).length=n1):=zh (by rw[lT,HN]);have G:Hid (zN a=(bE p.v).length):=zh (by rw[hl,lT]);have ax:=zh ha;have aE:=zh hv.ok;have aa:=zh aj;have R:g≠ga:=af V hi;have⟨A,aI⟩:=zk2 V hi;have K:=zh (Y9 G.out);have ay:=zh (YH (bE p.v) a);have aG:Hid (∀k,k<n1->(bE p.v).getD k wd0=wdT (zG p.v k vr0)):=zh λk hk=>OC (by rw[<-HN];exact hk);unfold uZ at A⊢;rw[<-HN] at A ad⊢;rw[z.out] at K;generalize bE p.v=ws,zN p.h=n2,zN p.s=n3,zN p.d=n4,zN p.g=n5 at*;have s:=zh (K2.refl w g ga);have X:=zh K.out.1;have Y:=zh K.out.2;have H:Hid (Box w ga (iA (nI (adC ws a n1))) 3):=zh (by rw[X.out];exact aI.out);clear hp hs hv aj hl ha V hi;go_enter func93,ntmps93;have ag:=za A 6;go_upto_region 1 with fail;go_loopw [2] (λi wr=>∃k:Nat,k<=n1/\i=zI zi ((k:Int)-1)/\Hid (adD ws a k=true)/\Box wr g #[zU A1 n1 c1,zU A2 n2 c2,zU A3 n3 c3,zU A4 n4 c4,zU A5 n5 c5,zU Al m cl,zU (some ⟨ga,0,none⟩) n1 n1,zW F,zI zi steps] 107/\Box wr ga (iA (nI (adC ws a k))) 3/\K2 w wr g ga) (λi _=>(intOf i+1).toNat)
 .exact⟨n1,DE _,by go_num,Y,A.out,H.out,s.out⟩
 obtain⟨k,hk,rfl,hd,aq,ar,al⟩:=hrel;have⟨A,H,s⟩:=zk3 aq ar al;clear aq ar al;cases k with
 |zero=>
  have k1:¬(((0:Nat):Int)-1≥0):=by omega
  have ab:Hid ((dA ws a).1=adC ws a 0/\(dA ws a).2=true):=zh (by rw[ay.out];exact⟨rfl,hd.out⟩);have aO:=za A 7;have aP:=A.out.lt;have f7:=A.out.Z 7;go_wp2;have c:=zh (A.out.set_ 7 (zW true));have N:=zh (H.out.setNe ⟨g,7,none⟩ (zW true) R);have f:=zh (s.out.set (p:=⟨g,7,none⟩) (zQ rfl) (zW true));refine bodyPost_end (v:=zY #[]) (by simp[results,results93]) rfl ?_;rw[ab.out.1,ab.out.2,Bool.or_true];exact⟨rfl,c.out,N.out,f.out⟩
 |succ j=>
  have j0:(((j+1:Nat):Int)-1)=(j:Int):=by omega
  rw[j0];have j1:=zn0 j;have j2:(j:Int)<n1:=by omega
  have Q:j<zN p.v:=by rw[<-HN.out];omega
  have HB:=zh (s.out.toBelow aa.out hg ak);have⟨A',c',e1,_,ap⟩:=ad.out.vrs;have⟨b,o,e2,I,l⟩:=ap j Q;obtain rfl:=zas e1 e2;have y1:=(HB.out.cell I).trans (l 1 _ rfl);have y2:=(HB.out.cell I).trans (l 2 _ rfl);have aD:=aE.out _ (getD_in vr0 Q);have ao:=aG.out j (by omega);have n:j<zN ws:=by rw[z.out];omega
  have an:j<(nI (adC ws a (j+1))).length:=by rw[aF,xZ G.out (by omega)];exact n
  have r:=eH an;rw[dV,YG G.out n] at r;have C:=zh λy hf=>Sm G.out n hd.out (y:=y) hf;have u:=zh λhf V=>UW G.out n hd.out hf V;have t:=zh λhf V=>UX G.out n hd.out hf V;have ai:zG a j 0<65536:=ax.out _ (getD_in 0 (by rw[G.out];exact n));generalize zG a j 0=x at*;rw[ao] at C u t;obtain⟨aL,S,aM,T,U⟩:=aD;generalize zG p.v j vr0=vr at*;obtain⟨nm,x2,x3,x4⟩:=vr;unfold wdT at C u t;simp only at y1 y2 S T U C u t;have L:=zh I;clear e1 e2 ap I l ao aL aM an n Q hd;by_cases J:x3=0
  .subst J;simp only[if_true] at C;have ac:=zh (C.out _ rfl);rw[ac.out.1.symm] at H;have aA:=zh ac.out.2;have ae:=za A 0;go_wp2;go_roundw
   .exact⟨j,by omega,by go_num,aA,A.out,H.out,s.out⟩
   simp[intOf]
  have g1:(x3==0)=false:=by simpa using J
  simp only[DK J] at u t;obtain⟨wn,rfl⟩:∃wn:Nat,x2=wn:=⟨x2.toNat,by omega⟩;have au:=zn0 wn;have hw:IntKind.i64.wrap (2^wn)=2^wn:=by
   have:wn=1\/wn=2\/wn=3\/wn=4\/wn=5\/wn=6\/wn=7\/wn=8:=by omega
   rcases this with rfl|rfl|rfl|rfl|rfl|rfl|rfl|rfl<;>decide
  rw[Eh] at u t;have i0:=H.out.A j _ r;have i1:=H.out.frozen j;have i2:=H.out.lt;have aw:(x:Int)<65536:=by omega
  have av:=zn0 x;clear J;obtain⟨ae,ag⟩:=zd2 A 0 6;go_upto_region 5 with fail;clear i0 i1 i2;have N:=zh (H.out.set_ j (zI zi ((x:Int)+1)));have c:=zh (A.out.setNe ⟨ga,j,none⟩ (zI zi ((x:Int)+1)) (FA R));have f:=zh (s.out.set (p:=⟨ga,j,none⟩) (zO rfl) (zI zi ((x:Int)+1)));have Z:=zh (f.out.toBelow aa.out hg ak);replace y1:=(Z.out.cell L.out).trans (((HB.out.cell L.out).symm).trans y1);have P:=DU L.out Z.out.size;have ex:((x:Int)+1)=((x+1:Nat):Int):=by omega
  have E:(iA (nI ((adC ws a (j+1)).set j (x+1))))[j]? =some (zI zi ((x:Int)+1)):=by
   have W:j<(adC ws a (j+1)).length:=by rw[xZ G.out (by rw[z.out];omega),z.out];omega
   rw[eH (by rw[aF,Er];exact W),dV,DC,EL W];simp
  have d:=zh (show Box (wr.setCell ⟨ga,j,none⟩ (zI zi ((x:Int)+1))) ga (iA (nI ((adC ws a (j+1)).set j (x+1)))) 3 by have:=N.out;rw[iP,ex,wV] at this;rw[ex];exact this);clear ex;generalize wr.setCell ⟨ga,j,none⟩ (zI zi ((x:Int)+1))=w3 at*;have aN:=λq:Lat w3=>(q.h.cell P).trans y1;have f0:=c.out.lat 0 _ rfl;have f6:=c.out.lat 6 _ rfl;have i0:=d.out.lat j _ E;clear y1 E;refine az ?_;repeat(go_big_quiet_step (fail))
  refine D4 ?_;intro w8 hb;clear aN f0 f6 i0;replace⟨f,c,d⟩:=zb3 f c d hb;clear hb;by_cases B:x+1<2^wn
  .have am:(x:Int)+1<2^wn:=by have:((x+1:Nat):Int)<((2^wn:Nat):Int):=Int.ofNat_lt.2 B;simpa using this
   have D:=zh (t.out (by trivial) B);have M:Hid ((dA ws a).1=(adC ws a (j+1)).set j (x+1)):=zh (by rw[D.out]);have aC:Hid ((dA ws a).2=false):=zh (by rw[D.out]);clear B hw T U r y2;generalize(2:Int)^wn=pw at*;clear j0 aw av g1 au S ai P;go_wp2;refine D7 (v:=zY #[]) (by simp[results,results93]) rfl ?_;rw[M.out,aC.out,Bool.or_false];exact⟨rfl,c.out,d.out,f.out⟩
  have am:¬(x:Int)+1<2^wn:=λh=>B (by
   have:((x+1:Nat):Int)<((2^wn:Nat):Int):=by simpa using h
   exact Int.ofNat_lt.1 this);have D:=zh (u.out (by trivial) B);have M:=zh D.out.2;have W:j<(iA (nI ((adC ws a (j+1)).set j (x+1)))).size:=by rw[Aj,aF,Er,xZ G.out (by rw[z.out];omega),z.out];omega
  have i1:=d.out.frozen j;have i2:=d.out.lt;have i3:=d.out.A j _ (Array.getElem?_eq_getElem W);have f6:=za c 6;clear B hw T U r y2;generalize(2:Int)^wn=pw at*;generalize aK:(iA (nI ((adC ws a (j+1)).set j (x+1))))[j]'W=cc at*;clear j0 aw av g1 au S ai P aK W;go_upto_region 2 with fail;clear i1 i2 i3 f6;have aJ:Hid (Box (w8.setCell ⟨ga,j,none⟩ (zI zi 0)) ga (iA (nI (adC ws a j))) 3):=zh (by have:=d.out.set_ j (zI zi ((0:Nat):Int));rw[iP,wV,List.set_set,D.out.1] at this;exact this);have aH:=zh (c.out.setNe ⟨ga,j,none⟩ (zI zi 0) (FA R));have aB:=zh (f.out.set (p:=⟨ga,j,none⟩) (zO rfl) (zI zi 0));generalize w8.setCell ⟨ga,j,none⟩ (zI zi 0)=w9 at*;go_wp2;go_roundw
  .exact⟨j,by omega,by go_num,M,aH.out,aJ.out,aB.out⟩
  simp[intOf]
end
section
variable {α:Type}
theorem Bn:∀{ws:List Wd} {a:List Nat},(∀v∈ws,∀x∈aX v,x<65536)->a∈bU ws->zN a=zN ws/\∀x∈a,x<65536
 |[],a,_,h=>by
  obtain rfl:a=[]:=by simpa [bU] using h
  exact⟨rfl,λx h=>by cases h⟩
 |v::vs,a,hv,h=>by
  unfold bU at h;have⟨x,g,h⟩:=List.mem_flatMap.1 h;obtain⟨t,f,rfl⟩:=EJ.1 h;have⟨d,e⟩:=Bn (λv b=>hv v (Ea _ b)) f;refine⟨by simp[d],λy c=> ?_⟩;rcases DS.1 c with rfl|c
  .exact hv v (by simp) _ g
  exact e y c
def SN {v:Vr} (h:gM v):∀x∈aX (wdT v),x<65536:=by
 intro x a;obtain⟨-,c, -,d, -⟩:=h;have e:(2:Int)^v.w.toNat<=256:=by
  have⟨n,b⟩:=zv (v.w.toNat);have:n=1\/n=2\/n=3\/n=4\/n=5\/n=6\/n=7\/n=8:=by omega
  rw[<-b];rcases this with rfl|rfl|rfl|rfl|rfl|rfl|rfl|rfl<;>decide
 unfold aX wdT at a;by_cases hm:v.m=0
 .simp only[hm,if_true,DS,DZ,EC] at a;omega
 simp only[hm,FN,Fv] at a;have:((2^v.w.toNat:Nat):Int)=2^v.w.toNat:=by simp
 omega
def ye {l:List Vr} (h:∀v∈l,gM v) {a:List Nat} (b:a∈bU (bE l)):zN a=zN l/\∀x∈a,x<65536:=by have:=Bn (λv d=>by obtain⟨u,c,rfl⟩:=EJ.1 d;exact SN (h u c)) b;rwa [lT] at this
theorem UV {ws:List Wd} {a:List Nat} {R:List (List Nat)} (h:a::R<:+bU ws):(dA ws a).2=R.isEmpty/\∀b d,R=b::d->(dA ws a).1=b:=by
 obtain⟨c,h⟩:=h;have j:(bU ws)[zN c]? =some a:=by rw[<-h];simp
 have f:(bU ws).length=zN c+(zN R+1):=by rw[<-h];simp
 have⟨k,l⟩:=Sk ws (zN c) a j;cases R with
 |nil=>exact⟨by rw[(l (by rw[f];rfl)).2];rfl,λb d e=>by cases e⟩
 |cons b d=>
  have⟨g,m⟩:=k (by rw[f,DF];omega);refine⟨by rw[m];rfl,λo i e=> ?_⟩;simp only[Fm] at e;rw[<-e.1];have n:(bU ws)[zN c+1]? =some b:=by rw[<-h,DX (by omega),show zN c+1-zN c=1 by omega];rfl
  rw[n] at g;exact(Eu g).symm
theorem oD {α:Type} (P:α->Bool):∀(l:List α),l.filter P=match l.dropWhile (λa=> !P a) with
  |[]=>[]
  |a::r=>a::r.filter P
 |[]=>rfl
 |a::l=>by
  rw[List.dropWhile_cons,List.filter_cons];cases hP:P a
  .simp only[Bool.not_false,if_true,FW,FN];exact oD P l
  simp
theorem qq:∀(l:List Vr) (a:List Nat) (s:ByteArray),fd ((List.range (zN l)).map λi=>((zG l i vr0).s,zG a i 0)) s=(eO (ai l) s).map λi=>zG a i 0
 |[],a,s=>rfl
 |v::l,a,s=>by
  rw[DF,List.range_succ_eq_map,FY,Fe];have ih:=qq l a.tail s;have e1:ai (v::l)=v.s::ai l:=rfl;rw[e1];unfold fd eO;by_cases h:v.s=s
  .rw[DP h,DP (show(((v::l).getD 0 vr0).s,zG a 0 0).1=s from h)];rfl
  rw[DK h,DK (show¬(((v::l).getD 0 vr0).s,zG a 0 0).1=s from h)];have b:((λi=>(((v::l).getD i vr0).s,zG a i 0))∘Nat.succ)=λi=>((zG l i vr0).s,zG a.tail i 0):=by funext i;cases a<;>simp
  rw[b,ih,Option.map_map];congr 1;funext i;cases a<;>simp
def VE (l:List Vr) (a:List Nat):sgV (gh l a (zN l))=aM (ai l) a:=by funext s;unfold sgV gh aM;rw[qq];cases eO (ai l) s<;>rfl
theorem Cv {l:List Vr} {a:List Nat} {s:ByteArray} (h:s∈ai l):(fd (gh l a (zN l)) s).isSome=true:=by
 unfold gh;rw[qq,Option.isSome_map];have c:∀{b:List ByteArray},s∈b->(eO b s).isSome=true:=by
  intro b d;induction b with
  |nil=>cases d
  |cons x r ih=>
   unfold eO;by_cases e:x=s
   .rw[DP e];rfl
   rw[DK e,Option.isSome_map];rcases DS.1 d with h|h
   .exact absurd h.symm e
   exact ih h
 exact c h
def EnS (w:World) (B:Nat) (v:Value) (l:List Sg):Prop:=(l=[]/\∃A c,v=zU A 0 c)\/∃a cap cur,v=zU (some ⟨a,0,none⟩) (zN l) cap/\B<=a/\zN l<=cap/\Box w a cur 170∧
 ∀i,i<zN l->cur[i*2]? =some (zV (zG l i sg0).1)/\cur[i*2+1]? =some (zI zi ((zG l i sg0).2:Nat))
section
variable {w w':World} {B:Nat} {v:Value} {l:List Sg}
def EnS.of (h:OG sgR w B 0 170 v l):EnS w B v l:=by
 have⟨A,c,e1,r,j⟩:=h.rs.sgs;obtain⟨-,uss, -,q, -⟩:=h;rcases q.2 with⟨rfl,d⟩|⟨g,cap,cur,rfl,p,m,k, -⟩
 .exact zQ ⟨Ec d,none,0,rfl⟩
 refine zO ⟨g,cap,cur,rfl,p,k,m,λi hi=> ?_⟩;obtain⟨b,o,n, -,a⟩:=j i hi;simp only[DQ,true_and] at e1;obtain⟨rfl,rfl⟩:g=b/\o=0:=by have:=e1.1.trans n;simp only[DN,FK,FL] at this;exact⟨this.1,this.2.symm⟩
 have f:Box w g cur 170:=m;have d:=a.1;have e:=a.2;rw[f.cell] at d e;rw[DY] at d e;exact⟨d,e⟩
def EnS.slice (h:EnS w B v l):∃A c,v=zU A (zN l) c:=by
 rcases h with⟨rfl,A,c,rfl⟩|⟨a,cap,cur,rfl, -⟩
 .exact⟨A,c,rfl⟩
 exact⟨_,_,rfl⟩
def EnS.rs (h:EnS w B v l):Rs sgR w v l ah:=by
 rcases h with⟨rfl,A,c,rfl⟩|⟨m,cap,cur,rfl, -,n,k,a⟩
 .exact⟨A,c,rfl,DH _,λh=>absurd h (by simp)⟩
 refine⟨_,cap,rfl,n,λ_=>⟨m,0,rfl,k.lt,λj x g=>⟨sgL x,λi hi=> ?_,rfl⟩⟩⟩;have b:j<zN l:=(D0.1 g).1;have⟨d,f⟩:=a j b;rw[DC,g] at d f;have e:sgR.k=2:=rfl;rw[e] at hi⊢;rw[k.cell,DY];have:i=0\/i=1:=by omega
 rcases this with rfl|rfl
 .exact d
 exact f
def EnS.keep (h:EnS w B v l) (hk:∀b cs,Box w b cs 170->w'.heap[b]? =w.heap[b]?):EnS w' B v l:=by
 rcases h with h|⟨c,cap,cur,rfl,e,f,d,a⟩
 .exact zQ h
 exact zO ⟨c,cap,cur,rfl,e,f,(hk c cur d).trans d,a⟩
def EnS.Q (h:EnS w B v l) (a:zL w w'):EnS w' B v l:=h.keep λb cs c=>a.block b c.lt
instance:Zm w w' (EnS w B v l) (EnS w' B v l):=⟨λhb h=>EnS.Q h hb⟩
def EnS.k2 {g ga:Nat} {c d:Array Value} (h:EnS w B v l) (hk:K2 w w' g ga) (e:Box w g c 107) (hi:Box w ga d 3):EnS w' B v l:=h.keep λb cs a=>hk.block b a.lt (af a e) (af a hi)
def EnS.setNe {g:Nat} {cs:Array Value} {T:TypeId} (h:EnS w B v l) (d:Box w g cs T) (c:T≠170) (i:Nat) (u:Value):EnS (w.setCell ⟨g,i,none⟩ u) B v l:=h.keep λb a f=>Eo w ⟨g,i,none⟩ u b (af f d λe=>c e.symm)
def EnS.store (h:EnS w B v l) {k:Nat} (hk:k<zN l) (x:Nat):∃a cap,v=zU (some ⟨a,0,none⟩) (zN l) cap/\B<=a/\(∃cur u,Box w a cur 170/\cur[k*2+1]? =some u)/\EnS (w.setCell ⟨a,k*2+1,none⟩ (zI zi x)) B v (l.set k ((zG l k sg0).1,x)):=by
 rcases h with⟨rfl, -⟩|⟨a,cap,cur,rfl,d,g,f,b⟩
 .simp at hk
 have⟨c1,c2⟩:=b k hk;refine⟨a,cap,rfl,d,⟨cur,_,f,c2⟩,zO ⟨a,cap,cur.setIfInBounds (k*2+1) (zI zi x),by rw[Er],d,by rw[Er];exact g,f.set_ _ _,λi hi=> ?_⟩⟩;rw[Er] at hi;have⟨c,d2⟩:=b i hi;by_cases e:i=k
 .subst e;have j:i*2+1<cur.size:=(Fj.1 c2).1;rw[Fx (by omega),Array.getElem?_setIfInBounds_self_of_lt j,DC,EL hk];exact⟨c,rfl⟩
 rw[Fx (by omega),Fx (by omega),DC,EP (FA e),<-DC];exact⟨c,d2⟩
end
def gOG (j:Nat) (D:List Nat) (φ:Rd α) (xs:List α) (B:Nat) (T:TypeId):FOp:=⟨j,D,λv=>∃A c,v=zU A (zN xs) c,λv w=>OG φ w B 0 T v xs⟩
def Wy (j:Nat) (D:List Nat) (φ:Rd α) (xs:List α) (B:Nat) (T:TypeId):∀u w w',(gOG j D φ xs B T).Φ u w->zL w w'->(gOG j D φ xs B T).Φ u w':=λu w w' h a=>h.Q a
def Wz (j:Nat) (D:List Nat) (φ:Rd α) (xs:List α) (B:Nat) (T:TypeId):(∀u w,(gOG j D φ xs B T).Φ u w->(gOG j D φ xs B T).S u)/\∃u,(gOG j D φ xs B T).S u:=⟨λu w h=>h.slice,zU none _ 0,none,0,rfl⟩
end
section
variable {g:Nat} {T:TypeId} {v:Value} {w:World}
def yR {α:Type} {φ:Rd α} {B B' C:Nat} {xs:List α} (h:OG φ w B C T v xs) (a:B'<=B) (b:C<=B'):OG φ w B' C T v xs:=by obtain⟨c,uss,e,f,d⟩:=h;exact⟨⟨c.1,b⟩,uss,e,pF f a,d⟩
def K2.setNew {w w1:World} {g gt:Nat} (h:K2 w w1 g gt) {p:Addr} (f:w.heap.size<=p.block) (u:Value):K2 w (w1.setCell p u) g gt:=
 ⟨h.os,h.tape,h.output,by simpa [World.setCell] using h.size,λb c d e=>by
  rw[<-h.block b c d e];have a:p.block≠b:=by omega
  simp[World.setCell,Array.getElem?_modify,a]⟩
def PM {w w':World} {B g ga n size:Nat} {ls:List Value} (h:w.ownsRow B T size v n ls) (hk:K2 w w' g ga) (d:g<B) (c:ga<B):w'.ownsRow B T size v n ls:=F4 h λb a=>hk.block b (F5 h b a) (by have:=i7 h b a;omega) (by have:=i7 h b a;omega)
def FSt (w:World) (p:Pb) (A1 A2 A3 A4 A5:Option Addr) (c1 c2 c3 c4 c5:Nat) (m:Nat) (Al:Option Addr) (cl g ga:Nat) (R:List (List Nat)) (d:Int):Prop:=∃a,Box w g (uZ p A1 A2 A3 A4 A5 c1 c2 c3 c4 c5 m Al cl ga R.isEmpty d) 107/\Box w ga (iA (nI a)) 3/\zN a=zN p.v/\∀b c,R=b::c->a=b
def lJ (p:Pb) (l:List Ex) (a:List Nat):Bool:=dq (aM (ai p.v) a) l
def Zc (L:List (List Nat)) (Q0:Prop) (Q1:List Nat->List (List Nat)->Prop):Prop:=match L with
 |[]=>Q0
 |a::R=>Q1 a R
def wD (w:World) (g:Nat):Nat:=match w.cell? ⟨g,8,none⟩ with
 |some (.int _ s)=>s.toNat
 |_=>0
def tJ {cs:Array Value} {s:Int} (h:Box w g cs T) (a:cs[8]? =some (zI zi s)):wD w g=s.toNat:=by unfold wD;rw[h.A 8 _ a]
def Xr (w:World) (p:Pb) (A1 A2 A3 A4 A5:Option Addr) (c1 c2 c3 c4 c5:Nat) (l:List Ex) (Al:Option Addr) (cl g ga:Nat) (R:List (List Nat)) (e:Ending) (w':World):Prop:=K2 w w' g ga/\Zc (R.dropWhile (λa=> !lJ p l a))
 (e=zE (zY #[zU none 0 0,zW false])/\∃b,FSt w' p A1 A2 A3 A4 A5 c1 c2 c3 c4 c5 (zN l) Al cl g ga [] b/\0<=b/\b<=262144)
 (λa c=>∃v b,e=zE (zY #[v,zW true])/\w'.ownsRow w.heap.size 3 1 v (zN p.v) (j5 (nI a))/\FSt w' p A1 A2 A3 A4 A5 c1 c2 c3 c4 c5 (zN l) Al cl g ga c b/\(zN c:Int)<=b/\b<=262144)
theorem XM {w0 w:World} {p:Pb} {A1 A2 A3 A4 A5:Option Addr} {c1 c2 c3 c4 c5:Nat} (hp:PIn w0 p A1 A2 A3 A4 A5 c1 c2 c3 c4 c5) (hs:PSm p) (hk:KW w0) (hm:de w0) (hv:PV p) (l:List Ex) (Al:Option Addr) (cl:Nat) (hr:Rs (exR KE) w0 (zU Al (zN l) cl) l ah) (hl:zN l<=1000) (F:∀e∈l,jm (ai p.v) e)
  (bw:zL w0 w) (g ga:Nat) (hg:w0.heap.size<=g) (aD:w0.heap.size<=ga) (R:List (List Nat)) (hR:R<:+bU (bE p.v)) (st:Int) (aG:(zN R:Int)<=st) (bj:st<=262144) (hf:FSt w p A1 A2 A3 A4 A5 c1 c2 c3 c4 c5 (zN l) Al cl g ga R st):
  Calls zz 47 #[zP g] w (Xr w p A1 A2 A3 A4 A5 c1 c2 c3 c4 c5 l Al cl g ga R):=by
 obtain⟨Y,hx,hi,T,bv⟩:=hf;have hn:=hs.nv;have bG:g≠ga:=af hx hi;have ax:=zh bw;have b2:=zh hv.v;have aR:=zh fun(a:List Nat) (R1:List (List Nat)) (h:a::R1<:+bU (bE p.v))=>ye hv.v.ok (h.subset (List.mem_cons_self));have I:=zh fun(W:World) (f:zL w0 W) (bl:Bool) (steps:Int) (a:List Nat) (hl:zN a=zN p.v) (ha:∀x∈a,x<65536) hx hi=>BR (w:=W) (A2:=A2) (A3:=A3) (A4:=A4) (A5:=A5) (c2:=c2) (c3:=c3) (c4:=c4) (c5:=c5) hp.v hs hv.v f (zN l) Al cl g ga hg aD bl steps a hl ha hx hi;have Z:=zh fun(W:World) (f:zL w0 W) (hi:Box W ga (iA (nI Y)) 3)=>Yt (w:=W) (hp.Q f) hs Y (zU (some ⟨ga,0,none⟩) (zN p.v) (zN p.v)) (lI hi _ (by rw[aF,T])) T;have bm:=zh fun(W:World) (f:zL w0 W) (a:List Nat) (ha:∀x∈a,x<65536) (ve:Value) (hv:Rs sgR W ve (gh p.v a (zN p.v)) ah) (e:Ex) (L:e∈l) (Ap:Option Addr) (cp:Nat) (bL:Rs (exR 29) W (zU Ap (zN e.a) cp) e.a ah)=>
  WO W (gh p.v a (zN p.v)) ve e 29 Ap cp (λs=>decide (s∈ai p.v)) hv (by rw[ke];exact hn) (λx hx=>by
   obtain⟨i,hi,rfl⟩:=EJ.1 hx;show zG a i 0<65536;by_cases h:i<zN a
   .exact ha _ (getD_in 0 h)
   rw[DC,EF (by omega)];exact(by decide)) (F e L).z (hk.Q f) (hm.Q f) bL (by decide) (F e L).len (F e L).ok.1 (F e L).ok.2.1 (λs hs=>Cv ((F e L).ok.2.2 s hs)) (F e L).okE;have bk:g<w.heap.size/\ga<w.heap.size:=⟨hx.lt,hi.lt⟩;have⟨d,y,HR,bs⟩:=zk4 hx hi hR bv;have⟨n1,HN⟩:=zvh (zN p.v);have r:Hid (zN Y=n1):=zh (by rw[T,HN]);have au:Hid ((gh p.v Y n1).length=n1/\∀i,i<n1->((gh p.v Y n1).getD i sg0).1=(zG p.v i vr0).s):=zh ⟨ke _ _ _,λi hi=>by
  unfold gh;rw[DC,Ed,EZ hi];rfl⟩;have⟨A',cl',e1,bA,bP⟩:=hr.exs;obtain⟨rfl,rfl⟩:Al=A'/\cl=cl':=by simpa using e1
 have a4:=zh bP;obtain⟨m,bd⟩:∃m,m=zN l:=⟨_,rfl⟩;have aS:=zh bd;unfold Xr FSt;unfold uZ at d I⊢;unfold pbV at Z;rw[<-HN] at d I Z hn⊢;rw[<-bd] at d I a4 hl bA⊢;generalize zN p.h=n2,zN p.s=n3,zN p.d=n4,zN p.g=n5 at*;unfold EnR at Z;go_enter func47,ntmps47;go_wp2;go_step3;go_wp2;refine bB 9 (Kit.of [gOG 8 [] sgR (gh p.v Y n1) w.heap.size 170]) (Kit.of_stable ?_) (Kit.of_known ?_) ?_
 .intro z hz;simp only[DS,DZ,EC] at hz;rcases hz with rfl
  .apply Wy
 .intro z hz;simp only[DS,DZ,EC] at hz;rcases hz with rfl
  .apply Wz
 intro γ bQ C hC b5;obtain⟨Ae,ce,e8⟩:∃A c,γ 8=zU A (gh p.v Y n1).length c:=bQ 8 rfl;rw[au.1] at e8;have f0:=d.latC (C:=C) 0 _ rfl;have f1:=d.latC (C:=C) 1 _ rfl;have f2:=d.latC (C:=C) 2 _ rfl;have f3:=d.latC (C:=C) 3 _ rfl;have f4:=d.latC (C:=C) 4 _ rfl;have f6:=d.latC (C:=C) 6 _ rfl;simp only[Ee,El,Ei,D5];iterate 8 (refine aO rfl ?_;go_big_quiet_step (fail);refine D4 ?_)
 refine wfc #[zX #[zU A1 n1 c1,zU A2 n2 c2,zU A3 n3 c3,zU A4 n4 c4,zU A5 n5 c5],zU (some ⟨ga,0,none⟩) n1 n1] func92 (λw' f hf=>(Z w' (aa ax f) (y.Q f)).mono λe w2 ⟨v,L,ho,hb2⟩=>⟨v,L,yR ho f.size (DH _),hb2⟩) ?_;simp only[DY,Nat.reduceAdd,e8];go_simp;intro w5 f hF;have R8:OG sgR w5 w.heap.size 0 170 (γ 8) (gh p.v Y n1):=hF 8 (by decide) rfl;rw[e8] at R8;have G:=zh (EnS.of R8);have D:=zh ((K2.refl w g ga).Q f);replace⟨d,y⟩:=zb2 d y f;generalize gh p.v Y n1=E0 at*;go_wp2;go_step3;go_wp2;have b1:=zh (show g<w.heap.size/\ga<w.heap.size from bk);go_loopw [] (λwr=>∃(R1:List (List Nat)) (st1:Int) (a:List Nat) (el:List Sg),Hid (R1<:+bU (bE p.v))/\Hid (R.dropWhile (λa=> !lJ p l a)=R1.dropWhile (λa=> !lJ p l a))/\Box wr g #[zU A1 n1 c1,zU A2 n2 c2,zU A3 n3 c3,zU A4 n4 c4,zU A5 n5 c5,zU Al m cl,zU (some ⟨ga,0,none⟩) n1 n1,zW R1.isEmpty,zI zi st1] 107/\Box wr ga (iA (nI a)) 3/\zN a=n1/\(∀b R',R1=b::R'->a=b)/\(zN R1:Int)<=st1/\st1<=262144/\EnS wr w.heap.size (zU Ae n1 ce) el/\zN el=n1/\Hid (∀i,i<n1->(zG el i sg0).1=(zG p.v i vr0).s)/\K2 w wr g ga)
  (λwr=>wD wr g)
 .exact⟨R,st,Y,E0,HR,zh rfl,d,y,r,bs,aG,bj,G,au.1,zh au.2,D⟩
 obtain⟨R1,st1,a,el,bN,a9,V,X,T,bK,bi,bM,aC,aB,aE,H⟩:=hrel;have⟨d,y,G,D,r,n⟩:=zk6 V X aC H T aB;cases R1 with
 |nil=>
  have ac:Hid (R.dropWhile (λa=> !lJ p l a)=[]):=zh a9;simp only[D8] at bi;have s0:0<=st1:=by omega
  have a6:=za d 7;go_wp2;rw[Exit.noGoto_ret];go_ret2;refine⟨D, ?_⟩;rw[ac];exact⟨by trivial,st1,⟨a,d,y,r,λb R' e=>by cases e⟩,s0,bM⟩
 |cons b R2=>
  obtain rfl:=bK b R2 rfl;have aw:=zh bN;have ac:=zh a9;have Q:=zh aE;have aQ:=zh (aR a R2 aw);have aJ:=zh (UV aw);have aZ:Hid (R2<:+bU (bE p.v)):=zh (List.IsSuffix.trans (List.suffix_cons a R2) aw);have s1:(zN R2:Int)+1<=st1:=by simpa using bi
  have s2:0<st1:=by omega
  have s3:(zN R2:Int)<=st1-1:=by omega
  have aY:=zh s3;have br:=zh (tJ d rfl);have f8:=d.Z 8;obtain⟨a6,bZ⟩:=zd2 d 7 8;have b0:=d.lt;go_upto_region 4 with fail;have ay:=zh (d.set_ 8 (zI zi (st1-1)));have az:=zh (y.setNe ⟨g,8,none⟩ (zI zi (st1-1)) bG);have J:=zh (G.setNe d (by decide) 8 (zI zi (st1-1)));have t:=zh (D.set (p:=⟨g,8,none⟩) (zQ rfl) (zI zi (st1-1)));generalize wr.setCell ⟨g,8,none⟩ (zI zi (st1-1))=w6 at*;have d:Hid (Box w6 g #[zU A1 n1 c1,zU A2 n2 c2,zU A3 n3 c3,zU A4 n4 c4,zU A5 n5 c5,zU Al m cl,zU (some ⟨ga,0,none⟩) n1 n1,zW false,zI zi (st1-1)] 107):=ay;have y:=az;have aI:=tM w6 (zU (some ⟨ga,0,none⟩) n1 n1) (nI a) (lI y n1 (by rw[aF,r])) (by rw[aF,r];omega);rw[aF,r] at aI;have bY:=za d 6;go_wp2;refine aI.mono ?_;rintro e w7 ⟨vh,rfl,ae,f⟩;have aq:=zh (show g<w6.heap.size/\ga<w6.heap.size from⟨d.lt,y.lt⟩);have bt:Hid (w.heap.size<=w6.heap.size):=zh t.size;have S:=zh ae;obtain⟨Ah,ch,e9, -, -⟩:=IL.of_own ae;rw[aF,r] at e9;subst e9;have K:=zh (J.Q f);have bq:Hid (∀ge c,Value.slice Ae n1 ce=zU (some ⟨ge,0,none⟩) n1 c->0<n1->ge<w6.heap.size):=zh λge c L hp=>by
   rcases J.out with⟨N, -⟩|⟨b3,cap,cur,N, -, -,hx, -⟩
   .have:=n.out;rw[N] at this;simp at this;omega
   rw[n] at N;rw[N] at L;simp only[DQ,DN,FK] at L;rw[<-L.1.1];exact hx.lt
  replace⟨t,d,y⟩:=zb3 t d y f;generalize w6.heap.size=B6 at*;go_wp2;go_loopw [47] (λi wq=>∃(k:Nat) (B:List Sg),k<=n1/\i=zI zi k/\Box wq g #[zU A1 n1 c1,zU A2 n2 c2,zU A3 n3 c3,zU A4 n4 c4,zU A5 n5 c5,zU Al m cl,zU (some ⟨ga,0,none⟩) n1 n1,zW false,zI zi (st1-1)] 107/\Box wq ga (iA (nI a)) 3/\wq.ownsRow B6 3 1 (zU Ah n1 ch) n1 (j5 (nI a))/\EnS wq w.heap.size (zU Ae n1 ce) B/\zN B=n1/\Hid (∀i,i<n1->(zG B i sg0).1=(zG p.v i vr0).s)/\Hid (∀i,i<k->(zG B i sg0).2=zG a i 0)/\K2 w wq g ga) (λi _=>n1-(intOf i).toNat)
  .exact⟨0,el,DH _,rfl,d,y,S,K,n,Q,zh λi h=>by omega,t⟩
  obtain⟨k,B,hk,rfl,V,X,ae,aC,aB,aE,bO,H⟩:=hrel;have⟨d,y,S,G,n⟩:=zk5 V X ae aC aB;have Q:=zh aE;have a1:=zh bO;have D:=zh H;by_cases P:k<n1
  .have⟨bc,k0⟩:=zln P;have⟨ge,cap,ad,bF,⟨cur,u,U,bC⟩,aG⟩:=G.store (k:=k) (by rw[n];exact P) (zG a k 0);rw[n] at ad;have bD:=bq ge cap ad (by omega);simp only[DQ,true_and] at ad;obtain⟨rfl,rfl⟩:=ad;have i0:=U.A _ _ bC;have i1:=U.frozen (k*2+1);have i2:=U.lt;have a7:=af U d;have a8:=af U y;obtain⟨bh,oh,eh,y0⟩:∃b o,Ah=some ⟨b,o,none⟩/\wr.cell? ⟨b,o+k,none⟩=some (zI zi (zG a k 0:Nat)):=by
    rcases(IL.of_own S).form with⟨A,c,N,h2⟩|⟨b,o,c,N, -, -, -,h2⟩
    .have h3:=Ev List.length h2;rw[aF,r] at h3;simp at h3;omega
    have h3:=h2 k (by rw[aF,r];exact P);rw[dV] at h3;simp only[DQ] at N;exact⟨b,o,N.1,h3⟩
   subst eh;have ap:=zh (λi (hi:i≠k)=>show(B.set k ((zG B k sg0).1,zG a k 0)).getD i sg0=zG B i sg0 by rw[DC,EP (FA hi),<-DC]);have ak:=zh (show(B.set k ((zG B k sg0).1,zG a k 0)).getD k sg0=((zG B k sg0).1,zG a k 0) by rw[DC,EL (by rw[n];exact P)];rfl);have J:=zh aG;have aT:Hid (∀i,i<n1->((B.set k ((zG B k sg0).1,zG a k 0)).getD i sg0).1=(zG p.v i vr0).s):=zh λi hi=>by
    by_cases e:i=k
    .rw[e,ak];exact Q k P
    rw[ap i e];exact Q i hi
   have a3:Hid (∀i,i<k+1->((B.set k ((zG B k sg0).1,zG a k 0)).getD i sg0).2=zG a i 0):=zh λi hi=>by
    by_cases e:i=k
    .rw[e,ak]
    rw[ap i e];exact a1 i (by omega)
   have aL:Hid ((B.set k ((zG B k sg0).1,zG a k 0)).length=n1):=zh (by rw[Er];exact n);have ay:=zh (d.setNe ⟨ge,k*2+1,none⟩ (zI zi (zG a k 0:Nat)) a7);have az:=zh (y.setNe ⟨ge,k*2+1,none⟩ (zI zi (zG a k 0:Nat)) a8);have aW:=zh (ownsRow_setCell_below S (a:=⟨ge,k*2+1,none⟩) bD (zI zi (zG a k 0:Nat)));have t:=zh (D.setNew (p:=⟨ge,k*2+1,none⟩) bF (zI zi (zG a k 0:Nat)));generalize zG a k 0=av,B.set k ((zG B k sg0).1,zG a k 0)=ek2 at*;go_wp2;go_roundw
   .exact⟨k+1,ek2,by omega,by go_num,ay,az,aW,J,aL,aT,a3,t⟩
   simp[intOf];omega
  have bc:=zge P;have bH:k=n1:=by omega
  subst bH;have aN:Hid (B=gh p.v a k):=zh (by
   refine Fz (by rw[n,ke]) λi N h2=> ?_;rw[n] at N;have e1:=Q i N;have e2:=a1 i N;rw[DC,DD (by rw[n];exact N)] at e1 e2;simp only[EQ] at e1 e2;refine Prod.ext ?_ ?_
   .rw[e1];simp[gh]
   rw[e2];simp[gh]);rw[aN] at G;have aH:=I wr (D.toBelow ax hg aD) false (st1-1) a (by rw[r]) aQ.2 d y;rw[FJ,aJ.1] at aH;go_wp2;refine aH.mono ?_;rintro e w8 ⟨rfl,V,X,H⟩;have K:=zh (G.k2 H d y);have aX:=zh (PM S H aq.1 aq.2);have t:=zh (D.trans H);have bI:(dA (bE p.v) a).1.length=k:=by rw[qR,lT];exact HN.symm
  have aP:=zh bI;have aj:=zh aJ.2;have⟨d,y⟩:=zk2 V X;generalize(dA (bE p.v) a).1=a2 at*;have bX:=za d 5;go_wp2;have bo:=zh (t.toBelow ax hg aD);go_loopw [65] (λi wq=>∃q:Nat,q<=m/\i=zI zi q/\zL w8 wq/\Hid (∀j,j<q->evT (aM (ai p.v) a) dep (zG l j ex0)≠0)) (λi _=>m-(intOf i).toNat)
  .exact⟨0,DH _,rfl,DM _ _,zh λj h=>by omega⟩
  obtain⟨q,hq,rfl,f,be⟩:=hrel;have M:=zh f;have HB:=zh (aa bo f);by_cases ag:q<m
  .have⟨bf,q0⟩:=zln ag;obtain⟨b,o,u,d',e2,bz,hd,aA,F, -⟩:=a4 q ag;subst e2;obtain rfl:d'=29:=by unfold KE at hd;omega
   obtain⟨v0,v1,v2,v3⟩:=zx4 HB bz aA;rw[Eb] at v0;have bb:=getD_in ex0 (show q<zN l by rw[<-aS];exact ag);have bg:=F.Q HB;have aU:Hid (evT (aM (ai p.v) a) dep (zG l q ex0)≠0->∀j,j<q+1->evT (aM (ai p.v) a) dep (zG l j ex0)≠0):=zh λh j hj=>by
    by_cases e:j=q
    .rw[e];exact h
    exact be j (by omega)
   have aK:Hid (evT (aM (ai p.v) a) dep (zG l q ex0)=0->lJ p l a=false):=zh λh=>by unfold lJ dq;rw[List.all_eq_false];exact⟨_,bb,by rw[h];decide⟩
   generalize zG l q ex0=ee at*;obtain⟨Ap,cp,rfl,b4⟩:=bg.slice;have ar:=zh fun(W:World) (f:zL wr W)=>bm W (aa HB f) a aQ.2 (zU Ae k ce) (by rw[<-HN];exact((K.Q M).Q f).rs) ee bb Ap cp (bg.Q f);unfold exV at ar;rw[VE] at ar;generalize evT (aM (ai p.v) a) dep ee=ev,ee.op=ao,ee.n=an,ee.s=am,zN ee.a=al at*;go_upto_region 14 with fail;have HW:=zh (ab wr (zC #[zI zi ao,zI zi an,zV am,zU Ap al cp] 79));have bu:=zh (aa M HW);generalize bR:wr.alloc _=w3 at*;have⟨bx,XA⟩:=zA1 bR;replace HB:=zb HB bx;obtain⟨bS,bT,bV,bW⟩:=zc4 XA;go_wp2;refine zK (ar w3 HW) λw4 f=> ?_;have E:=zh (aa bu f);by_cases ba:ev=0
   .subst ba;have bn:=zh (aK rfl);go_wp2;have a5:=d.Q E;refine⟨⟨R2,st1-1,a2,gh p.v a k,aZ,zh ?_,a5,y.Q E,aP,aj,aY,by omega,K.Q E,ke _ _ _,zh λi hi=> ?_,t.Q E⟩, ?_⟩
    .rw[ac,List.dropWhile_cons];simp[bn.out]
    .unfold gh;rw[DC,Ed,EZ hi];rfl
    rw[tJ a5 rfl,br];omega
   have g1:((ev:Int)==0)=false:=by
    have:¬(ev:Int)=0:=by omega
    simpa using this
   have aV:=zh (aU ba);go_wp2;go_roundw
   .exact⟨q+1,by omega,by go_num,E,aV⟩
   simp[intOf];omega
  have⟨bf,bJ⟩:=zgq hq ag;have bp:Hid (R.dropWhile (λa=> !lJ p l a)=a::R2):=zh (by
   have hh:lJ p l a=true:=by unfold lJ dq;rw[Fa];intro e L;obtain⟨j,hj,rfl⟩:=D9.1 L;have:=be j (by rw[bJ,aS];exact hj);rw[DC,DD hj] at this;simpa using this
   rw[ac,List.dropWhile_cons];simp[hh]);go_wp2;try rw[Exit.noGoto_ret]
  go_ret2;refine⟨t.Q M, ?_⟩;rw[bp];exact⟨_,st1-1,rfl,pF (rB aX M) bt,⟨a2,d.Q M,y.Q M,aP,aj⟩,aY,by omega⟩
end
theorem QS {w:World} {p:Pb} {A1 A2 A3 A4 A5:Option Addr} {c1 c2 c3 c4 c5 m:Nat} {Al:Option Addr} {cl g ga:Nat} {steps:Int} (d:cB p.v) (f:Box w g (uZ p A1 A2 A3 A4 A5 c1 c2 c3 c4 c5 m Al cl ga false steps) 107) (hi:Box w ga (iA (nI (fu (bE p.v)))) 3):
  FSt w p A1 A2 A3 A4 A5 c1 c2 c3 c4 c5 m Al cl g ga (bU (bE p.v)) steps:=by
 have a:=qm (bE p.v);have c:=(ye d.ok (List.mem_of_getElem? a)).1;cases hS:bU (bE p.v) with
 |nil=>rw[hS] at a;cases a
 |cons b R=>rw[hS] at a;exact⟨_,f,hi,c,λi h e=>by simp only[Fm] at e;rw[<-e.1];exact(Eu a).symm⟩
def tK (p:Pb) (l:List Ex):om (ai p.v) (bE p.v) l=(bU (bE p.v)).filter (lJ p l):=rfl
def Zd (L:List (List Nat)) (Q0:Prop) (Q1:List Nat->Prop):Prop:=match L with
 |[]=>Q0
 |a::_=>Q1 a
def Xs (w:World) (L:List (List Nat)) (e:Ending) (w':World):Prop:=zL w w'/\Zd L (e=zE (zY #[zU none 0 0,zI zi 11])) (λa=>∃v,e=zE (zY #[v,zI zi 0])/\IL w' v (nI a))
theorem yB {w:World} {p:Pb} {A1 A2 A3 A4 A5:Option Addr} {c1 c2 c3 c4 c5:Nat} (N:PIn w p A1 A2 A3 A4 A5 c1 c2 c3 c4 c5) (Q:PSm p) (hk:KW w) (hm:de w) (F:PV p) (l:List Ex) (Al:Option Addr) (cl:Nat) (P:Rs (exR KE) w (zU Al (zN l) cl) l ah) (M:zN l<=1000) (o:∀e∈l,jm (ai p.v) e) (steps:Int) (X:((bU (bE p.v)).length:Int)<=steps) (L:steps<=262144):
  Calls zz 31 #[pbV p A1 A2 A3 A4 A5 c1 c2 c3 c4 c5,zU Al (zN l) cl,zI zi steps] w (Xs w (om (ai p.v) (bE p.v) l)):=by
 have r:=zh fun(W:World) (b:zL w W)=>Th (N.Q b) Q (hk.Q b) (hm.Q b) F l Al cl (P.Q b) M o steps (by omega) L;have G:=zh fun(W C:World) (b:zL w W) (f:zL W C) (g ga:Nat) (E:W.heap.size<=g) (c:W.heap.size<=ga) hf=>XM (N.Q b) Q (hk.Q b) (hm.Q b) F l Al cl (P.Q b) M o f g ga E c (bU (bE p.v)) (List.suffix_refl _) steps X L hf;have x:=zh fun(W:World) (g ga:Nat) q hi=>QS (w:=W) (p:=p) (A1:=A1) (A2:=A2) (A3:=A3) (A4:=A4) (A5:=A5) (c1:=c1) (c2:=c2) (c3:=c3) (c4:=c4) (c5:=c5) (m:=zN l) (Al:=Al) (cl:=cl) (g:=g) (ga:=ga) (steps:=steps) F.v q hi;have y:=zh (oD (lJ p l) (bU (bE p.v)));rw[tK];unfold Xu at r;unfold pbV at r⊢;unfold Xr at G;unfold Xs;have⟨n1,h⟩:=zv (zN p.v);have⟨n2,i⟩:=zv (zN p.h);have⟨n3,j⟩:=zv (zN p.s);have⟨n4,k⟩:=zv (zN p.d);have⟨n5,n⟩:=zv (zN p.g);have Y:=zh (And.intro h (And.intro i (And.intro j (And.intro k n))));rw[<-h,<-i,<-j,<-k,<-n] at r⊢;clear N Q hk hm F P o X L h i j k n;have⟨m,hm⟩:=zv (zN l);rw[<-hm] at r G x M⊢;clear hm;go_enter func31,ntmps31;go_upto_region 1 with fail;generalize B:w.alloc _=w1 at*;have⟨s,Z⟩:=zB1 B;clear B;obtain⟨R,S,T,U,V⟩:=zc5 Z;go_wp2;refine(r w1 s).mono ?_;rintro e w2 ⟨g,ga,rfl,q,hi,b,E,c⟩;have H:=zh fun(C:World) (f:zL w1 C) hf=>G w1 C s f g ga E c hf;have J:=zh (x w2 g ga q hi);have t:=zh b;have I:=zh s;replace s:=zb s b;clear b;clear q hi;go_wp2;refine(H w2 t J).mono ?_;rintro e w3 ⟨z,hm⟩;have u:=zh (aa I (z.toBelow t E c));clear z;generalize(bU (bE p.v)).dropWhile (λa=> !lJ p l a)=D at*;cases D with
 |nil=>obtain⟨rfl,st,⟨a,q, -, -, -⟩, -, -⟩:=hm;have f7:w3.cell? ⟨g,7,none⟩=some (zW true):=q.A 7 _ rfl;have d:Hid ((bU (bE p.v)).filter (lJ p l)=[]):=zh y;clear q;go_wp2;go_ret2;rw[d];exact⟨u,by trivial⟩
 |cons a R'=>obtain⟨v,st,rfl,A, -, -, -⟩:=hm;have d:Hid ((bU (bE p.v)).filter (lJ p l)=a::R'.filter (lJ p l)):=zh y;have K:=zh (IL.of_own A);clear A;go_wp2;go_ret2;rw[d];exact⟨u,v,by trivial,K⟩
section
variable {xs:List (List Nat)} {us:List Value} {B B1 m n:Nat} {v:Value} {w w':World}
def Xx:Rd Value where
 k:=1
 ts:=[]
 pos:=by decide
 R:=λw us u F=>us=[u]/\u.oneCell'=true
 len:=λh=>by rw[h.1];rfl
 one:=λh u a=>by rw[h.1] at a;simp only[DS,DZ,EC] at a;rw[a];exact h.2
 mono:=λh _=>h
 same:=λh _ _=>h
def F6 {B B1 size b n p:Nat} {T d:TypeId} {v j:Value} {o c:List Value} (h:w.ownsRow B T size v n o) (k:w.ownsRow B1 d b j p c) (l:T≠d):v.ownBlock=none\/v.ownBlock≠j.ownBlock:=by
 rcases h.2 with⟨rfl,_⟩|⟨g,cap,cur,rfl,_,m,_⟩
 .exact zQ rfl
 refine zO λe=> ?_;rcases k.2 with⟨rfl,_⟩|⟨q,f,i,rfl,_,a,_⟩
 .simp[Value.ownBlock] at e
 simp only[Value.ownBlock,DN] at e;subst e;rw[m] at a;simp only[DN,Fk] at a;exact l a.2.1
def F2 (w:World) (B n:Nat) (us:List Value) (xs:List (List Nat)):Prop:=zN us=zN xs/\∀j,j<zN xs->w.ownsRow B 3 1 (zG us j undef) n (j5 (nI (zG xs j [])))
def F2.grown {B n B1 d:Nat} {us b:List Value} (h:F2 w B n us xs) (a:OG Xx w B1 d 32 v b) (e:w.grownBy w' v.ownBlock):F2 w' B n us xs:=⟨h.1,λj c=>by
 obtain⟨-,uss, -,a, -⟩:=a;exact(h.2 j c).kept e (F6 (h.2 j c) a (by decide))⟩
def F2.rs (h:F2 w B n us xs) (s:OG Xx w B1 m 32 v us):Rs ilR w v (xs.map nI) ah:=by obtain⟨A,c,rfl,r,t⟩:=s.any;refine⟨A,c,by rw[DT,h.1],by rw[DT,<-h.1];exact r,λk=> ?_⟩;rw[DT] at k;obtain⟨b,o,rfl,q,e⟩:=t (by rw[h.1];exact k);refine⟨b,o,rfl,q,λj x i=> ?_⟩;rw[Ed] at i;obtain⟨a,g,rfl⟩:=Option.map_eq_some_iff.1 i;have d:j<zN xs:=(D0.1 g).1;obtain⟨ws,p,rfl,u⟩:=e j _ (DD (by rw[h.1];exact d));refine⟨_,p,_,rfl, ?_,λ_ _ _=>trivial⟩;have f:=h.2 j d;rw[DC,DD (by rw[h.1];exact d),DC (l:=xs),g] at f;exact IL.of_own f
def FSt.map {p:Pb} {A1 A2 A3 A4 A5:Option Addr} {c1 c2 c3 c4 c5 m:Nat} {Al:Option Addr} {cl g ga:Nat} {R:List (List Nat)} {st:Int} (h:FSt w p A1 A2 A3 A4 A5 c1 c2 c3 c4 c5 m Al cl g ga R st) (hk:∀b cs T,T=107\/T=3->Box w b cs T->Box w' b cs T):FSt w' p A1 A2 A3 A4 A5 c1 c2 c3 c4 c5 m Al cl g ga R st:=by obtain⟨a,c,d,e⟩:=h;exact⟨a,hk _ _ _ (zQ rfl) c,hk _ _ _ (zO rfl) d,e⟩
end
theorem qG:∀n,(blL n).length=2^n
 |0=>rfl
 |n+1=>by have:=qG n;unfold blL;simp[this,FB];try omega
def Bo (ws:List Wd):(bU ws).length=2^fa ws:=by rw[<-AV,DT,qG]
theorem mZ:∀{l:List Vr},(∀v∈l,gM v)->((fa (bE l):Nat):Int)=bX l:=by
 have a:∀(l:List Vr) (n:Int),l.foldl (λn v=>n+oP v) n=n+bX l:=by
  intro l;unfold bX;induction l with
  |nil=>intro n;simp
  |cons v r ih=>intro n;rw[EH,EH,ih (n+oP v),ih (0+oP v)];omega
 intro l;induction l with
 |nil=>intro _;rfl
 |cons v r ih=>
  intro h;have c:=ih λx d=>h x (Ea _ d);have f:=(h v (by simp)).2.1.1;have e:bX (v::r)=(0+oP v)+bX r:=a r (0+oP v);have b:fa (bE (v::r))=(if(wdT v).fixed=none then(wdT v).w else 0)+fa (bE r):=rfl;rw[e,b,<-c];unfold oP wdT;by_cases hm:v.m=0
  .simp[hm]
  simp only[hm,FN,if_true,ne_eq,not_false_eq_true];omega
def Oo {n:Nat} (h:n<=20):IntKind.i64.wrap (2^n)=2^n:=by
 have:n=0\/n=1\/n=2\/n=3\/n=4\/n=5\/n=6\/n=7\/n=8\/n=9\/n=10\/n=11\/n=12\/n=13\/n=14\/n=15\/n=16\/n=17\/n=18\/n=19\/n=20:=by omega
 rcases this with rfl|rfl|rfl|rfl|rfl|rfl|rfl|rfl|rfl|rfl|rfl|rfl|rfl|rfl|rfl|rfl|rfl|rfl|rfl|rfl|rfl<;>decide
section
variable {w:World} {p:Pb} {A1 A2 A3 A4 A5:Option Addr} {c1 c2 c3 c4 c5:Nat}
def qV (j:PIn w p A1 A2 A3 A4 A5 c1 c2 c3 c4 c5) (k:PSm p) (hk:KW w) (hm:de w) (d:PV p):Calls zz 117 #[pbV p A1 A2 A3 A4 A5 c1 c2 c3 c4 c5] w (zR (zI zi ((bU (bE p.v)).length:Nat)) w):=by
 have a:=zh fun(W:World) (b:zL w W)=>Rq (j.Q b) k (evC (j.Q b) k (hk.Q b) (hm.Q b) d) d.v;have c:=mZ d.v.ok;rw[<-c] at a;have i:fa (bE p.v)<=20:=by have:=d.v.bits;omega
 have e:(((bU (bE p.v)).length:Nat):Int)=2^fa (bE p.v):=by rw[Bo];simp
 rw[e];have s:=Oo i;generalize fa (bE p.v)=bn at*;have r:=zn0 bn;unfold pbV at a⊢;generalize zN p.v=n1,zN p.h=n2,zN p.s=n3,zN p.d=n4,zN p.g=n5 at*;clear j k hk hm d c e;go_enter func117,ntmps117;go_upto_region 1 with fail;generalize f:w.alloc _=w1 at*;have⟨g,h⟩:=zB1 f;clear f;obtain⟨l,m,n,o,q⟩:=zc5 h;go_wp2;refine zK (a w1 g) λw2 b=> ?_;replace⟨h,g⟩:=zb2 h g b;clear b;go_wp2;go_ret;refine⟨?_,g⟩;first|rfl|(simp;done)|skip
end
def Co (j:Nat) (D:List Nat) (er:Int):FOp:=⟨j,D,λu=>∃v,u=zY #[v,zI zi er],λu w=>∃v,u=zY #[v,zI zi er]⟩
def Ud (j:Nat) (D:List Nat) (er:Int):∀u w w',(Co j D er).Φ u w->zL w w'->(Co j D er).Φ u w':=λu w w' h _=>h
def Ue (j:Nat) (D:List Nat) (er:Int):(∀u w,(Co j D er).Φ u w->(Co j D er).S u)/\∃u,(Co j D er).S u:=⟨λu w h=>h,zY #[undef,zI zi er],undef,rfl⟩
def uX {P:Program} {K:Kit} {w0:World} {γ:Nat->Value} {j:Nat} {o:Oper} {a:Act} {v:Value} (b:o.guard=none) (c:∀w,(execOp a.eval o).run P w= .ok (.value v) w) (h:∀w,K.Φ j v w):jB P K w0 γ j o a:=by refine⟨b,λw d e=> ?_⟩;rw[c];exact⟨h w,DM _ _⟩
def cJ (p:Pb) (l:List Ex):Bool:= !(om (ai p.v) (bE p.v) l).isEmpty
section
variable {w:World} {p:Pb} {A1 A2 A3 A4 A5:Option Addr} {c1 c2 c3 c4 c5:Nat}
theorem pr (u:PIn w p A1 A2 A3 A4 A5 c1 c2 c3 c4 c5) (x:PSm p) (hk:KW w) (hm:de w) (y:PV p) (o:fa (bE p.v)<=18) (l:List Ex) (Al:Option Addr) (cl:Nat) (M:Rs (exR KE) w (zU Al (zN l) cl) l ah) (K:zN l<=1000) (q:∀e∈l,jm (ai p.v) e):
  Calls zz 68 #[pbV p A1 A2 A3 A4 A5 c1 c2 c3 c4 c5,zU Al (zN l) cl] w (zR (zW (cJ p l)) w):=by
 have I:(bU (bE p.v)).length<=262144:=by rw[Bo];exact D2 (Ew (by decide) o) (by decide)
 have t:=zh fun(W:World) (b:zL w W)=>qV (u.Q b) x (hk.Q b) (hm.Q b) y;have k:=zh fun(W:World) (b:zL w W)=>(yB (u.Q b) x (hk.Q b) (hm.Q b) y l Al cl (M.Q b) K q ((bU (bE p.v)).length:Nat) (Int.le_refl _) (by omega)).mono fun{e w'} (h:Xs W (om (ai p.v) (bE p.v) l) e w')=>(show(∃v,e=zE (zY #[v,zI zi (if cJ p l then 0 else 11)]))/\zL W w' from by
   obtain⟨F,j⟩:=h;refine⟨?_,F⟩;unfold cJ;cases hS:om (ai p.v) (bE p.v) l with
   |nil=>rw[hS] at j;exact⟨_,j⟩
   |cons a r=>rw[hS] at j;obtain⟨v,G, -⟩:=j;exact⟨v,G⟩);generalize(bU (bE p.v)).length=N,cJ p l=A at*;unfold pbV at t k⊢;generalize zN p.v=n1,zN p.h=n2,zN p.s=n3,zN p.d=n4,zN p.g=n5,zN l=m at*;have R:¬(262144:Int)<(N:Int):=by omega
 have H:(N:Int)<=262144:=by omega
 go_enter func68,ntmps68;go_upto_region 1 with fail;generalize s:w.alloc _=w1 at*;have⟨g,d⟩:=zB1 s;have⟨er,c⟩:=zvh (if A then 0 else 11:Int);rw[<-c] at k;refine jJ 8 9 9 (Kit.of [ja 3 [] (zI zi N),ja 4 [3] (zI zi N),Co 5 [4] er]) (by kernel_rfl) (by kernel_rfl) (by decide) (by kernel_rfl) (λγ=>by kernel_rfl) (by kernel_rfl) (Kit.of_stable ?_) (Kit.of_known ?_) ?_
 .intro z i;simp only[DS,DZ,EC] at i;rcases i with rfl|rfl|rfl
  .apply dN
  .apply dN
  apply Ud
 .intro z i;simp only[DS,DZ,EC] at i;rcases i with rfl|rfl|rfl
  .apply dO
  .apply dO
  apply Ue
 intro γ f C P L;have B:γ 3=zI zi N:=f 3 rfl;have D:γ 4=zI zi N:=f 4 rfl;obtain⟨Y,E⟩:∃v,γ 5=zY #[v,zI zi er]:=f 5 rfl;have S:=d.latC (C:=C) 0 _ rfl;have T:=d.latC (C:=C) 1 _ rfl;have U:=d.latC (C:=C) 2 _ rfl;have V:=d.latC (C:=C) 3 _ rfl;have X:=d.latC (C:=C) 4 _ rfl;iterate 3 (refine aO rfl ?_;go_big_quiet_step (fail);refine D4 ?_)
 refine wfc #[zX #[zU A1 n1 c1,zU A2 n2 c2,zU A3 n3 c3,zU A4 n4 c4,zU A5 n5 c5]] func117 (λw' b J=>(t w' (aa g b)).mono λe w2 ⟨he,hb2⟩=>⟨_,he,rfl,hb2⟩) ?_;simp only[DY,Nat.reduceAdd,B];go_simp;refine b6 rfl (uX (v:=zI zi N) rfl (λw=> ?hmin) (λw=>rfl)) ?_;case hmin=>
  simp only[execOp];go_simp;omega
 simp only[DY,Nat.reduceAdd,D];go_simp;refine wfc #[zX #[zU A1 n1 c1,zU A2 n2 c2,zU A3 n3 c3,zU A4 n4 c4,zU A5 n5 c5],zU Al m cl,zI zi N] func31 (λw' b J=>(k w' (aa g b)).mono λe w2 ⟨⟨v,he⟩,hb2⟩=>⟨_,he,⟨v,rfl⟩,hb2⟩) ?_;simp only[DY,Nat.reduceAdd,E];go_simp;iterate 3 (refine aO rfl ?_;go_big_quiet_step (fail);refine D4 ?_)
 intro Z b Q;replace⟨d,g⟩:=zb2 d g b;go_wp2;refine⟨rfl, ?_⟩;cases A
 .have n:Hid (er=11):=zh (by rw[c];rfl);rw[n];go_wp2;go_ret;exact⟨rfl,g⟩
 have n:Hid (er=0):=zh (by rw[c];rfl);rw[n];go_wp2;go_ret;exact⟨rfl,g⟩
end
theorem qX {P:Program} (w:World) (dT sT ty c:TypeId) (g o b e:Nat) (a:Addr) (d l k:Nat) (cur:Array Value) (t:TypeId) (cs:List Value)
  (u:P.underlying dT=some (.slice c)) (n:(P.info? c).map (·.size)=some k)
  (q:w.heap[g]? =some (.cells cur t (0,0))) (s:cs.length=Nat.min d b*k)
  (h:∀j v,cs[j]? =some v->w.cell? (a.add j)=some v) (f:o+cs.length<=cur.size) (p:∀v∈cs,v.oneCell'=true):
  (Builtin.copy_ #[dT,sT] ty #[.slice (some ⟨g,o,none⟩) b e,.slice (some a) d l]).run P w=
   .ok (goInt (Nat.min d b)) (w.setRow g (cur.toList.take o++cs++cur.toList.drop (o+cs.length)).toArray):=by
 have r:=run_loadCells_list (P:=P) w a cs h;have m:=run_storeCells_at P g o t cs 0 cur w q (by simpa using f) p
 cases hq:P.info? c with
 |none=>simp[hq] at n
 |some i=>
  have hi:i.size=k:=by simpa [hq] using n
  simp[Builtin.copy_,run_underlying u,Builtin.lenOf,Builtin.firstCells,sizeOf,typeInfo,hq,hi,<-s,r,m]
theorem pz {P:Program} (w:World) (dT sT ty b:TypeId) (d a:Option Addr) (c f e g k:Nat) (m:P.underlying dT=some (.slice b)) (l:(P.info? b).map (·.size)=some k) (j:Nat.min e c=0):
  (Builtin.copy_ #[dT,sT] ty #[.slice d c f,.slice a e g]).run P w= .ok (goInt 0) w:=by
 cases hq:P.info? b with
 |none=>simp[hq] at l
 |some i=>
  have h:∀(x:Addr),(loadCells x 0).run P w= .ok #[] w:=λx=>by simpa using run_loadCells_list (P:=P) w x [] (by simp)
  cases d<;>cases a<;>simp[Builtin.copy_,run_underlying m,Builtin.lenOf,Builtin.firstCells,sizeOf,typeInfo,hq,j,storeCells,h]
section
variable {P:Program} {ops:Array Oper} {rest:List Oper} {o:Oper} {a:Act} {w:World} {Q:Exit->Act->World->Prop}
def eR (b:o.guard=none) (d s:Operand) (t c:TypeId) (g:o.op= .call {callee:= .builtin .copy,args:=#[d,s],argTypes:=#[t,c]}) (v u:Value) (f:a.eval d=v) (j:a.eval s=u) {v':Value} {w':World} (i:(Builtin.copy_ #[t,c] o.type #[v,u]).run P w= .ok v' w') (h:wpList P ops Q rest (a.put o.dst v') w'):wpList P ops Q (o::rest) a w:=by refine wpList_plain b λK e=> ?_;unfold Oper.wp;simp[execOp,g,resolve,invoke,builtin,f,j,i,Result.andThen];exact e _ _ h
end
def xA:Value:=zX #[zI zi 0,zI zi 0,zV ⟨#[]⟩,zU none 0 0]
def jP (n:Nat) (f:n<=100000) (W:World):(Instr.makeSlice 23 (zI zi (n:Int)) (zI zi (n:Int))).run zz W= .ok (zU (some ⟨W.heap.size,0,none⟩) n n) (W.alloc (zC (madeCells xA.cells (n*4)) 79)):=by have⟨i,e,b,c,d⟩:=EX lf;have a:=run_make (P:=zz) W 23 79 i xA underlying23 e b .i64 .i64 n n (by omega) (by omega) (by rw[d];omega) (by omega);rw[c] at a;simp only[Eh] at a;exact a
def nB (v:Value) (k:Nat):(madeCells v.cells k).size=k:=by simp[madeCells]
section
variable (s:ByteArray) {l:List ByteArray} {b:Nat} {w w':World}
def nE (s:ByteArray):Lit:= .string s.data.toList
def Qp {a b:ByteArray} (h:nE a=nE b):a=b:=lq (by unfold nE at h;simpa using h)
def Qt:Keyed zz 9:=string_keyed underlying9
def Qo:WideAt.IsKeyLit (nE s):=by unfold nE WideAt.IsKeyLit;trivial
def y8 (hs:s.size≤maxLen):keyOf Tryz.prog 9 (.string s)=some (nE s):=by
 unfold keyOf nE
 simp[underlying9,mapKey,hs]
def jl (w:World) (b:Nat) (l:List ByteArray):Prop:=∃n,n≤l.length∧w.ownsMap (H:=Unit) Tryz.prog 9 (plainElem Tryz.prog 4) b n (setOf (.lit (.bool true)) (l.map nE))
def jl.lt (h:jl w b l):b<w.heap.size:=by obtain⟨n,_,h⟩:=h;exact h.lt
def jl.Q (h:jl w b l) (a:zL w w'):jl w' b l:=by obtain⟨n,c,h⟩:=h;exact⟨n,c,h.kept (ft a none) (by simp)⟩
instance {w w':World} {b:Nat} {l:List ByteArray}:Zm w w' (jl w b l) (jl w' b l):=⟨λhb h=>jl.Q h hb⟩
def jl.new (w:World):jl (w.alloc (.map #[] 0)) w.heap.size []:=⟨0,DE _,World.ownsMap_made _ _ _ _⟩
theorem Pd (l:List ByteArray) (s:ByteArray) (b:Bool) (g:b=Lib.containsS l s):(setOf (H:=Unit) (.lit (.bool true)) (l.map nE)).atKey (nE s) (.lit (.bool false))= .lit (.bool b):=by
 subst g;have f:∀(m:List ByteArray) (D:DataW Unit),IsMap D->∀c:Bool,D.atKey (nE s) (.lit (.bool false))= .lit (.bool c)→
   ((m.map nE).foldl (λd x=>d.put x (.lit (.bool true))) D).atKey (nE s) (.lit (.bool false))= .lit (.bool (c||Lib.containsS m s)):=by
  intro m;induction m with
  |nil=>intro D _ c h;have:Lib.containsS [] s=false:=rfl;rw[this,Bool.or_false];exact h
  |cons x m ih=>
   intro D a c h;rw[FY,EH];by_cases e:s=x
   .subst e;rw[ih _ (a.put _ _) true (atKey_put_same a (Qo s) _ _)];have:Lib.containsS (s::m) s=true:=(Lib.containsS_iff _ _).2 (by simp);rw[this];simp
   rw[ih _ (a.put _ _) c ((atKey_put_other (λh=>e (Qp h)) _ _).trans h)];have:Lib.containsS (x::m) s=Lib.containsS m s:=by rw[Fo,Lib.containsS_iff,Lib.containsS_iff];simp[e]
   rw[this]
 exact f l (.map []) isMap_empty false rfl
def jl.lookup (h:jl w b l) (s:ByteArray) (f:s.size<=maxLen) {r:Bool} (e:r=Lib.containsS l s):(Instr.lookup 339 (.map (some b)) (zV s) false).run zz w= .ok (zW r) w:=by obtain⟨n,g,h⟩:=h;have⟨v,i,a,c⟩:=h.lookup Qt underlying339 (z:=zW false) (by kernel_rfl) (plainElem_bool underlying4 false) (y8 s f);rw[Pd l s r e] at c;obtain⟨x,rfl,d⟩:=ia underlying4 c;simp only[DataW.lit.injEq,Lit.bool.injEq] at d;rw[a,d]
def jl.update (h:jl w b l) (s:ByteArray) (e:s.size<=maxLen) (f:zN l<maxLen):∃w',(Instr.mapUpdate 339 (.map (some b)) (zV s) (zW true)).run zz w= .ok () w'/\jl w' b (l++[s])/\w.grownBy w' (some b):=by obtain⟨n,g,h⟩:=h;have⟨w',a,d,c⟩:=h.update Qt underlying339 (by omega) (y8 s e) (plainElem_bool underlying4 true);refine⟨w',a,⟨n+1,by simp;omega, ?_⟩,c⟩;rw[Fl,FY,List.map_nil,setOf_snoc];exact d
def Box.grown {g b:Nat} {cs:Array Value} {t:TypeId} (h:Box w g cs t) (c:w.grownBy w' (some b)) (a:g≠b):Box w' g cs t:=(c.block g h.lt (by simpa using a)).trans h
end
end
end Go.Proofs.YtdahpdnhkflnnaaGreatDoor
