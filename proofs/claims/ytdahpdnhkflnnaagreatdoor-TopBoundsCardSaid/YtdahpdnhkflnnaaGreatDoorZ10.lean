/- Laws for TopBounds, part 10: made small by a program of mine. -/
import Derived.Test.YtdahpdnhkflnnaaGreatDoorZ09
set_option linter.unusedVariables false
set_option linter.unusedSimpArgs false
set_option linter.unusedSectionVars false
set_option linter.defProp false
set_option maxRecDepth 100000
set_option maxHeartbeats 64000000
namespace Go.Proofs.YtdahpdnhkflnnaaGreatDoor
open Value renaming int → zI, slice → zU, string → zV, bool → zW, agg → zX, tuple → zY
open IntKind renaming i64 → zi
open Ending renaming returned → zE
open Obj renaming cells → zC
open List renaming length → zN, getD → zG
open Or renaming inl → zQ, inr → zO
open Go.Proofs.Tryz
section
section
variable {s:ByteArray} {σ:ByteArray->Nat} {l:List Ex} {i k:Nat} {wt:Nat->Nat->Nat} {fx:Nat->Option Nat} {R:Option (Nat×List Nd)}
def wdN (p:Pb) (i:Nat):Nat:=(zG p.v i vr0).w.toNat
def grN (p:Pb) (k:Nat):List Nat:=(zG p.g k []).map Int.toNat
def dj (p:Pb) (k:Nat):List Nat:=((p.g.take k).flatten).map Int.toNat
def dR (p:Pb):List Nat:=dj p (zN p.g)
def wsN (p:Pb) (l:List Nat):Nat:=(l.map (wdN p)).sum
def jx (p:Pb) (a:List Nat) (l:List Nat):List Bool:=l.flatMap λi=>vb (wdN p i) (zG a i 0)
def fQ (p:Pb) (a b:List Nat):wsN p (a++b)=wsN p a+wsN p b:=by unfold wsN;rw[Fl,List.sum_append]
def sj (p:Pb) (i:Nat):wsN p [i]=wdN p i:=by simp[wsN]
def vq (p:Pb) (a A B:List Nat):jx p a (A++B)=jx p a A++jx p a B:=by unfold jx;rw[List.flatMap_append]
theorem jf (p:Pb) (a:List Nat):∀l,(jx p a l).length=wsN p l
 |[]=>rfl
 |i::l=>by show(vb _ _++jx p a l).length=_;rw[DI,jL,jf p a l];show _=(wdN p i::l.map (wdN p)).sum;rw[List.sum_cons];rfl
def i5 {p:Pb} (h:k<zN p.g):dj p (k+1)=dj p k++grN p k:=by unfold dj grN;rw[cI (d:=[]) h,List.flatten_append,Fl];congr 1;simp
def jS (p:Pb):dR p=(p.g.flatten).map Int.toNat:=by unfold dR dj;rw[En (DE _)]
def nt (p:Pb) (k:Nat):∃C,dR p=dj p k++C:=by refine⟨((p.g.drop k).flatten).map Int.toNat, ?_⟩;rw[jS];unfold dj;rw[<-Fl,<-List.flatten_append,List.take_append_drop]
section
variable {p:Pb}
def cN (b:PV p) (h:i∈dR p):i<zN p.v/\(zG p.v i vr0).m≠0:=by rw[jS] at h;obtain⟨v,a,rfl⟩:=EJ.1 h;have:=b.g.ran v a;unfold bY at this;simp only[DW,Ef] at this;exact⟨by omega,this.2.2⟩
def tv (a:PV p) (h:i<zN p.v) (hm:(zG p.v i vr0).m≠0):i∈dR p:=by rw[jS];refine EJ.2 ⟨(i:Int),a.g.all i ?_,Eh i⟩;rw[np h];exact DR hm
theorem ox:∀{l:List Int},l.Nodup->(∀v∈l,0<=v)->(l.map Int.toNat).Nodup
 |[],_,_=>List.nodup_nil
 |v::l,h,h0=>by
  rw[List.nodup_cons] at h;rw[FY,List.nodup_cons];refine⟨λhm=>h.1 ?_,ox h.2 λx a=>h0 x (Ea _ a)⟩;have⟨x,a,e⟩:=EJ.1 hm;have b:=h0 x (Ea _ a);have c:=h0 v (by simp);have:x=v:=by omega
  rw[<-this];exact a
def Px (a:PV p):∀v∈p.g.flatten,0<=v/\v.toNat<zN p.v:=λv h=>by
 have:=a.g.ran v h;unfold bY at this;simp only[DW,Ef] at this;omega
def qQ (a:PV p):(dR p).Nodup:=by rw[jS];exact ox a.g.nodup λv h=>(Px a v h).1
theorem uG (vars:List Vr):∀(l:List Int) (s:List Int×Int) (i:Nat),(∀v∈l,v.toNat≠i)->(l.foldl (dM vars) s).1.getD i 0=s.1.getD i 0
 |[],s,i,_=>rfl
 |v::l,s,i,h=>by rw[EH,uG vars l _ i λx a=>h x (Ea _ a)];show(s.1.set v.toNat s.2).getD i 0=_;rw[DC,EP (h v (by simp)),<-DC]
theorem uH (vars:List Vr) (b:∀i,0<=(zG vars i vr0).w):∀(A:List Int) (v:Int) (B:List Int) (s:List Int×Int),((A++v::B).map Int.toNat).Nodup->v.toNat<s.1.length->((A++v::B).foldl (dM vars) s).1.getD v.toNat 0=s.2+((A.map λv=>(zG vars v.toNat vr0).w.toNat).sum:Nat)
 |[],v,B,s,hn,hl=>by rw[List.nil_append,FY,List.nodup_cons] at hn;rw[List.nil_append,EH,uG vars B _ _ λx c e=>hn.1 (EJ.2 ⟨x,c,e⟩)];show(s.1.set v.toNat s.2).getD v.toNat 0=s.2+0;rw[DC,EL hl];simp
 |a::A,v,B,s,hn,hl=>by rw[List.cons_append,FY,List.nodup_cons] at hn;rw[List.cons_append,EH,uH vars b A v B _ hn.2 (by show v.toNat<(s.1.set _ _).length;rw[Er];exact hl),FY,List.sum_cons];show s.2+(zG vars a.toNat vr0).w+_=_;have:=b a.toNat;omega
def YV (a:PV p) (i:Nat):0<=(zG p.v i vr0).w:=by
 by_cases h:i<zN p.v
 .have:=(a.v.ok _ (getD_in vr0 h)).2.1;omega
 rw[DC,EF (by omega)];exact Int.le_refl 0
def oW (b:PV p) {A B:List Nat} (h:dR p=A++i::B):(cF p).getD i 0=((wsN p A:Nat):Int):=by have a:=qQ b;have hi:=(cN b (i:=i) (by rw[h];simp)).1;rw[jS] at h a;have⟨d,l,e,e1,f⟩:=List.map_eq_append_iff.1 h;obtain⟨v,B',rfl,c,g⟩:=List.map_eq_cons_iff.1 f;rw[e] at a;have:=uH p.v (YV b) d v B' (List.replicate (zN p.v) (-1),0) a (by rw[c,Es];exact hi);unfold cF;rw[e,<-c,this,<-e1];show 0+_=_;unfold wsN;rw[Fe,Int.zero_add];rfl
theorem oS (c:Nat->Nat):∀(n:Nat) (g:List Nat),g.Nodup->(∀i∈g,i<n)->(g.map c).sum<=((List.range n).map c).sum
 |0,g,hn,h=>by
  have:g=[]:=List.eq_nil_iff_forall_not_mem.2 λi hi=>by have:=h i hi;omega
  rw[this];exact DE _
 |n+1,g,hn,h=>by
  rw[List.range_succ,Fl,List.sum_append];by_cases hm:n∈g
  .have d:=List.perm_cons_erase hm;have e:=(d.map c).sum_nat;rw[e,FY,List.sum_cons];have:=oS c n (g.erase n) (hn.erase n) λi hi=>by
    have a:=h i (List.mem_of_mem_erase hi);have b:i≠n:=λe=>by rw[e] at hi;exact(List.Nodup.not_mem_erase hn) hi
    omega
   simp only[FY,List.map_nil,List.sum_cons,List.sum_nil];omega
  have:=oS c n g hn λi hi=>by have a:=h i hi;have b:i≠n:=λe=>hm (e▸hi);omega
  omega
theorem rf:∀l:List Vr,fa (bE l)=((List.range (zN l)).map λi=>if(zG l i vr0).m=0 then 0 else(zG l i vr0).w.toNat).sum
 |[]=>rfl
 |v::l=>by
  have e:fa (bE (v::l))=(if(wdT v).fixed=none then(wdT v).w else 0)+fa (bE l):=rfl;rw[e,rf l,DF,List.range_succ_eq_map,FY,List.sum_cons,Fe];congr 1;unfold wdT;by_cases h:v.m=0
  .simp[h]
  simp[h]
def nY (a:PV p):wsN p (dR p)<=fa (bE p.v)/\fa (bE p.v)<=20:=by have b:=mZ a.v.ok;have c:=a.v.bits;refine⟨?_,by omega⟩;rw[rf];refine D2 (Nat.le_of_eq ?_) (oS _ (zN p.v) (dR p) (qQ a) λi hi=>(cN a hi).1);unfold wsN;congr 1;refine Fc λi hi=> ?_;rw[DK (cN a hi).2];rfl
def pT (a:PV p) (h:i∈dR p):∃A B,dR p=A++i::B/\(cF p).getD i 0=((wsN p A:Nat):Int)/\wsN p A+wdN p i<=wsN p (dR p):=by have⟨A,B,e⟩:=List.append_of_mem h;refine⟨A,B,e,oW a e, ?_⟩;rw[e,fQ,show i::B=[i]++B from rfl,fQ,sj];omega
def yi {n:Int} (h:1<=n/\n<=8):2^n.toNat<=256:=by have:=Ew (n:=2) (by omega) (show n.toNat<=8 by omega);simpa using this
def yt (c:PV p) (f:PSm p):StP p:=by
 refine⟨c.v.len,f.nz,λa b n o e=> ?_,f.ng,λh d=>⟨f.nr h d,λv g=> ?_⟩,λx q=>by have:=(c.v.ok x q).2.1;omega,λi hi=>⟨λj=> ?_,λj=> ?_⟩⟩
 .have l:=c.v.nodup a n;have s:=c.v.nodup b o;rw[e] at l;omega
 .have:=Px c v (List.mem_flatten.2 ⟨h,d,g⟩);omega
 .obtain⟨-,k, -,w, -⟩:=c.v.ok _ (getD_in vr0 hi);have u:=yi k;have e:(((2:Nat)^(zG p.v i vr0).w.toNat:Nat):Int)=(2:Int)^(zG p.v i vr0).w.toNat:=by simp
  omega
 obtain⟨-,k, -⟩:=c.v.ok _ (getD_in vr0 hi);obtain⟨A,B, -,r,m⟩:=pT c (tv c hi j);have t:=nY c;unfold wdN at m;omega
end
structure gO (vars:List Vr) (a:List Nat):Prop where
 len:zN a=zN vars
 ok:∀i,i<zN vars->((zG vars i vr0).m=0->((zG a i 0:Nat):Int)=(zG vars i vr0).u)/\zG a i 0<2^(zG vars i vr0).w.toNat
def fG (p:Pb) (d:List Nd) (f i x:Nat):Nat:=bF d ((cF p).getD i 0).toNat (vb (wdN p i) x) f
theorem po {p:Pb} (b:PV p) (d:List Nd) (t:Nat) (a:List Nat):∀(A B C:List Nat),dR p=A++(B++C)->B.foldl (λs i=>fG p d s i (zG a i 0)) (bF d 0 (jx p a A) t)=bF d 0 (jx p a (A++B)) t
 |A,[],C,h=>by rw[EN];rfl
 |A,i::B,C,h=>by
  rw[EH];have e:fG p d (bF d 0 (jx p a A) t) i (zG a i 0)=bF d 0 (jx p a (A++[i])) t:=by rw[vq,nS,jf];unfold fG;rw[oW b (A:=A) (B:=B++C) (by rw[h];rfl),Eh,DY];unfold jx;rw[EM,List.flatMap_nil,EN]
  rw[e,po b d t a (A++[i]) B C (by rw[h];simp)];rw[Eg];rfl
def nP {p:Pb} (c:PV p) (hi:i<zN p.v):bZ (mg p.v (zN p.v)) (zG p.v i vr0).s=some (i:Int):=
 kF (vars:=p.v) (i:=i) (zN p.v) (λa b f g e=>by have d:=c.v.nodup a f;have h:=c.v.nodup b g;rw[e] at d;omega) hi
def mw {p:Pb} (h:eO (ai p.v) s=some i):i<zN p.v/\(zG p.v i vr0).s=s:=by have a:=rK h;unfold ai at a;rw[Ed] at a;have⟨v,b,e⟩:=Option.map_eq_some_iff.1 a;exact⟨(D0.1 b).1,by rw[DC,b];exact e⟩
theorem uy {p:Pb} (b:PV p) {i:Nat} (hi:i<zN p.v):eO (ai p.v) (zG p.v i vr0).s=some i:=by
 cases hq:eO (ai p.v) (zG p.v i vr0).s with
 |none=>exact absurd (EJ.2 ⟨_,getD_in vr0 hi,rfl⟩) (nJ hq)
 |some j=>have⟨c,d⟩:=mw hq;have a:=nP b c;rw[d,nP b hi] at a;simp only[DN] at a;rw[show i=j by omega]
def PZ {p:Pb} (c:PV p) (h:eO (ai p.v) s=some i):nmV p.v (cF p) s=wm p.v (cF p) i:=by have⟨a,b⟩:=mw h;unfold nmV;rw[<-b,nP c a];simp only[Eh]
def uw {p:Pb} (h:eO (ai p.v) s=none):nmV p.v (cF p) s= .val 0:=by unfold nmV;rw[qr λq hm=> ?_];have⟨i,hi,e⟩:=uB _ _ hm;rw[e];intro a;refine nJ h ?_;rw[<-a];exact EJ.2 ⟨_,getD_in vr0 hi,rfl⟩
theorem PY {p:Pb} (a:PV p) (s:ByteArray):OH (wsN p (dR p)) (nmV p.v (cF p) s):=by
 cases hq:eO (ai p.v) s with
 |none=>rw[uw hq];show 0<65536;omega
 |some i=>
  obtain⟨hi, -⟩:=mw hq;obtain⟨-,d, -,g, -⟩:=a.v.ok _ (getD_in vr0 hi);rw[PZ a hq];unfold wm;split
  .have f:=yi d;have e:(((2:Nat)^(zG p.v i vr0).w.toNat:Nat):Int)=(2:Int)^(zG p.v i vr0).w.toNat:=by simp
   show(zG p.v i vr0).u.toNat<65536;omega
  rename_i h0;obtain⟨A,B, -,b,c⟩:=pT a (tv a hi h0);rw[b];unfold wdN at c;show(((wsN p A:Nat):Int)).toNat+(zG p.v i vr0).w.toNat<=_/\(zG p.v i vr0).w.toNat<=16;omega
theorem Vo {p:Pb} (b:PV p) {a:List Nat} (h:gO p.v a) (s:ByteArray):vlV (bOf (jx p a (dR p))) (nmV p.v (cF p) s)=aM (ai p.v) a s:=by
 unfold aM;cases hq:eO (ai p.v) s with
 |none=>rw[uw hq];rfl
 |some i=>
  obtain⟨hi, -⟩:=mw hq;have⟨c,d⟩:=h.ok i hi;rw[PZ b hq];unfold wm;split
  .rename_i h0;have:=c h0;show(zG p.v i vr0).u.toNat=zG a i 0;omega
  rename_i h0;have⟨A,B,e,f,g⟩:=pT b (tv b hi h0);rw[f,Eh];show fj (kh (bOf (jx p a (dR p))) (wsN p A) (wdN p i))=zG a i 0;rw[vF _ _ _ (by rw[jf];exact g),e,vq,List.drop_left' (jf p a A)];show fj ((vb (wdN p i) (zG a i 0)++jx p a B).take (wdN p i))=_;rw[List.take_left' (jL _ _),Bf];exact E9 d
def eL (p:Pb) (l:List Ex) (i x:Nat):List Ex:=l++[eqX (zG p.v i vr0).s x]
theorem jq (p:Pb) (a:List Nat):∀(A:List Nat) (l:List Ex),A.foldl (λs i=>eL p s i (zG a i 0)) l=l++A.map λi=>eqX (zG p.v i vr0).s (zG a i 0)
 |[],l=>by simp
 |i::A,l=>by rw[EH,jq p a A];unfold eL;rw[Eg];rfl
theorem Bp:∀(vs:List Wd) (b:List Nat),b∈bU vs->zN b=zN vs/\∀i x,i<zN vs->(zG vs i wd0).fixed=some x->zG b i 0=x
 |[],b,h=>by
  have:b=[]:=by simpa [bU] using h
  subst this;exact⟨rfl,λi x h=>by simp at h⟩
 |v::vs,b,h=>by
  have⟨x,d,h⟩:=List.mem_flatMap.1 h;obtain⟨c,j,rfl⟩:=EJ.1 h;have⟨f,g⟩:=Bp vs c j;refine⟨by rw[DF,DF,f],λi y hi e=> ?_⟩;cases i with
  |zero=>have a:v.fixed=some y:=e;unfold aX at d;rw[a] at d;exact ER.1 d
  |succ i=>exact g i y (by simpa using hi) e
def WR {n:Nat} (h:evT σ dep (eqX s n)≠0):σ s=n:=by have e:evT σ dep (eqX s n)=tN (decide (σ s=((n:Int)).toNat)):=rfl;rw[e,Eh] at h;refine E8 λa=> ?_;rw[DJ a] at h;exact h rfl
def rL (σ:ByteArray->Nat) (a b:List Ex):dq σ (a++b)=(dq σ a&&dq σ b):=by unfold dq;rw[List.all_append]
def kG:dq σ l=true↔∀e∈l,evT σ dep e≠0:=by unfold dq;rw[Fa];exact⟨λh e a=>Ey (h e a),λh e a=>DR (h e a)⟩
def pp {p:Pb}:cJ p l=true↔∃b∈bU (bE p.v),dq (aM (ai p.v) b) l=true:=by unfold cJ om;rw[Bool.not_eq_true',List.isEmpty_eq_false_iff_exists_mem];exact⟨λ⟨b,h⟩=>⟨b,(List.mem_filter.1 h).1,(List.mem_filter.1 h).2⟩,λ⟨b,h,a⟩=>⟨b,List.mem_filter.2 ⟨h,a⟩⟩⟩
def vM {p:Pb} (m:PV p) {a b:List Nat} (k:gO p.v a) (l:b∈bU (bE p.v)) (h:∀i∈dR p,zG b i 0=zG a i 0):b=a:=by
 have⟨g,j⟩:=Bp _ b l;rw[lT] at g j;refine Fz (by rw[g,k.len]) λi hi f=> ?_;have d:i<zN p.v:=by omega
 have c:zG b i 0=zG a i 0:=by
  by_cases e:(zG p.v i vr0).m=0
  .have n:=j i (zG p.v i vr0).u.toNat d (by rw[OC d];unfold wdT;rw[DP e]);have o:=(k.ok i d).1 e;omega
  exact h i (tv m d e)
 rw[DC,DD hi,DC,DD f] at c;exact c
def lW (p:Pb) (R:Option (Nat×List Nd)) (b:List Ex) (wt:Nat->Nat->Nat) (k:Nat) (a:List Nat) (fx:Nat->Option Nat):Nat:=match R with
 |some (t,d)=>eT (fG p d) (λf=>decide (f=0)) wt (wdN p) fx (grN p k) ((dj p k).foldl (λs i=>fG p d s i (zG a i 0)) t)
 |none=>eT (eL p) (λl=> !cJ p l) wt (wdN p) fx (grN p k) ((dj p k).foldl (λs i=>eL p s i (zG a i 0)) b)
def vY (p:Pb) (R:Option (Nat×List Nd)) (b:List Ex) (k:Nat) (a:List Nat):Prop:=match R with
 |some (t,d)=>(dj p k).foldl (λs i=>fG p d s i (zG a i 0)) t≠0
 |none=>cJ p ((dj p k).foldl (λs i=>eL p s i (zG a i 0)) b)=true
def Zi (p:Pb) (R:Option (Nat×List Nd)) (b:List Ex) (wt:Nat->Nat->Nat) (k:Nat) (a:List Nat) (fx:Nat->Option Nat):lW p R b wt k a fx<=cD:=by rcases R with _|⟨t,d⟩<;>exact yq _ _ _ _ _ _ _
def pn {p:Pb} {b:List Ex} {a:List Nat} {fx fy:Nat->Option Nat} (h:∀i∈grN p k,fx i=fy i):lW p R b wt k a fx=lW p R b wt k a fy:=by rcases R with _|⟨t,d⟩<;>exact lx _ _ _ _ _ _ h
def wB {p:Pb} {b:List Ex} {a:List Nat} (hi:i∈grN p k) (e:(grN p k).Nodup) (c:fx i=none):lW p R b wt k a fx<=dB (λx=>lW p R b wt k a (m5 fx i x)) (List.range (2^wdN p i)):=by rcases R with _|⟨t,d⟩<;>exact pm _ _ _ _ _ _ hi e c
theorem lL {σ:Type} (step:σ->Nat->Nat->σ) {a b:List Nat}:∀(g:List Nat) (s:σ),(∀i∈g,zG b i 0=zG a i 0)->g.foldl (λs i=>step s i (zG a i 0)) s=g.foldl (λs i=>step s i (zG b i 0)) s
 |[],s,_=>rfl
 |i::g,s,h=>by rw[EH,EH,h i (by simp)];exact lL step g _ λj c=>h j (Ea _ c)
def BF {p:Pb} {c:List Ex} {a b:List Nat} (hk:k<zN p.g) (e:∀i∈grN p k,fx i=some (zG b i 0)) (g:∀i∈dj p k,zG b i 0=zG a i 0) (h:0<lW p R c wt k a fx):vY p R c (k+1) b:=by
 rcases R with _|⟨t,d⟩
 .have:=m6 (eL p) (λl=> !cJ p l) wt (wdN p) (b:=λi=>zG b i 0) _ _ e h;unfold vY;rw[i5 hk,Fp];rw[lL (eL p) (a:=a) (b:=b) _ _ g] at this;simpa using this
 have:=m6 (fG p d) (λf=>decide (f=0)) wt (wdN p) (b:=λi=>zG b i 0) _ _ e h;unfold vY;rw[i5 hk,Fp];rw[lL (fG p d) (a:=a) (b:=b) _ _ g] at this;simpa using this
theorem wY {p:Pb} (f:PV p) {c:List Ex} (u:∀e∈c,okE (λ_=>true) dep e=true) {a:List Nat} (o:gO p.v a) (h:vY p (gL (nmV p.v (cF p)) c 1 cX) c (zN p.g) a):dq (aM (ai p.v) a) c=true:=by
 cases hR:gL (nmV p.v (cF p)) c 1 cX with
 |none=>
  rw[hR] at h;have h:cJ p ((dR p).foldl (λs i=>eL p s i (zG a i 0)) c)=true:=h;rw[jq] at h;have⟨b,r,g⟩:=pp.1 h;rw[rL,DW] at g;have e:=vM f o r λi hi=>by have j:=WR (kG.1 g.2 _ (EJ.2 ⟨i,hi,rfl⟩));unfold aM at j;rw[uy f (cN f hi).1] at j;exact j
  rw[<-e];exact g.1
 |some td=>
  obtain⟨t,d⟩:=td;rw[hR] at h;have h:(dR p).foldl (λs i=>fG p d s i (zG a i 0)) t≠0:=h;have k:wsN p (dR p)<=20:=by have:=nY f;omega
  obtain⟨-,l,m⟩:=xW k (PY f) c ⟨dv0,Yj _⟩ u (fn1 dv0) t d hR;have e:=po f d t a [] (dR p) [] (by simp);have e0:bF d 0 (jx p a []) t=t:=rfl;rw[e0,List.nil_append] at e;rw[e] at h;have⟨v,q,w⟩:=qB l.dv k l.lim (jx p a (dR p)) 0 t m.lt (by rw[jf];omega) (DH _);have x:bF d 0 (jx p a (dR p)) t<=1:=by refine Nat.le_of_lt_succ (Nat.lt_of_not_le λg=> ?_);have:=l.lim _ (l.dv.pl _ (by omega) v).1;unfold bT at q;rw[jf] at q;omega
  have g:bF d 0 (jx p a (dR p)) t=1:=by omega
  have j:=w [];rw[EN,g] at j;have n:ev d (bOf (jx p a (dR p))) t=true:=j;rw[m.val,FI] at n;rw[<-n];congr 1;funext s;exact(Vo f o s).symm
def Ca {p:Pb} (j:PV p) {H:List Ex} {a:List Nat} (f:gO p.v a) (c:zN p.g=0) (h:cJ p H=true):dq (aM (ai p.v) a) H=true:=by
 have⟨b,g,d⟩:=pp.1 h;have e:=vM j f g λi hi=>by unfold dR at hi;rw[c] at hi;cases hi
 rw[<-e];exact d
end
end
section
open Go.RowKit Go.Maps
def Pn (w:World) (a b:Nat) (c:a<=cD) (d:b<=cD):Calls zz 222 #[zI zi a,zI zi b] w (zR (zI zi (jD a b:Nat)) w):=by
 unfold cD at c d;have e:min ((a:Int)+b) 1099511627777=((jD a b:Nat):Int):=by unfold jD cD;omega
 go_enter func222,ntmps222;go_wp2;go_ret;refine⟨?_,DM _ _⟩;rw[<-e];rfl
def yH (w:World) (a b:Nat) (r:a<=cD) (s:b<=cD):Calls zz 223 #[zI zi a,zI zi b] w (zR (zI zi (eN a b:Nat)) w):=by
 have l:Hid (a=0\/b=0->eN a b=0):=zh λh=>by unfold eN;rcases h with rfl|rfl<;>simp
 have g:Hid (cD/b<a->b≠0->eN a b=cD):=zh λh k=>by unfold eN;have:=(Nat.div_lt_iff_lt_mul (Fq k)).1 h;omega
 have i:Hid (¬cD/b<a->b≠0->eN a b=a*b/\a*b<=cD):=zh λh k=>by unfold eN;have:=(Nat.le_div_iff_mul_le (Fq k)).1 (Nat.not_lt.1 h);omega
 unfold cD at r s g i;by_cases p:a=0
 .subst p;have d:=l (zQ rfl);rw[d];clear d;go_enter func223,ntmps223;go_wp2;go_ret;exact⟨rfl,DM _ _⟩
 have x:((a:Int)==0)=false:=by simp;omega
 by_cases j:b=0
 .subst j;have d:=l (zO rfl);rw[d];clear d;go_enter func223,ntmps223;go_wp2;go_ret;exact⟨rfl,DM _ _⟩
 have y:((b:Int)==0)=false:=by simp;omega
 have z:((b:Int) !=0)=true:=by simp;omega
 have A:¬(b:Int)=0:=by omega
 have f:((1099511627777:Int)/(b:Int))=((1099511627777/b:Nat):Int):=(Int.natCast_ediv 1099511627777 b).symm;have⟨q,d⟩:=zv (1099511627777/b:Nat);have t:q<=1099511627777:=by rw[d];exact Nat.div_le_self _ _
 rw[<-d] at f g i;have B:IntKind.i64.wrap ((1099511627777:Int)/(b:Int))=(q:Int):=by rw[f];exact Fi _ (by omega)
 clear d;by_cases c:q<a
 .have c1:=zlt c;rw[g c j];go_enter func223,ntmps223;go_wp2;go_ret;exact⟨rfl,DM _ _⟩
 have c1:=zge c;have⟨n,v⟩:=i c j;rw[n];have o:(a:Int)*(b:Int)=((a*b:Nat):Int):=by simp
 have⟨m,hm⟩:=zv (a*b);rw[<-hm] at v o⊢;have e:min (m:Int) 1099511627777=(m:Int):=by omega
 clear n hm;have u:IntKind.i64.wrap ((a:Int)*(b:Int))=(m:Int):=by rw[o];exact Fi _ (by omega)
 go_enter func223,ntmps223;go_wp2;go_ret;refine⟨?_,DM _ _⟩;rw[<-e];rfl
def spC (V H S D G a LV DG:Value) (root:Nat) (small:Bool) (b:Value):Array Value:=#[V,H,S,D,G,a,LV,DG,zI zi root,zW small,b]
theorem mH {d:List Nd} (h:DV d):∀(a:List Bool) (l f:Nat),f<zN d->l+zN a<=20->bF d l a f<zN d
 |[],l,f,hf,_=>hf
 |b::a,l,f,hf,hl=>by
  rw[DF] at hl;refine mH h a (l+1) _ ?_ (by omega);split
  .rename_i he;have c:=(h.lvlt hf).1 (by omega);have⟨e,g,i,_⟩:=h.pl f c hf;split<;>omega
  exact hf
def Sf (i:Nat) (hi:i<9223372036854775808):bits .and .i64 (i:Int) 1=((i%2:Nat):Int):=by have a:(1:Int)=((1:Nat):Int):=rfl;rw[a,fX _ _ (by omega) (by omega)];congr 1;exact Nat.and_one_is_mod i
def RY (v k:Nat) (h:v<65536):(bits BinOp.and IntKind.i64 ((v:Int)/2^k) 1==1)=v.testBit k:=by
 have e:((v:Int)/2^k)=((v/2^k:Nat):Int):=by rw[Int.natCast_ediv,Int.natCast_pow];rfl
 have b:v/2^k<9223372036854775808:=Nat.lt_of_le_of_lt (Nat.div_le_self _ _) (by omega);rw[e,Sf _ b,Nat.testBit_eq_decide_div_mod_eq];generalize v/2^k=q;by_cases a:q%2=1
 .rw[a];rfl
 have:q%2=0:=by omega
 rw[this];rfl
theorem rr (w:World) (gs:Nat) (A1 Ad:Option Addr) (c1 cd:Nat) (H S D G RU LV:Value) (root:Nat) (small:Bool) (WT:Value) (vars:List Vr) (g:List Int) (d:List Nd)
  (hx:Box w gs (spC (zU A1 (zN vars) c1) H S D G RU LV (zU Ad (zN d) cd) root small WT) 89) (hv:Rs vrR w (zU A1 (zN vars) c1) vars ah) (hl:IL w LV g) (hd:Rs ndR w (zU Ad (zN d) cd) d ah) (Q:DV d)
  (i:Nat) (hi:i<zN vars) (y:i<zN g) (wd L v a:Nat) (ad:(zG vars i vr0).w=wd) (hL:zG g i 0=L) (ai:L+wd<=20) (ac:v<65536) (hn:a<zN d):
  Calls zz 147 #[zP gs,zI zi a,zI zi i,zI zi v] w (zR (zI zi (bF d L (vb wd v) a:Nat)) w):=by
 have V:=Q.top;have⟨r,HD,aj⟩:=zk3 hx hd Q;obtain⟨AL,cL,rfl, -,Y⟩:=hl;obtain⟨a1,rfl,X,aa⟩:=Y (by omega);have z0:w.cell? (a1.add i)=some (zI zi (zG g i 0)):=aa i y;have z1:(a1.add i).block<w.heap.size:=by rw[bf];exact X
 rw[hL] at z0;obtain⟨A',c',e1, -,n⟩:=hv.vrs;have⟨b,o,P,ak,m⟩:=n i hi;simp only[DQ] at e1;obtain⟨rfl, -,rfl⟩:=e1;subst P;have y1:w.cell? ⟨b,o+i*4+1,none⟩=some (zI zi ((zG vars i vr0).w)):=m 1 _ rfl;rw[ad] at y1;have⟨e,h⟩:=zvh (λk=>bF d L ((vb wd v).take k) a:Nat->Nat);have C:Hid (e 0=a):=zh (by rw[h];rfl);have E:Hid (e wd=bF d L (vb wd v) a):=zh (by rw[h];simp only;rw[En (by rw[jL];exact DE _)]);have F:Hid (∀k,k<=wd->e k<zN d):=zh λk hk=>by rw[h];exact mH Q _ _ _ hn (by rw[D3,jL];omega)
 have I:Hid (∀k,k<wd->e (k+1)=if(ndA d (e k)).lv=L+k then(if v.testBit (wd-1-k)=true then(ndA d (e k)).hi else(ndA d (e k)).lo) else e k):=zh λk hk=>by rw[h];simp only;rw[SI hk,xI,D3,jL,Nat.min_eq_left (by omega)];rfl
 have⟨nv,Z⟩:=zv (zN vars);have⟨N,HN⟩:=zvh (zN d);have⟨M,hM⟩:=zv (zN g);rw[<-Z] at r hi;rw[<-HN] at r HD V hn;rw[<-hM] at r y;have i0:=zn0 i;have i1:(i:Int)<(nv:Int):=by omega
 have i2:(i:Int)<(M:Int):=by omega
 rw[<-E];unfold spC at r;go_enter func147,ntmps147;have x0:=za r 0;go_wp2;rw[<-C];go_loopw [1,22] (λnd ii wr=>∃k:Nat,k<=wd/\nd=zI zi (e k:Nat)/\ii=zI zi k/\zL w wr) (λ_ ii _=>wd-(intOf ii).toNat)
 .exact⟨0,DH _,rfl,rfl,DM _ _⟩
 obtain⟨k,hk,rfl,rfl,T⟩:=hrel;have f:=zh T;by_cases p:k<wd
 .have⟨z,k0⟩:=zln p;have A:=F k hk;have c:=zh (I k p);obtain⟨A',c',e1, -,n⟩:=HD.nds;have⟨bd,od,P,l,J,K,d2⟩:=n (e k) A;simp only[DQ] at e1;obtain⟨rfl, -,rfl⟩:=e1;subst P;generalize ndA d (e k)=x at*;obtain⟨lv,lo,u⟩:=x;simp only at J K d2 c;replace J:=(f.cell l).trans J;replace K:=(f.cell l).trans K;replace d2:=(f.cell l).trans d2;have yr:=(f.cell z1).trans z0;have yb:=DU z1 f.size;have s:=zh (r.Q f);rw[<-HN] at A;have n0:(0:Int)<=(e k:Int):=by omega
  have n1:(e k:Int)<(N:Int):=by omega
  generalize e k=nk at*;have⟨al,j⟩:=zvh (e (k+1));rw[<-j] at c;have x7:=za s 7;go_upto_region 6 with fail;have af:=((ab wr (zC #[zI zi lv,zI zi lo,zI zi u] 95)).cell yb).trans yr;have ae:=DU yb (ab wr (zC #[zI zi lv,zI zi lo,zI zi u] 95)).size;generalize ag:wr.alloc _=w3 at*;have⟨R,B⟩:=zA1 ag;replace⟨s,f⟩:=zb2 s f R;have yL:=λq:Lat w3=>(q.h.cell ae).trans af;have s2:=s.lat 6 _ rfl;have s0:=B.lat 0 _ rfl;refine az ?_;repeat(go_big_quiet_step (fail))
  refine D4 ?_;intro w8 hb;replace⟨s,B,f⟩:=zb3 s B f hb;obtain⟨am,an⟩:=zd2 B 1 2;by_cases hc:lv=L+k
  .have U:((lv:Int) !=(L:Int)+(k:Int))=false:=by
    have:(lv:Int)=(L:Int)+(k:Int):=by omega
    simp[this]
   rw[DP hc] at c;have g1:¬((wd:Int)-1-(k:Int)<0):=by omega
   have g2:((wd:Int)-1-(k:Int))=((wd-1-k:Nat):Int):=by omega
   have t:=RY v (wd-1-k) ac;cases A:v.testBit (wd-1-k) with
   |true=>
    rw[A] at t c;go_wp2;go_roundw
    .exact⟨k+1,by omega,by rw[<-j,c];rfl,by go_num,f⟩
    simp[intOf];omega
   |false=>
    rw[A] at t c;go_wp2;go_roundw
    .exact⟨k+1,by omega,by rw[<-j,c];rfl,by go_num,f⟩
    simp[intOf];omega
  have U:((lv:Int) !=(L:Int)+(k:Int))=true:=by
   have:¬(lv:Int)=(L:Int)+(k:Int):=by omega
   simp[this]
  rw[DK hc] at c;go_wp2;go_roundw
  .exact⟨k+1,by omega,by rw[<-j,c],by go_num,f⟩
  simp[intOf];omega
 have⟨z,W⟩:=zgq hk p;rw[W];go_wp2;go_ret;exact⟨rfl,f⟩
def φI:eD Int 3 where
 kv:=λx=> .int .i64 x
 lit:=λx=> .int .i64 x
 ok:=λx=>(Lit.int .i64 x).wf=true
 key:=λx h=>keyOf_int_mk underlying3 h
 K:=int_keyed underlying3
 inj:=λx y h=>by simpa using h
def Qu:Keyed zz 224:=Keyed.of_law (deep_law_laid pW (m:=2) (by omega) (Ey (by kernel_rfl)) (by kernel_rfl) (by rw[underlying224]))
def Yi (a b:Int):Lit:= .string (keyBytes [.int .i64 a,.int .i64 b])
def Cm (a b:Int) (ha:(Lit.int .i64 a).wf=true) (hb:(Lit.int .i64 b).wf=true):keyOf Tryz.prog 224 (.agg #[.int .i64 a,.int .i64 b])=some (Yi a b):=by
 have h1:Tryz.prog.keyType 224=true:=by kernel_rfl
 have h2:Tryz.prog.cellsOf 224=2:=by kernel_rfl
 have h3:(Value.agg #[.int .i64 a,.int .i64 b]).formed Tryz.prog 224=true:=by
  simp[Value.formed,underlying224,h2]
 have c3:Tryz.prog.cellsOf 3=1:=by kernel_rfl
 have hk:∀d x,(Lit.int .i64 x).wf=true→Tryz.prog.keyLits (d+1) 3 [.int .i64 x]=some [.int .i64 x]:=fun d x hx=>by
  simp[Program.keyLits,underlying3,hx]
 obtain⟨d,hd⟩:∃d,Tryz.prog.types.size=d+1:=⟨Tryz.prog.types.size-1,by have:0<Tryz.prog.types.size:=Ey (by kernel_rfl);omega⟩
 unfold keyOf
 simp only[underlying224,h1,h3,Bool.and_self,if_true,hd]
 show(Tryz.prog.keyLits (d+1+1) 224 [.int .i64 a,.int .i64 b]).map _=_
 have hl:Tryz.prog.keyLits (d+1+1) 224 [.int .i64 a,.int .i64 b]=some [.int .i64 a,.int .i64 b]:=by
  unfold Program.keyLits
  rw[underlying224]
  simp[h2,c3,hk d a ha,hk d b hb]
 rw[hl];rfl
def φP:eD (Int×Int) 224 where
 kv:=λx=>zX #[zI zi x.1,zI zi x.2]
 lit:=λx=>Yi x.1 x.2
 ok:=λx=>(Lit.int .i64 x.1).wf=true/\(Lit.int .i64 x.2).wf=true
 key:=λx h=>Cm x.1 x.2 h.1 h.2
 K:=Qu
 inj:=λx y h=>by simp only[Value.agg.injEq,Array.mk.injEq,Fm,Value.int.injEq,true_and,FL] at h;exact Prod.ext h.1 h.2
def jp {n:Nat} (h:n<=1000000):(Lit.int .i64 (n:Int)).wf=true:=by have a:IntKind.i64.min= -9223372036854775808:=rfl;have b:IntKind.i64.max=9223372036854775807:=rfl;simp[Lit.wf,a,b];omega
def FxV (w:World) (v:Value) (fx:List (Int×Int)):Prop:=(v= .map none/\fx=[])\/∃b,v= .map (some b)/\bR φI w b fx
def FxV.Q {w w':World} {v:Value} {fx:List (Int×Int)} (h:FxV w v fx) (d:zL w w'):FxV w' v fx:=by
 rcases h with h|⟨b,a,c⟩
 .exact zQ h
 exact zO ⟨b,a,c.Q d⟩
instance {w w':World} {v:Value} {fx:List (Int×Int)}:Zm w w' (FxV w v fx) (FxV w' v fx):=⟨λhb h=>FxV.Q h hb⟩
theorem FxV.look2 {w:World} {v:Value} {fx:List (Int×Int)} (h:FxV w v fx) (i:Nat) (hi:i<=1000000):(Instr.lookup 161 v (zI zi i) true).run zz w= .ok (match bZ fx (i:Int) with
   |some i=>zY #[zI zi i,zW true]
   |none=>zY #[zI zi 0,zW false]) w:=by
 rcases h with⟨rfl,rfl⟩|⟨b,rfl,h⟩
 .exact Maps.look_nil true (int_keyed underlying3) underlying161 (pc w) (keyOf_int_mk underlying3 (jp hi))
 exact h.look2 underlying161 (x:=(i:Int)) (jp hi)
def rg (fx:List (Int×Int)) (i wd:Nat):List Int:=match bZ fx (i:Int) with
 |some x=>[x]
 |none=>(List.range (2^wd)).map λv:Nat=>(v:Int)
def Cx {m k:Nat} (h:k<m):((List.range k).map (λv:Nat=>(v:Int))++List.replicate (m-k) 0).set k (k:Int)=(List.range (k+1)).map (λv:Nat=>(v:Int))++List.replicate (m-(k+1)) 0:=by
 have e:m-k=(m-(k+1))+1:=by omega
 rw[Fy _ _ (by rw[DT,EV];exact DE _),DT,EV,EB,e,List.replicate_succ,Fg,List.range_succ,Fl,Eg];rfl
theorem ua (w:World) (gs:Nat) (A1:Option Addr) (c1:Nat) (H S D G F LV DG:Value) (root:Nat) (small:Bool) (I:Value) (vars:List Vr)
  (Q:Box w gs (spC (zU A1 (zN vars) c1) H S D G F LV DG root small I) 89) (N:Rs vrR w (zU A1 (zN vars) c1) vars ah)
  (i:Nat) (hi:i<zN vars) (P:zN vars<=1000) (wd:Nat) (z:(zG vars i vr0).w=wd) (h:wd<=8) (C:Value) (fx:List (Int×Int)) (L:FxV w C fx):
  Calls zz 221 #[zP gs,zI zi i,C] w λe w'=>∃g,e=zE (zU (some ⟨g,0,none⟩) (rg fx i wd).length (rg fx i wd).length)/\w.heap.size<=g/\Box w' g (iA (rg fx i wd)) 3/\zL w w':=by
 have q:=zh Q;have l:=L.look2 i (by omega);obtain⟨U,W,e1, -,t⟩:=N.vrs;have⟨b,o,J,K,c⟩:=t i hi;simp only[DQ] at e1;obtain⟨rfl, -,rfl⟩:=e1;subst J;have T:w.cell? ⟨b,o+i*4+1,none⟩=some (zI zi ((zG vars i vr0).w)):=c 1 _ rfl;rw[z] at T;have⟨R,y⟩:=zv (zN vars);rw[<-y] at q hi;have Y:=zn0 i;have Z:(i:Int)<(R:Int):=by omega
 have E:=fo (2^wd) (D2 (Ew (by omega) h) (by decide));have X:=ko (show wd<=20 by omega);unfold rg;unfold spC at q;go_enter func221,ntmps221;cases hq:bZ fx (i:Int) with
 |some x=>rw[hq] at l;simp only at l⊢;go_wp2;go_ret;exact⟨w.heap.size,rfl,DE _,Box.new w _ _,ab _ _⟩
 |none=>
  rw[hq] at l;simp only at l⊢;have hm:2^wd<=256:=by have:=Ew (n:=2) (by omega) h;simpa using this
  have M:0<2^wd:=Fq (by simp);generalize 2^wd=m at*;have x0:=za q 0;have V:=E w;go_upto_region 5 with fail;have a:=zh (Box.new w 3 (iA (List.replicate m 0)));have j:=zh (ab w (zC (iA (List.replicate m 0)) 3));generalize w.alloc (zC (iA (List.replicate m 0)) 3)=w1 at*;go_wp2;go_loopw [33] (λB wr=>∃(k:Nat),k<=m/\B=zI zi k/\Box wr w.heap.size (iA ((List.range k).map (λv:Nat=>(v:Int))++List.replicate (m-k) 0)) 3/\zL w wr) (λB _=>m+1-(intOf B).toNat)
  .exact⟨0,DH _,rfl,a,j⟩
  obtain⟨k,hk,rfl,A,s⟩:=hrel;have⟨a,j⟩:=zk2 A s;by_cases d:k<m
  .have⟨f,k0⟩:=zln d;have x0:=a.A k _ (eH (by rw[DI,DT,EV,Es];omega));have x1:=a.frozen k;have x2:=a.lt;go_wp2;go_roundw
   .refine⟨k+1,by omega,by go_num, ?_,j.setCell (p:=⟨w.heap.size,k,none⟩) (DE _) _⟩;have:=a.set_ k (zI zi k);rw[iP,Cx d] at this;exact this
   simp[intOf];omega
  have⟨f,u⟩:=zgq hk d;have r:=zh (show Box wr w.heap.size (iA ((List.range m).map λv:Nat=>(v:Int))) 3 by have:=a.out;rw[u,EB,List.replicate_zero,EN] at this;exact this);go_wp2;go_ret;exact⟨w.heap.size,by first|rfl|(rw[DT,EV];rfl),DE _,r,j⟩
def Vx (d:List Nd) (wt:Nat->Nat->Nat) (l i:Nat) (vs:List Wd):jM d wt l i vs 0=0:=by cases vs<;>rfl
structure GrS (w:World) (vars:List Vr) (lev:List Int) (fx:List (Int×Int)) (off:Nat) (gn:List Nat) (vs:List Wd):Prop where
 vl:vars.length≤16
 ll:lev.length=vars.length
 gl:gn.length=vs.length
 gl2:gn.length≤16
 A:∀j,j<gn.length→gn.getD j 0<vars.length∧(vars.getD (gn.getD j 0) vr0).w=((vs.getD j ⟨0,none⟩).w:Nat)∧(1≤(vs.getD j ⟨0,none⟩).w∧(vs.getD j ⟨0,none⟩).w≤8)∧lev.getD (gn.getD j 0) 0=((off+fH (vs.take j):Nat):Int)∧off+fH (vs.take j)+(vs.getD j ⟨0,none⟩).w≤20∧bZ fx ((gn.getD j 0:Nat):Int)=(vs.getD j ⟨0,none⟩).fixed.map (fun x:Nat=>(x:Int))∧∀x,(vs.getD j ⟨0,none⟩).fixed=some x→x<2^(vs.getD j ⟨0,none⟩).w
structure WtC (w:World) (fw:Nat) (cw:Array Value) (gn:List Nat) (wt:Nat→Nat→Nat):Prop where
 enter:∀args W,(callFunc fw args).run Tryz.prog W= .ok (.enter fw args) W
 le:∀j v,wt j v≤cD
 call:∀j v W,j<gn.length→v<256→Below w.heap.size w W→Calls Tryz.prog fw (#[.int .i64 ((gn.getD j 0:Nat):Int),.int .i64 (v:Nat)]++cw) W fun e W'=>e= .returned (.int .i64 ((wt j v:Nat):Int))∧Below W.heap.size W W'
def Vm {n:Nat} (h:n<=cD):(Lit.int .i64 (n:Int)).wf=true:=by unfold cD at h;have a:IntKind.i64.min= -9223372036854775808:=rfl;have b:IntKind.i64.max=9223372036854775807:=rfl;simp[Lit.wf,a,b];omega
theorem yh {fx:List (Int×Int)} {i:Nat} {v:Wd} (h:bZ fx (i:Int)=v.fixed.map (λx:Nat=>(x:Int))):rg fx i v.w=nI (aX v):=by
 unfold rg aX;rw[h];cases v.fixed with
 |some x=>rfl
 |none=>rfl
theorem tF {v:Wd} (h8:v.w≤8) (hf:∀x,v.fixed=some x→x<2^v.w):∀x∈aX v,x<256:=by
 have hp:2^v.w≤256:=by have:=Ew (n:=2) (by omega) h8;simpa using this
 intro x hx
 unfold aX at hx
 cases hq:v.fixed with
 |some y=>
  rw[hq] at hx
  have:=hf y hq
  rw[ER.1 hx];omega
 |none=>
  rw[hq] at hx
  have:=Fv.1 hx
  omega
def Zj {v:Wd} (a:v.w<=8):(aX v).length<=256:=by
 have b:2^v.w<=256:=by have:=Ew (n:=2) (by omega) a;simpa using this
 exact D2 (yg v) b
def SmR (d:List Nd) (wt:Nat->Nat->Nat) (f:Nat) (vs:List Wd) (a c g:Nat) (h:List ((Int×Int)×Int)) (W:World) (e:Ending) (W':World):Prop:=e=zE (zI zi ((jM d wt (f+fH (vs.take a)) a (vs.drop a) c:Nat):Int))/\W.grownBy W' (some g)/\∃b,bR φP W' g b/\n7 d wt f vs b/\zN b<=zN h+jI (vs.drop a)
def gU {w W W':World} {a:Nat} (b:zL w W) (c:W.grownBy W' (some a)) (hk:w.heap.size<=a):zL w W':=b.grown c b.size (λk e=>by cases e;exact hk)
def SQ1 (b a f:Nat) (W:World):Prop:=Box W b #[zI zi a,zI zi f] 224
theorem rq (w:World) (gs:Nat) (A1 Ad:Option Addr) (c1 cd:Nat) (H S D G RU LV:Value) (root:Nat) (small:Bool) (fw:Nat) (cw:Array Value) (vars:List Vr) (av:List Int) (d:List Nd) (wt:Nat->Nat->Nat)
  (hx:Box w gs (spC (zU A1 (zN vars) c1) H S D G RU LV (zU Ad (zN d) cd) root small (.func (.func fw) #[] cw)) 89) (hv:Rs vrR w (zU A1 (zN vars) c1) vars ah) (hl:IL w LV av) (hd:Rs ndR w (zU Ad (zN d) cd) d ah) (hD:DV d)
  (gn:List Nat) (vs:List Wd) (vg:Value) (br:IL w vg (nI gn)) (fv:Value) (fx:List (Int×Int)) (aT:FxV w fv fx) (f:Nat) (hG:GrS w vars av fx f gn vs) (V:WtC w fw cw gn wt)
  (a:Nat) (bl:a<=zN gn)
  (IH:a<zN gn->∀(W:World) (r b:Nat) (s:List ((Int×Int)×Int)),zL w W->w.heap.size<=r->bR φP W r s->n7 d wt f vs s->zN s+jI (vs.drop (a+1))<=2000000->b<zN d→
   Calls zz 148 #[zP gs,vg,fv,.map (some r),zX #[zI zi ((a:Int)+1),zI zi b]] W (SmR d wt f vs (a+1) b r s W))
  (W:World) (r b:Nat) (s:List ((Int×Int)×Int)) (g:zL w W) (aU:w.heap.size<=r) (hm:bR φP W r s) (aY:n7 d wt f vs s) (ab:zN s+jI (vs.drop a)<=2000000) (hn:b<zN d):
  Calls zz 148 #[zP gs,vg,fv,.map (some r),zX #[zI zi a,zI zi b]] W (SmR d wt f vs a b r s W):=by
 have bw:=hD.top;have eg:=V.enter;have⟨HV,HX,HL,HD,af,aD⟩:=zk6 hv hx hl hd hD aT;have⟨HG,HW,HI,l,m,o⟩:=zk6 hG V IH g hm aY;have⟨U,HN⟩:=zk2 ab hn;obtain⟨Ag,cg,rfl, -,aq⟩:=br;have aV:(nI gn).length=zN gn:=aF _;rw[aV] at aq HI⊢;have aG:=zh aq;have aZ:=hG.gl2;have⟨gl,z⟩:=zvh (zN gn);rw[<-z] at bl aZ HI aG⊢;have bx:=hm.lt;clear hx hv hl hd hD aT hG V IH g hm aY ab aq aV;have a0:=zn0 a;go_enter func148,ntmps148;go_upto_region 1 with fail;generalize bd:W.alloc _=w1 at*;have⟨an,n⟩:=zA1 bd;clear bd;have c:=zh (aH (row:=some r) an);replace⟨l,m⟩:=zb2 l m an;clear an;obtain⟨bb,bc⟩:=zc2 n;by_cases n0:b=0
 .subst n0;clear eg;go_wp2;go_ret;exact⟨by rw[Vx];rfl,c,s,m,o,Nat.le_add_right _ _⟩
 have n1:((b:Int)==0)=false:=by simp;omega
 by_cases ha:a=gl
 .subst ha;have HE:Hid (jM d wt (f+fH (vs.take a)) a (vs.drop a) b=1):=zh (by rw[List.drop_of_length_le (by rw[<-HG.gl,<-z];exact DE _)];show(if b=0 then 0 else 1)=1;rw[DK n0]);clear eg;go_wp2;go_ret;exact⟨by rw[HE];rfl,c,s,m,o,Nat.le_add_right _ _⟩
 have a1:((a:Int)==(gl:Int))=false:=by simp;omega
 have a2:a<gl:=by omega
 have a3:(a:Int)<(gl:Int):=by omega
 have C:(Instr.lookup 222 (.map (some r)) (zX #[zI zi a,zI zi b]) true).run zz w1= .ok (match bZ s ((a:Int),(b:Int)) with
   |some i=>zY #[zI zi i,zW true]
   |none=>zY #[zI zi 0,zW false]) w1:=m.look2 (mT:=222) underlying222 (x:=((a:Int),(b:Int))) ⟨jp (by omega),jp (by omega)⟩;cases hq:bZ s ((a:Int),(b:Int)) with
 |some y=>rw[hq] at C;simp only at C;have HE:=zh (o a b y hq);clear hq eg;go_wp2;go_ret;exact⟨by rw[HE];rfl,c,s,m,o,Nat.le_add_right _ _⟩
 |none=>
  rw[hq] at C;simp only at C;clear hq;have aE:=zh (HG.A a (by rw[<-z];exact a2));obtain⟨ag,rfl,aR,aQ⟩:=aG (by omega);have ba:=aQ a a2;have aO:(nI gn).getD a 0=((zG gn a 0:Nat):Int):=dV _ _;rw[aO] at ba;have aC:=zh fun(x:Nat) (W':World) (hx:x<256) (h:zL w W')=>HW.call a x W' (by rw[<-z];exact a2) hx h;have ao:vs.drop a=zG vs a ⟨0,none⟩::vs.drop (a+1):=mG (by rw[<-HG.gl,<-z];exact a2);have bo:fH (vs.take (a+1))=fH (vs.take a)+(zG vs a ⟨0,none⟩).w:=by
   have a4:a<zN vs:=by rw[<-HG.gl,<-z];exact a2
   rw[Ep,DD a4,tx,DC,DD a4];rfl
  have M:=zh (HI a2);clear aO aQ;generalize zG gn a 0=ix at*;generalize bq:zG vs a ⟨0,none⟩=v at*;clear bq;have⟨g1,g2,g3,g4,g5,g6,g7⟩:=aE.out;have⟨L,am⟩:=zv (f+fH (vs.take a));have aP:f+fH (vs.take (a+1))=L+v.w:=by omega
  rw[<-am] at g4 g5;have K:=zh fun(W':World) (h:zL w W')=>ua W' gs A1 c1 H S D G RU LV (zU Ad (zN d) cd) root small (.func (.func fw) #[] cw) vars (HX.Q h) (HV.Q h) ix g1 (by have:=HG.vl;omega) v.w g2 g3.2 fv fx (aD.Q h);rw[yh g6,aF] at K;have ax:=zh fun(W':World) (h:zL w W') (x:Nat) (hx:x<256)=>rr W' gs A1 Ad c1 cd H S D G RU LV root small (.func (.func fw) #[] cw) vars av d (HX.Q h) (HV.Q h) (HL.Q h) (HD.Q h) af ix g1 (by rw[HG.ll];exact g1) v.w L x b g2 g4 g5 (by omega) HN;have⟨u,ap⟩:=zv (λx=>eN (wt a x) (jM d wt (L+v.w) (a+1) (vs.drop (a+1)) (bF d L (vb v.w x) b)):Nat->Nat);have bg:Hid (∀x,u x=eN (wt a x) (jM d wt (L+v.w) (a+1) (vs.drop (a+1)) (bF d L (vb v.w x) b))):=zh λx=>by rw[ap]
  have E:Hid (jM d wt (f+fH (vs.take a)) a (vs.drop a) b=eC u (aX v)):=zh (by
   rw[ao,<-am,ap];show(if b=0 then 0 else _)=_;rw[DK n0]);have B:Hid (jI (vs.drop a)=1+(aX v).length*jI (vs.drop (a+1))):=zh (by rw[ao];rfl);have ak:=zh (tF g3.2 g7);have ai:=Zj (v:=v) g3.2;have be:Hid (∀x,bF d L (vb v.w x) b<zN d):=zh λx=>mH af _ _ _ HN (by rw[jL];exact g5);have aK:Hid (∀x,jM d wt (L+v.w) (a+1) (vs.drop (a+1)) (bF d L (vb v.w x) b)<=cD):=zh λx=>SV _ _ _ _ _ _;have bi:Hid (∀x,wt a x<=cD):=zh λx=>HW.le a x;have aL:Hid (∀j,n7 d wt f vs j->n7 d wt f vs ((((a:Int),(b:Int)),((eC u (aX v):Nat):Int))::j)):=zh λj h=>by
   have:=h.put a b;rw[E] at this;exact this
  replace M:Hid (∀(W:World) (b:Nat) (s:List ((Int×Int)×Int)),zL w W->bR φP W r s->n7 d wt f vs s->zN s+jI (vs.drop (a+1))<=2000000->b<zN d->Calls zz 148 #[zP gs,zU (some ag) gl cg,fv,.map (some r),zX #[zI zi ((a:Int)+1),zI zi b]] W (λe W'=>
    e=zE (zI zi ((jM d wt (L+v.w) (a+1) (vs.drop (a+1)) b:Nat):Int))/\W.grownBy W' (some r)/\∃j,bR φP W' r j/\n7 d wt f vs j/\zN j<=zN s+jI (vs.drop (a+1)))):=zh λW' nd j h1 h2 h3 h4 h5=>by
   have:=M W' r nd j h1 aU h2 h3 h4 h5;unfold SmR at this;rw[aP] at this;exact this
  have A:Hid (zN s+(1+(aX v).length*jI (vs.drop (a+1)))<=2000000):=zh (by rw[<-B];exact U);have bj:w.cell? ⟨gs,10,none⟩=some (.func (.func fw) #[] cw):=HX.A 10 _ rfl;have aW:=HX.lt;clear HI aE HW ao bo g1 g2 g3 g4 g5 g6 g7 aP am ap U HV HX HL HD af aD HG;generalize aX v=vl,jI (vs.drop (a+1))=ins,jM d wt (L+v.w) (a+1) (vs.drop (a+1))=SC at*;have⟨vn,al⟩:=zvh (zN vl);rw[<-al] at K ai A B;have y0:=(l.cell (by rw[bf];exact aR)).trans ba;have bm:=m.lt;go_wp2;clear y0 bb bc C;refine(K w1 l).mono ?_;rintro e w2 ⟨g9,rfl,P,J,g⟩;have t:=zh J;have bu:r≠g9:=by omega
  replace⟨n,m⟩:=zb2 n m g;replace c:=zh (aA c (aH g));replace l:=zb l g;clear g J K bm P;have bv:r≠W.heap.size:=by omega
  generalize W.heap.size=gq at*;go_wp2;go_loopw [13,46] (λsv iv wr=>∃(k:Nat) (j:List ((Int×Int)×Int)),k<=vn/\iv=zI zi k/\sv=zI zi ((eC u (vl.take k):Nat):Int)/\Box wr g9 (iA (nI vl)) 3/\Box wr gq #[zI zi a,zI zi b] 224/\bR φP wr r j/\n7 d wt f vs j/\zN j<=zN s+k*ins/\zL w wr/\W.grownBy wr (some r)) (λ_ iv _=>vn+1-(intOf iv).toNat)
  .exact⟨0,s,DH _,rfl,rfl,t,n,m,o,by omega,l,c⟩
  obtain⟨k,au,hk,rfl,rfl,J,a9,T,Z,ac,aS,Y⟩:=hrel;clear t n m o l c;have⟨t,n,m,o,aj,l⟩:=zk6 J a9 T Z ac aS;have c:=zh Y;clear J a9 T Z ac aS Y;by_cases R:k<vn
  .have⟨a5,k0⟩:=zln R;have Q:k<zN vl:=by rw[<-al];exact R
   have x0:=t.A k _ (eH (by rw[aF];exact Q));rw[dV] at x0;have I:=ak (zG vl k 0) (getD_in 0 Q);have aN:Hid (eC u (vl.take (k+1))=jD (eC u (vl.take k)) (eN (wt a (zG vl k 0)) (SC (bF d L (vb v.w (zG vl k 0)) b)))):=zh (by
    rw[cI (d:=0) Q,nZ,bg]);have X:=be (zG vl k 0);have bn:=aK (zG vl k 0);have T:=bi (zG vl k 0);have aw:=zh λW' h=>ax W' h (zG vl k 0) I;have aB:=zh λW' h=>aC (zG vl k 0) W' I h;have bk:=mV u (vl.take k);have⟨s1,aM⟩:=zvh (eC u (vl.take (k+1)));rw[<-aM] at aN;generalize zG vl k 0=x,wt a (zG vl k 0)=wx,eC u (vl.take k)=s0 at*;generalize bF d L (vb v.w x) b=nd at*;have az:=zh fun(W':World) (h:zL w W') (hm:bR φP W' r au)=>M W' nd au h hm o (by
    have h1:=A.out;have h2:=aj.out;have h3:k*ins+ins<=vn*ins:=by rw[<-Nat.succ_mul];exact Nat.mul_le_mul_right _ R
    omega) X;clear ax aC M Q X;go_upto_region 13 with fail;clear x0;refine zhd (SQ1 gq a b) n (λhS=> ?_);have N:zL wr wr.drew:=ae _;replace⟨t,n,m⟩:=zb3 t n m N;replace c:=zh (aA c (aH N));replace l:=zb l N;clear N;generalize wr.drew=w3 at*;refine zta 0 (zP gs) rfl ?_;refine zta 1 (zU (some ag) gl cg) rfl ?_;refine zta 2 (fv) rfl ?_;refine zta 3 (.map (some r)) rfl ?_;refine zta 4 (zP gq) rfl ?_;simp only[zp];refine zt 5 (zI zi a) rfl (zQ ⟨by rfl,λW V=>by have q:=V.A 0 _ rfl;go_simp⟩) ?_;simp only[zp];refine zt 6 (zI zi ((a:Int)+1)) rfl (zQ ⟨by rfl,λW V=>by have q:IntKind.i64.wrap ((a:Int)+1)=(a:Int)+1:=Fi _ (by omega);go_simp⟩) ?_;refine zta 7 (zP gs) rfl ?_;refine zta 8 (.pointer (some ⟨gq,1,none⟩)) rfl ?_;simp only[zp];refine zt 9 (zI zi b) rfl (zQ ⟨by rfl,λW V=>by have q:=V.A 1 _ rfl;go_simp⟩) ?_;refine zta 10 (zI zi ix) rfl ?_;refine zta 11 (zI zi x) rfl ?_;simp only[zp];clear hS;refine ay 12 rfl ?_;go_wp2;refine zK (aw w3 l) λw4 g=> ?_;replace⟨t,n,m⟩:=zb3 t n m g;replace c:=zh (aA c (aH g));replace l:=zb l g;clear g aw;go_wp2;refine⟨rfl,n, ?_⟩;refine ay 13 rfl ?_;go_wp2;refine⟨rfl,n, ?_⟩;refine ay 14 rfl ?_;go_wp2;refine(az w4 l m).mono ?_;rintro e w5 ⟨rfl,hg,bs,a6,aa,bt⟩;replace⟨t,n⟩:=zg2 t n hg;replace m:=zh a6;replace o:=zh aa;replace c:=zh (aA c hg);replace l:=zh (gU l hg aU);clear hg a6 aa az;go_wp2;refine⟨rfl,n, ?_⟩;refine ay 15 rfl ?_;go_wp2;refine⟨rfl,n,zdn ?_⟩;have xg:=(l.cell (p:=⟨gs,10,none⟩) aW).trans bj;go_wp2;clear xg;refine zK (aB w5 l) λw6 g=> ?_;replace⟨t,n,m⟩:=zb3 t n m g;replace c:=zh (aA c (aH g));replace l:=zb l g;clear g aB;have CT:=zh (yH w6 wx (SC nd) T bn);have a8:eN wx (SC nd)<=cD:=Nat.min_le_right _ _;generalize SC nd=sn,eN wx (SC nd)=mm at*;go_wp2;refine zK CT λw7 g=> ?_;replace⟨t,n,m⟩:=zb3 t n m g;replace c:=zh (aA c (aH g));replace l:=zb l g;clear g CT;have CP:=zh (Pn w7 s0 mm bk a8);rw[<-aN] at CP;go_wp2;refine zK CP λw8 g=> ?_;replace⟨t,n,m⟩:=zb3 t n m g;replace c:=zh (aA c (aH g));replace l:=zb l g;clear g CP;go_wp2;go_roundw
   .exact⟨k+1,bs,by omega,by go_num,by rw[aM],t,n,m,o,by have:=aj.out;rw[Nat.succ_mul];omega,l,c⟩
   simp[intOf];omega
  have a5:=zge R;have ar:k=vn:=by omega
  have HF:Hid (eC u (vl.take k)=eC u vl):=zh (by rw[ar,al,Et]);rw[HF];have F:zN au+1<=zN s+(1+vn*ins):=by have:=aj.out;rw[ar] at this;omega
  have⟨w9,hu,a7,P⟩:=m.upd (mT:=222) underlying222 (x:=((a:Int),(b:Int))) ⟨jp (by omega),jp (by omega)⟩ (i:=((eC u vl:Nat):Int)) (Vm (mV _ _)) (by have:=A.out;unfold maxLen;omega);have bp:(Instr.mapUpdate 222 (.map (some r)) (zX #[zI zi a,zI zi b]) (zI zi ((eC u vl:Nat):Int))).run zz wr= .ok () w9:=hu;obtain⟨bb,bc⟩:=zc2 n;have⟨aJ,bh,aI⟩:=zk3 a7 P F;clear hu a7 P F ar;have⟨tot,ad⟩:=zv (eC u vl);rw[<-ad] at bp aJ E aL⊢;clear ad;go_wp2;go_ret;exact⟨by rw[E];rfl,aA c bh,_,aJ,aL _ o,by rw[B];exact aI⟩
section
open Go.RowKit
instance {w w':World} {v:Value} {l:List Int}:Zm w w' (IL w v l) (IL w' v l):=⟨λhb h=>IL.Q h hb⟩
end
section
variable (n:Nat) (p:Pb) {ws:List Wt} {i k:Nat} {w:World}
def qw (p:Pb) (k i:Nat):Option (List Wt):=((p.d.take k).find? λd=>decide (d.var=(i:Int))).map (·.ws)
def Rr {p:Pb} (c:PV p) (hk:k<zN p.d):qw p (k+1) i=if(zG p.d k ds0).var=(i:Int) then some (zG p.d k ds0).ws else qw p k i:=by
 unfold qw;rw[cI (d:=ds0) hk,List.find?_append];split
 .rename_i h;have e:(p.d.take k).find? (λd=>decide (d.var=(i:Int)))=none:=by rw[List.find?_eq_none];intro d a;obtain⟨j,b,rfl⟩:=D9.1 a;rw[D3] at b;have:=(c.d k hk).2.1 j (by omega);rw[List.getElem_take];rw[DC,DD (show j<zN p.d by omega)] at this;have f:(p.d[j]).var≠(zG p.d k ds0).var:=this;simp only[Ef];omega
  rw[e,Option.none_or,List.find?_cons,DR h];rfl
 rename_i h;rw[List.find?_cons,DJ h];simp
def rgW (y:Wt):Rg:=⟨y.lo,y.hi,y.weight,y.each⟩
def wtO (o:Option (List Wt)) (v:Nat):Nat:=match o with
 |none=>1
 |some ws=>if(kU (ws.map rgW) v).2=0 then min (kU (ws.map rgW) v).1.toNat cD else cD
def wtP (p:Pb) (i v:Nat):Nat:=wtO (qw p (zN p.d) i) v
def Ok (i v:Nat):wtP p i v<=cD:=by
 unfold wtP wtO;split
 .unfold cD;omega
 split
 .exact Nat.min_le_right _ _
 exact DE _
def WcR (w:World) (v:Value):Option (List Wt)->Prop
 |none=>v=zU none 0 0
 |some ws=>∃a c,v=zU (some a) (zN ws) c/\Rs wtR w v ws ah/\(∀y∈ws,dG y=true)/\zN ws<=1000
theorem WcR.Q {w w':World} {v:Value} {o:Option (List Wt)} (h:WcR w v o) (f:zL w w'):WcR w' v o:=by
 cases o with
 |none=>exact h
 |some ws=>obtain⟨a,c,b,d,e⟩:=h;exact⟨a,c,b,d.Q f,e⟩
instance {w w':World} {v:Value} {o:Option (List Wt)}:Zm w w' (WcR w v o) (WcR w' v o):=⟨λhb h=>WcR.Q h hb⟩
def WgS (w:World) (p:Pb) (k n gb:Nat):Prop:=∃gr cur,Box w gb #[zU (some ⟨gr,0,none⟩) n n] 217/\Box w gr cur 124/\∀i,i<n->∃v,cur[i]? =some v/\WcR w v (qw p k i)
def WgS.Q {w w':World} {p:Pb} {k n gb:Nat} (h:WgS w p k n gb) (a:zL w w'):WgS w' p k n gb:=by obtain⟨gr,cur,b,c,d⟩:=h;refine⟨gr,cur,b.Q a,c.Q a,λi hi=> ?_⟩;have⟨v,e,f⟩:=d i hi;exact⟨v,e,f.Q a⟩
instance {w w':World} {p:Pb} {k n gb:Nat}:Zm w w' (WgS w p k n gb) (WgS w' p k n gb):=⟨λhb h=>WgS.Q h hb⟩
def U6 (ws:List Wt) (h:k<zN ws):(ws.map rgW).getD k rg0=rgW (zG ws k wt0):=by rw[DC,Ed,DD h,DC,DD h];rfl
def Yu {v:Value} (h:Rs wtR w v ws ah) (l:zN ws<=1000):DL w v (ws.map rgW):=by obtain⟨A,c,rfl,i,f⟩:=h.wts;refine⟨A,c,by rw[DT],by rw[DT];exact i,by rw[DT];omega,λd=> ?_⟩;rw[DT] at d;obtain⟨b,o,rfl,g, -⟩:=f 0 d;refine⟨_,rfl,g,λk hk=> ?_⟩;rw[DT] at hk;obtain⟨j,m,e, -,a⟩:=f k hk;simp only[DN,FK] at e;obtain⟨rfl,rfl, -⟩:=e;rw[U6 ws hk,cC];exact⟨a 0 _ rfl,a 1 _ rfl,a 2 _ rfl,a 3 _ rfl⟩
def Yk (h:∀y∈ws,dG y=true):LF (ws.map rgW):=λk hk=>by
 rw[DT] at hk;have:=h _ (getD_in wt0 hk);unfold dG at this;simp only[Bool.not_eq_true',Bool.or_eq_false_iff,FR] at this;rw[U6 ws hk];exact⟨(⟨by omega,by omega⟩:I64 (zG ws k wt0).lo),(⟨by omega,by omega⟩:I64 (zG ws k wt0).hi),(⟨by omega,by omega⟩:I64 (zG ws k wt0).weight)⟩
def SF (l:List Rg) (x:Int) (h:(kU l x).2=0):0<=(kU l x).1/\(kU l x).1<=9223372036854775807:=by
 rcases rp l with⟨a,c, -,d, -⟩|⟨a, -⟩
 .have e:kU l x=wgt l (iM l).1 x:=by unfold kU;rw[DP a]
  rw[e] at h⊢;rcases OB c d x with⟨-,b⟩|b
  .exact b
  rw[b] at h;cases h
 unfold kU at h;rw[DK a] at h;exact absurd h a
theorem tZ (w:World) {p:Pb} {n gb:Nat} (h:WgS w p (zN p.d) n gb) (i v:Nat) (hi:i<n) (G:v<256):
  Calls zz 140 (#[zI zi i,zI zi v]++#[zP gb]) w (zR (zI zi (wtP p i v:Nat)) w):=by
 obtain⟨gr,cur,s,y,z⟩:=h;have⟨u,B,e⟩:=z i hi;have x0:=s.A 0 _ rfl;have J:=y.A i _ B;have H:=zn0 i;have I:(i:Int)<(n:Int):=by omega
 have j:Hid (wtP p i v=wtO (qw p (zN p.d) i) v):=zh rfl;generalize wtP p i v=X at*;cases hq:qw p (zN p.d) i with
 |none=>
  rw[hq] at e j;have e:u=zU none 0 0:=e;subst e;have f:Hid (X=1):=zh j;rw[f];have g:∀W,(binOp BinOp.eql 124 (Value.slice none 0 0) (Value.slice none 0 0)).run zz W= .ok (zW true) W:=λW=>by kernel_rfl
  go_enter func140,ntmps140;go_wp2;go_ret;exact⟨rfl,DM _ _⟩
 |some ws=>
  rw[hq] at e j;obtain⟨a,c,rfl,A,o,d⟩:=e;have C:=zh (ra w (zU (some a) (zN ws) c) (ws.map rgW) (v:Nat) (Yu A d) (Yk o) (by omega) (by omega));have t:=SF (ws.map rgW) (v:Nat);have b:Hid (X=if(kU (ws.map rgW) (v:Nat)).2=0 then min (kU (ws.map rgW) (v:Nat)).1.toNat cD else cD):=zh j;generalize kU (ws.map rgW) (v:Nat)=q at*;obtain⟨D,x⟩:=q;simp only at C b t;generalize zN ws=m at*;have g:∀W,(binOp BinOp.eql 124 (Value.slice (some a) m c) (Value.slice none 0 0)).run zz W= .ok (zW false) W:=λW=>by kernel_rfl
  go_enter func140,ntmps140;go_wp2;refine zK C λw2 l=> ?_;have r:=zh l;by_cases k:x=0
  .subst k;have⟨E,F⟩:=t rfl;have f:Hid (((X:Nat):Int)=min D 1099511627777):=zh (by rw[b,DP rfl];unfold cD;omega);go_wp2;go_ret;exact⟨by rw[f];rfl,r⟩
  have s:(x !=0)=true:=by simpa using k
  have f:Hid (X=1099511627777):=zh (by rw[b,DK k];rfl);go_wp2;go_ret;exact⟨by rw[f];rfl,r⟩
def wA (n:Nat):Array Value:=(List.replicate n (Value.slice none 0 0)).toArray
def Vn {n i:Nat} (h:i<n):(wA n)[i]? =some (zU none 0 0):=by simp[wA,h]
def Wq:(zz.info? 124).map (λi=>(i.zero,i.size,i.bytes))=some (some (zU none 0 0),1,24):=by kernel_rfl
def TN:madeCells (Value.slice none 0 0).cells (n*1)=wA n:=by
 apply Array.ext
 .simp[madeCells,wA]
 intro i a b;simp[madeCells,wA,Value.cells,Nat.mod_one]
def tV (e:n<=1000) (W:World):(Instr.makeSlice 217 (zI zi (n:Int)) (zI zi (n:Int))).run zz W= .ok (zU (some ⟨W.heap.size,0,none⟩) n n) (W.alloc (zC (wA n) 124)):=by have⟨i,hi,d,c,b⟩:=EX Wq;have a:=run_make (P:=zz) W 217 124 i (zU none 0 0) underlying217 hi d .i64 .i64 n n (by omega) (by omega) (by rw[b];omega) (by omega);rw[c] at a;simp only[Eh] at a;rw[TN] at a;exact a
def wgV (gb:Nat):Value:= .func (.func 140) #[] #[zP gb]
theorem To {w:World} {p:Pb} {A1 A2 A3 A4 A5:Option Addr} {c1 c2 c3 c4 c5:Nat} (hp:PIn w p A1 A2 A3 A4 A5 c1 c2 c3 c4 c5) (R:PSm p) (S:PV p) (J:∀d∈p.d,zN d.ws≠0):
  Calls zz 78 #[pbV p A1 A2 A3 A4 A5 c1 c2 c3 c4 c5] w λe w'=>∃gb,e=zE (wgV gb)/\WgS w' p (zN p.d) (zN p.v) gb/\zL w w':=by
 have ah:=zm;have MW:=tV (zN p.v) R.nv;have HD:=zh hp.d.dss;have z:=zh λk (h:k<zN p.d) i=>Rr (i:=i) S h;have y:Hid (∀i,i<zN p.v->∃v,(wA (zN p.v))[i]? =some v/\WcR w v (qw p 0 i)):=zh λi hi=>⟨_,Vn hi,rfl⟩;have B:=zh λk (h:k<zN p.d)=>(⟨(S.d k h).1,J _ (getD_in ds0 h),(S.d k h).2.2.2,R.nw _ (getD_in ds0 h)⟩:bY p.v (zG p.d k ds0).var=true/\(zG p.d k ds0).ws.length≠0/\(∀x∈(zG p.d k ds0).ws,dG x=true)/\(zG p.d k ds0).ws.length<=1000);have l4:=R.nd;have⟨t,C⟩:=zvh (zN p.v);have⟨n4,V⟩:=zvh (zN p.d);unfold pbV wgV;rw[<-C] at MW y⊢;rw[<-V] at HD z B l4⊢;generalize zN p.h=n2,zN p.s=n3,zN p.g=n5 at*;clear hp R S J;go_enter func78,ntmps78;go_upto_region 1 with fail;generalize f:w.alloc _=w1 at*;have⟨g,P⟩:=zB1 f;clear f;have af:=za P 0;have M1:=MW w1;go_upto_region 2 with fail;have Z:=g.size;generalize f:w1.alloc _=zw1 at*;generalize N:zw1.alloc _=w2 at*;have⟨j,m,n⟩:=zA2 f N;clear f N;replace⟨P,g⟩:=zb2 P g j;clear j;have ag:=za P 3;go_wp2;have K:=n.lt;have⟨gr,H⟩:=zv (w1.heap.size);rw[<-H] at m n K Z⊢;clear H;go_loopw [13] (λiv wr=>∃(k:Nat) (cur:Array Value),k<=n4/\iv=zI zi k/\Box wr gr cur 124/\cur.size=t/\Box wr (gr+1) #[zU (some ⟨gr,0,none⟩) t t] 217/\Hid (∀i,i<t->∃v,cur[i]? =some v/\WcR w v (qw p k i))/\zL w wr) (λiv _=>n4+1-(intOf iv).toNat)
 .exact⟨0,_,DH _,rfl,m,by simp[wA],n,y,g⟩
 obtain⟨k,cur,hk,rfl,M,X,L,s,G⟩:=hrel;have⟨m,n,g⟩:=zk3 M L G;clear M L G;by_cases l:k<n4
 .have⟨I,k0⟩:=zln l;obtain⟨A',c',e1, -,hx⟩:=HD;simp only[DQ] at e1;obtain⟨rfl, -,rfl⟩:=e1;have⟨b,o,q,e2,F,y0,y1,r⟩:=hx k l;subst e2;have⟨Q,d2,d3,d4⟩:=B k l;have W:=zh (z k l);generalize zG p.d k ds0=d at*;obtain⟨dv,ws⟩:=d;simp only at*;unfold bY at Q;simp only[DW,Ef] at Q;rw[<-C] at Q;obtain⟨vi,rfl⟩:∃vi:Nat,dv=vi:=⟨dv.toNat,by omega⟩;obtain⟨aq,cq,rfl⟩:∃a c,q=zU (some a) (zN ws) c:=by
   obtain⟨A,c,e, -⟩:=r.wts;cases A with
   |none=>obtain⟨A2,c2,e3, -,ab⟩:=r.wts;obtain⟨b2,o2,e4, -⟩:=ab 0 (by omega);rw[e,e4] at e3;simp at e3
   |some a=>exact⟨a,c,e⟩
  have D:=zh r;have v0:=(g.cell F).trans y0;have v1:=(g.cell F).trans y1;have ai:=zn0 vi;have aj:(vi:Int)<(t:Int):=by omega
  have⟨wl,E⟩:=zvh (zN ws);rw[<-E] at v1 D;have⟨T,U⟩:=zk2 d3 d4;clear hx y0 y1 r Q d2 d3 d4;go_upto_region 5 with fail;clear v0 v1;generalize f:wr.alloc _=w3 at*;have⟨j,XD⟩:=zA1 f;clear f;replace⟨m,n,g⟩:=zb3 m n g j;clear j;have x1:=m.lt;have x2:=m.frozen vi;obtain⟨u0,aa, -⟩:=s vi (by omega);have x3:=m.A vi _ aa;obtain⟨ad,ae⟩:=zc2 XD;have ac:=za n 0;go_wp2;have u:Hid (∀i,i<t->∃v,(cur.setIfInBounds vi (zU (some aq) wl cq))[i]? =some v/\WcR w v (qw p (k+1) i)):=zh λi hi=>by
   rw[W i];by_cases e:i=vi
   .subst e;rw[DP rfl];refine⟨_,by rw[Array.getElem?_setIfInBounds_self_of_lt (by omega)],aq,cq,by rw[E], ?_,T,U⟩;exact D
   rw[DK (by omega),Fx (FA e)];exact s i hi
  go_roundw
  .exact⟨k+1,_,by omega,by go_num,m.set_ vi _,by rw[Array.size_setIfInBounds];exact X,n.setNe ⟨gr,vi,none⟩ _ (by show gr≠gr+1;omega),u,g.setCell (p:=⟨gr,vi,none⟩) (by show _<=gr;omega) _⟩
  simp[intOf];omega
 have I:=zge l;have Y:k=n4:=by omega
 subst Y;go_wp2;go_ret;refine⟨gr+1,rfl,⟨gr,cur,n,m,λi hi=> ?_⟩,g⟩;have⟨v,h1,h2⟩:=s i hi;exact⟨v,h1,h2.Q g⟩
end
def yu (w:World) (A:Option Addr) (n c:Nat) (d:n<=c):Calls zz 149 #[zU A n c] w (zS (zU A n n) w):=by
 have a:(n:Int)<=(c:Int):=by omega
 have b:=zn0 n;go_enter func149,ntmps149;go_wp2;go_ret;exact⟨rfl,rfl⟩
def ue (w:World) (gs:Nat) (A1:Option Addr) (c1:Nat) (H S D G I LV DG:Value) (root:Nat) (small:Bool) (J:Value) (vars:List Vr) (z:Box w gs (spC (zU A1 (zN vars) c1) H S D G I LV DG root small J) 89) (M:Rs vrR w (zU A1 (zN vars) c1) vars ah) (i v:Nat) (hi:i<zN vars):Calls zz 150 #[zP gs,zI zi i,zI zi v] w (NxR w 1 (eqX (zG vars i vr0).s v)):=by
 obtain⟨T,U,e1, -,t⟩:=M.vrs;have⟨b,o,K,s,c⟩:=t i hi;simp only[DQ,true_and] at e1;obtain⟨rfl,rfl⟩:=e1;subst K;have C:=c 0 _ rfl;rw[Eb] at C;unfold spC at z;have x0:=z.A 0 _ rfl;have u:=z.lt;generalize(zG vars i vr0).s=nm,zN vars=P at*;have W:=zn0 i;have X:(i:Int)<(P:Int):=by omega
 go_enter func150,ntmps150;go_upto_region 1 with fail;have Q:=((ab w (zC #[zI zi 0,zI zi 0,zV ⟨#[]⟩,zU none 0 0] 79)).cell (p:=⟨gs,0,none⟩) u).trans x0;have R:=((ab w (zC #[zI zi 0,zI zi 0,zV ⟨#[]⟩,zU none 0 0] 79)).cell (p:=⟨b,o+i*4,none⟩) s).trans C;generalize A:w.alloc _=w1 at*;have⟨E,d⟩:=zB1 A;obtain⟨e,f,g,h⟩:=zc4 d;have a:=d.lt;have k:=d.Z 0;have l:=d.Z 1;have m:=d.Z 2;have n:=d.Z 3;go_wp2;refine D7 (v:=zX #[zI zi 15,zI zi 0,zV ⟨#[]⟩,zU (some ⟨w1.heap.size,0,none⟩) 2 2]) (by simp[results,results150,go_sem,e,f,g,h,a]) rfl ?_;have N:=a;have r:=jy E (DE _) (zI zi 15) (zI zi 0) (zV ⟨#[]⟩) (zU (some ⟨w1.heap.size,0,none⟩) 2 2);have j:=rn w1 w.heap.size (zI zi 15) (zI zi 0) (zV ⟨#[]⟩) (zU (some ⟨w1.heap.size,0,none⟩) 2 2);unfold m8 at j;generalize(((w1.setCell ⟨w.heap.size,0,none⟩ (zI zi 15)).setCell ⟨w.heap.size,1,none⟩ (zI zi 0)).setCell ⟨w.heap.size,2,none⟩ (zV ⟨#[]⟩)).setCell ⟨w.heap.size,3,none⟩ (zU (some ⟨w1.heap.size,0,none⟩) 2 2)=w2 at*;have B:=Rs.two (φ:=exR 1) (w:=w2) (F:=λb=>w.heap.size<=b) (us:=[zI zi 2,zI zi 0,zV nm,zU none 0 0]) (vs:=[zI zi 1,zI zi v,zV ⟨#[]⟩,zU none 0 0]) (x:=lU nm) (y:=gP v) (pU w2 0 2 0 nm _) (pU w2 0 1 (v:Nat) ⟨#[]⟩ _) 79;rw[j] at B;exact⟨_,2,rfl,B,λV q L=>by simp only[Value.ownBlock,DN] at L;omega,aa r (ab _ _)⟩
structure EnP (w:World) (p:Pb) (A1 A2 A3 A4 A5:Option Addr) (c1 c2 c3 c4 c5:Nat):Prop where
 hp:PIn w p A1 A2 A3 A4 A5 c1 c2 c3 c4 c5
 sm:PSm p
 kw:KW w
 ml:de w
 pv:PV p
 h18:fa (bE p.v)<=18
 hn:zN p.h+zN p.d+zN p.s<=900
def EnP.Q {w w':World} {p:Pb} {A1 A2 A3 A4 A5:Option Addr} {c1 c2 c3 c4 c5:Nat} (h:EnP w p A1 A2 A3 A4 A5 c1 c2 c3 c4 c5) (a:zL w w'):EnP w' p A1 A2 A3 A4 A5 c1 c2 c3 c4 c5:=⟨h.hp.Q a,h.sm,h.kw.Q a,h.ml.Q a,h.pv,h.h18,h.hn⟩
instance {w w':World} {p:Pb} {A1 A2 A3 A4 A5:Option Addr} {c1 c2 c3 c4 c5:Nat}:Zm w w' (EnP w p A1 A2 A3 A4 A5 c1 c2 c3 c4 c5) (EnP w' p A1 A2 A3 A4 A5 c1 c2 c3 c4 c5):=⟨λhb h=>EnP.Q h hb⟩
def PW {l:List Vr} {k:Nat} (h:k<zN l):(ai l).take (k+1)=(ai l).take k++[(zG l k vr0).s]:=by unfold ai;rw[cI (d:=⟨#[]⟩) (by rw[DT];exact h)];congr 2;rw[DC,Ed,DC,DD h];rfl
section
variable {w:World} {p:Pb} {A1 A2 A3 A4 A5:Option Addr} {c1 c2 c3 c4 c5:Nat}
def Tc (E:EnP w p A1 A2 A3 A4 A5 c1 c2 c3 c4 c5) (l:List Ex) (Al:Option Addr) (cl:Nat) (hr:Rs (exR KE) w (zU Al (zN l) cl) l ah) (hl:zN l<=1000) (n:∀e∈l,jm (ai p.v) e):Calls zz 280 #[pbV p A1 A2 A3 A4 A5 c1 c2 c3 c4 c5,zU Al (zN l) cl] w (zR (zI zi 0) w):=by
 have CE:=zh (evC E.hp E.sm E.kw E.ml E.pv);have HX:=zh hr.exs;have HE:=zh λW f (j:Nat) (hj:j<zN l) (A:Option Addr) (c:Nat) (h:Rs (exR 29) W (zU A (zG l j ex0).a.length c) (zG l j ex0).a ah)=>by have R:=n _ (getD_in ex0 hj);have h1:=mD W (zG l j ex0) 29 A c R.z (E.kw.Q f) (E.ml.Q f) h (by decide) R.len;have e1:fZ (29+1) (zG l j ex0)=0:=R.ok.1;rw[e1] at h1;exact h1
 have HA:=zh fun(W:World) (j:Nat) (hj:j<zN l) (A:Option Addr) (c:Nat) (h:Rs (exR 29) W (zU A (zG l j ex0).a.length c) (zG l j ex0).a ah)=>by have R:=n _ (getD_in ex0 hj);have h2:=j9 W (zG l j ex0) 29 A c R.z h R.len;have U:dm gH (ax (29+1) (zG l j ex0))=[]:=R.ok.2.1;rw[U] at h2;have Q:=ib ff (ax (29+1) (zG l j ex0)) [];rw[D8,DY] at Q;exact And.intro h2 (And.intro (mE W (zG l j ex0) 29 A c R.z h R.len) (And.intro (show(dm ff (ax (29+1) (zG l j ex0))).length<=1000 from D2 Q R.len) R.ok.2.2))
 have⟨N,hN⟩:=zv (zN l);rw[<-hN] at HX HE HA hl⊢;have HV:=zh E.hp.v.vrs;have am:=zh λk (h:k<zN p.v)=>PW h;have an:=zh λk (h:k<zN p.v)=>E.sm.nz _ (getD_in vr0 h);have aN:=E.pv.v.len;have aj:Hid ((ai p.v).take (zN p.v)=ai p.v):=zh (by rw[En];unfold ai;rw[DT];exact DE _);have ak:Hid (∀k,k<=zN p.v->((ai p.v).take k).length=k):=zh λk h=>by rw[D3];unfold ai;rw[DT];omega
 have aI:Hid (∀s∈ai p.v,s.size<=maxLen):=zh λs hs=>by obtain⟨v,hv,rfl⟩:=EJ.1 hs;exact E.sm.nz v hv
 unfold EvC at CE;unfold pbV at CE⊢;have⟨n1,aw⟩:=zv (zN p.v);rw[<-aw] at CE HV am an aj ak aN⊢;generalize ai p.v=NM,zN p.h=n2,zN p.s=n3,zN p.d=n4,zN p.g=n5 at*;clear hr n hN aw;go_enter func280,ntmps280;go_upto_region 1 with fail;generalize t:w.alloc _=w1 at*;have⟨a,z⟩:=zB1 t;clear t;obtain⟨ao,aP,aQ,aR,aS⟩:=zc5 z;go_wp2;refine zK (CE w1 a) λw2 f=> ?_;replace⟨z,a⟩:=zb2 z a f;clear f;go_wp2;go_loopw [19] (λi wr=>∃k:Nat,k<=N/\i=zI zi k/\Box wr w.heap.size #[zU A1 n1 c1,zU A2 n2 c2,zU A3 n3 c3,zU A4 n4 c4,zU A5 n5 c5] 27/\zL w wr) (λi _=>N+1-(intOf i).toNat)
 .exact⟨0,DH _,rfl,z,a⟩
 obtain⟨k,hk,rfl,hx,f⟩:=hrel;have⟨z,a⟩:=zk2 hx f;clear hx f;by_cases P:k<N
 .have⟨au,k0⟩:=zln P;have⟨A',c',e1,_,T⟩:=HX.out;obtain⟨b,o,u,d',U,I,M,d,n, -⟩:=T k (by omega);simp only[DQ] at e1;obtain⟨rfl, -,rfl⟩:=e1;subst U;obtain rfl:d'=29:=by unfold KE at M;omega
  obtain⟨Au,cu,rfl, -⟩:=n.slice;obtain⟨v0,v1,v2,v3⟩:=zx4 a I d;rw[Eb] at v0;have CV:=zh λW f=>HE W f k (by omega) Au cu (n.Q f);unfold exV at CV;generalize zG l k ex0=y at*;have⟨yo,H⟩:=zv (y.op);have⟨yn,G⟩:=zv (y.n);have⟨ym,F⟩:=zv (y.s);have⟨yl,D⟩:=zv (zN y.a);rw[<-H,<-G,<-F,<-D] at CV;rw[<-H] at v0;rw[<-G] at v1;rw[<-F] at v2;rw[<-D] at v3;clear T d n I M H G F D;go_upto_region 6 with fail;clear v0 v1 v2 v3;generalize t:wr.alloc _=w5 at*;have⟨g,X⟩:=zA1 t;clear t;replace⟨z,a⟩:=zb2 z a g;clear g;obtain⟨Y,Z,ac,ad⟩:=zc4 X;go_wp2;refine zK (CV w5 a) λw6 f=> ?_;replace⟨z,a⟩:=zb2 z a f;clear f;go_wp2;go_roundw
  .exact⟨k+1,by omega,by go_num,z,a⟩
  simp[intOf];omega
 have au:=zge P;have aU:=@run_makeMap zz;go_upto_region 10 with fail;have B:=zh (jl.new wr);have g:=ab wr (.map #[] 0);have aB:=zh a.size;have aV:w.heap.size<wr.heap.size:=z.lt;replace⟨z,a⟩:=zb2 z a g;clear g;generalize wr.alloc (.map #[] 0)=w7,wr.heap.size=gm at*;have aF:Hid (jl w7 gm (NM.take 0)):=B;have ao:=za z 0;go_wp2;go_loopw [31] (λi wr=>∃k:Nat,k<=n1/\i=zI zi k/\jl wr gm (NM.take k)/\Box wr w.heap.size #[zU A1 n1 c1,zU A2 n2 c2,zU A3 n3 c3,zU A4 n4 c4,zU A5 n5 c5] 27/\zL w wr) (λi _=>n1+1-(intOf i).toNat)
 .exact⟨0,DH _,rfl,aF,z,a⟩
 obtain⟨q,hq,rfl,C,hx,f⟩:=hrel;have⟨z,a,B⟩:=zk3 hx f C;clear hx f C;by_cases x:q<n1
 .have⟨S,q0⟩:=zln x;obtain⟨A',c',e1, -,K⟩:=HV;have⟨b,o,U,J,d⟩:=K q x;simp only[DQ] at e1;obtain⟨rfl, -,rfl⟩:=e1;subst U;obtain⟨y0,y1,y2,y3⟩:=zx4 a J d;rw[Eb] at y0;have az:=an q x;have al:=zh (am q x);have Q:=ak q hq;generalize zG p.v q vr0=vr at*;obtain⟨nm,wd,md,vl⟩:=vr;simp only at y0 y1 y2 y3 az al;clear K d J;go_upto_region 13 with fail;clear y0 y1 y2 y3;generalize t:wr.alloc _=w5 at*;have⟨g,XN⟩:=zA1 t;clear t;replace⟨z,B,a⟩:=zb3 z B a g;clear g;have⟨w9,hu,ay,af⟩:=B.update nm az (by rw[Q];unfold maxLen;omega);have aJ:=zh (z.grown af (by omega));have aA:=zh (a.grown af a.size (λk e=>by cases e;exact aB));have aG:Hid (jl w9 gm (NM.take (q+1))):=zh (by rw[al];exact ay);clear ay af Q;have aO:=za XN 0;go_wp2;go_roundw
  .exact⟨q+1,by omega,by go_num,aG,aJ,aA⟩
  simp[intOf];omega
 have⟨S,aM⟩:=zgq hq x;subst aM;have aH:Hid (jl wr gm NM):=zh (by have:=B.out;rw[aj] at this;exact this);go_wp2;go_loopw [41] (λi wr=>∃k:Nat,k<=N/\i=zI zi k/\jl wr gm NM/\zL w wr) (λi _=>N+1-(intOf i).toNat)
 .exact⟨0,DH _,rfl,aH,a⟩
 obtain⟨k,hk,rfl,C,f⟩:=hrel;have⟨a,B⟩:=zk2 f C;clear f C;by_cases P:k<N
 .have⟨av,k0⟩:=zln P;obtain⟨A',c',e1,_,T⟩:=HX;obtain⟨b,o,u,d',U,I,M,d,n, -⟩:=T k (by omega);simp only[DQ] at e1;obtain⟨rfl, -,rfl⟩:=e1;subst U;obtain rfl:d'=29:=by unfold KE at M;omega
  obtain⟨Au,cu,rfl, -⟩:=n.slice;obtain⟨v0,v1,v2,v3⟩:=zx4 a I d;rw[Eb] at v0;have CA:=zh λW f=>HA W k (by omega) Au cu (n.Q f);unfold exV at CA;generalize zG l k ex0=y at*;have⟨yo,H⟩:=zv (y.op);have⟨yn,G⟩:=zv (y.n);have⟨ym,F⟩:=zv (y.s);have⟨yl,D⟩:=zv (zN y.a);rw[<-H,<-G,<-F,<-D] at CA;rw[<-H] at v0;rw[<-G] at v1;rw[<-F] at v2;rw[<-D] at v3;clear T d n I M H G F D;go_upto_region 18 with fail;clear v0 v1 v2 v3;generalize t:wr.alloc _=w5 at*;have⟨g,X⟩:=zA1 t;clear t;replace⟨B,a⟩:=zb2 B a g;clear g;have CC:=CA w5 a;obtain⟨Y,Z,ac,ad⟩:=zc4 X;go_wp2;refine CC.1.mono ?_;rintro e w6 ⟨v6,rfl,V,f⟩;have CN:=zh (CA w6 (aa a f)).2.1;have aD:=zh CC.2.2.2;have aE:=zh CC.2.2.1;obtain⟨A6,c6,rfl, -⟩:=V;replace⟨B,X,a⟩:=zb3 B X a f;clear f;have aK:([]:List ByteArray).length=0:=rfl;rw[aK];obtain⟨Y,Z,ac,ad⟩:=zc4 X;go_wp2;refine CN.mono ?_;rintro e w7 ⟨v7,rfl,V,f⟩;have ae:=zh V.cellF;obtain⟨A7,c7,rfl, -⟩:=V;replace⟨B,X,a⟩:=zb3 B X a f;clear f;have⟨L,hL⟩:=zv (dm ff (ax (29+1) y));have aC:Hid (∀s∈L,s∈NM):=zh (by rw[hL];exact aD);have aL:zN L<=1000:=by rw[hL];exact aE
  rw[<-hL] at ae⊢;have⟨m,ag⟩:=zvh (zN L);rw[<-ag] at ae aL⊢;clear hL;go_wp2;go_loopw [52] (λi wq=>∃q:Nat,q<=m/\i=zI zi q/\jl wq gm NM/\zL w7 wq/\zL w wq) (λi _=>m+1-(intOf i).toNat)
  .exact⟨0,DH _,rfl,B,DM _ _,a⟩
  obtain⟨q,hq,rfl,C,ap,f⟩:=hrel;have⟨B,a⟩:=zk2 C f;clear C f;by_cases x:q<m
  .have⟨S,q0⟩:=zln x;obtain⟨A8,c8,e1, -,K⟩:=ae;have⟨b8,o8,U,J,aq⟩:=K q x;simp only[DQ] at e1;obtain⟨rfl, -,rfl⟩:=e1;subst U;have y0:=(ap.cell J).trans aq;have ar:=aC (zG L q ⟨#[]⟩) (getD_in _ (by rw[<-ag];exact x));generalize zG L q ⟨#[]⟩=s at*;have aT:=B.lookup s (aI s ar) (r:=true) ((Lib.containsS_iff NM s).2 ar).symm;clear K J aq;go_wp2;go_roundw
   .exact⟨q+1,by omega,by go_num,B,ap,a⟩
   simp[intOf];omega
  have S:=zge x;go_wp2;go_roundw
  .exact⟨k+1,by omega,by go_num,B,a⟩
  simp[intOf];omega
 have av:=zge P;go_wp2;go_ret;exact⟨rfl,a⟩
def tT (E:EnP w p A1 A2 A3 A4 A5 c1 c2 c3 c4 c5) (l:List Ex) (Al:Option Addr) (cl:Nat) (r:Rs (exR KE) w (zU Al (zN l) cl) l ah) (q:zN l<=1000) (j:∀e∈l,jm (ai p.v) e):Calls zz 224 #[pbV p A1 A2 A3 A4 A5 c1 c2 c3 c4 c5,zU Al (zN l) cl] w (zR (zY #[zW (cJ p l),zI zi 0]) w):=by have n:=zh fun(W:World) (a:zL w W)=>Tc (E.Q a) l Al cl (r.Q a) q j;have o:=zh fun(W:World) (a:zL w W)=>pr (E.hp.Q a) E.sm (E.kw.Q a) (E.ml.Q a) E.pv E.h18 l Al cl (r.Q a) q j;generalize cJ p l=sb at*;unfold pbV at n o⊢;generalize zN p.v=n1,zN p.h=n2,zN p.s=n3,zN p.d=n4,zN p.g=n5,zN l=m at*;go_enter func224,ntmps224;go_upto_region 1 with fail;generalize k:w.alloc _=w1 at*;have⟨b,c⟩:=zB1 k;obtain⟨d,f,g,h,i⟩:=zc5 c;go_wp2;refine zK (n w1 b) λw2 a=> ?_;replace⟨c,b⟩:=zb2 c b a;obtain⟨d,f,g,h,i⟩:=zc5 c;go_wp2;refine zK (o w2 b) λs a=> ?_;replace⟨c,b⟩:=zb2 c b a;go_wp2;go_ret2;exact⟨rfl,b⟩
end
section
variable {d:List Nd} {x:Value} {w:World}
def Yc {p:Pb} (h:cJ p (bK p)=true):∀d∈p.d,zN d.ws≠0:=λd c f=>by
 obtain⟨b, -,a⟩:=pp.1 h;obtain⟨y,e, -⟩:=rj (kG.1 a (sB p d) (Fd _ (EJ.2 ⟨d,c,rfl⟩)));have:=List.length_pos_of_mem e;omega
def SpD (w:World) (DG:Value) (root:Nat) (small:Bool) (r:Option (Nat×List Nd)):Prop:=match r with
 |some (t,d)=>small=true/\root=t/\Rs ndR w DG d ah/\DV d/\t<zN d
 |none=>small=false
structure SpR (w:World) (p:Pb) (A1 A2 A3 A4 A5:Option Addr) (c1 c2 c3 c4 c5 gs:Nat) (RU LV DG:Value) (root:Nat) (small:Bool) (gb:Nat):Prop where
 b:Box w gs (spC (zU A1 (zN p.v) c1) (zU A2 (zN p.h) c2) (zU A3 (zN p.s) c3) (zU A4 (zN p.d) c4) (zU A5 (zN p.g) c5) RU LV DG root small (wgV gb)) 89
 ru:Rs (exR KE) w RU (aI p) ah
 lv:IL w LV (cF p)
 wg:WgS w p (zN p.d) (zN p.v) gb
 d:SpD w DG root small (gL (nmV p.v (cF p)) (aI p) 1 cX)
def OpR (w:World) (p:Pb) (A1 A2 A3 A4 A5:Option Addr) (c1 c2 c3 c4 c5:Nat) (e:Ending) (w':World):Prop:=zL w w'∧
 ((cJ p (bK p)=false/\e=zE (zY #[.pointer none,zI zi 11]))\/(cJ p (bK p)=true/\∃gs a LV DG root small gb,e=zE (zY #[zP gs,zI zi 0])/\w.heap.size<=gs/\SpR w' p A1 A2 A3 A4 A5 c1 c2 c3 c4 c5 gs a LV DG root small gb))
def TI {w w':World} (h:Rs ndR w x d ah) (p:w.heap.size<=w'.heap.size) (n:∀q,x.ownBlock=some q->w'.heap[q]? =w.heap[q]?):Rs ndR w' x d ah:=by obtain⟨A,c,rfl,k,h⟩:=h;refine⟨A,c,rfl,k,λm=> ?_⟩;obtain⟨b,o,rfl,g,h⟩:=h m;refine⟨b,o,rfl,DU g p,λj y l=> ?_⟩;have⟨us,e,f⟩:=h j y l;exact⟨us,λi hi=>(World.cell?_of_block (a:=⟨b,o+j*ndR.k+i,none⟩) (n b rfl)).trans (e i hi),f⟩
def wT {g i:Nat} {cs:Array Value} {T:TypeId} {u:Value} (h:Rs ndR w x d ah) (c:NR w x) (j:Box w g cs T) (f:T≠95):Rs ndR (w.setCell ⟨g,i,none⟩ u) x d ah/\NR (w.setCell ⟨g,i,none⟩ u) x:=by have b:∀q,x.ownBlock=some q->(w.setCell ⟨g,i,none⟩ u).heap[q]? =w.heap[q]? :=λq a=>Eo w ⟨g,i,none⟩ u q (λe=>c.box j f q a e);exact⟨TI h (by simp[World.setCell]) b,c.keep λq a _=>b q a⟩
def SP1 (g:Nat) (cs:Array Value) (W:World):Prop:=Box W g cs 27
theorem Po {w:World} {p:Pb} {A1 A2 A3 A4 A5:Option Addr} {c1 c2 c3 c4 c5:Nat} (E:EnP w p A1 A2 A3 A4 A5 c1 c2 c3 c4 c5):
  Calls zz 39 #[pbV p A1 A2 A3 A4 A5 c1 c2 c3 c4 c5] w (OpR w p A1 A2 A3 A4 A5 c1 c2 c3 c4 c5):=by
 have T:=yt E.pv E.sm;have hn:=E.hn;have CR:=zh fun(W:World) (f:zL w W)=>yx (E.hp.Q f) E.sm (E.kw.Q f) (E.ml.Q f) E.pv E.h18 (by omega);have CL:=zh fun(W:World) (f:zL w W)=>vD W p A1 A2 A3 A4 A5 (zN p.h) c1 c2 (zN p.s) c3 (zN p.d) c4 c5 (E.hp.v.Q f) (E.hp.g.Q f) (evC (E.hp.Q f) E.sm (E.kw.Q f) (E.ml.Q f) E.pv) E.sm.nv E.sm.ng T.gm T.wd;have CW:=zh fun(h:cJ p (bK p)=true) (W:World) (f:zL w W)=>To (E.hp.Q f) E.sm E.pv (Yc h);have CA:=zh fun(W:World) (f:zL w W) (Al:Option Addr) (cl:Nat) (U:Rs (exR KE) W (zU Al (aI p).length cl) (aI p) ah)=>Vi W p T A1 A2 A3 A4 A5 Al c1 (zN p.h) c2 (zN p.s) c3 (zN p.d) c4 c5 cl (E.hp.v.Q f) (E.hp.g.Q f) (evC (E.hp.Q f) E.sm (E.kw.Q f) (E.ml.Q f) E.pv) (E.kw.Q f) (E.ml.Q f) (aI p) KE U (D2 (ew p).2 (by rw[i8];omega)) (λe he=>gQ E.sm E.pv e ((ew p).1 e he));unfold RlR pbV at CR;unfold So at CL;unfold si at CA;unfold wgV at CW;unfold pbV at CW⊢;generalize ap:gL (nmV p.v (cF p)) (aI p) 1 cX=AB at*;have V:=zh ap;have⟨g,o⟩:=zvh (zN p.v);have⟨A,K⟩:=zvh (zN p.h);have⟨B,L⟩:=zvh (zN p.s);have⟨C,s⟩:=zvh (zN p.d);have⟨D,M⟩:=zvh (zN p.g);rw[<-o,<-K,<-L,<-s,<-M] at CR CL CW CA⊢;have X:Hid ((cF p).length=zN p.v):=zh (by unfold cF;rw[fU,Es]);go_enter func39,ntmps39;go_upto_region 1 with fail;generalize aF:w.alloc _=w1 at*;have⟨c,l⟩:=zB1 aF;obtain⟨aG,aH,aJ,aK,aL⟩:=zc5 l;go_wp2;refine(CR w1 c).mono ?_;rintro e w2 ⟨f,⟨z,rfl⟩|⟨z,v,rfl,ag⟩⟩
 .skip;replace⟨l,c⟩:=zb2 l c f;go_wp2;go_ret2;exact⟨c,zQ ⟨z,by trivial⟩⟩
 skip;replace⟨l,c⟩:=zb2 l c f;have k:=zh ag;obtain⟨Al,cl,e1, -⟩:=ag.slice;subst e1;go_upto_region 4 with fail;refine zhd (SP1 w.heap.size #[zU A1 g c1,zU A2 A c2,zU A3 B c3,zU A4 C c4,zU A5 D c5]) l (λhS=> ?_);have ar:zL w2 w2.drew:=ae _;replace⟨l,k,c⟩:=zb3 l k c ar;generalize w2.drew=w3 at*;refine zt 0 (zX #[zU A1 g c1,zU A2 A c2,zU A3 B c3,zU A4 C c4,zU A5 D c5]) rfl (zQ ⟨by rfl,λW m=>by have q0:=m.A 0 _ rfl;have q1:=m.A 1 _ rfl;have q2:=m.A 2 _ rfl;have q3:=m.A 3 _ rfl;have q4:=m.A 4 _ rfl;go_simp⟩) ?_;refine zta 1 (zU Al (aI p).length cl) rfl ?_;simp only[zp];refine zt 2 (zX #[zU A1 g c1,zU A2 A c2,zU A3 B c3,zU A4 C c4,zU A5 D c5]) rfl (zQ ⟨by rfl,λW m=>by have q0:=m.A 0 _ rfl;have q1:=m.A 1 _ rfl;have q2:=m.A 2 _ rfl;have q3:=m.A 3 _ rfl;have q4:=m.A 4 _ rfl;go_simp⟩) ?_;simp only[zp];refine zt 4 (zX #[zU A1 g c1,zU A2 A c2,zU A3 B c3,zU A4 C c4,zU A5 D c5]) rfl (zQ ⟨by rfl,λW m=>by have q0:=m.A 0 _ rfl;have q1:=m.A 1 _ rfl;have q2:=m.A 2 _ rfl;have q3:=m.A 3 _ rfl;have q4:=m.A 4 _ rfl;go_simp⟩) ?_;simp only[zp];refine ay 3 rfl ?_;go_wp2;refine(CL w3 c).mono ?_;rintro e w4 ⟨H,rfl,aM,az,f⟩;have Y:=zh az;replace⟨l,k,c⟩:=zb3 l k c f;go_wp2;refine⟨rfl,l, ?_⟩;refine ay 5 rfl ?_;go_wp2;refine(CW z w4 c).mono ?_;rintro e b ⟨gb,rfl,ax,f⟩;have N:=zh ax;replace⟨l,k,Y,c⟩:=zb4 l k Y c f;go_wp2;refine⟨rfl,l, ?_⟩;refine ay 6 rfl ?_;go_wp2;refine⟨rfl,l, ?_⟩;refine ay 7 rfl ?_;go_wp2;have S:=ab b (zC #[zU A1 g c1,zU A2 A c2,zU A3 B c3,zU A4 C c4,zU A5 D c5,zU Al (aI p).length cl,zU (some ⟨H,0,none⟩) g g,zU none 0 0,zI zi 0,zW false,wgV gb] 89);have a:=zh (Box.new b 89 #[zU A1 g c1,zU A2 A c2,zU A3 B c3,zU A4 C c4,zU A5 D c5,zU Al (aI p).length cl,zU (some ⟨H,0,none⟩) g g,zU none 0 0,zI zi 0,zW false,wgV gb]);have ak:=zh c.size;replace l:=zb l S;have aj:=zh S;have I:=zh k;have Z:=zh Y;have J:=zh N;replace⟨k,Y,N,c⟩:=zb4 k Y N c S;refine⟨rfl,l, ?_⟩;unfold wgV at*;generalize b.alloc (zC (#[zU A1 g c1,zU A2 A c2,zU A3 B c3,zU A4 C c4,zU A5 D c5,zU Al (aI p).length cl,zU (some ⟨H,0,none⟩) g g,zU none 0 0,zI zi 0,zW false,.func (.func 140) #[] #[zP gb]]) 89)=w6 at*;refine ay 8 rfl ?_;go_wp2;refine⟨rfl,l,zdn ?_⟩;have af:=ak.out;have j:=zh aj;obtain⟨aO,aP,aQ,aR,aS⟩:=zc5 l;have CB:=zh (CA w6 c Al cl k);go_wp2;refine CB.mono ?_;rintro e w7 ⟨f,U⟩;cases AB with
 |none=>
  simp only at U;subst U;have a:=a;have aq:=f;replace⟨a,c,j⟩:=zb3 a c j f;have r:=zh ((j.setCell (p:=⟨b.heap.size,7,none⟩) (DE _) (zU none 0 0)).setCell (p:=⟨b.heap.size,8,none⟩) (DE _) (zI zi 0));have q:=zh ((a.set_ 7 (zU none 0 0)).set_ 8 (zI zi 0));have n:=zh ((c.setCell (p:=⟨b.heap.size,7,none⟩) (by show w.heap.size<=b.heap.size;omega) (zU none 0 0)).setCell (p:=⟨b.heap.size,8,none⟩) (by show w.heap.size<=b.heap.size;omega) (zI zi 0));obtain⟨aa,ac⟩:=zd2 a 7 8;have y:=a.lt;have P:=a.Z 7;have Q:=a.Z 8;go_upto_region 6 with fail;generalize(w7.setCell ⟨b.heap.size,7,none⟩ (zU none 0 0)).setCell ⟨b.heap.size,8,none⟩ (zI zi 0)=w8 at*;have a:Hid (Box w8 b.heap.size #[zU A1 g c1,zU A2 A c2,zU A3 B c3,zU A4 C c4,zU A5 D c5,zU Al (aI p).length cl,zU (some ⟨H,0,none⟩) g g,zU none 0 0,zI zi 0,zW false,.func (.func 140) #[] #[zP gb]] 89):=q;have c:=n;have j:=zh (r.setCell (p:=⟨b.heap.size,9,none⟩) (DE _) (zW false));have q:=zh (a.set_ 9 (zW false));have n:=zh (c.setCell (p:=⟨b.heap.size,9,none⟩) (by show w.heap.size<=b.heap.size;omega) (zW false));have ad:=za a 9;have y:=a.lt;have R:=a.Z 9;go_upto_region 7 with fail;generalize w8.setCell ⟨b.heap.size,9,none⟩ (zW false)=w9 at*;have a:Hid (Box w9 b.heap.size #[zU A1 g c1,zU A2 A c2,zU A3 B c3,zU A4 C c4,zU A5 D c5,zU Al (aI p).length cl,zU (some ⟨H,0,none⟩) g g,zU none 0 0,zI zi 0,zW false,.func (.func 140) #[] #[zP gb]] 89):=q;have c:=n;go_wp2;go_ret2;refine⟨c,zO ⟨z,b.heap.size,zU Al (aI p).length cl,zU (some ⟨H,0,none⟩) g g,zU none 0 0,0,false,gb,by trivial,af, ?_⟩⟩;refine⟨?_,I.Q j,lI (Z.Q j) g (by rw[X,o]),by rw[<-o,<-s];exact J.Q j, ?_⟩
  .unfold spC wgV;rw[<-o,<-K,<-L,<-s,<-M];exact a
  rw[V];exact rfl
 |some td=>
  obtain⟨t,d⟩:=td;simp only at U;obtain⟨x,rfl,ai,av,au, -,aw⟩:=U;obtain⟨F,G,e1, -⟩:=ai.slice;subst e1;have a:=a;have aq:=f;replace⟨a,c,j⟩:=zb3 a c j f;have r:=zh ((j.setCell (p:=⟨b.heap.size,7,none⟩) (DE _) (zU F (zN d) G)).setCell (p:=⟨b.heap.size,8,none⟩) (DE _) (zI zi t));have ao:=a.set_ 7 (zU F (zN d) G);have⟨aA,aB⟩:=wT (i:=7) (u:=zU F (zN d) G) ai av a (by decide);have⟨aC,aD⟩:=wT (i:=8) (u:=zI zi t) aA aB ao (by decide);have⟨al,an⟩:=zk2 aC aD;have q:=zh ((a.set_ 7 (zU F (zN d) G)).set_ 8 (zI zi t));have n:=zh ((c.setCell (p:=⟨b.heap.size,7,none⟩) (by show w.heap.size<=b.heap.size;omega) (zU F (zN d) G)).setCell (p:=⟨b.heap.size,8,none⟩) (by show w.heap.size<=b.heap.size;omega) (zI zi t));obtain⟨aa,ac⟩:=zd2 a 7 8;have y:=a.lt;have P:=a.Z 7;have Q:=a.Z 8;go_upto_region 6 with fail;generalize(w7.setCell ⟨b.heap.size,7,none⟩ (zU F (zN d) G)).setCell ⟨b.heap.size,8,none⟩ (zI zi t)=w8 at*;have a:Hid (Box w8 b.heap.size #[zU A1 g c1,zU A2 A c2,zU A3 B c3,zU A4 C c4,zU A5 D c5,zU Al (aI p).length cl,zU (some ⟨H,0,none⟩) g g,zU F (zN d) G,zI zi t,zW false,.func (.func 140) #[] #[zP gb]] 89):=q;have c:=n;have j:=zh (r.setCell (p:=⟨b.heap.size,9,none⟩) (DE _) (zW true));have⟨aE,aN⟩:=wT (i:=9) (u:=zW true) al an a (by decide);have am:=zh aE;have q:=zh (a.set_ 9 (zW true));have n:=zh (c.setCell (p:=⟨b.heap.size,9,none⟩) (by show w.heap.size<=b.heap.size;omega) (zW true));have ad:=za a 9;have y:=a.lt;have R:=a.Z 9;go_upto_region 7 with fail;generalize w8.setCell ⟨b.heap.size,9,none⟩ (zW true)=w9 at*;have a:Hid (Box w9 b.heap.size #[zU A1 g c1,zU A2 A c2,zU A3 B c3,zU A4 C c4,zU A5 D c5,zU Al (aI p).length cl,zU (some ⟨H,0,none⟩) g g,zU F (zN d) G,zI zi t,zW true,.func (.func 140) #[] #[zP gb]] 89):=q;have c:=n;go_wp2;go_ret2;refine⟨c,zO ⟨z,b.heap.size,zU Al (aI p).length cl,zU (some ⟨H,0,none⟩) g g,zU F (zN d) G,t,true,gb,by trivial,af, ?_⟩⟩;refine⟨?_,I.Q j,lI (Z.Q j) g (by rw[X,o]),by rw[<-o,<-s];exact J.Q j, ?_⟩
  .unfold spC wgV;rw[<-o,<-K,<-L,<-s,<-M];exact a
  rw[V];exact⟨rfl,rfl,am,au,aw⟩
end
theorem SpD.Q {w w':World} {DG:Value} {root:Nat} {small:Bool} {r:Option (Nat×List Nd)} (h:SpD w DG root small r) (e:zL w w'):SpD w' DG root small r:=by
 unfold SpD at h⊢;cases r with
 |none=>exact h
 |some td=>obtain⟨a,b,c,d⟩:=h;exact⟨a,b,c.Q e,d⟩
instance {w w':World} {DG:Value} {root:Nat} {small:Bool} {r:Option (Nat×List Nd)}:Zm w w' (SpD w DG root small r) (SpD w' DG root small r):=⟨λhb h=>SpD.Q h hb⟩
def SpR.Q {w w':World} {p:Pb} {A1 A2 A3 A4 A5:Option Addr} {c1 c2 c3 c4 c5 gs:Nat} {b LV DG:Value} {root:Nat} {small:Bool} {gb:Nat} (h:SpR w p A1 A2 A3 A4 A5 c1 c2 c3 c4 c5 gs b LV DG root small gb) (a:zL w w'):SpR w' p A1 A2 A3 A4 A5 c1 c2 c3 c4 c5 gs b LV DG root small gb:=⟨h.b.Q a,h.ru.Q a,h.lv.Q a,h.wg.Q a,h.d.Q a⟩
instance {w w':World} {p:Pb} {A1 A2 A3 A4 A5:Option Addr} {c1 c2 c3 c4 c5 gs:Nat} {RU LV DG:Value} {root:Nat} {small:Bool} {gb:Nat}:Zm w w' (SpR w p A1 A2 A3 A4 A5 c1 c2 c3 c4 c5 gs RU LV DG root small gb) (SpR w' p A1 A2 A3 A4 A5 c1 c2 c3 c4 c5 gs RU LV DG root small gb):=⟨λhb h=>SpR.Q h hb⟩
def ya (p:Pb) (a:List (Int×Int)) (fx:Nat->Option Nat) (g:List Nat):Prop:=∀i∈g,i<zN p.v/\(zG p.v i vr0).m≠0/\bZ a (i:Int)=(fx i).map (λx:Nat=>(x:Int))/\∀x,fx i=some x->x<2^wdN p i
def trG (p:Pb) (fx:Nat->Option Nat) (g:List Nat) (l:List Ex):Nat:=eT (eL p) (λl=> !cJ p l) (wtP p) (wdN p) fx g l
section
variable {w:World} {p:Pb} {A1 A2 A3 A4 A5:Option Addr} {c1 c2 c3 c4 c5 gs:Nat} {RV LV DG:Value} {root:Nat} {small:Bool} {gb:Nat}
theorem ub (E:EnP w p A1 A2 A3 A4 A5 c1 c2 c3 c4 c5) (S:SpR w p A1 A2 A3 A4 A5 c1 c2 c3 c4 c5 gs RV LV DG root small gb) (fv:Value) (aj:List (Int×Int)) (V:FxV w fv aj) (fx:Nat->Option Nat) (g:List Nat) (hg:ya p aj fx g) (a9:zN g<=16)
  (IH:∀i t,g=i::t->∀(W:World) (l:List Ex) (vg:Value) (F:Option Addr) (cr:Nat),zL w W->IL W vg (nI t)->Rs (exR KE) W (zU F (zN l) cr) l ah->zN l+zN t<=1000->(∀e∈l,jm (ai p.v) e)→
   Calls zz 151 #[zP gs,vg,fv,zU F (zN l) cr] W (zR (zI zi ((trG p fx t l:Nat):Int)) W))
  (W:World) (l:List Ex) (vg:Value) (F:Option Addr) (cr:Nat) (a:zL w W) (aL:IL W vg (nI g)) (hr:Rs (exR KE) W (zU F (zN l) cr) l ah) (aE:zN l+zN g<=1000) (J:∀e∈l,jm (ai p.v) e):
  Calls zz 151 #[zP gs,vg,fv,zU F (zN l) cr] W (zR (zI zi ((trG p fx g l:Nat):Int)) W):=by
 have P:=zh fun(W':World) (h:zL W W')=>tT (E.Q (aa a h)) l F cr (hr.Q h) (by omega) J;have n:=zh S.b;have ac:=aL.form;obtain⟨Ag,Q,rfl,aA, -⟩:=aL;rw[aF] at aA⊢;have bh:=zh a;by_cases hs:cJ p l=true
 .rw[hs] at P;cases g with
  |nil=>have HE:Hid (trG p fx [] l=1):=zh (by unfold trG eT;rw[hs];rfl);unfold pbV at P;unfold spC at n;have e0:([]:List Nat).length=0:=rfl;rw[e0];generalize trG p fx [] l=T,zN p.v=n1,zN p.h=n2,zN p.s=n3,zN p.d=n4,zN p.g=n5,zN l=m at*;have y0:=(a.cell (p:=⟨gs,0,none⟩) n.out.lt).trans (n.out.A 0 _ rfl);have y1:=(a.cell (p:=⟨gs,1,none⟩) n.out.lt).trans (n.out.A 1 _ rfl);have y2:=(a.cell (p:=⟨gs,2,none⟩) n.out.lt).trans (n.out.A 2 _ rfl);have y3:=(a.cell (p:=⟨gs,3,none⟩) n.out.lt).trans (n.out.A 3 _ rfl);have y4:=(a.cell (p:=⟨gs,4,none⟩) n.out.lt).trans (n.out.A 4 _ rfl);clear V hg hr J hs a ac e0;go_enter func151,ntmps151;go_wp2;refine zK (P W (DM _ _)) λw2 a=> ?_;have f:=zh a;clear a y0 y1 y2 y3 y4;go_wp2;go_ret;exact⟨by rw[HE.out];rfl,f⟩
  |cons i t=>
   have⟨hi,bc,aC,aB⟩:=hg i (by simp);obtain⟨-,bd, -⟩:=E.pv.v.ok _ (getD_in vr0 hi);have⟨wn,L⟩:=zv (wdN p i);have aM:(zG p.v i vr0).w=(wn:Nat):=by rw[L];unfold wdN;omega
   have D:wn<=8:=by rw[L];unfold wdN;omega
   have ad:∀x,(⟨wn,fx i⟩:Wd).fixed=some x->x<2^wn:=λx h=>by rw[L];exact aB x h
   have ap:=zh fun(W':World) (h:zL W W')=>ua W' gs A1 c1 _ _ _ _ RV LV DG root small (wgV gb) p.v (S.b.Q (aa a h)) (E.hp.v.Q (aa a h)) i hi (by have:=E.pv.v.len;omega) wn aM D fv aj (V.Q (aa a h));rw[yh (v:=⟨wn,fx i⟩) aC,aF] at ap;have ag:=zh (tF (v:=⟨wn,fx i⟩) D ad);have af:=Zj (v:=⟨wn,fx i⟩) D;have CW:=zh fun(W':World) (x:Nat) (hx:x<256) (h:zL W W')=>tZ W' (S.wg.Q (aa a h)) i x hi hx;have aP:=zh fun(W':World) (x:Nat) (h:zL W W')=>ue W' gs A1 c1 _ _ _ _ RV LV DG root small (wgV gb) p.v (S.b.Q (aa a h)) (E.hp.v.Q (aa a h)) i x hi;have aR:=zh fun(W':World) (x:Nat) (hx:x<256) (vg:Value) (F:Option Addr) (cr:Nat) (h:zL W W') (h1:IL W' vg (nI t)) (h2:Rs (exR KE) W' (zU F (eL p l i x).length cr) (eL p l i x) ah)=>IH i t rfl W' (eL p l i x) vg F cr (aa a h) h1 h2 (by
    unfold eL;rw[DI,Ej];rw[DF] at aE;omega) (λe he=>by
    rcases EK.1 he with he|he
    .exact J e he
    rw[ER.1 he];have ho:=E.pv.v.ok _ (getD_in vr0 hi);exact(Re (EJ.2 ⟨_,getD_in vr0 hi,rfl⟩) (nA ho.1) (E.sm.nz _ (getD_in vr0 hi)) (by omega)).ru (by omega) (by omega));have⟨R,al⟩:=zv (λx=>eN (wtP p i x) (trG p fx t (eL p l i x)):Nat->Nat);have aT:Hid (∀x,R x=eN (wtP p i x) (trG p fx t (eL p l i x))):=zh λx=>by rw[al]
   have au:Hid (trG p fx (i::t) l=eC R (aX ⟨wn,fx i⟩)):=zh (by
    show eT _ _ _ _ _ (i::t) l=_;rw[df,hs,<-L,al];rfl);have a2:Hid (∀x,trG p fx t (eL p l i x)<=cD):=zh λx=>yq _ _ _ _ _ _ _;have a3:Hid (∀x,wtP p i x<=cD):=zh λx=>Ok p i x;have⟨ar,aY⟩:=zk2 hr hr;have a0:Hid (∀x,eL p l i x=l++[eqX (zG p.v i vr0).s x]):=zh λx=>rfl;obtain⟨r,q,rfl,U,ak⟩:∃r q,Ag=some ⟨r,q,none⟩/\r<W.heap.size/\∀j,j<(nI (i::t)).length->W.cell? ⟨r,q+j,none⟩=some (zI zi ((nI (i::t)).getD j 0)):=by
    rcases ac with⟨A,c,h1,h2⟩|⟨b,o,c,h1,h2,h3,h4,h5⟩
    .cases h2
    simp only[DQ] at h1;exact⟨b,o,h1.1,h4,h5⟩
   have aN:W.cell? ⟨r,q,none⟩=some (zI zi ((i:Nat):Int)):=ak 0 (by simp[nI]);have aq:Hid (∀j,j<zN t->W.cell? ⟨r,q+1+j,none⟩=some (zI zi ((nI t).getD j 0))):=zh λj hj=>by have:=ak (j+1) (by rw[aF,DF];omega);rw[show q+(j+1)=q+1+j by omega] at this;exact this
   have⟨gl,C⟩:=zv (zN t);have B:=zh C;have e1:(i::t).length=gl+1:=by rw[DF,C]
   rw[e1] at aA a9⊢;rw[<-C] at aq;unfold pbV at P;unfold spC at n;generalize trG p fx (i::t) l=T,aX ⟨wn,fx i⟩=vl,wtP p i=wtp,trG p fx t=TG,eL p l i=ST,(zG p.v i vr0).s=nm,zN p.v=n1,zN p.h=n2,zN p.s=n3,zN p.d=n4,zN p.g=n5 at*;have⟨m,hm⟩:=zv (zN l);have HM:=zh hm;have bi:m<=1000:=by omega
   rw[<-hm] at P ar⊢;have y0:=(a.cell (p:=⟨gs,0,none⟩) n.out.lt).trans (n.out.A 0 _ rfl);have y1:=(a.cell (p:=⟨gs,1,none⟩) n.out.lt).trans (n.out.A 1 _ rfl);have y2:=(a.cell (p:=⟨gs,2,none⟩) n.out.lt).trans (n.out.A 2 _ rfl);have y3:=(a.cell (p:=⟨gs,3,none⟩) n.out.lt).trans (n.out.A 3 _ rfl);have y4:=(a.cell (p:=⟨gs,4,none⟩) n.out.lt).trans (n.out.A 4 _ rfl);have a4:=zh ((a.cell (p:=⟨gs,10,none⟩) n.out.lt).trans (n.out.A 10 _ rfl));have aD:=DU n.out.lt a.size;clear V hg hr J ac ak aE hi bc aC aB bd L aM D ad hs a hm C e1 al;go_enter func151,ntmps151;go_wp2;refine zK (P W (DM _ _)) λw2 a=> ?_;have f:=zh a;have v0:=(a.cell U).trans aN;clear a y0 y1 y2 y3 y4;go_wp2;clear v0;refine(ap w2 f).mono ?_;rintro e w3 ⟨g9,rfl,a8,N,a⟩;have s:=zh N;replace f:=zb f a;clear a N a8;have⟨vn,ao⟩:=zv (zN vl);have aw:=zh ao;rw[<-ao] at af⊢;clear ao;go_wp2;go_loopw [11,40] (λsv iv wr=>∃k:Nat,k<=vn/\iv=zI zi k/\sv=zI zi ((eC R (vl.take k):Nat):Int)/\Box wr g9 (iA (nI vl)) 3/\zL W wr) (λ_ iv _=>vn+1-(intOf iv).toNat)
   .exact⟨0,DH _,rfl,rfl,s,f⟩
   obtain⟨k,hk,rfl,rfl,N,a⟩:=hrel;have⟨s,f⟩:=zk2 N a;clear N a;by_cases am:k<vn
   .have⟨aG,k0⟩:=zln am;have X:k<zN vl:=by rw[<-aw.out];exact am
    have x0:=s.out.A k _ (eH (by rw[aF];exact X));rw[dV] at x0;have M:=ag.out (zG vl k 0) (getD_in 0 X);have av:Hid (eC R (vl.take (k+1))=jD (eC R (vl.take k)) (eN (wtp (zG vl k 0)) (TG (ST (zG vl k 0))))):=zh (by
     rw[cI (d:=0) X,nZ,aT.out]);have aH:=a2.out (zG vl k 0);have aI:=a3.out (zG vl k 0);have a5:=mV R (vl.take k);have a1:=zh (a0 (zG vl k 0));have aS:=zh fun(W':World) h=>CW.out W' (zG vl k 0) M h;have aO:=zh fun(W':World) h=>aP.out W' (zG vl k 0) h;have aQ:=zh fun(W':World)=>aR.out W' (zG vl k 0) M;have⟨s1,an⟩:=zv (eC R (vl.take (k+1)));have aZ:=zh an;rw[<-an] at av;clear an;generalize zG vl k 0=x,ST (zG vl k 0)=l2,TG (ST (zG vl k 0))=sn,wtp (zG vl k 0)=wx,eC R (vl.take k)=s0 at*;clear X;go_upto_region 10 with fail;clear x0;have u:=zh fun(W':World) (h:zL W W')=>(h.cell (p:=⟨r,q,none⟩) U).trans aN;have z:zL wr wr.drew:=ae _;have H:=zh (aa f z);refine zhd (λW'=>W'.cell? ⟨r,q,none⟩=some (zI zi ((i:Nat):Int))) (u _ H) (λhS=> ?_);replace s:=zb s z;replace f:=H;clear z;generalize wr.drew=w4 at*;refine zta 0 (zU F m cr) rfl ?_;refine zta 2 (zP gs) rfl ?_;refine zta 3 (zU (some ⟨r,q,none⟩) (gl+1) Q) rfl ?_;refine zta 4 (.pointer (some ⟨r,q,none⟩)) rfl ?_;refine zta 5 (zI zi i) rfl ?_;refine zta 6 (zI zi x) rfl ?_;simp only[zp];clear hS;have a6:m<=cr:=by
     have⟨A',c',e,h⟩:=ar.out.slice;simp only[DQ] at e;rw[<-HM.out] at h;omega
    refine ay 1 rfl ?_;go_wp2;refine zJ (yu w4 F m cr a6) ?_;go_wp2;refine⟨rfl,u _ f, ?_⟩;refine ay 7 rfl ?_;go_wp2;refine(aO w4 f).mono ?_;rintro e w5 ⟨A6,c6,he,aK,ba,a⟩;have a7:e=zE (zX #[zI zi 15,zI zi 0,zV ⟨#[]⟩,zU A6 2 c6]):=he;subst a7;replace⟨s,f⟩:=zb2 s f a;have aV:=zh (aK.mono (G:=ah) λ_ _=>trivial);clear he aK ba a;go_wp2;refine⟨rfl,u _ f, ?_⟩;refine ay 8 rfl ?_;go_wp2;have az:=ab w5 (zC #[zI zi 15,zI zi 0,zV ⟨#[]⟩,zU A6 2 c6] 79);have aW:Hid (Rs (exR 2) (w5.alloc (zC #[zI zi 15,zI zi 0,zV ⟨#[]⟩,zU A6 2 c6] 79)) (zU (some ⟨w5.heap.size,0,none⟩) 1 1) [eqX nm x] ah):=zh (Rs.one (φ:=exR 2) (w:=w5) (x:=eqX nm x) (us:=[zI zi 15,zI zi 0,zV ⟨#[]⟩,zU A6 2 c6]) ⟨zU A6 2 c6,rfl,aV,λ_ _ _=>trivial⟩ 79);replace⟨s,f⟩:=zb2 s f az;clear az;refine⟨rfl,u _ f, ?_⟩;generalize w5.alloc (zC #[zI zi 15,zI zi 0,zV ⟨#[]⟩,zU A6 2 c6] 79)=w6,w5.heap.size=g6 at*;have⟨v',w7,K,Y,ax⟩:=ki (d:=KE) 23 (DE w6.heap.size) (iJ (aY.out.Q f) (DM _ _)) (iJ (aW.out.exle (show 2<=KE by decide)) (DM _ _)) (by rw[<-HM.out];omega);rw[<-HM.out] at K;rw[<-a1.out] at Y;have I:=zh (jr Y.any);obtain⟨A8,c8,rfl⟩:=Y.slice;replace⟨s,f⟩:=zb2 s f ax;clear Y ax;refine ay 9 rfl ?_;refine cR rfl _ _ 23 23 rfl _ _ rfl rfl K ?_;clear K;refine(show noQ _ _ _ _ from⟨rfl,u _ f, ?_⟩);simp only[zp];refine ay 10 rfl ?_;go_wp2;refine⟨rfl,u _ f,zdn ?_⟩;go_upto_region 11 with fail;have y:=zh fun(W':World) (h:zL W W')=>(⟨(h.cell (p:=⟨gs,10,none⟩) aD).trans a4,u W' h⟩:W'.cell? ⟨gs,10,none⟩=some (wgV gb)/\W'.cell? ⟨r,q,none⟩=some (zI zi ((i:Nat):Int)));unfold wgV at y;have z:zL w7 w7.drew:=ae _;have H:=zh (aa f z);refine zhd (λW'=>W'.cell? ⟨gs,10,none⟩=some (.func (.func 140) #[] #[zP gb])/\W'.cell? ⟨r,q,none⟩=some (zI zi ((i:Nat):Int))) (y _ H) (λhS=> ?_);replace⟨s,I⟩:=zb2 s I z;replace f:=H;clear z;generalize w7.drew=w8 at*;refine zta 0 (zI zi s0) rfl ?_;refine zta 1 (zP gs) rfl ?_;refine zta 2 (zP gs) rfl ?_;refine zta 3 (.pointer (some ⟨gs,10,none⟩)) rfl ?_;simp only[zp];refine zt 4 (.func (.func 140) #[] #[zP gb]) rfl (zQ ⟨by rfl,λW hW=>by obtain⟨q0,q1⟩:=hW;go_simp⟩) ?_;refine zta 5 (zU (some ⟨r,q,none⟩) (gl+1) Q) rfl ?_;refine zta 6 (.pointer (some ⟨r,q,none⟩)) rfl ?_;simp only[zp];refine zt 7 (zI zi i) rfl (zQ ⟨by rfl,λW hW=>by obtain⟨q0,q1⟩:=hW;go_simp⟩) ?_;refine zta 8 (zI zi x) rfl ?_;refine zta 10 (zP gs) rfl ?_;refine zta 11 (zU (some ⟨r,q,none⟩) (gl+1) Q) rfl ?_;simp only[zp];refine zt 12 (zU (if Q=1 then some ⟨r,q,none⟩ else some ⟨r,q+1,none⟩) gl (Q-1)) rfl (zQ ⟨by rfl,λW hW=>by go_simp;intro h9;omega⟩) ?_;refine zta 13 (fv) rfl ?_;refine zta 14 (zU A8 (zN l2) c8) rfl ?_;simp only[zp];clear hS;have aU:Hid (∀W',zL W W'->IL W' (zU (if Q=1 then some ⟨r,q,none⟩ else some ⟨r,q+1,none⟩) gl (Q-1)) (nI t)):=zh λW' h=>by refine⟨_,Q-1,by rw[aF,B.out],by rw[aF,<-B.out];omega,λh0=> ?_⟩;rw[aF,<-B.out] at h0;refine⟨⟨r,q+1,none⟩,by rw[DK (by omega)],DU U h.size,λj hj=> ?_⟩;rw[aF,<-B.out] at hj;rw[cC];exact(h.cell (p:=⟨r,q+1+j,none⟩) U).trans (aq j hj)
    generalize(if Q=1 then some (⟨r,q,none⟩:Addr) else some ⟨r,q+1,none⟩)=At at*;refine ay 9 rfl ?_;go_wp2;refine zK (aS w8 f) λw9 a=> ?_;replace⟨s,I,f⟩:=zb3 s I f a;clear a;go_wp2;refine⟨rfl,y _ f, ?_⟩;refine ay 15 rfl ?_;go_wp2;refine zK (aQ w9 _ A8 c8 f (aU w9 f) I) λbe a=> ?_;replace⟨s,f⟩:=zb2 s f a;clear a;go_wp2;refine⟨rfl,y _ f, ?_⟩;have CT:=zh (yH be wx sn aI aH);have aJ:eN wx sn<=cD:=Nat.min_le_right _ _;generalize eN wx sn=mm at*;refine ay 16 rfl ?_;go_wp2;refine zK CT λbf a=> ?_;replace⟨s,f⟩:=zb2 s f a;clear a;go_wp2;refine⟨rfl,y _ f, ?_⟩;have CP:=zh (Pn bf s0 mm a5 aJ);refine ay 17 rfl ?_;go_wp2;refine zK CP λbj a=> ?_;replace⟨s,f⟩:=zb2 s f a;clear a;go_wp2;refine⟨rfl,y _ f, ?_⟩;refine ay 18 rfl ?_;go_wp2;refine⟨rfl,y _ f,zdn ?_⟩;rw[<-av.out];go_wp2;go_roundw
    .exact⟨k+1,by omega,by go_num,by rw[<-aZ.out],s,f⟩
    simp[intOf];omega
   have⟨aG,bb⟩:=zgq hk am;subst bb;have HE:Hid (T=eC R (vl.take k)):=zh (by rw[au.out,aw.out,Et]);go_wp2;go_ret;exact⟨by rw[HE.out];rfl,f⟩
 have Z:cJ p l=false:=by simpa using hs
 have HE:Hid (trG p fx g l=0):=zh (by
  unfold trG;cases g with
  |nil=>unfold eT;rw[Z];rfl
  |cons i t=>rw[df,Z];rfl);rw[Z] at P;unfold pbV at P;unfold spC at n;generalize zN g=gl,zN l=m,zN p.g=n5,zN p.d=n4,zN p.s=n3,zN p.h=n2,zN p.v=n1,trG p fx g l=T at*;have y0:=(a.cell (p:=⟨gs,0,none⟩) n.out.lt).trans (n.out.A 0 _ rfl);have y1:=(a.cell (p:=⟨gs,1,none⟩) n.out.lt).trans (n.out.A 1 _ rfl);have y2:=(a.cell (p:=⟨gs,2,none⟩) n.out.lt).trans (n.out.A 2 _ rfl);have y3:=(a.cell (p:=⟨gs,3,none⟩) n.out.lt).trans (n.out.A 3 _ rfl);have y4:=(a.cell (p:=⟨gs,4,none⟩) n.out.lt).trans (n.out.A 4 _ rfl);clear V hg hr J hs Z a ac;go_enter func151,ntmps151;go_wp2;refine zK (P W (DM _ _)) λw2 a=> ?_;have f:=zh a;clear a y0 y1 y2 y3 y4;go_wp2;go_ret;exact⟨by rw[HE.out];rfl,f⟩
theorem yG (E:EnP w p A1 A2 A3 A4 A5 c1 c2 c3 c4 c5) (S:SpR w p A1 A2 A3 A4 A5 c1 c2 c3 c4 c5 gs RV LV DG root small gb) (h:Value) (a:List (Int×Int)) (b:FxV w h a) (fx:Nat->Option Nat):∀(g:List Nat),ya p a fx g->zN g<=16→
  ∀(W:World) (l:List Ex) (f:Value) (c:Option Addr) (d:Nat),zL w W->IL W f (nI g)->Rs (exR KE) W (zU c (zN l) d) l ah->zN l+zN g<=1000->(∀e∈l,jm (ai p.v) e)→
   Calls zz 151 #[zP gs,f,h,zU c (zN l) d] W (zR (zI zi ((trG p fx g l:Nat):Int)) W)
 |[],hg,hl=>λW l f c d q k m n o=>ub E S h a b fx [] hg hl (λi r e=>by cases e) W l f c d q k m n o
 |i::g,hg,hl=>λW l f c d q k m n o=>ub E S h a b fx (i::g) hg hl (λt r e=>by simp only[Fm] at e;obtain⟨rfl,rfl⟩:=e;exact yG E S h a b fx g (λj s=>hg j (Ea _ s)) (by rw[DF] at hl;omega)) W l f c d q k m n o
end
section
variable {i j k:Nat}
section
variable {p:Pb}
def Om (i:Nat) (l:List Nat):wsN p (i::l)=wdN p i+wsN p l:=by unfold wsN;rw[FY,List.sum_cons]
def kH (hk:k<zN p.g):∃C,dR p=dj p k++(grN p k++C):=by have⟨C,h⟩:=nt p (k+1);rw[i5 hk,Eg] at h;exact⟨C,h⟩
def iQ (hk:k<zN p.g) (h:i∈grN p k):i∈dR p:=by have⟨C,e⟩:=kH hk;rw[e];simp[h]
def yM (h:i∈dj p k):i∈dR p:=by have⟨C,e⟩:=nt p k;rw[e];simp[h]
def Ve (a:PV p) (hk:k<zN p.g):(grN p k).Nodup:=by have⟨C,e⟩:=kH hk;have:=qQ a;rw[e] at this;exact(List.nodup_append.1 (List.nodup_append.1 this).2.1).1
def Ws (b:PV p) (hk:k<zN p.g) (h:i∈dj p k):i∉grN p k:=λa=>by
 have⟨C,e⟩:=kH hk;have:=qQ b;rw[e] at this;exact(List.nodup_append.1 this).2.2 i h i (EU _ a) rfl
theorem P6 {n:Nat} {g:List Nat} (b:g.Nodup) (h:∀i∈g,i<n):zN g<=n:=by
 have:=oS (λ_=>1) n g b h;have a:∀l:List Nat,(l.map λ_=>1).sum=zN l:=λl=>by
  induction l with
  |nil=>rfl
  |cons x l ih=>rw[FY,List.sum_cons,ih,DF];omega
 rw[a,a,EV] at this;exact this
def rM (a:PV p) (hk:k<zN p.g):(grN p k).length<=16:=D2 (P6 (Ve a hk) λi hi=>(cN a (iQ hk hi)).1) a.v.len
def uT (b:PV p) (hk:k<zN p.g):nI (grN p k)=zG p.g k []:=by
 unfold nI grN;rw[Fe];have h:∀v∈zG p.g k [],0<=v:=λv h=>by have hm:=getD_in [] hk;exact(Px b v (List.mem_flatten.2 ⟨_,hm,h⟩)).1
 conv=>rhs;rw[<-List.map_id (zG p.g k [])]
 refine Fc λv a=> ?_;have:=h v a;show((v.toNat:Nat):Int)=v;omega
def vsG (p:Pb) (fx:Nat->Option Nat) (g:List Nat):List Wd:=g.map λi=>⟨wdN p i,fx i⟩
theorem wi (p:Pb) (fx:Nat->Option Nat):∀g,fH (vsG p fx g)=wsN p g
 |[]=>rfl
 |i::g=>by show wdN p i+fH (vsG p fx g)=wsN p ([i]++g);rw[wi p fx g,fQ,sj]
def SG (p:Pb) (fx:Nat->Option Nat) (g:List Nat) (j:Nat):(vsG p fx g).take j=vsG p fx (g.take j):=by unfold vsG;rw[List.map_take]
def Xw (p:Pb) (fx:Nat->Option Nat) {g:List Nat} (h:j<zN g):(vsG p fx g).getD j ⟨0,none⟩=⟨wdN p (zG g j 0),fx (zG g j 0)⟩:=by unfold vsG;rw[DC,Ed,DD h,DC,DD h];rfl
def O5 {α:Type} (d:α) {l:List α} (h:j<zN l):l=l.take j++zG l j d::l.drop (j+1):=by rw[<-mG h,List.take_append_drop]
def grs (w:World) (b:PV p) (hk:k<zN p.g) {a:List (Int×Int)} {fx:Nat->Option Nat} (m:ya p a fx (grN p k)):GrS w p.v (cF p) a (wsN p (dj p k)) (grN p k) (vsG p fx (grN p k)):=by
 refine⟨b.v.len,mj p,by unfold vsG;rw[DT],rM b hk,λj d=> ?_⟩;have hm:=getD_in 0 d;have⟨g,o,i,l⟩:=m _ hm;obtain⟨-,q, -⟩:=b.v.ok _ (getD_in vr0 g);rw[Xw p fx d,SG,wi];have⟨C,e⟩:=kH hk;have f:dR p=(dj p k++(grN p k).take j)++(grN p k).getD j 0::((grN p k).drop (j+1)++C):=by
  have n:(grN p k).take j++(grN p k).getD j 0::(grN p k).drop (j+1)=grN p k:=(O5 0 d).symm;rw[e];conv=>lhs;rw[<-n]
  simp
 have h:=oW b f;have c:=nY b;rw[f,fQ,Om,fQ] at c;rw[fQ] at h;exact⟨g,by show _=((wdN p _:Nat):Int);unfold wdN;omega,by show 1<=wdN p _/\wdN p _<=8;unfold wdN;omega,h,by show _+wdN p _<=20;omega,i,l⟩
def Yq (b:PV p) (hk:k<zN p.g):wsN p (grN p k)<=20:=by have⟨C,e⟩:=kH hk;have a:=nY b;rw[e,fQ,fQ] at a;omega
theorem O0 (d:List Nd) (fx:Nat->Option Nat) (a:Nat->Nat->Nat):∀(g:List Nat) (l j f:Nat),(∀A i B,g=A++i::B->(cF p).getD i 0=((l+wsN p A:Nat):Int))->(∀k,k<zN g->∀x,a (j+k) x=wtP p (zG g k 0) x)→
  jM d a l j (vsG p fx g) f=eT (fG p d) (λf=>decide (f=0)) (wtP p) (wdN p) fx g f
 |[],l,j,f,_,_=>by
  show(if f=0 then 0 else 1)=if decide (f=0)=true then 0 else 1
  by_cases h:f=0<;>simp[h]
 |i::g,l,j,f,h1,h2=>by
  have c:=h1 [] i g rfl;have e1:wsN p []=0:=rfl;rw[e1,Eb] at c;have ih:=λf=>O0 d fx a g (l+wdN p i) (j+1) f (λA q B e=>by
   have:=h1 (i::A) q B (by rw[e];rfl);rw[show i::A=[i]++A from rfl,fQ,sj] at this;rw[this];congr 1;omega) (λk hk x=>by
   have:=h2 (k+1) (by rw[DF];omega) x;rw[show j+1+k=j+(k+1) by omega,this];rfl);have o:=h2 0 (by simp);rw[df];show(if f=0 then 0 else eC (λx=>eN (a j x) (jM d a (l+wdN p i) (j+1) (vsG p fx g) (bF d l (vb (wdN p i) x) f))) (aX ⟨wdN p i,fx i⟩))=_;have m:(λx=>eN (a j x) (jM d a (l+wdN p i) (j+1) (vsG p fx g) (bF d l (vb (wdN p i) x) f)))=λx=>eN (wtP p i x) (eT (fG p d) (λf=>decide (f=0)) (wtP p) (wdN p) fx g (fG p d f i x)):=by
   funext x;rw[ih];have n:fG p d f i x=bF d l (vb (wdN p i) x) f:=by unfold fG;rw[c,Eh]
   have b:=o x;rw[Eb] at b;rw[n,b];rfl
  rw[m];by_cases h:f=0<;>simp[h]
def Wo (b:PV p) (hk:k<zN p.g) (A:List Nat) (i:Nat) (B:List Nat) (e:grN p k=A++i::B):(cF p).getD i 0=((wsN p (dj p k)+wsN p A:Nat):Int):=by have⟨C,a⟩:=kH hk;rw[<-fQ];exact oW b (A:=dj p k++A) (B:=B++C) (by rw[a,e];simp)
end
end
theorem ud (w:World) (gs:Nat) (A1 p:Option Addr) (c1 q:Nat) (H S D G v LV:Value) (root:Nat) (small:Bool) (t:Nat) (r:Array Value) (vars:List Vr) (g:List Int) (d:List Nd) (wt:Nat->Nat->Nat)
  (I:Box w gs (spC (zU A1 (zN vars) c1) H S D G v LV (zU p (zN d) q) root small (.func (.func t) #[] r)) 89) (F:Rs vrR w (zU A1 (zN vars) c1) vars ah) (C:IL w LV g) (B:Rs ndR w (zU p (zN d) q) d ah) (x:DV d)
  (gn:List Nat) (vs:List Wd) (u:Value) (o:IL w u (nI gn)) (s:Value) (fx:List (Int×Int)) (k:FxV w s fx) (c:Nat) (y:GrS w vars g fx c gn vs) (z:WtC w t r gn wt):∀(m a:Nat),a+m=zN gn→
  ∀(W:World) (i b:Nat) (j:List ((Int×Int)×Int)),zL w W->w.heap.size<=i->bR φP W i j->n7 d wt c vs j->zN j+jI (vs.drop a)<=2000000->b<zN d→
  Calls zz 148 #[zP gs,u,s,.map (some i),zX #[zI zi a,zI zi b]] W (SmR d wt c vs a b i j W)
 |0,a,h=>λW i b j A l hm n f E=>rq w gs A1 p c1 q H S D G v LV root small t r vars g d wt I F C B x gn vs u o s fx k c y z a (by omega) (λh=>by omega) W i b j A l hm n f E
 |m+1,a,h=>λW i b j A l hm n f E=>rq w gs A1 p c1 q H S D G v LV root small t r vars g d wt I F C B x gn vs u o s fx k c y z a (by omega) (λJ=>by
   have:=ud w gs A1 p c1 q H S D G v LV root small t r vars g d wt I F C B x gn vs u o s fx k c y z m (a+1) (by omega);have e:((a+1:Nat):Int)=(a:Int)+1:=by omega
   rw[e] at this;exact this) W i b j A l hm n f E
def T5 {vs:List Wd} (h:∀v∈vs,1<=v.w) (a:fH vs<=20):jI vs<=1048576:=by have b:=Af vs h;have c:=yN a;omega
def BX (w:World) (gs:Nat) (A1:Option Addr) (c1:Nat) (H S D G U LV DG:Value) (root:Nat) (small:Bool) (V:Value) (vars:List Vr) (hx:Box w gs (spC (zU A1 (zN vars) c1) H S D G U LV DG root small V) 89) (hv:Rs vrR w (zU A1 (zN vars) c1) vars ah) (a:List Nat) (Q:Value) (Y:IL w Q (nI a)) (j:zN a=zN vars) (F:zN vars<=16) (C:∀i,i<zN vars->(0<=(zG vars i vr0).w/\(zG vars i vr0).w<=8)/\((zG vars i vr0).m=0->((zG a i 0:Nat):Int)=(zG vars i vr0).u)/\zG a i 0<2^(zG vars i vr0).w.toNat):Calls zz 86 #[zP gs,Q] w (zR (zW true) w):=by
 have⟨s,M,r⟩:=zk3 hx hv C;obtain⟨Aa,ca,rfl, -,u⟩:=Y;have e:=zh u;rw[aF,j] at e;rw[aF,j];have⟨J,f⟩:=zvh (zN vars);rw[<-f] at s e M F⊢;unfold spC at s;have x0:=za s 0;go_enter func86,ntmps86;go_wp2;go_loopw [22] (λI wr=>∃k:Nat,k<=J/\I=zI zi k/\zL w wr) (λI _=>J+1-(intOf I).toNat)
 .exact⟨0,DH _,rfl,DM _ _⟩
 obtain⟨k,hk,rfl,z⟩:=hrel;have c:=zh z;by_cases d:k<J
 .have⟨l,k0⟩:=zln d;obtain⟨A',c',e1, -,A⟩:=M.vrs;have⟨b,o,X,y,h⟩:=A k (by rw[<-f];exact d);obtain rfl:=zas e1 X;obtain⟨W,rfl,B,E⟩:=e (by omega);have p:=E k d;rw[dV] at p;have n:(W.add k).block<w.heap.size:=by rw[bf];exact B
  obtain⟨T,y1,y2,y3⟩:=zx4 c y h;rw[Eb] at T;replace p:=(c.cell n).trans p;replace n:=DU n c.size;have⟨o1,P,K⟩:=r k (by rw[<-f];exact d);generalize zG vars k vr0=vr at*;obtain⟨N,wd,md,R⟩:=vr;simp only at o1 P K T y1 y2 y3;obtain⟨wn,rfl⟩:∃wn:Nat,wd=wn:=⟨wd.toNat,by omega⟩;rw[Eh] at K;generalize zG a k 0=g at*;have hw:=ko (show wn<=20 by omega);have p1:¬((g:Int)<0):=by omega
  have p2:decide ((g:Int)<0)=false:=by simp
  have p3:((g:Int)<((2^wn:Nat):Int)):=Int.ofNat_lt.2 K;go_upto_region 6 with fail;have z2:=((ab wr (zC #[zV N,zI zi wn,zI zi md,zI zi R] 98)).cell n).trans p;have z3:=DU n (ab wr (zC #[zV N,zI zi wn,zI zi md,zI zi R] 98)).size;generalize L:wr.alloc _=w3 at*;have⟨x,t⟩:=zA1 L;replace c:=zb c x;have yL:=λq:Lat w3=>(q.h.cell z3).trans z2;have s1:=t.lat 1 _ rfl;have s2:=t.lat 2 _ rfl;have s3:=t.lat 3 _ rfl;generalize 2^wn=m at*;by_cases hm:md=0
  .subst hm;have Z:=P rfl;subst Z;have q1:((g:Int) !=(g:Int))=false:=by simp
   have q4:¬((m:Int)<=(g:Int)):=by omega
   refine az ?_;repeat(go_big_quiet_step (fail))
   refine D4 ?_;intro w8 v;replace c:=zb c v;go_wp2;go_roundw
   .exact⟨k+1,by omega,by go_num,c⟩
   simp[intOf];omega
  have q1:(md==0)=false:=by simpa using hm
  have q4:¬((m:Int)<=(g:Int)):=by omega
  refine az ?_;repeat(go_big_quiet_step (fail))
  refine D4 ?_;intro w8 v;replace c:=zb c v;go_wp2;go_roundw
  .exact⟨k+1,by omega,by go_num,c⟩
  simp[intOf];omega
 have l:=zge d;go_wp2;go_ret;exact⟨rfl,c⟩
def UY (p:Pb) (a:List Nat):Prop:=zN a=zN p.v/\∀i,i<zN p.v->zG a i 0<256
def rR {σ:Type} (f:σ->Nat->σ) (s:σ) {l:List Nat} {k:Nat} (h:k<zN l):(l.take (k+1)).foldl f s=f ((l.take k).foldl f s) (zG l k 0):=by rw[cI (d:=0) h,Fp];rfl
section
variable {w:World} {p:Pb} {A1 A2 A3 A4 A5:Option Addr} {c1 c2 c3 c4 c5 gs:Nat} {RV LV DG:Value} {root:Nat} {small:Bool} {gb:Nat}
theorem VV (E:EnP w p A1 A2 A3 A4 A5 c1 c2 c3 c4 c5) {d:List Nd} (S:SpR w p A1 A2 A3 A4 A5 c1 c2 c3 c4 c5 gs RV LV DG root true gb) (hd:Rs ndR w DG d ah) (hD:DV d) (aH:root<zN d) (fv:Value) (X:List (Int×Int)) (ay:FxV w fv X) (fx:Nat->Option Nat) (m:Nat) (n:m<zN p.g) (hg:ya p X fx (grN p m)) (a:List Nat) (va:Value) (ha:IL w va (nI a)) (hA:UY p a):
  Calls zz 87 #[zP gs,zI zi m,va,fv] w (zR (zI zi ((lW p (some (root,d)) (aI p) (wtP p) m a fx:Nat):Int)) w):=by
 obtain⟨Ad,cd,rfl, -⟩:=hd.slice;have⟨g,u⟩:=zv (λs i=>fG p d s i (zG a i 0):Nat->Nat->Nat);have F:∀(L:List Nat) (s:Nat),s<zN d->(∀i∈L,i∈dR p)->L.foldl g s<zN d:=by
  intro L;induction L with
  |nil=>intro s hs _;exact hs
  |cons i L ih=>intro s hs h;rw[EH];refine ih _ ?_ λj Z=>h j (Ea _ Z);obtain⟨A,B, -,I,h3⟩:=pT E.pv (h i (by simp));have aT:=nY E.pv;rw[u];show bF d ((cF p).getD i 0).toNat (vb (wdN p i) (zG a i 0)) s<zN d;rw[I,Eh];exact mH hD _ _ _ hs (by rw[jL];omega)
 have aO:=zh F;have CD:=zh λW t (i l:Nat) (hi:i∈dR p) (hn:l<zN d)=>by
  have⟨r,Y⟩:=cN E.pv hi;obtain⟨A,B, -,I,h3⟩:=pT E.pv hi;have aT:=nY E.pv;obtain⟨-,o1, -⟩:=E.pv.v.ok _ (getD_in vr0 r);have:=rr W gs A1 Ad c1 cd _ _ _ _ RV LV root true (wgV gb) p.v (cF p) d (S.b.Q t) (E.hp.v.Q t) (S.lv.Q t) (hd.Q t) hD i r (by rw[mj];exact r) (wdN p i) (wsN p A) (zG a i 0) l (by unfold wdN;omega) I (by omega) (by have:=hA.2 i r;omega) hn;have e3:bF d (wsN p A) (vb (wdN p i) (zG a i 0)) l=g l i:=by rw[u];show _=bF d ((cF p).getD i 0).toNat _ _;rw[I,Eh]
  rw[e3] at this;exact this
 have G:fH (vsG p fx (grN p m))<=20:=by rw[wi];exact Yq E.pv n
 have aB:jI (vsG p fx (grN p m))<=1048576:=T5 (λv hv=>by
  obtain⟨i,hi,rfl⟩:=EJ.1 hv;have⟨r,Y⟩:=cN E.pv (iQ n hi);obtain⟨-,o1, -⟩:=E.pv.v.ok _ (getD_in vr0 r);show 1<=wdN p i;unfold wdN;omega) G;have hG:=grs w E.pv n hg;have hW:WtC w 140 #[zP gb] (grN p m) (λj v=>wtP p ((grN p m).getD j 0) v):=⟨λargs W=>by kernel_rfl,λj v=>Ok p _ v,λj v W Z hv t=>tZ W (S.wg.Q t) _ v (hg _ (getD_in 0 Z)).1 hv⟩;have CS:=zh fun(vg:Value) (a1:IL w vg (nI (grN p m))) (W:World) (t:zL w W) (gk:Nat) (C:w.heap.size<=gk) (hm:bR φP W gk []) (l:Nat) (hn:l<zN d)=>ud w gs A1 Ad c1 cd _ _ _ _ RV LV root true 140 #[zP gb] p.v (cF p) d _ S.b E.hp.v S.lv hd hD (grN p m) (vsG p fx (grN p m)) vg a1 fv X ay (wsN p (dj p m)) hG hW (grN p m).length 0 (by omega) W gk l [] t C hm (Qn _ _ _ _) (by simp;omega) hn;have aR:Hid (∀l,jM d (λj v=>wtP p ((grN p m).getD j 0) v) (wsN p (dj p m)+fH ((vsG p fx (grN p m)).take 0)) 0 ((vsG p fx (grN p m)).drop 0) l=eT (fG p d) (λf=>decide (f=0)) (wtP p) (wdN p) fx (grN p m) l):=zh λl=>by
  rw[El,D5];exact O0 d fx _ (grN p m) _ 0 l (Wo E.pv n) (λk hk x=>by rw[DY])
 have ai:Hid (lW p (some (root,d)) (aI p) (wtP p) m a fx=eT (fG p d) (λf=>decide (f=0)) (wtP p) (wdN p) fx (grN p m) ((dj p m).foldl g root)):=zh (by rw[u];rfl);unfold SmR at CS;have ar:=zh λk (h:k<zN p.g)=>i5 h;have ap:Hid (dj p 0=[]):=zh rfl;have a5:=zh λk i (h:i∈dj p k)=>yM h;have aj:=zh λk (hk:k<zN p.g) i (h:i∈grN p k)=>iQ hk h;have N:=zh λk (hk:k<zN p.g)=>rM E.pv hk;have au:=zh λi (h:i∈dR p)=>(cN E.pv h).1;have⟨A',c',e1,aX,r⟩:=E.hp.g.ils;obtain⟨b5,o5,vg,I,aU,hu,J, -⟩:=r m n;simp only[DQ,true_and] at e1;obtain⟨rfl,rfl⟩:=e1;subst I;have al:Hid (∀k,k<zN p.g->∃vk,w.cell? ⟨b5,o5+k,none⟩=some vk/\IL w vk (nI (grN p k))):=zh λk hk=>by obtain⟨b,o,vk,I, -,hu,J, -⟩:=r k hk;simp only[DN,FK,FL] at I;obtain⟨rfl,rfl⟩:=I;have q:IL w vk (zG p.g k []):=J;rw[<-uT E.pv hk] at q;exact⟨vk,hu,q⟩
 have q:IL w vg (zG p.g m []):=J;rw[<-uT E.pv n] at q;obtain⟨j0,aC⟩:∃i,i∈dR p:=by have a0:=E.pv.g.some_ _ (getD_in [] n);have⟨v,hv⟩:=List.exists_mem_of_ne_nil _ a0;exact⟨v.toNat,iQ n (EJ.2 ⟨v,hv,rfl⟩)⟩
 obtain⟨ba,oa,ca,rfl,aV,aw⟩:∃ba oa ca,va=zU (some ⟨ba,oa,none⟩) (zN p.v) ca/\ba<w.heap.size/\∀j,j<zN p.v->w.cell? ⟨ba,oa+j,none⟩=some (zI zi ((zG a j 0:Nat):Int)):=by
  rcases ha.form with⟨A,c,r,Y⟩|⟨b,o,c,r,Y,h3,h4,h5⟩
  .have h3:zN a=0:=by rw[<-aF a,Y];rfl
   have:=(cN E.pv aC).1;have:=hA.1;omega
  rw[aF,hA.1] at r h5;exact⟨b,o,c,r,h4,λj Z=>by rw[h5 j Z,dV]⟩
 have ag:=zh aw;have Q:=zh (CS vg q);obtain⟨Ag,cg,rfl, -, -⟩:=q;have HX:=zh S.b;unfold spC at HX;have⟨ng,M⟩:=zv (zN p.g);have⟨nv,ae⟩:=zv (zN p.v);have a2:m<ng:=by rw[M];exact n
 have a3:ng<=1000:=by rw[M];exact E.sm.ng
 have a4:nv<=16:=by rw[ae];exact E.pv.v.len
 rw[<-M] at al ar aj N HX aX;rw[<-ae] at ag au HX⊢;rw[aF] at hu Q;have a7:=@run_makeMap zz;have ez:((0:Nat):Int)=0:=rfl;rw[ez] at Q;generalize(grN p m).length=gl,lW p (some (root,d)) (aI p) (wtP p) m a fx=T at*;clear hd hD ay hg ha hA F G aB hG hW u r J aw M ae n aC ez;obtain⟨x4,x8,x9⟩:=zd3 HX 4 8 9;have g0:=zn0 m;have g1:(m:Int)<(ng:Int):=by omega
 go_enter func87,ntmps87;go_upto_region 4 with fail;have a6:(m:Int)<=(c5:Int):=by omega
 have aP:Hid (root<zN d):=zh aH;clear aH;go_wp2;go_loopw [10,44] (λnv iv wr=>∃k:Nat,k<=m/\iv=zI zi k/\nv=zI zi (((dj p k).foldl g root:Nat):Int)/\Hid ((dj p k).foldl g root<zN d)/\zL w wr) (λ_ iv _=>m+1-(intOf iv).toNat)
 .exact⟨0,DH _,rfl,by rw[ap];rfl,by rw[ap];exact aP,DM _ _⟩
 obtain⟨k,hk,rfl,rfl,U,t⟩:=hrel;have y:=zh t;clear t;by_cases F:k<m
 .have⟨aG,k0⟩:=zln F;have⟨vk,aJ,aA⟩:=al k (by omega);have v0:=(y.cell (p:=⟨b5,o5+k,none⟩) aU).trans aJ;have aE:=aA.form;obtain⟨Ak,ck,rfl, -, -⟩:=aA;have am:=zh aE;have aq:=zh (ar k (by omega));have ak:=zh (aj k (by omega));have P:=N k (by omega);have⟨gk,C⟩:=zv (grN p k);rw[<-C] at am aq ak P;rw[aF,<-C] at v0;have⟨kl,R⟩:=zvh (zN gk);rw[<-R] at v0 P;have⟨z,ad⟩:=zv ((dj p k).foldl g root);rw[<-ad] at U⊢;have aQ:Hid ((dj p (k+1)).foldl g root=gk.foldl g z):=zh (by rw[aq,Fp,<-ad]);clear aE aJ C ad;go_wp2;clear v0;go_loopw [10,50] (λnv iv wq=>∃j:Nat,j<=kl/\iv=zI zi j/\nv=zI zi (((gk.take j).foldl g z:Nat):Int)/\Hid ((gk.take j).foldl g z<zN d)/\zL w wq) (λ_ iv _=>kl+1-(intOf iv).toNat)
  .exact⟨0,DH _,rfl,rfl,U,y⟩
  obtain⟨j,Z,rfl,rfl,H,t⟩:=hrel;have y:=zh t;clear t;by_cases ac:j<kl
  .have⟨aD,j0⟩:=zln ac;have D:j<zN gk:=by rw[<-R];exact ac
   obtain⟨bk,ok,rfl,aW,ax⟩:∃bk ok,Ak=some ⟨bk,ok,none⟩/\bk<w.heap.size/\w.cell? ⟨bk,ok+j,none⟩=some (zI zi ((zG gk j 0:Nat):Int)):=by
    rcases am with⟨A,c,r,Y⟩|⟨b,o,c,r,Y,h3,h4,h5⟩
    .have h3:zN gk=0:=by rw[<-aF gk,Y];rfl
     omega
    simp only[DQ] at r;have h6:=h5 j (by rw[aF];exact D);rw[dV] at h6;exact⟨b,o,r.1,h4,h6⟩
   have K:=ak (zG gk j 0) (getD_in 0 D);have az:=au _ K;have v0:=(y.cell (p:=⟨bk,ok+j,none⟩) aW).trans ax;have y0:=(y.cell (p:=⟨ba,oa+zG gk j 0,none⟩) aV).trans (ag _ az);have af:=zh (CD wr y (zG gk j 0) ((gk.take j).foldl g z) K H);have ao:Hid (g ((gk.take j).foldl g z) (zG gk j 0)=(gk.take (j+1)).foldl g z):=zh (rR g z D).symm;have an:Hid ((gk.take (j+1)).foldl g z<zN d):=zh (by rw[rR g z D];exact aO [zG gk j 0] _ H (λi h=>by rw[ER.1 h];exact K));have⟨nx,V⟩:=zvh ((gk.take (j+1)).foldl g z);rw[<-V] at an ao;generalize(gk.take j).foldl g z=nj at*;rw[ao] at af;generalize zG gk j 0=i,zG a (zG gk j 0) 0=av at*;have i0:=zn0 i;have i1:(i:Int)<(nv:Int):=by omega
   clear ax D K;go_wp2;clear v0 y0;refine zK af λw5 t=> ?_;have aM:=zh (aa y t);clear t;go_wp2;go_roundw
   .exact⟨j+1,by omega,by go_num,by rw[V],V▸an,aM⟩
   simp[intOf];omega
  have⟨aD,aY⟩:=zgq Z ac;subst aY;have HE:Hid ((gk.take j).foldl g z=(dj p (k+1)).foldl g root):=zh (by rw[aQ,R,Et]);rw[HE] at H⊢;go_wp2;go_roundw
  .exact⟨k+1,by omega,by go_num,rfl,H,y⟩
  simp[intOf];omega
 have⟨aG,aZ⟩:=zgq hk F;subst aZ;have aS:Hid (T=eT (fG p d) (λf=>decide (f=0)) (wtP p) (wdN p) fx (grN p k) ((dj p k).foldl g root)):=zh ai;have CC:=zh (Q (wr.alloc (.map #[] 0)) (aa y (ab wr _)) wr.heap.size y.size (bR.new φP wr) _ U);rw[aR,<-aS] at CC;have aK:=zh (aa y (ab wr (.map #[] 0)));have aN:=zh y.size;generalize(dj p k).foldl g root=nd at*;go_wp2;generalize wr.alloc (.map #[] 0)=w1 at*;refine CC.mono ?_;rintro e w2 ⟨rfl,hg, -⟩;have aL:=zh (gU aK hg aN);clear hg;go_wp2;go_ret;exact⟨rfl,aL⟩
end
def BG (p:Pb) (a:List Nat) (A:List Nat) (l:List Ex):(A.foldl (λs i=>eL p s i (zG a i 0)) l).length=zN l+zN A:=by rw[jq,DI,DT]
def O1 {p:Pb} (j:PV p) (g:PSm p) (a:List Nat) {A:List Nat} {l:List Ex} (h:∀i∈A,i<zN p.v/\zG a i 0<256) (d:∀e∈l,jm (ai p.v) e):∀e∈A.foldl (λs i=>eL p s i (zG a i 0)) l,jm (ai p.v) e:=by
 rw[jq];intro e b;rcases EK.1 b with b|b
 .exact d e b
 obtain⟨i,hi,rfl⟩:=EJ.1 b;have⟨c,k⟩:=h i hi;have f:=j.v.ok _ (getD_in vr0 c);exact(Re (EJ.2 ⟨_,getD_in vr0 c,rfl⟩) (nA f.1) (g.nz _ (getD_in vr0 c)) (by omega)).ru (by omega) (by omega)
section
variable {w:World} {p:Pb} {A1 A2 A3 A4 A5:Option Addr} {c1 c2 c3 c4 c5 gs:Nat} {RV LV DG:Value} {root:Nat} {small:Bool} {gb:Nat}
def VU (E:EnP w p A1 A2 A3 A4 A5 c1 c2 c3 c4 c5) (S:SpR w p A1 A2 A3 A4 A5 c1 c2 c3 c4 c5 gs RV LV DG root false gb) (fv:Value) (ak:List (Int×Int)) (aR:FxV w fv ak) (fx:Nat->Option Nat) (gi:Nat) (r:gi<zN p.g) (hg:ya p ak fx (grN p gi)) (a:List Nat) (va:Value) (ha:IL w va (nI a)) (hA:UY p a):Calls zz 87 #[zP gs,zI zi gi,va,fv] w (zR (zI zi ((lW p none (aI p) (wtP p) gi a fx:Nat):Int)) w):=by
 have⟨D,F⟩:=zv (aI p);have V:=S.ru;rw[<-F] at V;obtain⟨aq,aN,rfl,bo⟩:=V.slice;have⟨f,t⟩:=zv (λs i=>eL p s i (zG a i 0):List Ex->Nat->List Ex);have hn:=E.hn;have bu:zN D<=900:=by rw[F];exact D2 (ew p).2 (by rw[i8];omega)
 have ag:Hid (∀(A:List Nat) (l:List Ex),(A.foldl f l).length=zN l+zN A):=zh λA l=>by rw[t];exact BG p a A l
 have bb:Hid (∀A:List Nat,(∀i∈A,i∈dR p)->∀e∈A.foldl f D,jm (ai p.v) e):=zh λA h=>by rw[t];refine O1 E.pv E.sm a (λi hi=>⟨(cN E.pv (h i hi)).1,hA.2 i (cN E.pv (h i hi)).1⟩) λe he=>gQ E.sm E.pv e ((ew p).1 e (by rw[<-F];exact he))
 have CT:=zh λW B (vg:Value) (J:Option Addr) (M:Nat) (hv:IL W vg (nI (grN p gi))) (l:List Ex) (hl:zN l<=916) (h:∀e∈l,jm (ai p.v) e) (hr:Rs (exR KE) W (zU J (zN l) M) l ah)=>yG E S fv ak aR fx (grN p gi) hg (rM E.pv r) W l vg J M B hv hr (by have:=rM E.pv r;omega) h;have ar:=zh λW h (i x:Nat) (hi:i<zN p.v)=>ue W gs A1 c1 _ _ _ _ (zU aq (zN D) aN) LV DG root false (wgV gb) p.v (S.b.Q h) (E.hp.v.Q h) i x hi;have ax:Hid (lW p none (aI p) (wtP p) gi a fx=trG p fx (grN p gi) ((dj p gi).foldl f D)):=zh (by rw[t,F];rfl);have bc:Hid (∀l i,f l i=l++[eqX (zG p.v i vr0).s (zG a i 0)]):=zh λl i=>by rw[t];rfl
 have aL:=zh λk (h:k<zN p.g)=>i5 h;have aH:Hid (dj p 0=[]):=zh rfl;have aJ:=zh λk i (h:i∈dj p k)=>yM h;have aK:Hid (∀k,(dj p k).length<=16):=zh λk=>by have⟨C,e⟩:=nt p k;have z:=P6 (qQ E.pv) λi hi=>(cN E.pv hi).1;rw[e,DI] at z;have:=E.pv.v.len;omega
 have az:=zh λk (hk:k<zN p.g) i (h:i∈grN p k)=>iQ hk h;have X:=zh λk (hk:k<zN p.g)=>rM E.pv hk;have aM:=zh λi (h:i∈dR p)=>(cN E.pv h).1;have⟨A',c',e1,bg,z⟩:=E.hp.g.ils;obtain⟨b5,o5,vg,e2,bd,hu,N, -⟩:=z gi r;simp only[DQ,true_and] at e1;obtain⟨rfl,rfl⟩:=e1;subst e2;have aB:Hid (∀k,k<zN p.g->∃vk,w.cell? ⟨b5,o5+k,none⟩=some vk/\IL w vk (nI (grN p k))):=zh λk hk=>by obtain⟨b,o,vk,e2, -,hu,N, -⟩:=z k hk;simp only[DN,FK,FL] at e2;obtain⟨rfl,rfl⟩:=e2;have q:IL w vk (zG p.g k []):=N;rw[<-uT E.pv hk] at q;exact⟨vk,hu,q⟩
 have q:IL w vg (zG p.g gi []):=N;rw[<-uT E.pv r] at q;have aC:=zh q;obtain⟨j0,aU⟩:∃i,i∈dR p:=by have bn:=E.pv.g.some_ _ (getD_in [] r);have⟨v,hv⟩:=List.exists_mem_of_ne_nil _ bn;exact⟨v.toNat,iQ r (EJ.2 ⟨v,hv,rfl⟩)⟩
 obtain⟨Y,oa,ca,rfl,be,aP⟩:∃Y oa ca,va=zU (some ⟨Y,oa,none⟩) (zN p.v) ca/\Y<w.heap.size/\∀j,j<zN p.v->w.cell? ⟨Y,oa+j,none⟩=some (zI zi ((zG a j 0:Nat):Int)):=by
  rcases ha.form with⟨A,c,z,h2⟩|⟨b,o,c,z,h2,h3,h4,h5⟩
  .have h3:zN a=0:=by rw[<-aF a,h2];rfl
   have:=(cN E.pv aU).1;have:=hA.1;omega
  rw[aF,hA.1] at z h5;exact⟨b,o,c,z,h4,λj hj=>by rw[h5 j hj,dV]⟩
 have aw:=zh aP;obtain⟨Ag,cg,rfl, -, -⟩:=q;have HX:=zh S.b;unfold spC at HX;have a9:=zh V;have bt:=zh (E.hp.v);have⟨ng,R⟩:=zv (zN p.g);have⟨nv,ao⟩:=zv (zN p.v);have bp:gi<ng:=by rw[R];exact r
 have br:ng<=1000:=by rw[R];exact E.sm.ng
 have bs:nv<=16:=by rw[ao];exact E.pv.v.len
 rw[<-R] at aB aL az X HX bg;rw[<-ao] at aw aM HX ar⊢;rw[aF] at hu aC;generalize(grN p gi).length=gl,lW p none (aI p) (wtP p) gi a fx=T at*;clear aR hg ha hA t z N aP R ao r aU V hn F;obtain⟨x4,x5,x9⟩:=zd3 HX 4 5 9;have g0:=zn0 gi;have g1:(gi:Int)<(ng:Int):=by omega
 have bv:(gi:Int)<=(c5:Int):=by omega
 go_enter func87,ntmps87;go_wp2;go_loopw [15,83] (λrv iv wr=>∃k J M,k<=gi/\iv=zI zi ((k:Nat):Int)/\rv=zU J ((dj p k).foldl f D).length M/\Hid (Rs (exR KE) wr rv ((dj p k).foldl f D) ah)/\zL w wr) (λ_ iv _=>gi+1-(intOf iv).toNat)
 .exact⟨0,aq,aN,DH _,rfl,by rw[aH];rfl,by rw[aH];exact a9,DM _ _⟩
 obtain⟨k,J,M,hk,rfl,rfl,L,B⟩:=hrel;have g:=zh B;clear B;by_cases aX:k<gi
 .have⟨aY,k0⟩:=zln aX;have⟨vk,a1,aS⟩:=aB k (by omega);have v0:=(g.cell (p:=⟨b5,o5+k,none⟩) bd).trans a1;have aW:=aS.form;obtain⟨Ak,ck,rfl, -, -⟩:=aS;have aD:=zh aW;have K:=zh (aL k (by omega));have aA:=zh (az k (by omega));have ad:=X k (by omega);have u:=aK (k+1);rw[K,DI] at u;have a4:=zh (aJ k);have⟨pk,aZ⟩:=zv (dj p k);have⟨gk,am⟩:=zv (grN p k);rw[<-am] at aD K aA ad u;rw[<-aZ] at K u L a4⊢;rw[aF,<-am] at v0;have⟨kl,af⟩:=zvh (zN gk);rw[<-af] at v0 ad u;have⟨I,Q⟩:=zv (pk.foldl f D);have bq:zN I=zN D+zN pk:=by rw[Q,ag]
  rw[<-Q] at L⊢;have a5:Hid ((dj p (k+1)).foldl f D=gk.foldl f I):=zh (by rw[K,Fp,<-Q]);clear aW a1 am Q aZ;go_wp2;clear v0;go_loopw [15,89] (λrv iv wq=>∃j J M,j<=kl/\iv=zI zi ((j:Nat):Int)/\rv=zU J ((gk.take j).foldl f I).length M/\Hid (Rs (exR KE) wq rv ((gk.take j).foldl f I) ah)/\zL w wq) (λ_ iv _=>kl+1-(intOf iv).toNat)
  .exact⟨0,J,M,DH _,rfl,rfl,L,g⟩
  obtain⟨j,Aq,cq,hj,rfl,rfl,n,B⟩:=hrel;have g:=zh B;clear B;by_cases an:j<kl
  .have⟨aV,j0⟩:=zln an;have P:j<zN gk:=by rw[<-af];exact an
   obtain⟨bk,ok,rfl,bf,aQ⟩:∃bk ok,Ak=some ⟨bk,ok,none⟩/\bk<w.heap.size/\w.cell? ⟨bk,ok+j,none⟩=some (zI zi ((zG gk j 0:Nat):Int)):=by
    rcases aD with⟨A,c,z,h2⟩|⟨b,o,c,z,h2,h3,h4,h5⟩
    .have h3:zN gk=0:=by rw[<-aF gk,h2];rfl
     omega
    simp only[DQ] at z;have h6:=h5 j (by rw[aF];exact P);rw[dV] at h6;exact⟨b,o,z.1,h4,h6⟩
   have aT:=aA (zG gk j 0) (getD_in 0 P);have ac:=aM _ aT;have v0:=(g.cell (p:=⟨bk,ok+j,none⟩) bf).trans aQ;have aE:Hid (((gk.take j).foldl f I).length<=916):=zh (by rw[ag,D3];omega);have aG:Hid ((gk.take (j+1)).foldl f I=(gk.take j).foldl f I++[eqX (zG p.v (zG gk j 0) vr0).s (zG a (zG gk j 0) 0)]):=zh (by rw[cI (d:=0) P,Fp];exact bc _ _);have a2:=zh (aw _ ac);have CQ:=zh λW h=>ar W h (zG gk j 0) (zG a (zG gk j 0) 0) (by simpa using ac);have⟨nx,aj⟩:=zvh ((gk.take (j+1)).foldl f I);rw[<-aj] at aG;generalize(gk.take j).foldl f I=nj at*;have⟨m,HM⟩:=zvh (zN nj);rw[<-HM] at aE n⊢;have bw:=aE.out;generalize zG gk j 0=i,(zG p.v (zG gk j 0) vr0).s=nm,zG a (zG gk j 0) 0=av at*;have i0:=zn0 i;have i1:(i:Int)<(nv:Int):=by omega
   clear aQ P aT;go_upto_region 21 with fail;clear v0;have y:=zh fun(W':World) (h:zL w W')=>(h.cell (p:=⟨Y,oa+i,none⟩) be).trans a2;have al:zL wr wr.drew:=ae _;have au:=zh (aa g al);refine zhd (λW'=>W'.cell? ⟨Y,oa+i,none⟩=some (zI zi ((av:Nat):Int))) (y _ au) (λhS=> ?_);replace n:=zb n al;replace g:=au;clear al;generalize wr.drew=w4 at*;refine zta 0 (zU Aq m cq) rfl ?_;refine zta 2 (zP gs) rfl ?_;refine zta 3 (zI zi i) rfl ?_;refine zta 4 (zU (some ⟨Y,oa,none⟩) nv ca) rfl ?_;refine zta 5 (zI zi i) rfl ?_;refine zta 6 (.pointer (some ⟨Y,oa+i,none⟩)) rfl ?_;refine zta 7 (zI zi av) rfl ?_;simp only[zp];clear hS;have bh:m<=cq:=by have⟨A',c',e,h⟩:=n.slice;simp only[DQ] at e;rw[<-HM] at h;omega
   refine ay 1 rfl ?_;go_wp2;refine zJ (yu w4 Aq m cq bh) ?_;go_wp2;refine⟨rfl,y _ g, ?_⟩;refine ay 8 rfl ?_;go_wp2;refine(CQ w4 g).mono ?_;rintro e w5 ⟨A6,c6,he,a0,bj,B⟩;have bi:e=zE (zX #[zI zi 15,zI zi 0,zV ⟨#[]⟩,zU A6 2 c6]):=he;subst bi;replace⟨n,g⟩:=zb2 n g B;have a6:=zh (a0.mono (G:=ah) λ_ _=>trivial);clear he a0 bj B;go_wp2;refine⟨rfl,y _ g, ?_⟩;refine ay 9 rfl ?_;go_wp2;have Z:=ab w5 (zC #[zI zi 15,zI zi 0,zV ⟨#[]⟩,zU A6 2 c6] 79);have a7:Hid (Rs (exR 2) (w5.alloc (zC #[zI zi 15,zI zi 0,zV ⟨#[]⟩,zU A6 2 c6] 79)) (zU (some ⟨w5.heap.size,0,none⟩) 1 1) [eqX nm av] ah):=zh (Rs.one (φ:=exR 2) (w:=w5) (x:=eqX nm av) (us:=[zI zi 15,zI zi 0,zV ⟨#[]⟩,zU A6 2 c6]) ⟨zU A6 2 c6,rfl,a6,λ_ _ _=>trivial⟩ 79);replace⟨n,g⟩:=zb2 n g Z;clear Z;refine⟨rfl,y _ g, ?_⟩;generalize w5.alloc (zC #[zI zi 15,zI zi 0,zV ⟨#[]⟩,zU A6 2 c6] 79)=w6,w5.heap.size=g6 at*;have ap:=n.out;rw[HM] at ap;have⟨v',w7,H,U,aO⟩:=ki (d:=KE) 23 (DE w6.heap.size) (iJ ap (DM _ _)) (iJ (a7.exle (show 2<=KE by decide)) (DM _ _)) (by rw[<-HM];omega);rw[<-HM] at H;rw[<-aG] at U;have a8:=zh (jr U.any);obtain⟨A8,c8,rfl⟩:=U.slice;replace g:=zb g aO;clear U aO ap;refine ay 10 rfl ?_;refine cR rfl _ _ 23 23 rfl _ _ rfl rfl H ?_;clear H;refine(show noQ _ _ _ _ from⟨rfl,y _ g, ?_⟩);simp only[zp];refine ay 11 rfl ?_;go_wp2;refine⟨rfl,y _ g,zdn ?_⟩;go_wp2;go_roundw
   .exact⟨j+1,A8,c8,by omega,by go_num,by rw[<-aj],aj▸a8,g⟩
   simp[intOf];omega
  have aV:=zge an;have bl:j=kl:=by omega
  subst bl;have HE:Hid ((gk.take j).foldl f I=(dj p (k+1)).foldl f D):=zh (by rw[a5,af,Et]);rw[HE] at n⊢;go_wp2;go_roundw
  .exact⟨k+1,Aq,cq,by omega,by go_num,rfl,n,g⟩
  simp[intOf];omega
 have aY:=zge aX;have bm:k=gi:=by omega
 subst bm;have CC:=zh (CT wr g _ J M (aC.Q g) _ (by rw[ag];have:=aK k;omega) (bb _ (aJ k)) L);rw[<-ax] at CC;generalize((dj p k).foldl f D).length=m at*;go_wp2;refine zK CC λw2 B=> ?_;have a3:=zh (aa g B);clear B;go_wp2;go_ret;exact⟨rfl,a3⟩
theorem U5 (E:EnP w p A1 A2 A3 A4 A5 c1 c2 c3 c4 c5) (S:SpR w p A1 A2 A3 A4 A5 c1 c2 c3 c4 c5 gs RV LV DG root small gb) (h:Value) (b:List (Int×Int)) (f:FxV w h b) (fx:Nat->Option Nat) (c:Nat) (g:c<zN p.g) (l:ya p b fx (grN p c)) (a:List Nat) (i:Value) (k:IL w i (nI a)) (j:UY p a):
  Calls zz 87 #[zP gs,zI zi c,i,h] w (zR (zI zi ((lW p (gL (nmV p.v (cF p)) (aI p) 1 cX) (aI p) (wtP p) c a fx:Nat):Int)) w):=by
 have e:=S.d;cases hR:gL (nmV p.v (cF p)) (aI p) 1 cX with
 |none=>rw[hR] at e;have e:small=false:=e;subst e;exact VU E S h b f fx c g l a i k j
 |some td=>obtain⟨t,d⟩:=td;rw[hR] at e;obtain⟨rfl,rfl,m,n,o⟩:=e;exact VV E S m n o h b f fx c g l a i k j
end
def noF:Nat->Option Nat:=λ_=>none
def gO.av {p:Pb} (b:PV p) {a:List Nat} (h:gO p.v a):UY p a:=⟨h.len,λi hi=>by
 have c:=(h.ok i hi).2;obtain⟨-,f, -⟩:=b.v.ok _ (getD_in vr0 hi);have d:=Ew (n:=2) (by omega) (show(zG p.v i vr0).w.toNat<=8 by omega);have e:(2:Nat)^8=256:=rfl;omega⟩
def pj (p:Pb) (b:Nat) (a:List Nat) (fx:Nat->Option Nat):Nat:=lW p (gL (nmV p.v (cF p)) (aI p) 1 cX) (aI p) (wtP p) b a fx
def Wr {p:Pb} (e:PV p) {b:Nat} (a:b<zN p.g):ya p [] noF (grN p b):=λi hi=>by
 have⟨c,d⟩:=cN e (iQ a hi);exact⟨c,d,rfl,λx h=>by cases h⟩
section
variable {w:World} {p:Pb} {A1 A2 A3 A4 A5:Option Addr} {c1 c2 c3 c4 c5 gs:Nat} {RV LV DG:Value} {root:Nat} {small:Bool} {gb:Nat}
def Tp (E:EnP w p A1 A2 A3 A4 A5 c1 c2 c3 c4 c5) (S:SpR w p A1 A2 A3 A4 A5 c1 c2 c3 c4 c5 gs RV LV DG root small gb) (c:Nat) (j:c<zN p.g) (a:List Nat) (k:Value) (l:IL w k (nI a)) (g:gO p.v a):Calls zz 44 #[zP gs,zI zi c,k] w λe w'=>zL w w'/\∃n er,e=zE (zY #[zI zi n,zI zi er])/\(er=0->n=((pj p c a noF:Nat):Int)/\1<=pj p c a noF/\pj p c a noF<cD):=by
 have r:=zh fun(W:World) (b:zL w W)=>BX W gs A1 c1 _ _ _ _ RV LV DG root small (wgV gb) p.v (S.b.Q b) (E.hp.v.Q b) a k (l.Q b) g.len E.pv.v.len λi hi=>by obtain⟨-,C, -⟩:=E.pv.v.ok _ (getD_in vr0 hi);exact⟨by omega,(g.ok i hi).1,(g.ok i hi).2⟩
 have m:=zh fun(W:World) (b:zL w W)=>U5 (E.Q b) (S.Q b) (.map none) [] (zQ ⟨rfl,rfl⟩) noF c j (Wr E.pv j) a k (l.Q b) (g.av E.pv);have o:=zh S.b;have s:pj p c a noF<=cD:=Zi _ _ _ _ _ _ _;change Hid (∀W,_->Calls zz _ _ W λe w'=>e=zE (zI zi ((pj p c a noF:Nat):Int))/\_) at m;generalize pj p c a noF=tot at*;have t:=E.sm.ng;unfold spC at o;generalize zN p.g=ng,zN p.v=nv at*;clear l g;have x:=za o 4;have y:=zn0 c;have z:(c:Int)<(ng:Int):=by omega
 have A:¬(c:Int)<0:=by omega
 have B:¬(ng:Int)<=(c:Int):=by omega
 have d:cD=1099511627777:=rfl;rw[d] at s⊢;clear d;go_enter func44,ntmps44;go_wp2;refine zK (r w (DM _ _)) λw2 b=> ?_;have f:=zh b;have q:=zh (m w2 b);clear b x;go_wp2;refine zK q λD b=> ?_;replace f:=zb f b;clear b;by_cases u:tot=0
 .subst u;go_wp2;go_ret2;exact⟨f,_,_,rfl,λh=>absurd h (by decide)⟩
 have u0:((tot:Int)==0)=false:=by simp;omega
 by_cases v:tot=1099511627777
 .subst v;go_wp2;go_ret2;exact⟨f,_,_,rfl,λh=>absurd h (by decide)⟩
 have u1:((tot:Int)==1099511627777)=false:=by simp;omega
 go_wp2;go_ret2;exact⟨f,_,_,rfl,λh=>⟨rfl,by omega,by omega⟩⟩
end
end
section
open Go.RowKit Go.Maps Go.Shelf Go.Sort
section
variable (zs:List Int) (n:Nat)
attribute [local go_sem] Oper.semAt_some
def jC (zs:List Int) (k:Nat):List Int:=(List.range k).map λj=>zs[j]?.getD 0
def pi (k:Nat):jC zs (k+1)=jC zs k++[zs[k]?.getD 0]:=by simp[jC,List.range_succ]
def Bx (k:Nat):(jC zs k).length=k:=by simp[jC]
def ph {k:Nat} (hk:k<=zN zs):jC zs k=zs.take k:=by
 apply Fz
 .simp[jC,hk]
 intro i a b;have:i<zN zs:=by simp[jC] at a;omega
 simp[jC,this]
def S8 (H:1<=n) (l w c b d len cap:Nat) (zs:List Int) (r:len<=1000) (E:b<c) (J y:List Int->World->Prop) (D:∀a x W,J a W->zN a<len->YieldAt Fence.wide (n-1) zz l #[zI zi x] W λe W'=>(e=zE (zW true)/\J (a++[x]) W'/\Below c W W')\/(e=zE (zW false)/\y (a++[x]) W')) (W:World) (B:W.cell? ⟨w,0,none⟩=some (zU (some ⟨b,d,none⟩) len cap)) (F:∀j,j<len->W.cell? ⟨b,d+j,none⟩=some (zI zi (zs[j]?.getD 0))) (A:J [] W):CallsIn Fence.wide n zz 154 #[.func (.yield l) #[] #[],zP w] W λe W'=>(∃v,e=zE v)∧((∃ys,ys=jC zs len/\J ys W')\/(∃a,(∃k,k<=len/\a=jC zs k)/\y a W')):=by
 refine callsIn_of_wp func154 rfl trivial ?_ rfl;simp only[ntmps154,ED,DF,D8,Nat.reduceAdd,Nat.reduceSub,Array.replicate_succ,Array.replicate_zero,List.push_toArray,List.append_toArray,List.nil_append,List.cons_append];gi_wp2
 gi_loopw [7] (λi wr=>∃k:Nat,k<=len/\i=zI zi k/\J (jC zs k) wr/\Below c W wr)
  (λi _=>len-(intOf i).toNat)
 .exact⟨0,DH _,rfl,A,DM _ _⟩
 obtain⟨k,hk,rfl,f,o⟩:=hrel;have t:k<len->wr.cell? ⟨b,d+k,none⟩=some (zI zi (zs[k]?.getD 0)):=λh=>(o.cell (p:=⟨b,d+k,none⟩) E).trans (F k h);by_cases m:k<len
 .have⟨fn,tmps,q,body,I,C⟩:=D _ (zs[k]?.getD 0) wr f (by rw[Bx];exact m);have z:=t m;gi_wp2;refine C.mono ?_;rintro e G (⟨rfl,s,u⟩|⟨rfl,g⟩)
  .gi_wp2;go_roundw
   .exact⟨k+1,by omega,by simp,by rw[pi];exact s,o.trans u⟩
   simp[intOf];omega
  gi_wp2;refine D7 (results_none rfl _ _ _) rfl ?_;exact⟨⟨_,rfl⟩,zO ⟨_,⟨k+1,by omega,(pi _ _).symm⟩,g⟩⟩
 obtain rfl:k=len:=by omega
 gi_wp2;go_end0;exact⟨⟨_,rfl⟩,zQ ⟨_,rfl,f⟩⟩
def O7 (a:Option Addr) (len cap:Nat) (w:World):CallsIn Fence.wide n zz 90 #[zU a len cap] w λe w'=>e=zE (.func (.func 154) #[] #[.pointer (some ⟨w.heap.size,0,none⟩)])/\w'=w.alloc (zC #[zU a len cap] 32):=by refine callsIn_of_wp func90 rfl trivial ?_ rfl;simp only[ntmps90,ED,DF,D8,Nat.reduceAdd,Nat.reduceSub,Array.replicate_succ,Array.replicate_zero,List.push_toArray,List.append_toArray,List.nil_append,List.cons_append];gi_wp2;go_ret;exact⟨rfl,rfl⟩
def sE (A:1<=n) (g a b d cap:Nat) (zs:List Int) (c:zN zs<=1000) (w:World) (m:g<w.heap.size) (f:a<=w.heap.size) (z:w.cell? ⟨g,0,none⟩=some (zU (some ⟨b,d,none⟩) (zN zs) cap)) (r:b<a) (v:∀j,j<zN zs->w.cell? ⟨b,d+j,none⟩=some (zI zi (zs[j]?.getD 0))):SeqStopsK Fence.wide n zz 154 #[zP g] (λx:Int=>#[Value.int .i64 x]) (Below a) (λys=>ys=zs) (λi=>i<+:zs) (zN zs) w:=λl J t W q _ _ y u=>by
 have o:=(q.cell (p:=⟨g,0,none⟩) m).trans z;refine(S8 n A l g a b d (zN zs) cap zs c r J t y W o (λj h=>((q.mono f).cell (p:=⟨b,d+j,none⟩) r).trans (v j h)) u).mono ?_;rintro e W' ⟨s,⟨ys,rfl,h⟩|⟨i,⟨k,hk,rfl⟩,h⟩⟩
 .exact⟨s,zQ ⟨_,by rw[ph zs (DE _),Et],h⟩⟩
 exact⟨s,zO ⟨_,by rw[ph zs hk];exact List.take_prefix _ _,h⟩⟩
def T6:(zz.info? 3).map (λi=>(i.zero,i.size,i.bytes))=some (some (zI zi 0),1,8):=by kernel_rfl
def tO (X:2<=n) (k b i cap:Nat) (zs:List Int) (g:zN zs<=1000) (w:World) (y:k<w.heap.size) (z:w.cell? ⟨k,0,none⟩=some (.slice (some ⟨b,i,none⟩) (zN zs) cap)) (I:b<w.heap.size) (N:∀j,j<zN zs->w.cell? ⟨b,i+j,none⟩=some (zI zi (zs[j]?.getD 0))):CallsIn Fence.wide n zz 225 #[.slice none 0 0,.func (.func 154) #[] #[zP k]] w λe w'=>∃v,e= .returned v/\w'.ownsRow w.heap.size 3 1 v (zN zs) (zs.map (Value.int .i64))/\zL w w':=by
 have L:1<=n:=by omega
 have⟨U,hi,E,F,G⟩:=EX T6;refine callsIn_of_wp_marks func225 rfl trivial ?_ rfl;simp only[ntmps225,ED,DF,D8,Nat.reduceAdd,Nat.reduceSub,Array.replicate_succ,Array.replicate_zero,List.push_toArray,List.append_toArray,List.nil_append,List.cons_append];gi_wp2;have J:=Boxed.new w 32 (.slice none 0 0);have m:zL w (w.alloc (.cells #[.slice none 0 0] 32)):=(DM _ w).alloc (DE _) _;refine wpIn_rangeFunc_ownG rfl L (gf:=154) (lb:=#[zP k]) rfl trivial (enters_of func154 (by kernel_rfl) rfl)
  (sE (n-1) (by omega) k w.heap.size b i cap zs g _ (by simp;omega) (by simp) ((m.cell (p:=⟨k,0,none⟩) y).trans z) I (λj R=>(m.cell (p:=⟨b,i+j,none⟩) I).trans (N j R))) belowK_t (belowK_b (by simp)) (DM _ _) (λ_=>rfl)
  (fun(a:List Int) W=>(∃v,Boxed W w.heap.size 32 v/\W.ownsRow w.heap.size 3 1 v (zN a) (a.map (Value.int .i64))/\True)/\zL w W)
  (λ_ _ _=>False)
  (OwnFrom.and (Own.from (holdsRow_own w.heap.size w.heap.size 32 3 1 (fun(a:List Int)=>zN a) (λa=>a.map (Value.int .i64)) (λa v=>True)) _) (ownFrom_below (DE _) (by simp)))
  (λ_ _ _ _ _ T _ _=>T)
  ⟨⟨_,J,World.ownsRow_nil _ _ _ _,trivial⟩,m⟩
  (λx=>{tmps:=#[.slice none 0 0,.func (.func 154) #[] #[zP k],.pointer (some ⟨w.heap.size,0,none⟩),undef,.slice none 0 0,zI zi x,.func (.func 154) #[] #[zP k],zI zi x,undef,undef,undef,undef,undef],defers:=[]}) ?assign ?body ?done ?stop;case assign=>
  intro l x W K r;gi_wp2;exact r
 case body=>
  rintro l a x W ⟨⟨v,u,d, -⟩,q⟩ S;have z:=u.cell
  gi_wp2_with (gi_at_builtin;refine wpListIn_append_own _ rfl _ _ 32 rfl w.heap.size 3 U (zI zi 0) 1 8 underlying32 hi E F G rfl (by decide) _ _ _ rfl (d.alloc _) ⟨W.heap.size,0,none⟩ 1 1 [zI zi x] rfl rfl (cell_one_new _ _ _) (by simp[Value.oneCell']) (by unfold maxLen;omega) (by omega) (by have:=q.size;simp;omega) ?_;intro v' w1 f o _;obtain⟨V,H,rfl⟩:=ownsRow_succ f;have⟨t,C,B,A,s⟩:=u.appended (by decide) d q.size (DE _) f o;have P:=t.cell;have Q:=t.frozen)
  exact⟨A.from _,s,⟨_,C,by simpa using B,trivial⟩,q.trans s⟩
 case done=>rintro D ys W M rfl ⟨⟨v,u,d, -⟩,q⟩ r;have z:=u.cell;gi_wp2;refine⟨by simp,zQ ⟨_,_,rfl,run_takeDeferred r, ?_⟩⟩;exact⟨_,results_tmp rfl _ _ _,v,rfl,ownsRow_putObj d _ r rfl,q.trans (belowK_b (w:=w) (DE _) W D _ _ (by simp at M;omega) r rfl rfl)⟩
 case stop=>rintro D c a W _ _ h _;exact h.elim
def BM (d b c cap:Nat) (zs:List Int) (a:zN zs<=1000) (w:World) (f:d<w.heap.size) (i:w.cell? ⟨d,0,none⟩=some (zU (some ⟨b,c,none⟩) (zN zs) cap)) (g:b<w.heap.size) (h:∀j,j<zN zs->w.cell? ⟨b,c+j,none⟩=some (zI zi (zs[j]?.getD 0))):Calls zz 152 #[.func (.func 154) #[] #[zP d]] w λe w'=>∃v,e=zE v/\w'.ownsRow w.heap.size 3 1 v (zN zs) (zs.map (Value.int .i64))/\zL w w':=by have C:=callsIn_wide.1 (tO 2 (by omega) d b c cap zs a w f i g h);go_enter func152,ntmps152;go_wp2;refine C.mono ?_;rintro e w' ⟨v,rfl,k,g⟩;go_wp2;go_ret;exact⟨v,rfl,k,g⟩
end
attribute [local go_sem] Oper.semAt_some
def BJ (k b g cap:Nat) (zs:List Int) (a:zN zs<=1000) (ts:List Int) (u:zs.mergeSort (λx y=>decide (x<=y))=ts) (w:World) (r:k<w.heap.size) (G:w.cell? ⟨k,0,none⟩=some (zU (some ⟨b,g,none⟩) (zN zs) cap)) (i:b<w.heap.size) (F:∀j,j<zN zs->w.cell? ⟨b,g+j,none⟩=some (zI zi (zs[j]?.getD 0))):Calls zz 89 #[.func (.func 154) #[] #[zP k]] w λe w'=>∃v,e=zE v/\w'.ownsRow w.heap.size 3 1 v (zN ts) (ts.map (Value.int .i64))/\zL w w':=by
 have I:zN ts=zN zs:=by rw[<-u,List.length_mergeSort]
 have C:=zh (BM k b g cap zs a w r G i F);have E:Hid (zs.mergeSort (λx y=>decide (x<=y))=ts):=zh u;have⟨o,D⟩:=zk2 I a;go_enter func89,ntmps89;go_wp2;refine C.mono ?_;rintro e W ⟨v,rfl,d,i⟩;rcases d.2 with⟨rfl,z⟩|⟨gb,h,cur,rfl,c,f,J,K,L,M⟩
 .have l:=Tryz.slices_Sort_int_none none 0 W;have s:ts=[]:=Ec (by rw[o];exact z);have t:zs=[]:=Ec z;subst s t;have⟨q,m⟩:=zk2 d i;go_wp2;refine zJ l ?_;go_wp2;go_ret;exact⟨_,rfl,q,m⟩
 have l:=zh (Tryz.slices_Sort_int gb 0 h zs W (holds_of_blockI f (by simpa using M)) (Fj.1 f).1 (by have:=D.out;omega));have p:=zh λn os=>ownsRow_sortedI (n:=n) (os:=os) (ss:=zs) (ts:=ts) o c f J K L;have m:=zh λn os=>i.grown (grownBy_sortedI (n:=n) (os:=os) ts.toArray) i.size (λj H=>by cases H;exact c);rw[E] at l;go_wp2;refine l.mono ?_;rintro e N ⟨rfl,n,os,rfl⟩;have A:=zh (p n os);have B:=zh (m n os);go_wp2;go_ret;exact⟨_,rfl,by rw[o];exact A,B⟩
end
section
open Go.RowKit Go.Maps
section
variable {cur:Array Value} {fx:List (Int×Int)} {gn l p:List Nat} {k m v:Nat} {c:Nat->Nat} {w:World}
def qU (fx:List (Int×Int)) (gn p:List Nat):Prop:=∀j,j<zN gn->bZ fx ((zG gn j 0:Nat):Int)=(p[j]?).map (λx:Nat=>(x:Int))
def QR (gn:List Nat):qU [] gn []:=λj h=>rfl
def qU.put (h:qU fx gn p) (d:gn.Nodup) (g:zN p<zN gn) (x:Nat):qU ((((zG gn (zN p) 0:Nat):Int),(x:Int))::fx) gn (p++[x]):=λj b=>by
 rw[cW];by_cases e:j=zN p
 .subst e;rw[DP rfl,DX (DE _),EB];rfl
 have f:zG gn (zN p) 0≠zG gn j 0:=λa=>by rw[DC,DC,DD b,DD g] at a;exact e ((List.getElem_inj d).1 a).symm
 rw[DK (by show¬((zG gn (zN p) 0:Nat):Int)=((zG gn j 0:Nat):Int);omega),h j b];by_cases c:j<zN p
 .rw[D6 c]
 rw[EF (by omega),EF (by rw[DI,Ej];omega)]
def DB (fx:List (Int×Int)) (gn p:List Nat):Prop:=∀j,j<zN gn->j≠zN p->bZ fx ((zG gn j 0:Nat):Int)=(p[j]?).map (λx:Nat=>(x:Int))
def qU.up (h:qU fx gn p):DB fx gn p:=λj a _=>h j a
def DB.put (h:DB fx gn p) (d:gn.Nodup) (g:zN p<zN gn) (x:Nat):qU ((((zG gn (zN p) 0:Nat):Int),(x:Int))::fx) gn (p++[x]):=λj b=>by
 rw[cW];by_cases e:j=zN p
 .subst e;rw[DP rfl,DX (DE _),EB];rfl
 have f:zG gn (zN p) 0≠zG gn j 0:=λa=>by rw[DC,DC,DD b,DD g] at a;exact e ((List.getElem_inj d).1 a).symm
 rw[DK (by show¬((zG gn (zN p) 0:Nat):Int)=((zG gn j 0:Nat):Int);omega),h j b e];by_cases c:j<zN p
 .rw[D6 c]
 rw[EF (by omega),EF (by rw[DI,Ej];omega)]
def qU.back {x:Nat} (h:qU fx gn (p++[x])):DB fx gn p:=λj b c=>by
 rw[h j b];by_cases a:j<zN p
 .rw[D6 a]
 rw[EF (by rw[DI,Ej];omega),EF (by omega)]
def jF (a:List Nat):List Nat->List Nat->List Nat
 |[],_=>a
 |_,[]=>a
 |g::gs,x::p=>jF (a.set g x) gs p
theorem jN:∀(gs p a:List Nat),(jF a gs p).length=zN a
 |[],_,_=>by simp[jF]
 |_::_,[],_=>by simp[jF]
 |g::gs,x::p,a=>by show(jF (a.set g x) gs p).length=_;rw[jN gs p,Er]
theorem rm:∀(gs p a:List Nat) (x:Nat),zN p<zN gs->jF a gs (p++[x])=(jF a gs p).set (zG gs (zN p) 0) x
 |[],p,a,x,h=>by simp at h
 |g::gs,[],a,x,h=>by show jF (a.set g x) gs []=_;cases gs<;>rfl
 |g::gs,y::p,a,x,h=>by show jF (a.set g y) gs (p++[x])=_;rw[rm gs p (a.set g y) x (by simpa using h)];rfl
def QK (h:v<m) (hk:¬k<c v):goV c (m-v) v k=goV c (m-(v+1)) (v+1) (k-c v):=by
 have e:m-v=(m-(v+1))+1:=by omega
 rw[e];show(if k<c v then(v,k) else goV c (m-(v+1)) (v+1) (k-c v))=_;rw[DK hk]
def QL (h:v<m) (hk:k<c v):goV c (m-v) v k=(v,k):=by
 have e:m-v=(m-(v+1))+1:=by omega
 rw[e];show(if k<c v then(v,k) else goV c (m-(v+1)) (v+1) (k-c v))=_;rw[DP hk]
def xX (h:v<m):dB c (List.range' v (m-v))=c v+dB c (List.range' (v+1) (m-(v+1))):=by
 have e:m-v=(m-(v+1))+1:=by omega
 rw[e,List.range'_succ,bQ]
def OI (cur:Array Value) (l:List Nat):Prop:=∀i,i<zN l->cur[i]? =some (zI zi ((zG l i 0:Nat):Int))
def PL {B:Nat} {v:Value} (h:w.ownsRow B 3 1 v (zN l) ((nI l).map (Value.int .i64))) (f:0<zN l):∃g cap cur,v=zU (some ⟨g,0,none⟩) (zN l) cap/\B<=g/\zN l<=cap/\Box w g cur 3/\OI cur l:=by
 rcases h.2 with⟨rfl,j⟩|⟨gb,cap,cur,rfl,a,b,e,k,m,d⟩
 .omega
 refine⟨gb,cap,cur,rfl,a,e,b,λi hi=> ?_⟩;rw[Nat.mul_one] at d;have c:(cur.toList.take (zN l))[i]? =cur.toList[i]? :=EY hi;rw[d] at c;rw[<-Array.getElem?_toList,<-c];unfold nI;rw[Ed,Ed,DD hi,DC,DD hi];rfl
def OI.set (h:OI cur l) (k x:Nat):OI (cur.setIfInBounds k (zI zi x)) (l.set k x):=λi hi=>by
 rw[Er] at hi;by_cases e:k=i
 .subst e;have a:k<cur.size:=by have:=h k hi;exact(Fj.1 this).1
  rw[Array.getElem?_setIfInBounds_self_of_lt a,DC,EL hi];rfl
 rw[Fx e,DC,EP e,<-DC];exact h i hi
def Ya {g cap:Nat} (a:Box w g cur 3) (h:OI cur l) (c:zN l<=cap):IL w (zU (some ⟨g,0,none⟩) (zN l) cap) (nI l):=by refine⟨some ⟨g,0,none⟩,cap,by rw[aF],by rw[aF];exact c,λd=>⟨_,rfl,a.lt,λj b=> ?_⟩⟩;rw[aF] at b;rw[iu,DY,a.cell,h j b,dV]
end
def BV (w:World) (gs ng gi:Nat) (A1 A5:Option Addr) (c1 c5:Nat) (H S D RU LV DG:Value) (root:Nat) (small:Bool) (WT:Value) (vars:List Vr) (hx:Box w gs (spC (zU A1 (zN vars) c1) H S D (zU A5 ng c5) RU LV DG root small WT) 89) (hv:Rs vrR w (zU A1 (zN vars) c1) vars ah) (g0 gn:List Nat) (r:zN g0=zN gn) (ay:(nI g0).mergeSort (λx y=>decide (x<=y))=nI gn) (bL:gi<ng) (bF:ng<=1000) (bt:∃b o vg,A5=some ⟨b,o,none⟩/\b<w.heap.size/\w.cell? ⟨b,o+gi,none⟩=some vg/\IL w vg (nI g0)) (bz:zN vars<=16) (br:zN gn<=16) (aE:0<zN gn) (a6:gn.Nodup) (ws:List Nat) (ba:zN ws=zN gn) (a0:∀j,j<zN gn->zG gn j 0<zN vars/\(zG vars (zG gn j 0) vr0).w=((zG ws j 0:Nat):Int)/\1<=zG ws j 0/\zG ws j 0<=8) (a:List Nat) (va:Value) (ha:IL w va (nI a)) (ag:zN a=zN vars) (F:List Nat->Nat) (aX:∀p,F p<=cD) (hF:∀p,zN p<zN gn->F p<=dB (λx=>F (p++[x])) (List.range' 0 (2^zG ws (zN p) 0))) (aq:∀W fv fx p,zL w W->FxV W fv fx->qU fx gn p->zN p<=zN gn->(∀j,j<zN p->zG p j 0<2^zG ws j 0)->Calls zz 87 #[zP gs,zI zi gi,va,fv] W (zR (zI zi ((F p:Nat):Int)) W)) (k0:Nat) (bu:k0<F []):Calls zz 45 #[zP gs,zI zi gi,va,zI zi k0] w λe w'=>∃v,e=zE v/\IL w' v (nI (jF a gn (chP F ws [] k0)))/\zL w w':=by
 have⟨HX,HV,ad,HF,aN,an⟩:=zk6 hx hv a0 hF aX aq;have⟨bh,aU⟩:=zk2 a6 ba;have ac:=zh λW h=>tM W va (nI a) (ha.Q h) (by rw[aF];omega);rw[aF,ag] at ac;obtain⟨b,o,vg,rfl,aZ,aK,av⟩:=bt;obtain⟨K,Z,cg,rfl,bq,a2,a5,ar⟩:∃K Z cg,vg=zU (some ⟨K,Z,none⟩) (zN gn) cg/\zN gn<=cg/\K<w.heap.size/\True/\∀j,j<zN gn->w.cell? ⟨K,Z+j,none⟩=some (zI zi (((nI g0)[j]?).getD 0)):=by
  rcases av.form with⟨A,c,h1,h2⟩|⟨b,o,c,h1,h2,h3,h4,h5⟩
  .have h3:zN g0=0:=by rw[<-aF g0,h2];rfl
   omega
  rw[aF,r] at h1 h2;exact⟨b,o,c,h1,h2,h4,trivial,λj hj=>by rw[<-DC];exact h5 j (by rw[aF,r];exact hj)⟩
 have az:=zh fun(W:World) (Bv:Nat) (h:zL w W) (hB:Bv<W.heap.size) (hc:W.cell? ⟨Bv,0,none⟩=some (zU (some ⟨K,Z,none⟩) (zN gn) cg))=>BJ Bv K Z cg (nI g0) (by rw[aF];omega) (nI gn) ay W hB (by rw[aF,r];exact hc) (DU a2 h.size) (λj hj=>(h.cell (p:=⟨K,Z+j,none⟩) a2).trans (ar j (by rw[<-r,<-aF];exact hj)));have aM:=zh λW=>callsIn_wide.1 (O7 1 (some ⟨K,Z,none⟩) (zN gn) cg W);rw[aF] at az;have⟨gl,u⟩:=zvh (zN gn);have⟨nv,f⟩:=zvh (zN vars);have C:=zh ag;rw[<-u] at az aM aK br aE ad;rw[<-f] at HX HV ac bz ad;obtain⟨Aa,ca,rfl, -, -⟩:=ha;rw[aF,ag,<-f] at ac an⊢;clear hx hv a0 hF aX aq a6 ba av bq a5 ar ag r ay;have q0:=zn0 gi;have q1:(gi:Int)<(ng:Int):=by omega
 unfold spC at HX;have x4:=za HX 4;go_enter func45,ntmps45;go_wp2;refine(ac w (DM _ _)).mono ?_;rintro e w1 ⟨vo,rfl,s,P⟩;have a7:0<nv:=by have:=(ad 0 aE).1;omega
 have a9:w1.ownsRow w.heap.size 3 1 vo (zN a) ((nI a).map (Value.int .i64)):=by have:=s;rw[C,<-f];exact this
 obtain⟨go,aV,aW,rfl,a1,au,g,aw⟩:=PL a9 (by rw[C,<-f];exact a7);have bC:=g.lt;have⟨J,bj⟩:=zk2 g aw;rw[C,<-f] at au⊢;have l:=zh P;have bs:=P.size;clear a9 g aw;have h4:=(P.cell (p:=⟨gs,4,none⟩) HX.lt).trans x4;have h5:=(P.cell (p:=⟨b,o+gi,none⟩) aZ).trans aK;have bO:=@run_makeMap zz;clear s P x4 aK;go_upto_region 3 with fail;have bn:=((ab w1 (.map #[] 0)).cell (p:=⟨gs,4,none⟩) (DU HX.lt l.size)).trans h4;have bo:=((ab w1 (.map #[] 0)).cell (p:=⟨b,o+gi,none⟩) (DU aZ l.size)).trans h5;have HM:=zh (bR.new φI w1);replace J:=zh (J.Q (ab w1 (.map #[] 0)));replace l:=zh (aa l (ab w1 (.map #[] 0)));clear h4 h5;generalize w1.alloc (.map #[] 0)=w2,w1.heap.size=gm at*;go_wp2;refine(aM w2).mono ?_;rintro e w3 ⟨rfl,rfl⟩;have bc:=zh (az (w2.alloc (zC #[zU (some ⟨K,Z,none⟩) gl cg] 32)) w2.heap.size (aa l (ab w2 _)) (by simp) ((Box.new w2 32 #[zU (some ⟨K,Z,none⟩) gl cg]).A 0 _ rfl));have aY:=ab w2 (zC #[zU (some ⟨K,Z,none⟩) gl cg] 32);replace⟨HM,J,l⟩:=zb3 HM J l aY;clear aY bn bo;generalize w2.alloc (zC #[zU (some ⟨K,Z,none⟩) gl cg] 32)=w3,w2.heap.size=gv at*;go_wp2;refine bc.mono ?_;rintro e w4 ⟨vr,rfl,s,P⟩;have bP:=HM.lt;replace⟨HM,J,l⟩:=zb3 HM J l P;have V:w4.ownsRow w3.heap.size 3 1 vr (zN gn) ((nI gn).map (Value.int .i64)):=by have:=s;rw[<-u];exact this
 obtain⟨gr,bA,ao,rfl,bD,bE,t,ax⟩:=PL V (by rw[<-u];exact aE);have⟨XR,bk⟩:=zk2 t ax;rw[<-u];clear s V t ax P;go_wp2;go_loopw [29,3] (λiv kv wr=>∃(j:Nat) (p:List Nat) (Y:Nat) (fx:List (Int×Int)) (cur:Array Value),j<=gl/\iv=zI zi j/\kv=zI zi Y/\zN p=j/\Hid (chP F (ws.drop j) p Y=chP F ws [] k0)/\Hid (Y<F p)/\Hid (∀i,i<zN p->zG p i 0<2^zG ws i 0)/\bR φI wr gm fx/\Hid (qU fx gn p)/\zN fx<=j*256/\Box wr go cur 3/\Hid (OI cur (jF a gn p))/\Box wr gr ao 3/\zL w wr) (λiv _ _=>gl+1-(intOf iv).toNat)
 .exact⟨0,[],k0,[],aW,DH _,rfl,rfl,rfl,zh rfl,zh bu,zh (λi h=>by simp at h),HM,zh (QR _),DH _,J,zh (by cases gn<;>exact bj),XR,l⟩
 obtain⟨j,p,Y,fx,cur,hj,rfl,rfl,a8,aA,aQ,bl,hm,bf,bK,g,aC,t,Q⟩:=hrel;have⟨HM,J,XR,l,d⟩:=zk5 hm g t Q a8;clear hm g t Q a8;by_cases aj:j<gl
 .have⟨a4,j0⟩:=zln aj;have I:j<zN gn:=by rw[<-u];exact aj
  have x0:=XR.A j _ (bk j I);have⟨g1,g2,g3,g4⟩:=ad j aj;obtain⟨A',c',e1, -,T⟩:=HV.vrs;have⟨bv,ov,e2,bp,R⟩:=T (zG gn j 0) (by rw[<-f];exact g1);obtain rfl:=zas e1 e2;have y1:w.cell? ⟨bv,ov+zG gn j 0*4+1,none⟩=some (zI zi ((zG vars (zG gn j 0) vr0).w)):=R 1 _ rfl;rw[g2] at y1;replace y1:=(l.cell bp).trans y1;have y0:=(l.cell (p:=⟨gs,0,none⟩) HX.lt).trans (HX.A 0 _ rfl);have be:Hid (ws.drop j=zG ws j 0::ws.drop (j+1)):=zh (mG (by rw[aU];exact I));have aD:=zh (HF p (by rw[d];exact I));rw[d] at aD;have hw:=ko (show zG ws j 0<=20 by omega);rw[be] at aA;have al:=zh λB (h:DB B gn p) (x:Nat)=>h.put bh (by rw[d];exact I) x;have am:=zh λx=>rm gn p a x (by rw[d];exact I);rw[d] at al am;have aG:2^zG ws j 0<=256:=by have:=Ew (n:=2) (by omega) g4;simpa using this
  have N:Hid (∀x,x<2^zG ws j 0->∀i,i<(p++[x]).length->(p++[x]).getD i 0<2^zG ws i 0):=zh λx hx i hi=>by
   rw[DI,Ej,d] at hi;by_cases e:i<zN p
   .rw[DC,D6 e,<-DC];exact bl i e
   have e5:i=j:=by have:=d.out;omega
   subst e5;rw[DC,DX (by have:=d.out;omega),d,EB];exact hx
  have bG:zG gn j 0<=16:=by omega
  have bi:Hid (zG gn j 0<(jF a gn p).length):=zh (by rw[jN,C,<-f];exact g1);have⟨m,aJ⟩:=zv (2^zG ws j 0);rw[<-aJ] at aD hw aG N;have bd:Hid (∀q,goV (λx=>F (p++[x])) m 0 Y=q->chP F (ws.drop (j+1)) (p++[q.1]) q.2=chP F ws [] k0):=zh λq hq=>by rw[<-aA];show _=chP F (ws.drop (j+1)) (p++[(goV (λv=>F (p++[v])) (2^zG ws j 0) 0 Y).1]) (goV (λv=>F (p++[v])) (2^zG ws j 0) 0 Y).2;rw[<-aJ,hq]
  have ae:Hid (Y<dB (λx=>F (p++[x])) (List.range' 0 (m-0))):=zh (DU aQ aD);generalize zG ws j 0=wj,zG gn j 0=G at*;have p0:=zn0 G;have p1:(G:Int)<(nv:Int):=by omega
  clear e1 e2 T R aJ g2 I;go_wp2;clear x0 y0 y1;have aT:=zh bf.up;have bw:Y<=1099511627777:=by have h1:=aQ.out;have h2:=aN p;unfold cD at h2;omega
  go_loopw [3,43] (λkv iv wq=>∃(v ak:Nat) (B:List (Int×Int)),v<=m/\ak<=1099511627777/\iv=zI zi v/\kv=zI zi ak/\Hid (goV (λx=>F (p++[x])) (m-v) v ak=goV (λx=>F (p++[x])) m 0 Y)/\Hid (ak<dB (λx=>F (p++[x])) (List.range' v (m-v)))/\bR φI wq gm B/\Hid (DB B gn p)/\zN B<=j*256+v/\Box wq go cur 3/\Box wq gr ao 3/\zL w wq) (λ_ iv _=>m+1-(intOf iv).toNat)
  .exact⟨0,Y,fx,DH _,bw,rfl,rfl,zh (by rw[Nat.sub_zero]),ae,HM,aT,by omega,J,XR,l⟩
  obtain⟨v,kq,B,hv,bN,rfl,rfl,aO,aR,hm,bm,bB,g,t,Q⟩:=hrel;have⟨HM,J,XR,l⟩:=zk4 hm g t Q;clear hm g t Q;have X:v<m:=by
   rcases FO v m with h|h
   .exact h
   exfalso;have:=aR.out;rw[show m-v=0 by omega] at this;simp[dB] at this
  have bH:(v:Int)<(m:Int):=by omega
  have v0:=zn0 v;have⟨w9,hu,aI,ai⟩:=HM.upd (mT:=161) underlying161 (x:=(G:Int)) (jp (by omega)) (i:=(v:Int)) (jp (by omega)) (by unfold maxLen;omega);have bx:(Instr.mapUpdate 161 (.map (some gm)) (zI zi G) (zI zi v)).run zz wr= .ok () w9:=hu;have aB:=zh (al B bm v);have L:=zh (gU l ai bs);have z:=zh (ap J ai);have af:=zh (ap XR ai);have M:=zh aI;have aL:=zh (an w9 (.map (some gm)) _ (p++[v]) L (zO ⟨gm,rfl,aI⟩) aB (by rw[DI,Ej,d,<-u];omega) (N v X));have T:=aN (p++[v]);unfold cD at T;have⟨cv,E⟩:=zvh (F (p++[v]));rw[<-E] at aL T;clear hu ai aI;go_wp2;refine aL.mono ?_;rintro e bb ⟨rfl,P⟩;replace⟨M,z,af,L⟩:=zb4 M z af L P;clear P bx;by_cases U:kq<cv
  .have a3:=zlt U;have HQ:=zh (bd _ (aO.symm.trans (QL X (by show kq<F (p++[v]);rw[<-E];exact U))));have bJ:(Instr.lookup 161 (.map (some gm)) (zI zi G) false).run zz bb= .ok (zI zi v) bb:=by have:=M.look1 (mT:=161) underlying161 (x:=(G:Int)) (jp (by omega));rw[cW,DP rfl] at this;exact this
   have x0:=z.A G _ (aC G bi);have x1:=z.frozen G;have x2:=z.lt;simp only at HQ;go_wp2;go_roundw
   .refine⟨j+1,p++[v],kq,_,_,by omega,by go_num,rfl,by rw[DI,d];rfl,HQ,zh (by rw[<-E];exact U),zh (N v X),M.grown (bI (aH (DM _ _))) (by simp;omega),aB,by rw[DF];omega,z.set_ G (zI zi v),zh (by rw[am];exact aC.set G v),af.setNe ⟨go,G,none⟩ _ (by show go≠gr;omega),L.setCell (p:=⟨go,G,none⟩) a1 _⟩
   simp[intOf];omega
  have a3:=zge U;have aP:=zh ((QK (c:=λx=>F (p++[x])) (k:=kq) X (by show¬kq<F (p++[v]);rw[<-E];exact U)).symm.trans aO);have aS:Hid (kq-cv<dB (λx=>F (p++[x])) (List.range' (v+1) (m-(v+1)))):=zh (by have:=aR.out;rw[xX X] at this;have e:F (p++[v])=cv:=E.symm;rw[e] at this;omega);go_wp2;go_roundw
  .refine⟨v+1,kq-cv,_,by omega,by omega,by go_num,by rw[Int.natCast_sub (by omega)],zh (by rw[E];exact aP),aS,M,zh aB.back,by rw[DF];omega,z,af,L⟩
  simp[intOf];omega
 have a4:=zge aj;have bM:j=gl:=by omega
 have HE:Hid (p=chP F ws [] k0):=zh (by rw[<-aA,List.drop_of_length_le (by rw[aU,<-u];omega)];rfl);go_wp2;go_ret;refine⟨_,rfl, ?_,l⟩;rw[<-HE];have:=Ya J aC (cap:=aV) (by rw[jN,C,<-f];exact au);rw[jN,C,<-f] at this;exact this
theorem lA:∀(gs q a:List Nat) (i:Nat),i∉gs->(jF a gs q).getD i 0=zG a i 0
 |[],q,a,i,_=>by cases q<;>rfl
 |g::gs,[],a,i,_=>rfl
 |g::gs,x::q,a,i,h=>by show(jF (a.set g x) gs q).getD i 0=_;rw[lA gs q _ i λb=>h (Ea _ b),DC,EP (λe=>h (by rw[e];simp)),<-DC]
theorem yy:∀(gs q a:List Nat) (j:Nat),gs.Nodup->j<zN gs->j<zN q->zG gs j 0<zN a->(jF a gs q).getD (zG gs j 0) 0=zG q j 0
 |[],q,a,j,_,h,_,_=>by simp at h
 |g::gs,[],a,j,_,_,h,_=>by simp at h
 |g::gs,x::q,a,0,hn,_,_,b=>by rw[List.nodup_cons] at hn;have b:g<zN a:=b;show(jF (a.set g x) gs q).getD g 0=x;rw[lA gs q _ g hn.1,DC,EL b];rfl
 |g::gs,x::q,a,j+1,hn,h1,h2,b=>by rw[List.nodup_cons] at hn;exact yy gs q (a.set g x) j hn.2 (by simpa using h1) (by simpa using h2) (by rw[Er];exact b)
def Cn {q:List Nat} {x j:Nat} (h:j<(q++[x]).length):(q++[x]).getD j 0=if j<zN q then zG q j 0 else x:=by
 rw[DI,Ej] at h;by_cases a:j<zN q
 .rw[DP a,DC,D6 a,<-DC]
 rw[DK a,DC,DX (by omega),show j-zN q=0 by omega];rfl
theorem RH {F:List Nat->Nat} {ws:List Nat} (d:∀q,zN q<zN ws->F q<=dB (λx=>F (q++[x])) (List.range' 0 (2^zG ws (zN q) 0))):∀(n:Nat) (q:List Nat) (k:Nat),zN q+n=zN ws->k<F q->(∀j,j<zN q->zG q j 0<2^zG ws j 0)→
  (chP F (ws.drop (zN q)) q k).length=zN ws/\0<F (chP F (ws.drop (zN q)) q k)/\∀j,j<zN ws->(chP F (ws.drop (zN q)) q k).getD j 0<2^zG ws j 0
 |0,q,k,h,hk,hq=>by rw[List.drop_of_length_le (by omega)];show zN q=_/\0<F q/\∀j,j<zN ws->zG q j 0<_;exact⟨by omega,by omega,λj a=>hq j (by omega)⟩
 |n+1,q,k,h,hk,hq=>by
  have e:zN q<zN ws:=by omega
  rw[mG (x0:=0) e];obtain⟨-,b,f⟩:=AC (c:=λx=>F (q++[x])) (2^zG ws (zN q) 0) 0 k (DU hk (d q e));rw[DY] at b;have ih:=RH d n (q++[(goV (λx=>F (q++[x])) (2^zG ws (zN q) 0) 0 k).1]) (goV (λx=>F (q++[x])) (2^zG ws (zN q) 0) 0 k).2 (by rw[DI,Ej];omega) f (λj a=>by
   rw[Cn a];rw[DI,Ej] at a;split
   .exact hq j (by assumption)
   rw[show j=zN q by omega];exact b);rw[DI,Ej] at ih;exact ih
def SY (g:List Nat):List Nat:=((nI g).mergeSort λx y=>decide (x<=y)).map Int.toNat
def VA (g:List Nat):nI (SY g)=(nI g).mergeSort λx y=>decide (x<=y):=by
 unfold nI SY;rw[Fe];conv=>rhs;rw[<-List.map_id ((List.map _ g).mergeSort _)]
 refine Fc λv a=> ?_;have h:=List.mem_mergeSort.1 a;obtain⟨x, -,rfl⟩:=EJ.1 h;rfl
def O4 (g:List Nat):(SY g).Perm g:=by
 have h:=(List.mergeSort_perm (nI g) λx y=>decide (x<=y)).map Int.toNat;refine h.trans (List.Perm.of_eq ?_);unfold nI;rw[Fe];conv=>rhs;rw[<-List.map_id g]
 exact Fc λv _=>rfl
section
variable {w:World} {p:Pb} {A1 A2 A3 A4 A5:Option Addr} {c1 c2 c3 c4 c5 gs:Nat} {RV LV DG:Value} {root:Nat} {small:Bool} {gb:Nat}
def lvF (p:Pb) (k:Nat) (a:List Nat):Prop:=vY p (gL (nmV p.v (cF p)) (aI p) 1 cX) (aI p) k a
def BW (E:EnP w p A1 A2 A3 A4 A5 c1 c2 c3 c4 c5) (S:SpR w p A1 A2 A3 A4 A5 c1 c2 c3 c4 c5 gs RV LV DG root small gb) (gi:Nat) (d:gi<zN p.g) (a:List Nat) (K:Value) (Z:IL w K (nI a)) (u:gO p.v a) (J:Nat) (hk:J<pj p gi a noF):Calls zz 45 #[zP gs,zI zi gi,K,zI zi J] w λe w'=>∃v b,e=zE v/\IL w' v (nI b)/\zL w w'/\gO p.v b/\lvF p (gi+1) b:=by
 have⟨sn,H⟩:=zv (SY (grN p gi));have f:sn.Perm (grN p gi):=by rw[H];exact O4 _
 have U:(nI (grN p gi)).mergeSort (λx y=>decide (x<=y))=nI sn:=by rw[H,VA]
 have D:=Ve E.pv d;have g:sn.Nodup:=f.nodup_iff.2 D;have n:∀j,j<zN sn->zG sn j 0∈grN p gi:=λj c=>f.mem_iff.1 (getD_in 0 c);have l:∀j,j<zN sn->zG sn j 0<zN p.v:=λj c=>(cN E.pv (iQ d (n j c))).1;have⟨ws,I⟩:=zv (sn.map (wdN p));have t:zN ws=zN sn:=by rw[I,DT]
 have m:∀j,j<zN sn->zG ws j 0=wdN p (zG sn j 0):=λj c=>by rw[I,DC,Ed,DD c,DC,DD c];rfl
 have r:∀i∈grN p gi,∃j,j<zN sn/\i=zG sn j 0:=λi hi=>by have⟨j,c,e⟩:=D9.1 (f.mem_iff.2 hi);exact⟨j,c,by rw[DC,DD c];exact e.symm⟩
 have⟨F,k⟩:=zv (λq=>pj p gi a (fxP sn q):List Nat->Nat);have z:F []=pj p gi a noF:=by rw[k];exact pn λi hi=>AH sn i
 have Y:∀q,zN q<zN sn->F q<=dB (λx=>F (q++[x])) (List.range' 0 (2^zG ws (zN q) 0)):=λq s=>by rw[<-List.range_eq_range',m _ s,k];refine D2 (wB (n _ s) D (by rw[lK g s];exact EF (DE _))) (Nat.le_of_eq (iw λx _=> ?_));exact pn λi hi=>(Uj g s x i (f.mem_iff.2 hi)).symm
 have⟨A',c',e1,aa,h1⟩:=E.hp.g.ils;obtain⟨b5,o5,vg,e2,L,hu,Q, -⟩:=h1 gi d;simp only[DQ,true_and] at e1;obtain⟨rfl,rfl⟩:=e1;have o:IL w vg (zG p.g gi []):=Q;rw[<-uT E.pv d] at o;have P:0<zN sn:=by rw[f.length_eq];have R:=E.pv.g.some_ _ (getD_in [] d);unfold grN;rw[DT];exact List.length_pos_iff.2 R
 have s:=RH (F:=F) (ws:=ws) (by rw[t];exact Y) (zN ws) [] J (by simp) (by rw[z];exact hk) (λj c=>by simp at c);rw[show ws.drop ([]:List Nat).length=ws from rfl] at s;have C:=BV w gs (zN p.g) gi A1 A5 c1 c5 _ _ _ RV LV DG root small (wgV gb) p.v S.b E.hp.v (grN p gi) sn f.length_eq.symm U d E.sm.ng ⟨b5,o5,vg,e2,L,hu,o⟩ E.pv.v.len (by rw[f.length_eq];exact rM E.pv d) P g ws t
  (λj c=>by obtain⟨-,o1, -⟩:=E.pv.v.ok _ (getD_in vr0 (l j c));rw[m j c];exact⟨l j c,by unfold wdN;omega,by unfold wdN;omega,by unfold wdN;omega⟩)
  a K Z u.len F (λq=>by rw[k];exact Zi _ _ _ _ _ _ _) Y
  (λW fv fx q B N M ab T=>by rw[k];refine U5 (E.Q B) (S.Q B) fv fx N (fxP sn q) gi d (λi hi=> ?_) a K (Z.Q B) (u.av E.pv);obtain⟨j,c,rfl⟩:=r i hi;have⟨r1,r2⟩:=cN E.pv (iQ d hi);refine⟨r1,r2,by rw[lK g c];exact M j c,λx V=> ?_⟩;rw[lK g c] at V;have⟨h5,h6⟩:=D0.1 V;have X:=T j h5;rw[m j c,DC,V] at X;exact X)
  J (by rw[z];exact hk);refine C.mono ?_;rintro e w' ⟨v,rfl,hv,B⟩;generalize chP F ws [] J=q at*;obtain⟨q1,q2,q3⟩:=s;rw[t] at q1 q3;have A:∀j,j<zN sn->(jF a sn q).getD (zG sn j 0) 0=zG q j 0:=λj c=>yy sn q a j g c (by omega) (by rw[u.len];exact l j c);have G:∀i,i∉grN p gi->(jF a sn q).getD i 0=zG a i 0:=λi hi=>lA sn q a i λh=>hi (f.mem_iff.1 h);refine⟨v,_,rfl,hv,B,⟨by rw[jN];exact u.len,λi hi=> ?_⟩, ?_⟩
 .by_cases hm:i∈grN p gi
  .obtain⟨j,c,rfl⟩:=r i hm;rw[A j c];refine⟨λh0=>absurd h0 (cN E.pv (iQ d hm)).2, ?_⟩;have:=q3 j c;rw[m j c] at this;exact this
  rw[G i hm];exact u.ok i hi
 refine BF (a:=a) (fx:=fxP sn q) (wt:=wtP p) d (λi hi=> ?_) (λi hi=>G i (Ws E.pv d hi)) (by rw[k] at q2;exact q2);obtain⟨j,c,rfl⟩:=r i hi;rw[lK g c,A j c,DC,DD (by omega)];rfl
end
section
variable (x:Int) (w:World)
def fi1 (x:Int):Int:=IntKind.u64.wrap (bits .xor .u64 x (x/1073741824)*13787848793156543929)
def fi2 (x:Int):Int:=IntKind.u64.wrap (bits .xor .u64 x (x/134217728)*10723151780598845931)
def fiI (x:Int):Int:=bits .xor .u64 (fi2 (fi1 x)) (fi2 (fi1 x)/2147483648)
def mxI (a b:Int):Int:=fiI (IntKind.u64.wrap (a+IntKind.u64.wrap (11400714819323198485*IntKind.u64.wrap (b+1))))
def WF:0<=fiI x:=(bits_within _ .u64 _ _).1
def rgL (k c:Int):Array Value:=#[.int .u64 k,.int .u64 c]
def QE (x:Int):Calls zz 306 #[.int .u64 x] w (zR (.int .u64 (fiI x)) w):=by go_enter func306,ntmps306;go_wp2;go_ret;exact⟨rfl,DM _ _⟩
def Yp (a b:Int):Calls zz 255 #[.int .u64 a,.int .u64 b] w (zR (.int .u64 (mxI a b)) w):=by have C:=zh (QE w (IntKind.u64.wrap (a+IntKind.u64.wrap (11400714819323198485*IntKind.u64.wrap (b+1)))));go_enter func255,ntmps255;go_wp2;refine zK C λw2 d=> ?_;have c:=zh d;go_wp2;go_ret;exact⟨rfl,c⟩
def VX (k c:Int):Calls zz 187 #[zX (rgL k c)] w (zR (zY #[.int .u64 (mxI k c),zX (rgL k (IntKind.u64.wrap (c+1)))]) w):=by
 have C:=zh λW=>Yp W k c;unfold rgL;go_enter func187,ntmps187;go_upto_region 1 with fail;generalize q:w.alloc _=zw1 at*;generalize r:zw1.alloc _=w1 at*;have⟨l,d,n⟩:=zB2 q r;obtain⟨f,g⟩:=zc2 d;go_wp2;refine zK (C _) λw2 o=> ?_;replace⟨d,n,l⟩:=zb3 d n l o;obtain⟨f,g⟩:=zc2 d;have s:=d.lt;have m:=d.Z 1;go_wp2;have e:=zh (d.set_ 1 (.int .u64 (IntKind.u64.wrap (c+1))));have a:=zh (n.setNe ⟨w.heap.size,1,none⟩ (.int .u64 (IntKind.u64.wrap (c+1))) (by simp));have b:=zh (l.setCell (p:=⟨w.heap.size,1,none⟩) (DE _) (.int .u64 (IntKind.u64.wrap (c+1))));generalize w2.setCell _ _=w3 at*;refine aj 3 ?_;have x0:=e.lat 0 _ rfl;have u:=e.lat 1 _ rfl;simp only[Ee,El,Ei,D5];repeat(go_big_quiet_step (fail))
 refine D4 ?_;intro t o;replace⟨a,b⟩:=zb2 a b o;have j:=a.lt;obtain⟨h,i⟩:=zc2 a;have x:=a.Z 0;have y:=a.Z 1;go_wp2;refine D7 (v:=zY #[.int .u64 (mxI k c),zX #[.int .u64 k,.int .u64 (IntKind.u64.wrap (c+1))]]) (by simp[results,results187,go_sem,h,i,j]) rfl ?_;exact⟨rfl,ak b (Nat.le_succ _)⟩
def BY (gr:Nat):Calls zz 109 #[zP gr] w λe w'=>e=zE (.func (.func 186) #[] #[.pointer (some ⟨w.heap.size,0,none⟩)])/\w'=w.alloc (zC #[zP gr] 182):=by go_enter func109,ntmps109;go_wp2;go_ret;exact⟨rfl,rfl⟩
def PkR (w:World) (gr n:Nat) (e:Ending) (w':World):Prop:=∃x:Nat,e=zE (zI zi x)/\x<n/\w.grownBy w' (some gr)/\∃k c,Box w' gr (rgL k c) 57
def sJ {w w':World} {gr n:Nat} {y k c:Int} (j:0<=y) (i:1<=n) (f:n<=4611686018427387904) (d:w.grownBy w' (some gr)) (g:Box w' gr (rgL k c) 57):PkR w gr n (zE (zI zi (wrap64 (y%(n:Int))))) w':=by
 have a:=Int.emod_nonneg y (b:=(n:Int)) (by omega);have h:=Int.emod_lt_of_pos y (b:=(n:Int)) (by omega);refine⟨(y%(n:Int)).toNat, ?_,by omega,d,k,c,g⟩;have e:wrap64 (y%(n:Int))=y%(n:Int):=by unfold wrap64;omega
 rw[Int.toNat_of_nonneg a,e]
def VW (gr j:Nat) (r:j≠gr) (I F:Int) (n:Nat) (q:1<=n) (f:n<=4611686018427387904) (s:Box w gr (rgL I F) 57) (K:Box w j #[zP gr] 182):Calls zz 186 (#[zI zi n]++#[zP j]) w (PkR w gr n):=by
 have⟨a,g,h⟩:=zk3 s K r;have P:¬(n:Int)=0:=by omega
 have Q:((n:Int)==0)=false:=by simp;omega
 show Calls _ _ #[zI zi n,zP j] _ _;go_enter func186,ntmps186;go_wp2;generalize(IntKind.u64.wrap (-(n:Int))).tmod (n:Int)=rest at*;go_loopw [6,13] (λM A wr=>∃(x k c:Int) (i:Nat),0<=x/\i<=64/\M= .int .u64 x/\A=zI zi i/\Box wr gr (rgL k c) 57/\Box wr j #[zP gr] 182/\w.grownBy wr (some gr)) (λ_ A _=>64-(intOf A).toNat)
 .exact⟨0,I,F,0,by omega,by omega,rfl,rfl,a,g,aH (DM _ _)⟩
 obtain⟨x,k,c,i,s,hi,rfl,rfl,z,t,p⟩:=hrel;have⟨a,g,m⟩:=zk3 z t p;by_cases J:i<64
 .have l:(i:Int)<64:=by omega
  have N:=zn0 i;go_upto_region 6 with fail;refine aj 9 ?_;have R:=g.lat 0 _ rfl;have x0:=a.lat 0 (.int .u64 k) rfl;have U:=a.lat 1 (.int .u64 c) rfl;have B:=zh λW=>VX W k c;unfold rgL at B;simp only[Ee,El,Ei,D5];repeat(go_big_quiet_step (with_reducible exact aG (B.out _)))
  refine D4 ?_;intro T G;replace⟨a,g⟩:=zb2 a g G;replace m:=zh (aA m (aH G));have E:=a.lt;obtain⟨C,D⟩:=zc2 a;have V:=a.Z 0;have X:=a.Z 1;have d:=λu v=>zh ((a.set_ 0 u).set_ 1 v);have o:=λu v=>zh ((g.setNe ⟨gr,0,none⟩ u (λe=>h e.symm)).setNe ⟨gr,1,none⟩ v (λe=>h e.symm));have b:=λu v=>zh (bI (i:=1) (u:=v) (bI (i:=0) (u:=u) m));have hm:0<=mxI k c:=WF _;generalize mxI k c=y at*;by_cases H:rest=0
  .subst H;go_wp2;go_ret;exact sJ hm q f (b _ _) (d _ _)
  have S:(rest==0)=false:=by simpa using H
  by_cases L:y<IntKind.u64.wrap (-rest)
  .go_wp2;go_ret;exact sJ hm q f (b _ _) (d _ _)
  go_wp2;go_roundw
  .exact⟨y,k,_,i+1,hm,by omega,rfl,by go_num,(d _ _),(o _ _),(b _ _)⟩
  simp[intOf];omega
 have l:¬(i:Int)<64:=by omega
 go_wp2;go_ret;exact sJ s q f m a
def BwR (w:World) (n:Nat) (e:Ending) (w':World):Prop:=∃(x:Nat) (k c:Int),e=zE (zY #[zI zi x,zX (rgL k c),zI zi 0])/\x<n/\zL w w'
def Tt (k c:Int) (n:Nat) (A:1<=n) (s:n<=4611686018427387904):Calls zz 56 #[zX (rgL k c),zI zi n] w (BwR w n):=by
 have C:¬(n:Int)<1:=by omega
 have D:¬(n:Int)>4611686018427387904:=by omega
 have E:(1:Int)<=n:=by omega
 have F:(n:Int)<=4611686018427387904:=by omega
 unfold rgL;go_enter func56,ntmps56;go_upto_region 1 with fail;generalize l:w.alloc _=zw1 at*;generalize m:zw1.alloc _=w1 at*;have⟨b,d,a⟩:=zB2 l m;clear l m;have f:Hid (w.heap.size+1<w1.heap.size):=zh a.lt;have u:=zh (BY w1 w.heap.size);go_wp2;refine u.mono ?_;rintro e w2 ⟨rfl,rfl⟩;have y:=zh (VW (w1.alloc (zC #[.pointer (some ⟨w.heap.size,0,none⟩)] 182)) w.heap.size w1.heap.size (by have:=f.out;omega) k c n A s (d.Q (ab w1 _)) (Box.new w1 _ _));replace a:=zh (a.Q (ab w1 (zC #[.pointer (some ⟨w.heap.size,0,none⟩)] 182)));replace b:=zh (aa b (ab w1 (zC #[.pointer (some ⟨w.heap.size,0,none⟩)] 182)));clear u d;generalize w1.alloc (zC #[.pointer (some ⟨w.heap.size,0,none⟩)] 182)=w2 at*;go_wp2;refine y.mono ?_;rintro e G ⟨x,rfl,z,r,t,c2,j⟩;replace a:=zg a r;replace b:=zh (gU b r (DE _));have⟨d,o⟩:=zk2 j z;clear z r j y f;go_upto_region 4 with fail;refine aj 3 ?_;have x0:=d.lat 0 (.int .u64 t) rfl;have B:=d.lat 1 (.int .u64 c2) rfl;simp only[Ee,El,Ei,D5];repeat(go_big_quiet_step (fail))
 refine D4 ?_;intro H j;clear x0 B;replace⟨a,b⟩:=zb2 a b j;clear j d;have⟨g,h,i,p,q⟩:=zr a;go_wp2;refine D7 (v:=zY #[zI zi x,zX #[.int .u64 t,.int .u64 c2],zI zi 0]) (by simp[results,results56,go_sem,g,h,i]) rfl ?_;exact⟨x,t,c2,rfl,o,ak b (Nat.le_succ _)⟩
end
section
variable {p:Pb}
def nU (v:Value):Prop:=∀z,v≠ .int .u64 z
structure KpU (w w':World) (g:Nat):Prop where
 sz:w.heap.size=w'.heap.size
 blk:∀b,b≠g->w'.heap[b]? =w.heap[b]?
 box:∃k c,Box w g (rgL k c) 57
def KpU.set {w:World} {g:Nat} {k c:Int} (h:Box w g (rgL k c) 57) (u v:Value):KpU w ((w.setCell ⟨g,0,none⟩ u).setCell ⟨g,1,none⟩ v) g:=⟨by simp[World.setCell],λb a=>by rw[Eo _ _ _ _ (by exact a),Eo _ _ _ _ (by exact a)],k,c,h⟩
def KpU.cell {w w':World} {g b o:Nat} {u:Value} (h:KpU w w' g) (a:w.cell? ⟨b,o,none⟩=some u) (d:nU u):w'.cell? ⟨b,o,none⟩=some u:=by
 by_cases e:b=g
 .subst e;have⟨k,c,i⟩:=h.box;rw[i.cell] at a;unfold rgL at a;have f:=(Fj.1 a).1;have:o=0\/o=1:=by simp at f;omega
  rcases this with rfl|rfl
  .exact absurd (by simpa using a.symm) (d k)
  exact absurd (by simpa using a.symm) (d c)
 rw[fN (h.blk b e)];exact a
def KpU.bx {w w':World} {g b:Nat} {cs:Array Value} {T:TypeId} (h:KpU w w' g) (a:Box w b cs T) (d:T≠57):Box w' b cs T:=by have⟨k,c,e⟩:=h.box;unfold Box at a⊢;rw[h.blk b (af (show Box w b cs T from a) e d)];exact a
section
variable {α:Type} {φ:Rd α} {w w':World} {v:Value} {xs:List α} {F:Nat->Prop} {g:Nat}
def Rs.keepU (k:KpU w w' g) (d:∀us x,φ.R w us x F->(∀u∈us,nU u)/\φ.R w' us x F) (h:Rs φ w v xs F):Rs φ w' v xs F:=by
 obtain⟨A,c,rfl,q,h⟩:=h;refine⟨A,c,rfl,q,λs=> ?_⟩;obtain⟨b,o,rfl,p,h⟩:=h s;refine⟨b,o,rfl,by rw[<-k.sz];exact p,λj x r=> ?_⟩;have⟨us,l,f⟩:=h j x r;have⟨m,n⟩:=d us x f;refine⟨us,λi hi=> ?_,n⟩;have a:i<zN us:=by rw[φ.len f];exact hi
 have e:=l i hi;rw[DD a] at e⊢;exact k.cell e (m _ (EE a))
end
theorem vc {w w':World} {g:Nat} (b:KpU w w' g):∀(d:Nat) {v:Value} {l:List Ex},Rs (exR d) w v l ah->Rs (exR d) w' v l ah
 |0,_,_,h=>h.keepU b λus x h=>h.elim
 |d+1,_,_,h=>h.keepU b λus x ⟨v,h1,h2,h3⟩=>by have f:=vc b d h2;refine⟨λu a z=> ?_,v,h1,f,h3⟩;have⟨A,c,e1,_⟩:=h2.slice;rw[h1,e1] at a;unfold exL at a;simp only[DS,DZ,EC] at a;rcases a with rfl|rfl|rfl|rfl<;>(intro e;cases e)
def IL.keepU {w w':World} {g:Nat} (d:KpU w w' g) {v:Value} {l:List Int} (h:IL w v l):IL w' v l:=by
 rcases h.form with⟨A,c,rfl,rfl⟩|⟨b,o,c,rfl,a,n,k,h⟩
 .obtain⟨f,i,e,a,_⟩:=h;exact⟨f,i,e,a,λh=>by simp at h⟩
 refine⟨_,c,rfl,a,λ_=>⟨_,rfl,by rw[<-d.sz];exact k,λj m=> ?_⟩⟩;rw[cC];exact d.cell (h j m) λz e=>by cases e
theorem WgS.keepU {w w':World} {g:Nat} (d:KpU w w' g) {p:Pb} {k n gb:Nat} (h:WgS w p k n gb):WgS w' p k n gb:=by
 obtain⟨gr,cur,q,r,s⟩:=h;refine⟨gr,cur,d.bx q (by decide),d.bx r (by decide),λi hi=> ?_⟩;have⟨v,t,f⟩:=s i hi;refine⟨v,t, ?_⟩;generalize qw p k i=o at*;cases o with
 |none=>exact f
 |some ws=>obtain⟨a,c,j,l,m⟩:=f;refine⟨a,c,j,l.keepU d λus x h=>⟨λu b z=> ?_,h⟩,m⟩;have h:us=wtL x:=h;rw[h] at b;unfold wtL at b;simp only[DS,DZ,EC] at b;rcases b with rfl|rfl|rfl|rfl<;>(intro e;cases e)
def SpR.keepU {w w':World} {g:Nat} (a:KpU w w' g) {A1 A2 A3 A4 A5:Option Addr} {c1 c2 c3 c4 c5 gs:Nat} {f LV DG:Value} {root:Nat} {small:Bool} {gb:Nat} (h:SpR w p A1 A2 A3 A4 A5 c1 c2 c3 c4 c5 gs f LV DG root small gb):SpR w' p A1 A2 A3 A4 A5 c1 c2 c3 c4 c5 gs f LV DG root small gb:=by
 refine⟨a.bx h.b (by decide),vc a _ h.ru,h.lv.keepU a,h.wg.keepU a, ?_⟩;have c:=h.d;unfold SpD at c⊢;generalize gL (nmV p.v (cF p)) (aI p) 1 cX=R at*;rcases R with _|⟨t,d⟩
 .exact c
 obtain⟨i,j,k,l⟩:=c;refine⟨i,j,k.keepU a λus x h=>⟨λu b z=> ?_,h⟩,l⟩;have h:us=ndL x:=h;rw[h] at b;unfold ndL at b;simp only[DS,DZ,EC] at b;rcases b with rfl|rfl|rfl<;>(intro e;cases e)
def stA (vars:List Vr) (k:Nat):List Nat:=(List.range (zN vars)).map λi=>if i<k/\(zG vars i vr0).m=0 then(zG vars i vr0).u.toNat else 0
def fl (vars:List Vr) (k:Nat):(stA vars k).length=zN vars:=by simp[stA]
def m7 (vars:List Vr) (k:Nat) {i:Nat} (hi:i<zN vars):(stA vars k).getD i 0=if i<k/\(zG vars i vr0).m=0 then(zG vars i vr0).u.toNat else 0:=by unfold stA;rw[DC,Ed,EZ hi];rfl
def Xy (vars:List Vr):stA vars 0=List.replicate (zN vars) 0:=by refine Fz (by rw[fl,Es]) λi hi a=> ?_;have:=m7 vars 0 (i:=i) (by rw[fl] at hi;exact hi);rw[DC,DD hi] at this;simp only[Nat.not_lt_zero,false_and,FN,EQ] at this;rw[this,List.getElem_replicate]
def ZX {a b:List Nat} (e:zN a=zN b) (h:∀i,i<zN a->zG a i 0=zG b i 0):a=b:=
 Fz e λi c d=>by have:=h i c;rw[DC,DD c,DC,DD d] at this;exact this
def SX {vars:List Vr} {k:Nat} (hk:k<zN vars) (a:(zG vars k vr0).m=0):(stA vars k).set k (zG vars k vr0).u.toNat=stA vars (k+1):=by
 refine ZX (by rw[Er,fl,fl]) λi hi=> ?_;rw[Er,fl] at hi;rw[m7 _ _ hi];by_cases e:i=k
 .subst e;rw[DP ⟨by omega,a⟩,DC,EL (by rw[fl];exact hi)];rfl
 rw[DC,EP (λh=>e h.symm),<-DC,m7 _ _ hi];by_cases h:i<k
 .simp[h,show i<k+1 by omega]
 simp[h,show¬i<k+1 by omega]
def O3 {vars:List Vr} {k:Nat} (hk:k<zN vars) (a:(zG vars k vr0).m≠0):stA vars k=stA vars (k+1):=by
 refine ZX (by rw[fl,fl]) λi hi=> ?_;rw[fl] at hi;rw[m7 _ _ hi,m7 _ _ hi];by_cases e:i=k
 .subst e;rw[DK (λh=>a h.2),DK (λh=>a h.2)]
 by_cases h:i<k
 .simp[h,show i<k+1 by omega]
 simp[h,show¬i<k+1 by omega]
def Vz (c:PV p):gO p.v (stA p.v (zN p.v)):=⟨fl _ _,λi hi=>by
 rw[m7 _ _ hi];obtain⟨-,d, -,f, -⟩:=c.v.ok _ (getD_in vr0 hi);have e:(((2:Nat)^(zG p.v i vr0).w.toNat:Nat):Int)=(2:Int)^(zG p.v i vr0).w.toNat:=by simp
 have b:0<2^(zG p.v i vr0).w.toNat:=Fq (by simp);by_cases h:(zG p.v i vr0).m=0
 .rw[DP ⟨hi,h⟩];exact⟨λ_=>by omega,by omega⟩
 rw[DK (λa=>h a.2)];exact⟨λa=>absurd a h,b⟩⟩
def YK (w:World) (p:Pb) (e:Ending) (w':World):Prop:=zL w w'/\∃v k c er,e=zE (zY #[v,zX (rgL k c),zI zi er])/\(er=0->∃a,IL w' v (nI a)/\gO p.v a/\dq (aM (ai p.v) a) (bK p)=true)
def S3 (b:PV p) (i:PSm p) {a:List Nat} (c:gO p.v a) (h:0<zN p.g->lvF p (zN p.g) a) (d:cJ p (bK p)=true):dq (aM (ai p.v) a) (bK p)=true:=by
 by_cases g:zN p.g=0
 .exact Ca b c g d
 have:=wY b (λe f=>pK (λ_ _=>rfl) _ _ (gQ i b e ((ew p).1 e f)).okE) c (h (by omega));unfold aI at this;rw[rL,DW] at this;exact this.1
end
def Tq {w:World} {p:Pb} {A1 A2 A3 A4 A5:Option Addr} {c1 c2 c3 c4 c5:Nat} (E:EnP w p A1 A2 A3 A4 A5 c1 c2 c3 c4 c5) (k0 c0:Int):Calls zz 22 #[pbV p A1 A2 A3 A4 A5 c1 c2 c3 c4 c5,zX (rgL k0 c0)] w (YK w p):=by
 have CO:=zh fun(W:World) (l:zL w W)=>Po (E.Q l);have CT:=zh fun(W:World) (l:zL w W) gs RV LV DG root small gb (S:SpR W p A1 A2 A3 A4 A5 c1 c2 c3 c4 c5 gs RV LV DG root small gb)=>Tp (E.Q l) S;have CC:=zh fun(W:World) (l:zL w W) gs RV LV DG root small gb (S:SpR W p A1 A2 A3 A4 A5 c1 c2 c3 c4 c5 gs RV LV DG root small gb)=>BW (E.Q l) S;have I:=zh λa (ha:gO p.v a) h h0=>S3 E.pv E.sm (a:=a) ha h h0;have J:=zh λk (hk:k<zN p.v) h0=>SX (vars:=p.v) (k:=k) hk h0;have K:=zh λk (hk:k<zN p.v) h0=>O3 (vars:=p.v) (k:=k) hk h0;have L:=zh (Vz E.pv);have ai:=zh (Xy p.v);have P:=zh λk=>fl p.v k;have am:=zh λi (hi:i<zN p.v)=>by have o3:=(E.pv.v.ok _ (getD_in vr0 hi)).2.2.2.1;exact o3.1
 have HV:=zh E.hp.v;have aX:=E.pv.v.len;have aS:=E.sm.ng;have MI:=fo (zN p.v) (by omega);unfold pbV at CO⊢;have⟨n1,ah⟩:=zvh (zN p.v);have⟨n5,aH⟩:=zvh (zN p.g);rw[<-ah] at CO J K am aX MI L ai HV P⊢;rw[<-aH] at CO CT CC I aS⊢;generalize zN p.h=n2,zN p.s=n3,zN p.d=n4 at*;unfold rgL;go_enter func22,ntmps22;go_upto_region 1 with fail;generalize Y:w.alloc _=zw1 at*;generalize a1:zw1.alloc _=zw2 at*;generalize a2:zw2.alloc _=w1 at*;have⟨f,F,o,m⟩:=zB3 Y a1 a2;obtain⟨an,a3,a4,a5,a6⟩:=zc5 F;go_wp2;refine(CO w1 f).mono ?_;rintro e w2 ⟨l,⟨ay,rfl⟩|⟨ay,gs,RU,LV,DG,root,small,gb,rfl,bb,hS⟩⟩
 .skip;replace⟨F,o,m,f⟩:=zb4 F o m f l;have⟨q,r,s,A,B⟩:=zr m;go_wp2;refine D7 (v:=zY #[zU none 0 0,zX #[.int .u64 0,.int .u64 0],zI zi 11]) (by simp[results,results22,go_sem,q,r,s]) rfl ?_;exact⟨ak f,_,_,_,_,rfl,λh=>absurd h (by decide)⟩
 skip;have D:=zh hS;have a9:=f.size;have bc:=m.lt;replace⟨F,o,m,f⟩:=zb4 F o m f l;have M1:=MI w2;have an:=za F 0;go_upto_region 5 with fail;have U:=ab w2 (zC (iA (List.replicate n1 0)) 3);have z:=zh (Box.new w2 3 (iA (List.replicate n1 0)));rw[show List.replicate n1 (0:Int)=nI (stA p.v 0) by rw[ai];simp[nI]] at z U⊢;have aO:w.heap.size<=w2.heap.size:=f.size;have aT:w.heap.size+1+1<w2.heap.size:=m.lt;have y:=zh U;have y0:=(F.Q U).A 0 _ rfl;generalize w2.alloc (zC (iA (nI (stA p.v 0))) 3)=w3 at*;have⟨ga,ae⟩:=zvh (w2.heap.size);rw[<-ae] at z aO aT⊢;go_wp2;go_loopw [32] (λX wr=>∃k:Nat,k<=n1/\X=zI zi k/\Box wr ga (iA (nI (stA p.v k))) 3/\zL w2 wr) (λX _=>n1+1-(intOf X).toNat)
 .exact⟨0,DH _,rfl,z,y⟩
 obtain⟨k,hk,rfl,aY,l⟩:=hrel;have⟨z,y⟩:=zk2 aY l;by_cases d:k<n1
 .have⟨C,q0⟩:=zln d;obtain⟨A',c',e1, -,aN⟩:=HV.vrs;have⟨bv,ov,e2,aq,V⟩:=aN k (by rw[<-ah];exact d);obtain rfl:=zas e1 e2;have ac:=zh (aa f y);have a8:=DU aq ac.size;obtain⟨y0,y1,y2,y3⟩:=zx4 ac aq V;rw[Eb] at y0;have Q:=zh (J k d);have al:=zh (K k d);have aW:=am k d;generalize zG p.v k vr0=vr at*;obtain⟨nm,wd,md,vl⟩:=vr;simp only at y0 y1 y2 y3 aW Q al;obtain⟨vn,rfl⟩:∃vn:Nat,vl=vn:=⟨vl.toNat,by omega⟩;rw[Eh] at Q;go_upto_region 8 with fail;generalize Y:wr.alloc _=w4 at*;have⟨aM,XN⟩:=zA1 Y;replace⟨z,y⟩:=zb2 z y aM;generalize wr.heap.size=gv at*;obtain⟨z2,z3⟩:=zd2 XN 2 3;have ar:w2.heap.size<=ga:=by have:=ae.out;omega
  by_cases hm:md=0
  .subst hm;have x0:=z.A k _ (eH (by rw[aF,P];exact d));have x1:=z.frozen k;have x2:=z.lt;go_wp2;go_roundw
   .refine⟨k+1,by omega,by go_num, ?_,y.setCell (p:=⟨ga,k,none⟩) ar _⟩;have:=z.set_ k (zI zi vn);rw[iP,wV,Q rfl] at this;exact this
   simp[intOf];omega
  have q1:(md==0)=false:=by simpa using hm
  go_wp2;go_roundw
  .exact⟨k+1,by omega,by go_num,by rw[<-al hm];exact z,y⟩
  simp[intOf];omega
 have⟨C,aQ⟩:=zgq hk d;subst aQ;replace D:=zh (D.Q y);replace F:=zh (F.Q y);replace o:=zh (o.Q y);replace m:=zh (m.Q y);replace f:=zh (aa f y);have g:=zh (lI z k (by rw[aF,P]));have N:=zh I;have y4:=za F 4;go_wp2;generalize(zU (some ⟨ga,0,none⟩) k k:Value)=va at*;go_loopw [9,49] (λav X wq=>∃(j:Nat) (a:List Nat) (kr Z:Int),j<=n5/\X=zI zi j/\IL wq av (nI a)/\gO p.v a/\Hid (0<j->lvF p j a)/\SpR wq p A1 A2 A3 A4 A5 c1 c2 c3 c4 c5 gs RU LV DG root small gb/\Box wq (w.heap.size+1) (rgL kr Z) 57/\Box wq (w.heap.size+1+1) #[.int .u64 0,.int .u64 0] 57/\zL w wq) (λ_ X _=>n5+1-(intOf X).toNat)
 .exact⟨0,_,k0,c0,DH _,rfl,g,L,zh (λh=>absurd h (by omega)),D,o,m,f⟩
 obtain⟨j,a,kr,Z,hj,rfl,t,hA,aG,hS,a0,aZ,l⟩:=hrel;have au:=t;obtain⟨Aa,ca,rfl, -, -⟩:=au;generalize(zU Aa (nI a).length ca:Value)=vb at*;have⟨g,HA,D,o,m,f⟩:=zk6 t hA hS a0 aZ l;by_cases d:j<n5
 .have⟨C,q0⟩:=zln d;have aB:=zh (CT wr f gs RU LV DG root small gb D j d a vb g HA);go_wp2;refine aB.mono ?_;rintro e w5 ⟨l,n,er,rfl,ax⟩;have aD:=zh ax;replace⟨g,D,o,m,f⟩:=zb5 g D o m f l;by_cases he:er=0
  .subst he;obtain⟨rfl,aU,az⟩:=aD rfl;have ba:=zh az;have aV:pj p j a noF<=4611686018427387904:=by unfold cD at az;omega
   have aA:=zh fun(W:World) l S k0 hk t=>CC W l gs RU LV DG root small gb S j d a vb t HA k0 hk;generalize pj p j a noF=tot at*;unfold rgL at o;have CB:=zh (Tt w5 kr Z tot aU aV);unfold rgL at CB;obtain⟨ao,ap⟩:=zc2 o;go_wp2;refine CB.mono ?_;rintro e w6 ⟨x,M,c2,rfl,hx,l⟩;unfold rgL;have aI:=zh hx;replace⟨g,D,o,m,f⟩:=zb5 g D o m f l;have⟨ao,ap,a7,aJ,aK⟩:=zr o;go_wp2;have hK:=zh (KpU.set (k:=kr) (c:=Z) o (.int .u64 M) (.int .u64 c2));have T:Hid (Box ((w6.setCell ⟨w.heap.size+1,0,none⟩ (.int .u64 M)).setCell ⟨w.heap.size+1,1,none⟩ (.int .u64 c2)) (w.heap.size+1) (rgL M c2) 57):=zh ((o.set_ 0 (.int .u64 M)).set_ 1 (.int .u64 c2));have R:=zh ((m.setNe ⟨w.heap.size+1,0,none⟩ (.int .u64 M)).setNe ⟨w.heap.size+1,1,none⟩ (.int .u64 c2));have G:=zh (ak f (show w.heap.size<=w.heap.size+1 by omega) (u:= .int .u64 M) (v:= .int .u64 c2));have af:=zh (g.keepU hK);have H:=zh (D.keepU hK);generalize(w6.setCell ⟨w.heap.size+1,0,none⟩ (.int .u64 M)).setCell ⟨w.heap.size+1,1,none⟩ (.int .u64 c2)=w7 at*;refine(aA w7 G H x aI af).mono ?_;rintro e w8 ⟨v,b,rfl,t,l,aL,aR⟩;have⟨ag,aC⟩:=zk2 t aL;have aE:Hid (0<j+1->lvF p (j+1) b):=zh λ_=>aR;replace⟨H,T,R,G⟩:=zb4 H T R G l;go_wp2;go_roundw
   .exact⟨j+1,b,M,c2,by omega,by go_num,ag,aC,aE,H,T,R,G⟩
   simp[intOf];omega
  skip;have f1:(er !=0)=true:=by simpa using he
  have⟨q,r,s,A,B⟩:=zr m;go_wp2;refine D7 (v:=zY #[zU none 0 0,zX #[.int .u64 0,.int .u64 0],zI zi er]) (by simp[results,results22,go_sem,q,r,s]) rfl ?_;exact⟨ak f,_,_,_,_,rfl,λh=>absurd h he⟩
 skip;have C:=zge d;have aP:j=n5:=by omega
 subst aP;have ad:=zh (N a HA aG ay);unfold rgL at o;go_upto_region 23 with fail;refine aj 3 ?_;have x0:=o.lat 0 (.int .u64 kr) rfl;have x1:=o.lat 1 (.int .u64 Z) rfl;simp only[Ee,El,Ei,D5];repeat(go_big_quiet_step (fail))
 refine D4 ?_;intro w6 l;replace⟨m,f,g⟩:=zb3 m f g l;have aw:=g.out;have⟨q,r,s,A,B⟩:=zr m;go_wp2;refine D7 (v:=zY #[vb,zX #[.int .u64 kr,.int .u64 Z],zI zi 0]) (by simp[results,results22,go_sem,q,r,s]) rfl ?_;exact⟨ak f,_,_,_,_,rfl,λh=>⟨a,aw.keepU (KpU.set (k:=0) (c:=0) m _ _),HA,ad⟩⟩
def vrA:Vr:=⟨⟨#[97]⟩,2,1,0⟩
def vrB:Vr:=⟨⟨#[98]⟩,2,1,0⟩
def exA:Ex:= .mk 2 0 ⟨#[97]⟩ []
def C6:Ex:= .mk 2 0 ⟨#[98]⟩ []
def kZ:Ex:= .mk 17 0 ⟨#[]⟩ [exA,C6]
def pbL:Pb:=⟨[vrA,vrB],[kZ],[],[],[[0,1]]⟩
theorem PH:cB pbL.v:=by
 refine⟨by decide,λv a=> ?_,λi hi=> ?_,λv a=> ?_,by decide+kernel⟩
 .rcases DS.1 a with rfl|a
  .exact⟨by decide+kernel,by decide,by decide,by decide,by decide⟩
  obtain rfl:v=vrB:=by simpa using a
  exact⟨by decide+kernel,by decide,by decide,by decide,by decide⟩
 .have b:i<2:=hi;match i,b with
  |0,_=>decide+kernel
  |1,_=>decide+kernel
 rcases DS.1 a with rfl|a
 .decide+kernel
 obtain rfl:v=vrB:=by simpa using a
 decide+kernel
theorem jU:PV pbL:=by
 refine⟨PH,λe b=> ?_,λi hi=>absurd hi (Nat.not_lt_zero i),⟨by decide, ?_,by decide,λi hi=> ?_⟩⟩
 .obtain rfl:e=kZ:=by simpa [pbL] using b
  exact⟨by decide+kernel,by decide+kernel,by decide+kernel⟩
 .intro i hi;have hi:i∈([0,1]:List Int):=hi;rcases DS.1 hi with rfl|hi
  .decide+kernel
  obtain rfl:i=1:=by simpa using hi
  decide+kernel
 have a:i<2:=by unfold bY at hi;simp only[DW,Ef] at hi;have:=hi.2.1;have e:zN pbL.v=2:=rfl;omega
 match i,a with
 |0,_=>exact List.mem_cons_self ..
 |1,_=>exact Ea _ (List.mem_cons_self ..)
def X0:PbZ pbL:=by
 have d:∀s:ByteArray,s.size<=1->s.size<=maxLen:=λs h=>by unfold maxLen;omega
 refine⟨by decide,λx b=> ?_,by decide,λx b=> ?_,by decide,(λx b=>by cases b),by decide,(λx b=>by cases b),by decide,λx b=> ?_⟩
 .rcases DS.1 b with rfl|b
  .exact⟨d _ (by decide),by unfold I64;decide,by unfold I64;decide,by unfold I64;decide⟩
  obtain rfl:x=vrB:=by simpa using b
  exact⟨d _ (by decide),by unfold I64;decide,by unfold I64;decide,by unfold I64;decide⟩
 .obtain rfl:x=kZ:=by simpa [pbL] using b
  refine .mk (by unfold I64;decide) (by unfold I64;decide) (d _ (by decide)) (by decide) λa c=> ?_;rcases DS.1 c with rfl|c
  .exact .mk (by unfold I64;decide) (by unfold I64;decide) (d _ (by decide)) (by decide) λa c=>by cases c
  obtain rfl:a=C6:=by simpa using c
  exact .mk (by unfold I64;decide) (by unfold I64;decide) (d _ (by decide)) (by decide) λa c=>by cases c
 obtain rfl:x=[0,1]:=by simpa [pbL] using b
 refine⟨by decide,λy e=> ?_⟩;rcases DS.1 e with rfl|e
 .unfold I64;decide
 obtain rfl:y=1:=by simpa using e
 unfold I64;decide
def B9:vX pbL:=by
 refine⟨by decide,by decide,by decide,by decide,by decide,λe a=> ?_,(λe a=>by cases a),(λx b=>by cases b),λx b=> ?_⟩
 .obtain rfl:e=kZ:=by simpa [pbL] using a
  exact⟨by decide+kernel,by decide+kernel⟩
 obtain rfl:x=[0,1]:=by simpa [pbL] using b
 decide
def jT:PSm pbL:=B9.sm X0
def kA:aI pbL=[kZ]:=rfl
def un:cJ pbL (bK pbL)=true:=by decide+kernel
def PI:om (ai pbL.v) (bE pbL.v) [kZ]=[[0,1],[0,2],[0,3],[1,2],[1,3],[2,3]]:=by decide+kernel
def PJ:fa (bE pbL.v)=4:=by decide+kernel
theorem yO:∃t d,gL (nmV pbL.v (cF pbL)) (aI pbL) 1 cX=some (t,d)/\j7 d 4 t 0=6/\Gd 4 d/\t<zN d:=by
 have h:(match gL (nmV pbL.v (cF pbL)) (aI pbL) 1 cX with |some (t,d)=>decide (j7 d 4 t 0=6)|none=>false)=true:=by decide+kernel
 cases hq:gL (nmV pbL.v (cF pbL)) (aI pbL) 1 cX with
 |none=>rw[hq] at h;cases h
 |some x=>
  obtain⟨t,d⟩:=x;rw[hq] at h;have a:wsN pbL (dR pbL)=4:=by decide+kernel
  obtain⟨-,b,c⟩:=xW (by rw[a];decide) (PY jU) (aI pbL) ⟨dv0,Yj _⟩ (λe f=>pK (λ_ _=>rfl) _ _ (gQ jT jU e ((ew pbL).1 e f)).okE) (fn1 dv0) t d hq;rw[a] at b;exact⟨t,d,rfl,Ey h,b,c.lt⟩
section
variable (w:World)
def Ye (s:ByteArray):Calls zz 65 #[zV s] w (zR (zX #[zI zi 2,zI zi 0,zV s,zU none 0 0]) w):=by go_enter func65,ntmps65;go_upto_region 1 with fail;generalize k:w.alloc _=w1 at*;have⟨l,a⟩:=zB1 k;obtain⟨b,c,d,e⟩:=zc4 a;have f:=a.lt;have g:=a.Z 0;have h:=a.Z 1;have i:=a.Z 2;have j:=a.Z 3;go_wp2;refine D7 (v:=zX #[zI zi 2,zI zi 0,zV s,zU none 0 0]) (by simp[results,results65,go_sem,b,c,d,e,f]) rfl ?_;exact⟨rfl,(((l.setCell (p:=⟨w.heap.size,0,none⟩) (DE _) _).setCell (p:=⟨w.heap.size,1,none⟩) (DE _) _).setCell (p:=⟨w.heap.size,2,none⟩) (DE _) _).setCell (p:=⟨w.heap.size,3,none⟩) (DE _) _⟩
def YI (w:World) (op:Int) (cs:Array Value) (e:Ending) (w':World):Prop:=∃g,e=zE (zX #[zI zi op,zI zi 0,zV ⟨#[]⟩,zU (some ⟨g,0,none⟩) 2 2])/\w.heap.size<=g/\Box w' g cs 79/\zL w w'
def Yf (op:Int) (s t:ByteArray):Calls zz 64 #[zI zi op,zX #[zI zi 2,zI zi 0,zV s,zU none 0 0],zX #[zI zi 2,zI zi 0,zV t,zU none 0 0]] w (YI w op #[zI zi 2,zI zi 0,zV s,zU none 0 0,zI zi 2,zI zi 0,zV t,zU none 0 0]):=by
 go_enter func64,ntmps64;go_upto_region 1 with fail;generalize m:w.alloc _=zw1 at*;generalize n:zw1.alloc _=zw2 at*;generalize o:zw2.alloc _=w1 at*;have⟨g,D,E,a⟩:=zB3 m n o;have l:=ab w1 (zC #[zI zi 2,zI zi 0,zV s,zU none 0 0,zI zi 2,zI zi 0,zV t,zU none 0 0] 79);have F:=zh (Box.new w1 79 #[zI zi 2,zI zi 0,zV s,zU none 0 0,zI zi 2,zI zi 0,zV t,zU none 0 0]);have C:=zh a.lt;obtain⟨q,r,u,x⟩:=zc4 D;obtain⟨y,z,A,B⟩:=zc4 E;replace⟨a,g⟩:=zb2 a g l;obtain⟨b,c,d,e⟩:=zc4 a;have f:=a.lt;have h:=a.Z 0;have i:=a.Z 1;have j:=a.Z 2;have k:=a.Z 3;go_wp2;refine D7 (v:=zX #[zI zi op,zI zi 0,zV ⟨#[]⟩,zU (some ⟨w1.heap.size,0,none⟩) 2 2]) (by simp[results,results64,go_sem,b,c,d,e,f]) rfl ?_;have G:w.heap.size+1+1<w1.heap.size:=C;exact⟨_,rfl,by omega,(((F.setNe ⟨w.heap.size+1+1,0,none⟩ _).setNe ⟨w.heap.size+1+1,1,none⟩ _).setNe ⟨w.heap.size+1+1,2,none⟩ _).setNe ⟨w.heap.size+1+1,3,none⟩ _,
  (((g.setCell (p:=⟨w.heap.size+1+1,0,none⟩) (by show w.heap.size<=w.heap.size+1+1;omega) _).setCell (p:=⟨w.heap.size+1+1,1,none⟩) (by show w.heap.size<=w.heap.size+1+1;omega) _).setCell (p:=⟨w.heap.size+1+1,2,none⟩) (by show w.heap.size<=w.heap.size+1+1;omega) _).setCell (p:=⟨w.heap.size+1+1,3,none⟩) (by show w.heap.size<=w.heap.size+1+1;omega) _⟩
def LsR (w:World) (e:Ending) (w':World):Prop:=∃(A1 A2 A5:Option Addr) (c1 c2 c5:Nat),e=zE (pbV pbL A1 A2 none none A5 c1 c2 0 0 c5)/\PRd 3 w' pbL A1 A2 none none A5 c1 c2 0 0 c5/\zL w w'
theorem TT {w:World} {d b e c f:Nat} (h:Box w d #[zV ⟨#[97]⟩,zI zi 2,zI zi 1,zI zi 0,zV ⟨#[98]⟩,zI zi 2,zI zi 1,zI zi 0] 98)
  (i:Box w b #[zI zi 2,zI zi 0,zV ⟨#[97]⟩,zU none 0 0,zI zi 2,zI zi 0,zV ⟨#[98]⟩,zU none 0 0] 79)
  (k:Box w e #[zI zi 17,zI zi 0,zV ⟨#[]⟩,zU (some ⟨b,0,none⟩) 2 2] 79)
  (g:Box w c #[zI zi 0,zI zi 1] 3) (l:Box w f #[zU (some ⟨c,0,none⟩) 2 2] 32):
  PRd 3 w pbL (some ⟨d,0,none⟩) (some ⟨e,0,none⟩) none none (some ⟨f,0,none⟩) 2 1 0 0 1:=by
 have m:Rs (exR 2) w (zU (some ⟨b,0,none⟩) 2 2) [exA,C6] ah:=ku (φ:=exR 2) (xs:=[exA,C6]) (uss:=[exL (zU none 0 0) exA,exL (zU none 0 0) C6]) i rfl λj x a=>by
  match j,a with
  |0,a=>
   obtain rfl:exA=x:=by simpa using a
   exact⟨_,rfl,Rs.nil _ _ _,lE _ _⟩
  |1,a=>
   obtain rfl:C6=x:=by simpa using a
   exact⟨_,rfl,Rs.nil _ _ _,lE _ _⟩
  |j+2,a=>simp at a
 refine⟨?_, ?_,Rs.nil _ _ _,Rs.nil _ _ _, ?_⟩
 .exact ku (φ:=vrR) (xs:=[vrA,vrB]) (uss:=[vrL vrA,vrL vrB]) h rfl λj x a=>by
   match j,a with
   |0,a=>
    obtain rfl:vrA=x:=by simpa using a
    rfl
   |1,a=>
    obtain rfl:vrB=x:=by simpa using a
    rfl
   |j+2,a=>simp at a
 .exact yD (φ:=exR 3) (x:=kZ) (us:=exL (zU (some ⟨b,0,none⟩) 2 2) kZ) k ⟨_,rfl,m,lE _ _⟩
 refine yD (φ:=ilR) (x:=[0,1]) (us:=[zU (some ⟨c,0,none⟩) 2 2]) l ⟨_,rfl,⟨_,_,rfl,DE _,λ_=>⟨_,rfl,g.lt,λj a=> ?_⟩⟩,lE _ _⟩;rw[iu,DY,g.cell];match j,a with
 |0,_=>rfl
 |1,_=>rfl
def ji {w:World} {b g:Nat} {cs:Array Value} {T:TypeId} {u0 u1 u2 u3 u4:Value} (a:g≠b) (h:Box w b cs T):Box (((((w.setCell ⟨g,0,none⟩ u0).setCell ⟨g,1,none⟩ u1).setCell ⟨g,2,none⟩ u2).setCell ⟨g,3,none⟩ u3).setCell ⟨g,4,none⟩ u4) b cs T:=((((h.setNe ⟨g,0,none⟩ _ a).setNe ⟨g,1,none⟩ _ a).setNe ⟨g,2,none⟩ _ a).setNe ⟨g,3,none⟩ _ a).setNe ⟨g,4,none⟩ _ a
def Wk:Calls zz 29 #[] w (LsR w):=by
 have G:=zh fun(W:World) (s:ByteArray)=>Ye W s;have F:=zh fun(W:World)=>Yf W 17 ⟨#[97]⟩ ⟨#[98]⟩;unfold YI at F;go_enter func29,ntmps29;go_upto_region 1 with fail;generalize f:w.alloc _=w1 at*;have⟨c,a⟩:=zB1 f;have H:=zh a.lt;go_upto_region 2 with fail;generalize f:w1.alloc _=w2 at*;have⟨D,d⟩:=zA1 f;replace⟨a,c⟩:=zb2 a c D;go_wp2;refine zK (G w2 ⟨#[97]⟩) λL q=> ?_;replace⟨a,d,c⟩:=zb3 a d c q;go_wp2;refine zK (G L ⟨#[98]⟩) λM q=> ?_;replace⟨a,d,c⟩:=zb3 a d c q;go_wp2;refine(F M).mono ?_;rintro e b ⟨g,rfl,R,E,q⟩;have t:=zh (show w1.heap.size<g by have:=d.lt;omega);replace⟨a,d,c⟩:=zb3 a d c q;have C:=zh E;have r:=ab b (zC #[zI zi 17,zI zi 0,zV ⟨#[]⟩,zU (some ⟨g,0,none⟩) 2 2] 79);have o:=ab (b.alloc (zC #[zI zi 17,zI zi 0,zV ⟨#[]⟩,zU (some ⟨g,0,none⟩) 2 2] 79)) (zC #[zI zi 0,zI zi 1] 3);have h:=ab ((b.alloc (zC #[zI zi 17,zI zi 0,zV ⟨#[]⟩,zU (some ⟨g,0,none⟩) 2 2] 79)).alloc (zC #[zI zi 0,zI zi 1] 3)) (zC #[zU (some ⟨b.heap.size+1,0,none⟩) 2 2] 32);have J:=zh ((((eS (W:=b) (g:=b.heap.size) 79 #[zI zi 17,zI zi 0,zV ⟨#[]⟩,zU (some ⟨g,0,none⟩) 2 2] (by simp)).Q o).Q h));have K:=zh (((eS (W:=b.alloc (zC #[zI zi 17,zI zi 0,zV ⟨#[]⟩,zU (some ⟨g,0,none⟩) 2 2] 79)) (g:=b.heap.size+1) 3 #[zI zi 0,zI zi 1] (by simp)).Q h));have I:=zh (eS (W:=(b.alloc (zC #[zI zi 17,zI zi 0,zV ⟨#[]⟩,zU (some ⟨g,0,none⟩) 2 2] 79)).alloc (zC #[zI zi 0,zI zi 1] 3)) (g:=b.heap.size+1+1) 32 #[zU (some ⟨b.heap.size+1,0,none⟩) 2 2] (by simp));have u:=zh (show w1.heap.size<b.heap.size by have:=d.lt;omega);replace a:=zh (((a.Q r).Q o).Q h);replace d:=zh (((d.Q r).Q o).Q h);replace C:=zh (((C.Q r).Q o).Q h);replace c:=zh (aa (aa (aa c r) o) h);obtain⟨i,j,k,l,m⟩:=zc5 a;have n:=a.lt;have x:=a.Z 0;have y:=a.Z 1;have z:=a.Z 2;have A:=a.Z 3;have B:=a.Z 4;go_wp2;refine D7 (v:=zX #[zU (some ⟨w1.heap.size,0,none⟩) 2 2,zU (some ⟨b.heap.size,0,none⟩) 1 1,zU none 0 0,zU none 0 0,zU (some ⟨b.heap.size+1+1,0,none⟩) 1 1]) (by simp[results,results29,go_sem,i,j,k,l,m,n]) rfl ?_;generalize((b.alloc (zC #[zI zi 17,zI zi 0,zV ⟨#[]⟩,zU (some ⟨g,0,none⟩) 2 2] 79)).alloc (zC #[zI zi 0,zI zi 1] 3)).alloc (zC #[zU (some ⟨b.heap.size+1,0,none⟩) 2 2] 32)=w6 at*;have N:=H.out;have P:=t.out;have Q:=u.out;exact⟨_,_,_,_,_,_,rfl,TT (ji (by omega) d) (ji (by omega) C) (ji (by omega) J) (ji (by omega) K) (ji (by omega) I),
  ((((c.setCell (p:=⟨w.heap.size,0,none⟩) (DE _) _).setCell (p:=⟨w.heap.size,1,none⟩) (DE _) _).setCell (p:=⟨w.heap.size,2,none⟩) (DE _) _).setCell (p:=⟨w.heap.size,3,none⟩) (DE _) _).setCell (p:=⟨w.heap.size,4,none⟩) (DE _) _⟩
end
def sI {w:World} {p:Pb} {A1 A2 A3 A4 A5:Option Addr} {c1 c2 c3 c4 c5:Nat} (E:EnP w p A1 A2 A3 A4 A5 c1 c2 c3 c4 c5) {t:Nat} {d:List Nd} (s:gL (nmV p.v (cF p)) (aI p) 1 cX=some (t,d)) (Y:cJ p (bK p)=true) (h:Nat) (x:bX p.v=(h:Nat)) (k:h<=20) (j:Lim d h):Calls zz 11 #[pbV p A1 A2 A3 A4 A5 c1 c2 c3 c4 c5] w (zR (zY #[zI zi ((j7 d h t 0:Nat):Int),zI zi 0]) w):=by
 have n:=zh fun(W:World) (b:zL w W)=>Po (E.Q b);have o:=zh fun(W:World) (b:zL w W)=>Rq (E.hp.Q b) E.sm (evC (E.hp.Q b) E.sm (E.kw.Q b) (E.ml.Q b) E.pv) E.pv.v;rw[x] at o;have M:=zh fun(W:World) (A:Option Addr) (c:Nat) (U:Rs ndR W (zU A (zN d) c) d ah) (T:DV d) (V:t<zN d)=>Ba W A c h t d U T j k V;unfold OpR at n;rw[Y] at n;unfold pbV at n o⊢;generalize v:zN p.v=n1,hn2:zN p.h=n2,hn3:zN p.s=n3,hn4:zN p.d=n4,hn5:zN p.g=n5 at*;go_enter func11,ntmps11;go_upto_region 1 with fail;generalize B:w.alloc _=w1 at*;have⟨g,f⟩:=zB1 B;obtain⟨F,G,H,I,J⟩:=zc5 f;go_wp2;refine(n w1 g).mono ?_;rintro e w2 ⟨b,⟨z, -⟩|⟨-,gs,Z,LV,DG,root,small,gb,rfl,X,m⟩⟩
 .cases z
 skip;replace⟨f,g⟩:=zb2 f g b;have a:=m.d;have i:=zh m.b;unfold SpD at a;rw[s] at a;rw[v,hn2,hn3,hn4,hn5] at i;obtain⟨rfl,rfl,l,u,y⟩:=a;obtain⟨K,S,e1, -⟩:=l.slice;subst e1;have C:=zh fun(W:World) (r:zL w2 W)=>M W K S (l.Q r) u y;have L:=zh fun(W:World) (r:zL w2 W)=>o W (aa g r);unfold spC at i;have x9:=za i 9;go_upto_region 5 with fail;have⟨R,D⟩:=zvh (j7 d h root 0);rw[<-D] at C;generalize zN d=N at*;have x7:=i.lat 7 _ rfl;have x8:=i.lat 8 _ rfl;have p0:=f.lat 0 _ rfl;have p1:=f.lat 1 _ rfl;have p2:=f.lat 2 _ rfl;have p3:=f.lat 3 _ rfl;have p4:=f.lat 4 _ rfl;have P:=zh λq:Lat w2=>C q.w q.h;have Q:=zh λq:Lat w2=>L q.w q.h;refine az ?_;repeat(go_big_quiet_step (first|(with_reducible exact aG (P.out _))|(with_reducible exact aG (Q.out _))))
 refine D4 ?_;intro w8 b;replace g:=zb g b;go_wp2;go_ret2;exact⟨by rw[<-D];trivial,g⟩
section
variable {d:List Nd} {cl t:Nat} {A:Option Addr}
def LsV (w:World) (P:Value):Prop:=∃(A1 A2 A5:Option Addr) (c1 c2 c5:Nat),P=pbV pbL A1 A2 none none A5 c1 c2 0 0 c5/\PRd 3 w pbL A1 A2 none none A5 c1 c2 0 0 c5
def LsV.Q {w w':World} {P:Value} (h:LsV w P) (a:zL w w'):LsV w' P:=by obtain⟨A1,A2,A5,c1,c2,c5,e,h⟩:=h;exact⟨A1,A2,A5,c1,c2,c5,e,h.Q a⟩
instance {w w':World} {P:Value}:Zm w w' (LsV w P) (LsV w' P):=⟨λhb h=>LsV.Q h hb⟩
def SP {w w':World} {d a:List Nd} {r:Option (Nat×List Nd)} {e:Ending} (g:r=some (t,a)) (h:si w d r e w'):∃x,e=zE (zY #[zX #[x],zI zi t,zI zi 0])/\Rs ndR w' x a ah/\zL w w':=by subst g;obtain⟨f,x,b,c, -⟩:=h;exact⟨x,b,c,f⟩
def lsE {w:World} (hk:KW w) (hm:de w) {A1 A2 A5:Option Addr} {c1 c2 c5:Nat} (h:PRd 3 w pbL A1 A2 none none A5 c1 c2 0 0 c5):EnP w pbL A1 A2 none none A5 c1 c2 0 0 c5:=⟨h.pin jT,jT,hk,hm,jU,by rw[PJ];decide,by decide⟩
section
variable {w:World} {P:Value} (h:LsV w P) (hk:KW w) (hm:de w)
include h hk hm
def TU:Calls zz 9 #[P] w λe w'=>∃A cl,e=zE (zY #[zU A 1 cl,zI zi 0])/\Rs (exR KE) w' (zU A 1 cl) [kZ] ah/\zL w w':=by
 obtain⟨A1,A2,A5,c1,c2,c5,rfl,h⟩:=h;have E:=lsE hk hm h;refine(yx E.hp E.sm E.kw E.ml E.pv E.h18 (by decide)).mono ?_;rintro e w' ⟨d,⟨b, -⟩|⟨-,v,rfl,a⟩⟩
 .rw[un] at b;cases b
 rw[kA] at a;obtain⟨A,c,rfl, -⟩:=a.slice;exact⟨A,c,rfl,a,d⟩
def Yh (b:Rs (exR KE) w (zU A 1 cl) [kZ] ah) (a:gL (nmV pbL.v (cF pbL)) (aI pbL) 1 cX=some (t,d)):Calls zz 10 #[P,zU A 1 cl] w λe w'=>∃B c,e=zE (zY #[zX #[zU B (zN d) c],zI zi t,zI zi 0])/\Rs ndR w' (zU B (zN d) c) d ah/\zL w w':=by obtain⟨A1,A2,A5,c1,c2,c5,rfl,h⟩:=h;have E:=lsE hk hm h;refine(Vi w pbL (yt jU jT) A1 A2 none none A5 A c1 _ c2 _ 0 _ 0 c5 cl h.v h.g (evC E.hp E.sm hk hm jU) hk hm [kZ] KE b (by decide) (λe f=>gQ jT jU e (by rw[<-kA] at f;exact(ew pbL).1 e f))).mono ?_;intro e w' i;rw[kA] at a;obtain⟨x,rfl,b,g⟩:=SP a i;obtain⟨B,c,rfl, -⟩:=b.slice;exact⟨B,c,rfl,b,g⟩
def Wl:Calls zz 11 #[P] w (zR (zY #[zI zi 6,zI zi 0]) w):=by obtain⟨A1,A2,A5,c1,c2,c5,rfl,h⟩:=h;obtain⟨t,d,a,c,b, -⟩:=yO;have:=sI (lsE hk hm h) a un 4 (by decide+kernel) (by decide) b.lim;rw[c] at this;exact this
def TV (k:Rs (exR KE) w (zU A 1 cl) [kZ] ah):Calls zz 31 #[P,zU A 1 cl,zI zi 100] w λe w'=>∃b o c,e=zE (zY #[zU (some ⟨b,o,none⟩) 2 c,zI zi 0])/\b<w'.heap.size/\w'.cell? ⟨b,o,none⟩=some (zI zi 0)/\w'.cell? ⟨b,o+1,none⟩=some (zI zi 1)/\zL w w':=by
 obtain⟨A1,A2,A5,c1,c2,c5,rfl,h⟩:=h;refine(yB (h.pin jT) jT hk hm jU [kZ] A cl k (by decide) (λe i=>gQ jT jU e (by rw[<-kA] at i;exact(ew pbL).1 e i)) 100 (by decide+kernel) (by decide)).mono ?_;rintro e w' ⟨j,d⟩;have l:om (ai pbL.v) (bE pbL.v) [kZ]=[[0,1],[0,2],[0,3],[1,2],[1,3],[2,3]]:=PI;rw[l] at d;obtain⟨v,rfl,f⟩:=d;rcases f.form with⟨A,c,rfl,d⟩|⟨b,o,c,rfl,m, -,g,a⟩
 .cases d
 exact⟨b,o,c,rfl,g,a 0 (by decide),a 1 (by decide),j⟩
end
def Qd (w:World) (hk:KW w) (hm:de w):Calls zz 8 #[] w (zR (zW true) w):=by
 obtain⟨t,d,y,p,l,C⟩:=yO;have q:=l.lim;have r:Hid (∀W,Calls zz 29 #[] W λe w'=>∃P,e=zE P/\LsV w' P/\zL W w'):=zh λW=>(Wk W).mono λe w' ⟨A1,A2,A5,c1,c2,c5,he,m,a⟩=>⟨_,he,⟨A1,A2,A5,c1,c2,c5,rfl,m⟩,a⟩;have J:=zh fun(W:World) (P:Value) (h:LsV W P) (a:zL w W)=>TU h (hk.Q a) (hm.Q a);have F:=zh fun(W:World) (P:Value) (h:LsV W P) (a:zL w W) (A:Option Addr) (cl:Nat) (m:Rs (exR KE) W (zU A 1 cl) [kZ] ah)=>Yh h (hk.Q a) (hm.Q a) m y;have K:=zh fun(W:World) (P:Value) (h:LsV W P) (a:zL w W)=>Wl h (hk.Q a) (hm.Q a);have I:=zh fun(W:World) (P:Value) (h:LsV W P) (a:zL w W) (A:Option Addr) (cl:Nat) (m:Rs (exR KE) W (zU A 1 cl) [kZ] ah)=>TV h (hk.Q a) (hm.Q a) m;have G:Hid (∀W B c,Rs ndR W (zU B (zN d) c) d ah->Calls zz 30 #[zX #[zU B (zN d) c],zI zi t,zI zi 4] W (zR (zY #[zI zi 6,zI zi 0]) W)):=zh λW B c h=>by have:=Ba W B c 4 t d h l.dv q (by decide) C;rw[p] at this;exact this
 have H:=zh fun(W:World) (B:Option Addr) (c:Nat) (h:Rs ndR W (zU B (zN d) c) d ah)=>mJ W _ d l.dv h;have M:=l.dv.top;generalize zN d=N at*;go_enter func8,ntmps8;have f:=zh (DM w.heap.size w);go_wp2;refine(r w).mono ?_;rintro e w1 ⟨P1,rfl,j,a⟩;replace f:=zb f a;have s:=zh j;go_wp2;refine(J w1 P1 s f).mono ?_;rintro e w2 ⟨A,cl,rfl,m,a⟩;replace f:=zb f a;have g:=zh m;go_wp2;refine(r w2).mono ?_;rintro e S ⟨P2,rfl,j,a⟩;replace⟨f,g⟩:=zb2 f g a;have u:=zh j;go_wp2;refine(F S P2 u f A cl g).mono ?_;rintro e T ⟨B,c,rfl,L,a⟩;replace⟨f,g⟩:=zb2 f g a;have i:=zh L;go_upto_region 3 with fail;generalize E:T.alloc _=w5 at*;have⟨z,k⟩:=zA1 E;replace⟨g,i,f⟩:=zb3 g i f z;have n:=za k 0;go_wp2;refine zK (G w5 B c i) λU a=> ?_;replace⟨g,i,k,f⟩:=zb4 g i k f a;go_wp2;refine(r U).mono ?_;rintro e V ⟨P3,rfl,j,a⟩;replace⟨g,i,k,f⟩:=zb4 g i k f a;have v:=zh j;go_wp2;refine zK (K V P3 v f) λX a=> ?_;replace⟨g,i,k,f⟩:=zb4 g i k f a;go_wp2;refine(r X).mono ?_;rintro e Y ⟨P4,rfl,j,a⟩;replace⟨g,i,k,f⟩:=zb4 g i k f a;have x:=zh j;go_wp2;refine(I Y P4 x f A cl g).mono ?_;rintro e D ⟨b,o,Z,rfl,Q,y0,y1,a⟩;replace⟨g,i,k,f⟩:=zb4 g i k f a;have n:=za k 0;go_wp2;refine zK (H D B c i) λR a=> ?_;replace⟨i,k,f⟩:=zb3 i k f a;go_wp2;go_ret;exact⟨rfl,f⟩
end
section
variable {c1 c2 c3 c4 c5 d:Nat} {A1 A2 A3 A4 A5:Option Addr} {p:Pb} {w:World}
structure vW (p:Pb):Prop where
 sp:vX p
 pv:PV p
 b8:mQ p<=8
def vW.enp (h:vW p) (b:PbZ p) (c:PRd d w p A1 A2 A3 A4 A5 c1 c2 c3 c4 c5) (hk:KW w) (hm:de w):EnP w p A1 A2 A3 A4 A5 c1 c2 c3 c4 c5:=
 ⟨c.pin (h.sp.sm b),h.sp.sm b,hk,hm,h.pv,by have e:=mZ h.pv.v.ok;have a:=h.b8;unfold mQ at a;rw[DP h.pv] at a;omega,by have:=h.sp.nh;have:=h.sp.ns;have:=h.sp.nd;omega⟩
def YJ (w:World) (p:Pb) (e:Ending) (w':World):Prop:=(∃b,e=zE (zW b)/\(b=true->vW p))/\zL w w'
def TO (y:PRd d w p A1 A2 A3 A4 A5 c1 c2 c3 c4 c5) (u:PbZ p):Calls zz 19 #[pbV p A1 A2 A3 A4 A5 c1 c2 c3 c4 c5,zI zi 8] w (YJ w p):=by
 have n:=zh fun(W:World) (h:zL w W)=>Yg (y.Q h) u 8;have o:=zh fun(m:vX p) (W:World) (h:zL w W)=>yI ((y.Q h).pin (m.sm u)) (m.sm u);unfold YR at n;unfold ErR at o;unfold pbV at n o⊢;generalize zN p.v=n1,zN p.h=n2,zN p.s=n3,zN p.d=n4,zN p.g=n5 at*;go_enter func19,ntmps19;go_upto_region 1 with fail;generalize v:w.alloc _=w1 at*;have⟨a,c⟩:=zB1 v;obtain⟨f,g,i,j,k⟩:=zc5 c;go_wp2;refine(n w1 a).mono ?_;rintro e w2 ⟨⟨b,rfl,l⟩,s⟩;replace⟨c,a⟩:=zb2 c a s;cases b
 .clear n o l;go_wp2;go_ret;exact⟨⟨false,rfl,λh=>by cases h⟩,a⟩
 have⟨m,z⟩:=l rfl;have q:=zh (o m);have x:=zh (And.intro m z);obtain⟨f,g,i,j,k⟩:=zc5 c;go_wp2;refine(q w2 a).mono ?_;rintro e A ⟨er,rfl,t,s⟩;replace⟨c,a⟩:=zb2 c a s;have r:=zh t;go_wp2;go_ret;exact⟨⟨_,rfl,λh=>⟨x.1,r.1 (by simpa using h),x.2⟩⟩,a⟩
end
end
section
open Go.RowKit Go.WideShapes Go.ChangeShapes Go.Deep
section
variable {a:Array Field}
def ou {H:Type} {enc:TypeId×Value->H} {P:Program} {w:World} {base:Nat} {spare:Nat->Bool} {held:Bool} {r:Reach} {z:Nat} {t:TypeId} {v:Value} {d:DataW H} {p:List MemPlace} (u:P.underlying t=some (.struct a)) (e:oneCellFields P a=true) (q:P.cellsOf t=a.size) (D:Value.okWide P w r z t v) (h:DataW.Trod enc P w base spare held t v d p):∃(cs:List Value) (ys:List (DataW H×List MemPlace)) (n:Nat),v= .agg cs.toArray/\d= .agg (ys.map (·.1))/\p=ys.flatMap (·.2)/\cs.length=a.size/\ys.length=a.size∧∀(j:Nat) (f:Field),a[j]? =some f->∃c y,cs[j]? =some c/\ys[j]? =some y/\DataW.trod enc P w base spare held n f.type [c]=some y:=by
 obtain⟨cs,rfl,g⟩:=okWide_struct u D;obtain⟨o,A⟩:=h;have⟨ys,n,_,m,_,b,B⟩:=DataW.trod_struct u A;simp only[FH] at m;refine⟨cs.toList,ys,n,by simp,m.1,m.2,by rw[Array.length_toList,g,q],b,λj f k=> ?_⟩;have⟨C,hk⟩:=hone_of e j f k;have l:j<a.size:=(Fj.1 k).1;have s:j<cs.toList.length:=by rw[Array.length_toList,g,q];exact l
 have i:=B j f k;rw[C,hk] at i;have e1:((Value.agg cs).cells.toList.drop j).take 1=[cs.toList[j]]:=by show(cs.toList.drop j).take 1=_;rw[Eq s];rfl
 rw[e1] at i;have x:ys[j]? =some (ys[j]'(by omega)):=DD (by omega);exact⟨_,_,DD s,x,i.trans x⟩
section
variable {H:Type} {enc:TypeId×Value->H} {w:World} {base:Nat} {spare:Nat->Bool} {held:Bool}
def xq {d:Nat} {c:Value} {x:DataW H×List MemPlace} (h:DataW.trod enc zz w base spare held d 32 [c]=some x):∃zs,IL w c zs/\zN zs<=maxLen/\∀y∈zs,I64 y:=by
 rcases ChangeShapes.open_ints underlying32 underlying3 (by kernel_rfl) h with⟨e,_⟩|⟨a,len,cap,ss,e,_,m,l,f,_,b,g⟩
 .obtain rfl:c=zU none 0 0:=by simpa using e
  exact⟨[],IL.nil w,by simp,λy i=>by cases i⟩
 obtain rfl:c=zU (some a) len cap:=by simpa using e
 have n:len<=zN ss:=by rw[f];split<;>omega
 have k:(ss.take len).length=len:=by rw[D3];omega
 refine⟨ss.take len,⟨some a,cap,by rw[k],by omega,λp=>⟨a,rfl, ?_,λj o=> ?_⟩⟩,by rw[k];omega,λy i=> ?_⟩
 .have:=b 0 (by omega);have:=Fu _ _ this;rwa [bf] at this
 .rw[b j (by omega)];simp only[DC];rw[EY (by omega)]
 exact bounds_i64 (g y (List.mem_of_mem_take i))
def nQ {e:TypeId} {n:Nat} {us:List Value} {z:DataW H×List MemPlace} (k:zz.underlying e=some (.struct a)) (b:oneCellFields zz a=true) (s:zN us=a.size) (h:DataW.trod enc zz w base spare held n e us=some z):∃m,∀(j:Nat) (f:Field),a[j]? =some f->∃c y,us[j]? =some c/\DataW.trod enc zz w base spare held m f.type [c]=some y:=by
 have⟨ys,m,_,t,_,r,l⟩:=DataW.trod_struct k h;refine⟨m,λj f g=> ?_⟩;have⟨p,hk⟩:=hone_of b j f g;have o:j<a.size:=(Fj.1 g).1;have i:j<zN us:=by omega
 have d:=l j f g;rw[p,hk] at d;have e1:(us.drop j).take 1=[us[j]]:=by rw[Eq i];rfl
 rw[e1] at d;have q:ys[j]? =some (ys[j]'(by omega)):=DD (by omega);exact⟨_,_,DD i,d.trans q⟩
theorem wk {n:Nat} {us:List Value} {z:DataW H×List MemPlace} (d:zN us=4) (h:DataW.trod enc zz w base spare held n 98 us=some z):
  ∃x,vrR.R w us x ah/\(x.s.size<=maxLen/\I64 x.w/\I64 x.m/\I64 x.u):=by
 have⟨m,a⟩:=nQ underlying98 (by kernel_rfl) d h;have⟨j,E,e0,p⟩:=a 0 _ rfl;have⟨k,F,e1,q⟩:=a 1 _ rfl;have⟨l,G,b,r⟩:=a 2 _ rfl;have⟨o,I,c,s⟩:=a 3 _ rfl;obtain rfl:us=[j,k,l,o]:=by
  match us,d with
  |[_,_,_,_],_=>simp at e0 e1 b c;rw[e0,e1,b,c]
 obtain⟨y,e, -,A⟩:=DataW.trod_string underlying9 p;obtain⟨t,f, -,B⟩:=FM underlying3 q;obtain⟨u,g, -,C⟩:=FM underlying3 r;obtain⟨v,i, -,D⟩:=FM underlying3 s;simp only[Fm,FL] at e f g i;subst e f g i;exact⟨⟨y,t,u,v⟩,rfl,A,bounds_i64 B,bounds_i64 C,bounds_i64 D⟩
theorem vZ {n:Nat} {us:List Value} {z:DataW H×List MemPlace} (d:zN us=4) (h:DataW.trod enc zz w base spare held n 133 us=some z):
  ∃x,wtR.R w us x ah/\(I64 x.lo/\I64 x.hi/\I64 x.weight):=by
 have⟨m,a⟩:=nQ underlying133 (by kernel_rfl) d h;have⟨j,D,e0,q⟩:=a 0 _ rfl;have⟨k,E,e1,r⟩:=a 1 _ rfl;have⟨l,F,b,s⟩:=a 2 _ rfl;have⟨o,G,c,t⟩:=a 3 _ rfl;obtain rfl:us=[j,k,l,o]:=by
  match us,d with
  |[_,_,_,_],_=>simp at e0 e1 b c;rw[e0,e1,b,c]
 obtain⟨u,e, -,A⟩:=FM underlying3 q;obtain⟨v,f, -,B⟩:=FM underlying3 r;obtain⟨y,g, -,C⟩:=FM underlying3 s;obtain⟨p,i, -⟩:=DataW.trod_bool underlying4 t;simp only[Fm,FL] at e f g i;subst e f g i;exact⟨⟨u,v,y,p⟩,rfl,bounds_i64 A,bounds_i64 B,bounds_i64 C⟩
theorem xG {n:Nat} {us:List Value} {z:DataW H×List MemPlace} (a:zN us=2) (h:DataW.trod enc zz w base spare held n 126 us=some z):
  ∃x,dsR.R w us x ah/\(I64 x.var/\zN x.ws<=maxLen/\∀y∈x.ws,I64 y.lo/\I64 y.hi/\I64 y.weight):=by
 have⟨m,b⟩:=nQ underlying126 (by kernel_rfl) a h;have⟨e,p,e0,g⟩:=b 0 _ rfl;have⟨f,q,e1,i⟩:=b 1 _ rfl;obtain rfl:us=[e,f]:=by
  match us,a with
  |[_,_],_=>simp at e0 e1;rw[e0,e1]
 obtain⟨l,c, -,o⟩:=FM underlying3 g;have⟨v,ws,d,j,hm,k⟩:=dZ wtR (λy=>I64 y.lo/\I64 y.hi/\I64 y.weight) underlying124 (by kernel_rfl) (λn us z a _ h=>vZ a h) i;simp only[Fm,FL] at c d;subst c d;exact⟨⟨l,ws⟩,⟨_,rfl,j,lE _ _⟩,bounds_i64 o,hm,k⟩
end
section
variable {H:Type} {enc:TypeId×Value->H} {W:World} {v:Value} {d:DataW H} {p:List MemPlace} {base:Nat}
theorem Xj (h:DataW.Trod enc zz W 0 (λ_=>true) true 27 v d p) (P:Value.okWide zz W .any base 27 v):
  ∃(q:Pb) (I:Nat) (A1 A2 A3 A4 A5:Option Addr) (c1 c2 c3 c4 c5:Nat),v=pbV q A1 A2 A3 A4 A5 c1 c2 c3 c4 c5/\PRd I W q A1 A2 A3 A4 A5 c1 c2 c3 c4 c5/\PbZ q:=by
 obtain⟨cs,ys,n,rfl,rfl, -,c,Q,b⟩:=ou underlying27 (by kernel_rfl) (by kernel_rfl) P h;have⟨D,y0,e0,f0,J⟩:=b 0 _ rfl;have⟨E,B,e1,f1,K⟩:=b 1 _ rfl;have⟨F,C,f,f2,L⟩:=b 2 _ rfl;have⟨G,y3,g,f3,M⟩:=b 3 _ rfl;have⟨H,y4,i,f4,N⟩:=b 4 _ rfl;obtain rfl:cs=[D,E,F,G,H]:=by
  match cs,c with
  |[_,_,_,_,_],_=>simp at e0 e1 f g i;rw[e0,e1,f,g,i]
 have⟨v0,l0,j,r,X,z0⟩:=dZ vrR (λx=>x.s.size<=maxLen/\I64 x.w/\I64 x.m/\I64 x.u) underlying22 (by kernel_rfl) (λn us z a _ h=>wk a h) J;have⟨v1,S,k,s,Y,z1⟩:=dZ (exR (SizeOf.sizeOf B.1)) ExZ underlying23 (by rw[dY];kernel_rfl) (λn us z a e h=>lN _ (Nat.le_of_lt e) (by rw[a,dY]) h) K;have⟨v2,T,l,t,Z,z2⟩:=dZ (exR (SizeOf.sizeOf C.1)) ExZ underlying23 (by rw[dY];kernel_rfl) (λn us z a e h=>lN _ (Nat.le_of_lt e) (by rw[a,dY]) h) L;have⟨v3,U,m,w,m3,z3⟩:=dZ dsR (λx=>I64 x.var/\zN x.ws<=maxLen/\∀y∈x.ws,I64 y.lo/\I64 y.hi/\I64 y.weight) underlying24 (by kernel_rfl) (λn us z a _ h=>xG a h) M;have⟨v4,V,o,A,m4,z4⟩:=dZ ilR (λx=>zN x<=maxLen/\∀y∈x,I64 y) underlying25 (by kernel_rfl) (λn us z a _ h=>by
  match us,a with
  |[u],_=>have⟨zs,hi,hm,R⟩:=xq h;exact⟨zs,⟨u,rfl,hi,lE _ _⟩,hm,R⟩) N;simp only[Fm,FL] at j k l m o;subst j k l m o;obtain⟨A1,c1,rfl, -⟩:=r.slice;obtain⟨A2,c2,rfl, -⟩:=s.slice;obtain⟨A3,c3,rfl, -⟩:=t.slice;obtain⟨A4,c4,rfl, -⟩:=w.slice;obtain⟨A5,c5,rfl, -⟩:=A.slice;exact⟨⟨l0,S,T,U,V⟩,SizeOf.sizeOf B.1+SizeOf.sizeOf C.1,A1,A2,A3,A4,A5,c1,c2,c3,c4,c5,rfl,⟨r,s.exle (Nat.le_add_right _ _),t.exle (Nat.le_add_left _ _),w,A⟩,⟨X,z0,Y,z1,Z,z2,m3,z3,m4,z4⟩⟩
end
end
end
section
open Go.RowKit Go.Maps Go.WideShapes Go.ChangeShapes Go.Deep
def DA (p:Pb) (a:List Nat):Prop:=gO p.v a/\dq (aM (ai p.v) a) (bK p)=true
section
variable {p:Pb}
def Rt (c:PV p) {d:Ds} (b:d∈p.d):d.var.toNat<zN p.v:=by obtain⟨i,hi,rfl⟩:=D9.1 b;have a:=(c.d i hi).1;rw[DC,DD hi] at a;have a:bY p.v (p.d[i]).var=true:=a;unfold bY at a;simp only[DW,Ef] at a;omega
def Xz (f:PV p):Xm p (DA p):=⟨λs h e j=>kG.1 h.2 e (EU _ j),λs h d c=>by
 have⟨y,g,i,a,b⟩:=rj (kG.1 h.2 (sB p d) (Fd _ (EJ.2 ⟨d,c,rfl⟩)));have hi:d.var.toNat<zN p.v:=Rt f c;have e:aM (ai p.v) s (zG p.v d.var.toNat vr0).s=zG s d.var.toNat 0:=by unfold aM;rw[uy f hi]
 rw[e] at a b;exact⟨y,g,i,a,b⟩⟩
def SW (d:PV p):NwI (DA p) (zN p.v) (p.v.map stS):=by
 have b:∀i,i<zN p.v->(p.v.map stS).getD i (0,0)=stS (zG p.v i vr0):=λi hi=>by rw[DC,Ed,DD hi,DC,DD hi];rfl
 refine⟨DT _,λi hi=> ?_,λa h i hi=> ?_⟩
 .rw[b i hi];exact Vy (d.v.ok _ (getD_in vr0 hi))
 rw[b i hi];have⟨c,e⟩:=h.1.ok i hi;have f:0<2^(zG p.v i vr0).w.toNat:=Fq (by simp);unfold dt stS;by_cases hm:(zG p.v i vr0).m=0
 .rw[DP hm];have:=c hm;show(zG p.v i vr0).u.toNat<=zG a i 0/\zG a i 0<=(zG p.v i vr0).u.toNat;omega
 rw[DK hm];show 0<=zG a i 0/\zG a i 0<=2^(zG p.v i vr0).w.toNat-1;omega
end
def gSt (j:Nat) (D:List Nat) (n:Nat) (L:List Sp):FOp:=⟨j,D,λu=>∃A c,u=zU A n c,λu w=>Rs spR w u L ah/\zN L=n/\(n=0->u=zU none 0 0)⟩
def Wv (j:Nat) (D:List Nat) (n:Nat) (L:List Sp):∀u w w',(gSt j D n L).Φ u w->zL w w'->(gSt j D n L).Φ u w':=λu w w' ⟨h1,h2,h3⟩ hb=>⟨h1.Q hb,h2,h3⟩
def Ww (j:Nat) (D:List Nat) (n:Nat) (L:List Sp):(∀u w,(gSt j D n L).Φ u w->(gSt j D n L).S u)/\∃u,(gSt j D n L).S u:=⟨λu w ⟨h1,h2,_⟩=>by
 have⟨A,c,e,_⟩:=h1.slice;exact⟨A,c,by rw[e,h2]⟩,zU none n 0,none,0,rfl⟩
def NaS (S:List Nat->Prop) (n:Nat) (w:World) (u:Value):Prop:=(u=zY #[zU none 0 0,zI zi 11]/\∀a,¬S a)\/∃gr cap L,u=zY #[zU (some ⟨gr,0,none⟩) n cap,zI zi 0]/\n<=cap/\SpB w gr L/\NwI S n L
def gNa (j:Nat) (D:List Nat) (S:List Nat->Prop) (n:Nat):FOp:=⟨j,D,λu=>∃v er,u=zY #[v,zI zi er],λu w=>NaS S n w u⟩
def QN (j:Nat) (D:List Nat) (S:List Nat->Prop) (n:Nat):∀u w w',(gNa j D S n).Φ u w->zL w w'->(gNa j D S n).Φ u w':=λu w w' h e=>by
 rcases h with h|⟨gr,cap,L,a,b,c,d⟩
 .exact zQ h
 exact zO ⟨gr,cap,L,a,b,c.Q e,d⟩
def WB (j:Nat) (D:List Nat) (S:List Nat->Prop) (n:Nat):(∀u w,(gNa j D S n).Φ u w->(gNa j D S n).S u)/\∃u,(gNa j D S n).S u:=⟨λu w h=>by
 rcases h with⟨h, -⟩|⟨gr,cap,L,a, -⟩
 .exact⟨_,_,h⟩
 exact⟨_,_,a⟩,zY #[undef,zI zi 0],undef,0,rfl⟩
def O2 {w:World} {j:Nat} {D:List Nat} {n c:Nat} {L:List Sp} {u:Value} {A:Option Addr} (h:(gSt j D n L).Φ u w) (e:u=zU A n c):Rs spR w (zU A n c) L ah/\(n=0->A=none):=by obtain⟨a,g,b⟩:=h;rw[e] at a b;refine⟨a,λf=> ?_⟩;have d:=b f;simp only[DQ] at d;exact d.1
def Yd {w w':World} {S:List Nat->Prop} {n:Nat} {e:Ending} (h:YM S n w e w'):∃u,e=zE u/\NaS S n w' u/\zL w w':=by
 rcases h with⟨c,⟨a,b⟩|⟨gr,cap,L,a,b⟩⟩
 .exact⟨_,a,zQ ⟨rfl,b⟩,c⟩
 exact⟨_,a,zO ⟨gr,cap,L,rfl,b⟩,c⟩
section
variable {H:Type} {enc:TypeId×Value->H} {W:World} {v:Value} {d:DataW H} {p:List MemPlace} {base:Nat}
theorem Xi (h:DataW.Trod enc zz W 0 (λ_=>true) true 57 v d p) (m:Value.okWide zz W .any base 57 v):∃k c,v=zX (rgL k c):=by
 obtain⟨cs,ys,n,rfl,rfl, -,a,o,b⟩:=ou underlying57 (by kernel_rfl) (by kernel_rfl) m h;have⟨g,u,e0,s,j⟩:=b 0 _ rfl;have⟨i,w,e1,t,l⟩:=b 1 _ rfl;obtain rfl:cs=[g,i]:=by
  match cs,a with
  |[_,_],_=>simp at e0 e1;rw[e0,e1]
 obtain⟨q,e, -, -⟩:=FM underlying55 j;obtain⟨r,f, -, -⟩:=FM underlying55 l;simp only[Fm,FL] at e f;subst e f;exact⟨q,r,rfl⟩
end
end
section
open Go.RowKit Go.Maps Go.WideShapes Go.ChangeShapes
def walkTopBounds {H:Type} {enc:TypeId×Value->H} {base:Nat} {w:World} (v0:Value) (d0:DataW H) (p0:List MemPlace) (g0:DataW.Trod enc zz w 0 (λ_=>true) true 27 v0 d0 p0) (aE:Value.okWide zz w .any base 27 v0) (v1:Value) (d1:DataW H) (p1:List MemPlace) (g1:DataW.Trod enc zz w 0 (λ_=>true) true 57 v1 d1 p1) (aG:Value.okWide zz w .any base 57 v1) (ht:Tab w) (hm:de w) (hk:KW w):Calls zz 4 #[v0,v1] w (zR (zW true) w):=by
 obtain⟨p,dd,A1,A2,A3,A4,A5,c1,c2,c3,c4,c5,rfl,aj,u⟩:=Xj g0 aE;obtain⟨k0,c0,rfl⟩:=Xi g1 aG;have y:=zh fun(W:World) (d:zL w W)=>Qd W (hk.Q d) (hm.Q d);have CS:=zh fun(W:World) (d:zL w W)=>TO (aj.Q d) u;have B:=zh fun(h:vW p) (W:World) (d:zL w W)=>h.enp u (aj.Q d) (hk.Q d) (hm.Q d);have CB:=zh fun(h:vW p) (W:World) (d:zL w W)=>UR W (B h W d).hp (B h W d).sm (B h W d).kw (B h W d).ml h.pv;have CN:=zh fun(h:vW p) (W:World) (d:zL w W) (A:Option Addr) (c:Nat) (hs:Rs spR W (zU A (p.v.map stS).length c) (p.v.map stS) ah) (h0:zN p.v=0->A=none)=>Dw W (B h W d).hp (B h W d).sm (B h W d).kw (B h W d).ml h.pv (DA p) (Xz h.pv) (p.v.map stS) (SW h.pv) A c hs h0;have M:=zh fun(h:vW p) (W:World) (d:zL w W)=>Tq (B h W d) k0 c0;have N:=zh fun(h:vW p)=>h.pv.v.len;have ar:=zh fun(a:List Nat) (h:DA p a)=>h.1.len;have Q:Hid ((p.v.map stS).length=zN p.v):=zh (DT _);have T:=zh fun(a:List Nat) (s:gO p.v a) (G:dq (aM (ai p.v) a) (bK p)=true)=>(show DA p a from⟨s,G⟩);unfold YJ at CS;unfold StR at CB;unfold YK at M;rw[Q] at CN;unfold pbV at CS CB CN M⊢;generalize aN:p.v.map stS=ST,hS:DA p=S,hN1:zN p.v=n,hN2:zN p.h=n2,hN3:zN p.s=n3,hN4:zN p.d=n4,hN5:zN p.g=n5 at*;unfold rgL at M⊢;go_enter func4,ntmps4;go_upto_region 1 with fail;generalize m:w.alloc _=zw1 at*;generalize aH:zw1.alloc _=w1 at*;have⟨f,r,F⟩:=zB2 m aH;obtain⟨U,V,X,Y,Z⟩:=zc5 r;go_wp2;refine(CS w1 f).mono ?_;rintro e w2 ⟨⟨b,rfl,ad⟩,d⟩;replace⟨r,F,f⟩:=zb3 r F f d;cases b
 .clear CB CN M N ad;go_wp2;refine zK (y w2 f) λwz d=> ?_;replace⟨r,F,f⟩:=zb3 r F f d;go_wp2;go_ret;exact⟨rfl,f⟩
 have HS:=zh (ad rfl);have an:=zh (CB HS);have ao:=zh (CN HS);have ap:=zh (M HS);have aK:=N HS;go_upto_region 3 with fail;refine jJ 6 7 7 (Kit.of [gSt 2 [] n ST,gNa 3 [2] S n]) (by kernel_rfl) (by kernel_rfl) (by decide) (by kernel_rfl) (λγ=>by kernel_rfl) (by kernel_rfl) (Kit.of_stable ?_) (Kit.of_known ?_) ?_
 .intro z u;simp only[DS,DZ,EC] at u;rcases u with rfl|rfl
  .apply Wv
  apply QN
 .intro z u;simp only[DS,DZ,EC] at u;rcases u with rfl|rfl
  .apply Ww
  apply WB
 intro γ am C hC aP;obtain⟨As,cs,e2⟩:∃A c,γ 2=zU A n c:=am 2 rfl;obtain⟨vn,en,e3⟩:∃v er,γ 3=zY #[v,zI zi er]:=am 3 rfl;have p0:=r.latC (C:=C) 0 _ rfl;have p1:=r.latC (C:=C) 1 _ rfl;have p2:=r.latC (C:=C) 2 _ rfl;have p3:=r.latC (C:=C) 3 _ rfl;have p4:=r.latC (C:=C) 4 _ rfl;iterate 2 (refine aO rfl ?_;go_big_quiet_step (fail);refine D4 ?_)
 refine wfc #[zX #[zU A1 n c1,zU A2 n2 c2,zU A3 n3 c3,zU A4 n4 c4,zU A5 n5 c5]] func21 (λw' d hf=>(an w' (aa f d)).mono λe w2 ⟨v,K,ho,u,hb2⟩=>⟨v,K,⟨ho.any,Q,u⟩,hb2⟩) ?_;simp only[DY,Nat.reduceAdd,e2];go_simp;refine wfc #[zX #[zU A1 n c1,zU A2 n2 c2,zU A3 n3 c3,zU A4 n4 c4,zU A5 n5 c5],zU As n cs] func20 (λw' d hf=>(ao w' (aa f d) As cs (O2 (j:=2) (D:=[]) (hf 2 (show 2∈[2] by decide)) e2).1 (O2 (j:=2) (D:=[]) (hf 2 (show 2∈[2] by decide)) e2).2).mono λe w2 hq=>Yd hq) ?_;simp only[DY,Nat.reduceAdd,e3];go_simp;iterate 3 (refine aO rfl ?_;go_big_quiet_step (fail);refine D4 ?_)
 intro w9 d hF;have R3:NaS S n w9 (γ 3):=hF 3 (by decide) rfl;rw[e3] at R3;have ay:=zh R3;replace⟨r,F,f⟩:=zb3 r F f d;have aq:=zh (ap w9 f);obtain⟨U,V,X,Y,Z⟩:=zc5 r;obtain⟨aI,aJ⟩:=zc2 F;go_wp2;refine⟨rfl, ?_⟩;go_wp2;refine aq.mono ?_;rintro e i ⟨d,va,ka,ca,er,rfl,al⟩;have R:=zh al;have P:Hid (NaS S n i (zY #[vn,zI zi en])):=zh ((QN 0 [] S n) _ _ _ ay d);replace f:=zb f d;rcases P with⟨s,G⟩|⟨gr,cap,L,s,G,h3,h4⟩
 .simp only[Value.tuple.injEq,Array.mk.injEq,Fm,Value.int.injEq,true_and,FL] at s;obtain⟨rfl,rfl⟩:=s;have K:er≠0:=λh=>by obtain⟨a, -,q1,q2⟩:=R h;exact G a (T a q1 q2)
  have f1:(er !=0)=true:=by simpa using K
  go_upto_region 5 with fail;generalize m:i.alloc _=w11 at*;have⟨g,XQ⟩:=zA1 m;replace f:=zb f g;go_wp2;refine zK (y w11 f) λwz d=> ?_;replace f:=zb f d;go_wp2;go_ret;exact⟨rfl,f⟩
 simp only[Value.tuple.injEq,Array.mk.injEq,Fm,Value.int.injEq,true_and,FL] at s;obtain⟨rfl,rfl⟩:=s;by_cases K:er=0;case neg=>
  have f1:(er !=0)=true:=by simpa using K
  go_upto_region 5 with fail;generalize m:i.alloc _=w11 at*;have⟨g,XQ⟩:=zA1 m;replace f:=zb f g;go_wp2;refine zK (y w11 f) λwz d=> ?_;replace f:=zb f d;go_wp2;go_ret;exact⟨rfl,f⟩
 subst K;have⟨a,af,q1,q2⟩:=R rfl;have ak:=T a q1 q2;have aB:=ar a ak;have aw:=zh (h4.sol a ak);have ax:=zh h4.len;obtain⟨cur,I,aD⟩:=h3;have⟨E,au⟩:=zk2 I aD;have ae:=af.form;obtain⟨Aa,aL,rfl, -, -⟩:=af;rw[aF,aB] at ae⊢;have av:=zh ae;go_upto_region 5 with fail;have l:=zh (ab i (zC #[.int .u64 ka,.int .u64 ca] 57));generalize m:i.alloc _=w11 at*;have⟨g,XQ⟩:=zA1 m;replace⟨E,f⟩:=zb2 E f g;have q3:((n:Int) !=(n:Int))=false:=by simp
 go_wp2;go_loopw [10] (λiv wr=>∃k:Nat,k<=n/\iv=zI zi k/\Box wr gr cur 65/\zL i wr/\zL w wr) (λiv _=>n+1-(intOf iv).toNat)
 .exact⟨0,DH _,rfl,E,l,f⟩
 obtain⟨k,hk,rfl,I,aA,d⟩:=hrel;have⟨E,l,f⟩:=zk3 I aA d;by_cases t:k<n
 .have⟨ag,aQ⟩:=zln t;obtain⟨J,oa,rfl,g,aC⟩:∃J oa,Aa=some ⟨J,oa,none⟩/\J<i.heap.size/\i.cell? ⟨J,oa+k,none⟩=some (zI zi ((zG a k 0:Nat):Int)):=by
   rcases av with⟨A,c,s,G⟩|⟨b,o,c,s,G,h3,h4,h5⟩
   .have h3:zN a=0:=by rw[<-aF a,G];rfl
    omega
   simp only[DQ] at s;have h6:=h5 k t;rw[dV] at h6;exact⟨b,o,s.1,h4,h6⟩
  have⟨i1,i2⟩:=aw k t;have⟨l1,l2⟩:=au k (by rw[ax];exact t);have yA:=zh ((l.cell (p:=⟨J,oa+k,none⟩) g).trans aC);have ac:=DU g l.size;have z1:=E.lat _ _ l1;have z2:=E.lat _ _ l2;generalize(zG L k (0,0)).1=lo,(zG L k (0,0)).2=hi,zG a k 0=x at*;have zA:=λq:Lat wr=>(q.h.cell (p:=⟨J,oa+k,none⟩) ac).trans yA;have g1:¬(x:Int)<(lo:Int):=by omega
  have g2:¬(x:Int)>(hi:Int):=by omega
  have g3:¬(hi:Int)<(x:Int):=by omega
  go_upto_region 14 with fail;refine az ?_;repeat(go_big_quiet_step (fail))
  refine D4 ?_;intro aR d;replace⟨E,l,f⟩:=zb3 E l f d;go_wp2;go_roundw
  .exact⟨k+1,by omega,by go_num,E,l,f⟩
  simp[intOf];omega
 have ag:=zge t;go_wp2;refine zK (y wr f) λwz d=> ?_;replace f:=zb f d;go_wp2;go_ret;exact⟨rfl,f⟩
end
section
open Go.RowKit Go.WideShapes Go.ChangeShapes Go.Deep
theorem tI {H:Type}:∀{a b:List ByteArray},(strs a:List (DataW H))=strs b->a=b
 |[],[],_=>rfl
 |[],_::_,h=>by simp[strs] at h
 |_::_,[],h=>by simp[strs] at h
 |x::a,y::b,h=>by simp only[strs,FY,Fm,DataW.lit.injEq,Lit.string.injEq] at h;have h2:(strs a:List (DataW H))=strs b:=h.2;rw[tI h2,lq h.1]
def kw_of_laid {W:World} (h:laidMetH zz [("math/bits.deBruijn32tab",Rows.laid_math_bits_deBruijn32tab),("math/bits.deBruijn64tab",Rows.laid_math_bits_deBruijn64tab),("internal/strconv.uint64pow10",Rows.laid_internal_strconv_uint64pow10),("testbench/lexer.keywords",Rows.laid_testbench_lexer_keywords)] W):KW W:=by
 rw[MakeChecks.laidMetH_plain _ _ _ (by kernel_rfl)] at h;obtain⟨ps,hl,_⟩:=h
 have⟨g,t,cs,fuel,p,hg,hty,hv,hd⟩:=pV hl ("testbench/lexer.keywords",Rows.laid_testbench_lexer_keywords) (by simp)
 have gk:zz.globalNamed "testbench/lexer.keywords"=some 0:=by kernel_rfl
 obtain rfl:=Eu (gk.symm.trans hg);have hty':(zz.globals[0]?).map (·.type)=some 188:=by kernel_rfl
 obtain rfl:=Eu (hty'.symm.trans hty);rcases ChangeShapes.open_strings underlying188 underlying9 (by kernel_rfl) hd with⟨_,h0⟩|⟨a,len,cap,ss,h0,_,hlc,hcm,hsl,hx,hcell,hsz⟩
 .exact absurd (Prod.mk.inj h0).1 (by unfold Rows.laid_testbench_lexer_keywords;intro h;cases h)
 have hx1:=(Prod.mk.inj hx).1;have hk:(Rows.laid_testbench_lexer_keywords:DataW Unit)= .slice (strs fV) []:=by kernel_rfl
 rw[hk] at hx1;have⟨e1,e2⟩:=DataW.slice.inj hx1;have hkw:=tI e1;have hc0:W.cell? ⟨0,0,none⟩=some (.slice (some a) len cap):=by
  have:=World.var?_cell gk hv 0;rw[this];have:cs.toList[0]? =some (.slice (some a) len cap):=by rw[h0];rfl
  simpa using this
 have hl:fV.length=len:=by
  have:(ss.take len).length=len:=by rw[D3,hsl];simp;omega
  rw[hkw];exact this
 refine⟨_,hc0,some a,cap,by rw[hl],by omega,λhp=>⟨a,rfl, ?_,λj hj=> ?_⟩⟩
 .have:=hcell 0 (by rw[hsl];simp;omega);have:=Fu _ _ this;rwa [bf] at this
 rw[hcell j (by rw[hsl];simp;omega),hkw];simp only[DC];rw[EY (by omega)];rfl
end
end Go.Proofs.YtdahpdnhkflnnaaGreatDoor
