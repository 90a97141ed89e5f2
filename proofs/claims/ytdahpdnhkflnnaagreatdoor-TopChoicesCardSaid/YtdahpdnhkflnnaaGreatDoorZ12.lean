/-
  Contracts and laws for the law TopChoices, part 12 of 14; made small by a program of mine out of longer texts.
-/
import Derived.Test.YtdahpdnhkflnnaaGreatDoorZ11
namespace Go.Proofs.YtdahpdnhkflnnaaGreatDoor
set_option linter.unusedVariables false
set_option linter.unusedSimpArgs false
set_option linter.defProp false
set_option maxRecDepth 100000
set_option maxHeartbeats 64000000
section
open Go.RowKit Go.Maps
section
variable {p:Pb} {g:List Int}
theorem grp_one (c:PV p) (b:p.groups=[g]) (a:ji g):g=nI (bB p.vars p.vars.length):=by
 have h:=c.groups;rw[b] at h;rw[lO];exact pq h a
theorem jM (a:PV p):aD (az p.vars)<=20:=by
 have b:=kg p.vars λv h=>by have:=(a.vars.ok v h).2.1;omega
 have c:=a.vars.bits;omega
theorem uR (l:List Wd):∀v∈bM l,v.fixed=none:=λv a=>by
 have:=(List.mem_filter.1 a).2;simpa using this
theorem gw_at (h:PV p) {j:Nat} (b:j<(bB p.vars p.vars.length).length):∃i,i<p.vars.length/\(bB p.vars p.vars.length).getD j 0=i/\(p.vars.getD i vr0).mode≠0/\(bM (az p.vars)).getD j ⟨0,none⟩=wdT (p.vars.getD i vr0)/\bR ((bM (az p.vars)).take j)=aD (az (p.vars.take i)):=by
 obtain⟨i,c,d,a,g,f⟩:=mQ p.vars p.vars.length j b;refine⟨i,c,a, ?_, ?_, ?_⟩
 ·rw[eF c] at d;exact AD d
 ·rw[lN,yj,yW,yp b]
  have e:(bB p.vars p.vars.length)[j]=i:=by
   rw[yj,yp b] at a;exact a
  rw[e];rfl
 ·rw[lN,<-List.map_take,f,<-uQ p.vars i (by omega),dD];unfold az;rw[List.map_take]
theorem lev_at (b:PV p) (d:p.groups=[g]) (c:ji g) {i:Nat} (hi:i<p.vars.length) (hm:(p.vars.getD i vr0).mode≠0):(cC p).getD i 0=((aD (az (p.vars.take i)):Nat):Int):=by
 have a:∀v∈p.vars,0<=v.width:=λv h=>by have:=(b.vars.ok v h).2.1;omega
 rw[vw d b.groups c a hi hm,lW _ _ a (by omega),kg _ λv h=>a v (List.mem_of_mem_take h)]
theorem grs_one (w:World) (a:PV p) (z:p.groups=[g]) (v:ji g) (n:List (Int×Int)) (q:List Nat) (y:mi n (bB p.vars p.vars.length) q) (A:∀j,j<q.length->j<(bB p.vars p.vars.length).length->q.getD j 0<2^((bM (az p.vars)).getD j ⟨0,none⟩).w):
  GrS w p.vars (cC p) n 0 (bB p.vars p.vars.length) (je (bM (az p.vars)) q):=by
 have l:(bM (az p.vars)).length=(bB p.vars p.vars.length).length:=by rw[lN,yD]
 refine⟨a.vars.len,by unfold cC;rw[eH,Ax],by rw[sF,l], ?_,λj c=> ?_⟩
 ·have:(bB p.vars p.vars.length).length<=p.vars.length:=by
   have:=gh p.vars p.vars.length;rw[<-lO,aF] at this;exact this
  have:=a.vars.len;omega
 ·obtain⟨i,f,o,u,h,r⟩:=gw_at a c;obtain⟨-,C, -⟩:=a.vars.ok _ (getD_in vr0 f);have k:=vM (bM (az p.vars)) q j (by rw[l];exact c) (uR _);have d:=lD (bM (az p.vars)) j (by rw[l];exact c);rw[dD,h] at d;have t:=jM a;have b:=y j c;rw[r] at d;rw[k,pJ,o,r,lev_at a z v f u];rw[o] at b;have s:(wdT (p.vars.getD i vr0)).w=(p.vars.getD i vr0).width.toNat:=rfl;rw[h];refine⟨f,by rw[s];omega,by rw[s];omega,by rw[yH],by show 0+aD (az (p.vars.take i))+(wdT (p.vars.getD i vr0)).w<=20;omega,b,λx B=> ?_⟩;have e:q[j]? =some x:=B;have m:=(yJ.1 e).1;have:=A j m c;rw[yj,e,h] at this;exact this
theorem kC (c:PV p) (q:PSm p) (B:p.groups=[g]) (m:ji g):StP p:=by
 refine⟨c.vars.len,q.nz,λa b m z e=> ?_,q.ng,λs d=>⟨q.nr s d,λv r=> ?_⟩,λx F=>by have:=(c.vars.ok x F).2.1;omega,λi hi=>⟨λh=> ?_,λh=> ?_⟩⟩
 ·have k:=c.vars.nodup a m;have l:=c.vars.nodup b z;rw[e] at k;omega
 ·have:=c.groups.ran v (List.mem_flatten.2 ⟨s,d,r⟩);unfold bL at this;simp only[yF,yY] at this;omega
 ·obtain⟨-,G, -,J, -⟩:=c.vars.ok _ (getD_in vr0 hi)
  have I:((2:Int)^(p.vars.getD i vr0).width.toNat)<=256:=by
   have k:=AC (n:=2) (by omega) (show(p.vars.getD i vr0).width.toNat<=8 by omega);have e:(((2:Nat)^(p.vars.getD i vr0).width.toNat:Nat):Int)=(2:Int)^(p.vars.getD i vr0).width.toNat:=by simp
   rw[<-e];have:(2:Nat)^8=256:=rfl;omega
  omega
 ·obtain⟨-,G, -⟩:=c.vars.ok _ (getD_in vr0 hi);rw[lev_at c B m hi h];have D:bL p.vars (i:Nat)=true:=by rw[eF hi];exact yB h
  obtain⟨j,o,A⟩:=yS.1 ((gi p.vars p.vars.length i).2 ⟨hi,D⟩);obtain⟨i',k,l,H,u,y⟩:=gw_at c o;rw[yj,yp o,A] at l;have e:i=i':=l;subst e;have C:(bM (az p.vars)).length=(bB p.vars p.vars.length).length:=by rw[lN,yD]
  have f:=lD (bM (az p.vars)) j (by rw[C];exact o);rw[dD,u,y] at f;have t:=jM c;have E:(wdT (p.vars.getD i vr0)).w=(p.vars.getD i vr0).width.toNat:=rfl;rw[E] at f;omega
theorem wJ (c:PV p):o9 (aw p.vars) (az p.vars):=by
 refine⟨by unfold aw;rw[yD,cN],jM c,λv h=> ?_⟩;obtain⟨x,d,rfl⟩:=AP.1 h;obtain⟨-,i, -,j, -⟩:=c.vars.ok x d;refine⟨by show x.width.toNat<=16;omega,λy a=> ?_⟩;unfold wdT at a
 by_cases b:x.mode=0
 ·rw[yz b] at a;have e:x.value.toNat=y:=by simpa using a
  have g:((2:Int)^x.width.toNat)<=256:=by
   have f:=AC (n:=2) (by omega) (show x.width.toNat<=8 by omega);have e:(((2:Nat)^x.width.toNat:Nat):Int)=(2:Int)^x.width.toNat:=by simp
   rw[<-e];have:(2:Nat)^8=256:=rfl;omega
  omega
 ·rw[yw b] at a;cases a
end
theorem SpD.below {w w':World} {c:Value} {b:Nat} {a:Bool} {r:Option (Nat×List Nd)} (h:SpD w c b a r) (i:Below w.heap.size w w'):SpD w' c b a r:=by
 unfold SpD at h⊢
 cases r with
 |none=>exact h
 |some td=>
  obtain⟨d,e,f,g⟩:=h;exact⟨d,e,f.below i,g⟩
instance {w w':World} {DG:Value} {root:Nat} {small:Bool} {r:Option (Nat×List Nd)}:Zm w w' (SpD w DG root small r) (SpD w' DG root small r):=⟨λhb h=>SpD.below h hb⟩
theorem SpR.below {w w':World} {p:Pb} {A1 A2 A3 A4 A5:Option Addr} {c1 c2 c3 c4 c5 gs:Nat} {i g f:Value} {c:Nat} {a:Bool} {j gr:Nat} (h:SpR w p A1 A2 A3 A4 A5 c1 c2 c3 c4 c5 gs i g f c a j gr) (e:Below w.heap.size w w'):SpR w' p A1 A2 A3 A4 A5 c1 c2 c3 c4 c5 gs i g f c a j gr:=
 ⟨h.b.below e,h.ru.below e,h.lv.below e,h.wg.below e,h.d.below e⟩
instance {w w':World} {p:Pb} {A1 A2 A3 A4 A5:Option Addr} {c1 c2 c3 c4 c5 gs:Nat} {RU LV DG:Value} {root:Nat} {small:Bool} {gb gr:Nat}:Zm w w' (SpR w p A1 A2 A3 A4 A5 c1 c2 c3 c4 c5 gs RU LV DG root small gb gr) (SpR w' p A1 A2 A3 A4 A5 c1 c2 c3 c4 c5 gs RU LV DG root small gb gr):=⟨λhb h=>SpR.below h hb⟩
def chF (p:Pb) (d:List Nd) (t:Nat) (q:List Nat):Nat:=jm d (λ_ _=>1) 0 0 (je (bM (az p.vars)) q) t
def chW (p:Pb):List Nat:=(bM (az p.vars)).map (·.w)
theorem chF_P {p:Pb} (a:PV p) (d:List Nd) (t:Nat):chF p d t=qe d t (bM (az p.vars)):=by
 funext q
 unfold chF qe;exact re d _ 0 0 t (by rw[kZ,dD];exact jM a)
theorem uk {p:Pb} {j:Nat} (a:j<(bM (az p.vars)).length):(chW p).getD j 0=((bM (az p.vars)).getD j ⟨0,none⟩).w:=by
 unfold chW;rw[yj,yW,yj,yp a];rfl
theorem rF {w:World} {p:Pb} {A1 A2 A3 A4 A5:Option Addr} {c1 c2 c3 c4 c5:Nat} (hp:PIn w p A1 A2 A3 A4 A5 c1 c2 c3 c4 c5) (hs:PSm p) (hk:KW w) (hm:cM w) (C:PV p) (hd:p.dists=[]) (ap:aD (az p.vars)<=18) (hn:p.hard.length+p.soft.length<=1000) (ag:∀e∈p.hard++p.soft,jK (aw p.vars) e)
  {g:List Int} (R:p.groups=[g]) (B:ji g) (a:List Nat) (va:Value) (ha:IL w va (nI a)) (hA:mE p.vars a) (t:Nat) (d:List Nd) (aa:dC (nmV p.vars (cC p)) (aA p) 1 bT=some (t,d)) (aI:cF p p.hard=true) (ar:Lim d (aD (az p.vars)))
  (k:Nat) (ax:k<chF p d t []) (U:chF p d t []<dF):
  Calls Tryz.prog 14 #[pbV p A1 A2 A3 A4 A5 c1 c2 c3 c4 c5,.int .i64 0,va,.int .i64 (k:Nat)] w λe w'=>∃v,e= .returned (.tuple #[v,.int .i64 0])/\IL w' v (nI (fC a (bB p.vars p.vars.length) (chP (chF p d t) (chW p) [] k)))/\Below w.heap.size w w':=by
 have ai:=kC C hs R B;have ae:=grp_one C R B;have G:(bM (az p.vars)).length=(bB p.vars p.vars.length).length:=by rw[lN,yD]
 have S:0<(bB p.vars p.vars.length).length:=by
  have H:=C.groups.some_ g (by rw[R];simp);rw[ae] at H;rcases Nat.eq_zero_or_pos (bB p.vars p.vars.length).length with h|h
  ·exact absurd (by rw[List.length_eq_zero_iff.1 h];rfl) H
  ·exact h
 have M:(bB p.vars p.vars.length).length<=16:=by
  have H:=gh p.vars p.vars.length;rw[<-lO,aF] at H;have:=C.vars.len;omega
 have L:p.groups.length=1:=by rw[R];rfl
 have af:∀W,Below w.heap.size w W->Rs ilR W (.slice A5 1 c5) [nI (bB p.vars p.vars.length)] ah:=λW m=>by
  have:=hp.g.below m;rw[L,R,ae] at this;exact this
 have CO:=zh fun(W:World) (m:Below w.heap.size w W)=>rnOpen (hp.below m) hs (hk.below m) (hm.below m) C ai hd ap hn ag;unfold OpR at CO
 have I:Hid (∀(r:World),Below w.heap.size w r->∀gs y u z l f D gr,SpR r p A1 A2 A3 A4 A5 c1 c2 c3 c4 c5 gs y u z l f D gr->∀W fv Z q,Below r.heap.size r W->FxV W fv Z->mi Z (bB p.vars p.vars.length) q->(∀j,j<q.length->j<(bB p.vars p.vars.length).length->q.getD j 0<2^((bM (az p.vars)).getD j ⟨0,none⟩).w)→
   Calls Tryz.prog 87 #[.pointer (some ⟨gs,0,none⟩),.int .i64 0,va,fv] W λe w'=>e= .returned (.int .i64 ((chF p d t q:Nat):Int))/\Below W.heap.size W w'):=zh λr K gs y u z l f D gr o W fv Z q m ad ac hq=>by
  have Q:=o.d;unfold SpD at Q;rw[aa] at Q;simp only at Q;obtain⟨rfl,rfl,aH,aP,aS⟩:=Q;obtain⟨Ad,cd,rfl, -⟩:=aH.slice;have s:=o.b.below m;rw[L] at s
  exact rnSum0 W gs A1 Ad A5 c1 cd c5 _ _ _ y u l 140 #[.pointer (some ⟨D,0,none⟩)] p.vars (cC p) d (λ_ _=>1) s (hp.v.below (ab K m)) (o.lv.below m) (aH.below m) aP aS (bB p.vars p.vars.length) _ (af W (ab K m)) fv Z ad (grs_one W C R B Z q ac hq) ⟨λargs W=>by kernel_rfl,λ_ _=>by unfold dF;omega,λj v W2 hj _ h2=>by
   have aR:=(gi p.vars p.vars.length ((bB p.vars p.vars.length).getD j 0)).1 (getD_in 0 hj)
   exact rnWeigh1 W2 D gr p.vars.length _ v ((o.wg.below m).below h2) aR.1⟩ (by rw[kZ,dD];exact jM C) va
 have N:∀v∈p.vars,0<=v.width/\v.width<=8:=λv h=>by have:=(C.vars.ok v h).2.1;omega
 have Y:Hid (∀(r:World),Below w.heap.size w r->∀gs y u z l f D gr,SpR r p A1 A2 A3 A4 A5 c1 c2 c3 c4 c5 gs y u z l f D gr→
   Calls Tryz.prog 44 #[.pointer (some ⟨gs,0,none⟩),.int .i64 0,va] r λe w'=>e= .returned (.tuple #[.int .i64 ((chF p d t []:Nat):Int),.int .i64 0])/\Below r.heap.size r w'):=zh λr K gs y u z l f D gr o=>by
  have s:=o.b;rw[L] at s
  exact rnTotal0 r gs _ _ _ _ y u z A5 c5 l f _ va (chF p d t []) (by omega) U s (λW m=>wV W gs A1 c1 _ _ _ _ y u z l f _ p.vars (s.below m) (hp.v.below (ab K m)) a va (ha.below (ab K m)) hA.len C.vars.len (λi hi=>⟨N _ (getD_in vr0 hi),hA.ok i hi⟩))
   (λW m=>I.out r K gs y u z l f D gr o W (.map none) [] [] m (.inl ⟨rfl,rfl⟩) (λj h=>rfl) (λj h=>by simp at h))
 have aJ:(chW p).length=(bB p.vars p.vars.length).length:=by unfold chW;rw[yD,G]
 have E:∀q,q.length<(bB p.vars p.vars.length).length->chF p d t q<=fH (λx=>chF p d t (q++[x])) (List.range' 0 (2^(chW p).getD q.length 0)):=λq hq=>by
  obtain⟨H,h2, -⟩:=fN (wJ C) (rules:=aA p) (λe he=>nS (λ_ _=>rfl) _ _ (ag e ((dL p).1 e he)).okE) (by rw[<-ZZ R C.groups B (λv h=>(N v h).1) ai.nd];exact aa);rw[chF_P C,uk (by rw[G];exact hq)];exact Nat.le_of_eq (tn H.dv (jM C) H.lim h2 (bM (az p.vars)) (dD _).symm (uR _) q (by rw[G];exact hq))
 have aq:∀q,chF p d t q<=dF:=λq=>uG _ _ _ _ _ _
 have au:(nI (bB p.vars p.vars.length)).Pairwise (· ≤ ·):=by
  rw[lO];exact(mP p.vars p.vars.length).imp λh=>Int.le_of_lt h
 have X:Hid (∀(r:World),Below w.heap.size w r->∀gs y u z l f D gr,SpR r p A1 A2 A3 A4 A5 c1 c2 c3 c4 c5 gs y u z l f D gr→
   Calls Tryz.prog 45 #[.pointer (some ⟨gs,0,none⟩),.int .i64 0,va,.int .i64 (k:Nat)] r λe w'=>∃v,e= .returned v/\IL w' v (nI (fC a (bB p.vars p.vars.length) (chP (chF p d t) (chW p) [] k)))/\Below r.heap.size r w'):=zh λr K gs y u z l f D gr o=>by
  have s:=o.b;rw[L] at s;refine rnChoose r gs A1 A5 c1 c5 _ _ _ y u z l f _ p.vars s (hp.v.below K) (bB p.vars p.vars.length) (af r K) C.vars.len M S au (i9 _ _) (chW p) aJ (λj hj=> ?_) a va (ha.below K) hA.len (chF p d t) aq E (λW fv Z q m ad ac _ hq=>I.out r K gs y u z l f D gr o W fv Z q m ad ac (λj H h2=> ?_)) k ax
  ·obtain⟨i,H,h2,h3,h4,h5⟩:=gw_at C hj;rw[h2,uk (by rw[G];exact hj),h4];obtain⟨-,o1, -⟩:=C.vars.ok _ (getD_in vr0 H);have hw:(wdT (p.vars.getD i vr0)).w=(p.vars.getD i vr0).width.toNat:=rfl;rw[hw];exact⟨H,by omega,by omega,by omega⟩
  ·have:=hq j H;rw[uk (by rw[G];exact h2)] at this;exact this
 clear I;obtain⟨aK,V⟩:=zv (chF p d t []);rw[<-V] at Y ax U;have k1:¬((k:Int)<0):=by omega
 have k2:decide (aK<=k)=false:=by simp;omega
 have k3:¬((aK:Int)<=(k:Int)):=by omega
 obtain⟨Ava,aV,aT,rfl⟩:∃A n c,va= .slice A n c:=by
  obtain⟨A,c,e, -⟩:=ha;exact⟨A,_,c,e⟩
 have aO:=zh aI;have aN:Hid (∀(W:World),True):=zh λ_=>trivial;unfold pbV at CO⊢;clear hp hs hk hm C hd ap hn ag R B ha hA aa aI ar ai ae G S M L af N aJ E aq au V aN;obtain⟨aU,T⟩:=zv (bB p.vars p.vars.length);rw[<-T] at X⊢;clear T;obtain⟨n1,ay⟩:=zv (p.vars.length);obtain⟨n2,aB⟩:=zv (p.hard.length);obtain⟨n3,aC⟩:=zv (p.soft.length);obtain⟨n4,aE⟩:=zv (p.dists.length);obtain⟨n5,aG⟩:=zv (p.groups.length);rw[<-ay,<-aB,<-aC,<-aE,<-aG] at CO⊢;clear ay aB aC aE aG;go_enter Tryz.func14,Tryz.ntmps14;go_upto_region 1 with fail;generalize aL:w.alloc _=w1 at*;obtain⟨P,J⟩:=zB1 aL;clear aL;have ak:=za J 0 rfl;have al:=za J 1 rfl;have am:=za J 2 rfl;have an:=za J 3 rfl;have ao:=za J 4 rfl;go_wp2_with fail;clear ak al am an ao;refine(CO w1 P).mono ?_;rintro e w2 ⟨m,⟨F,rfl⟩|⟨F,gs,y,u,z,l,f,D,gr,rfl,aQ,o⟩⟩
 ·rw[aO.out] at F;cases F
 ·skip
  replace J:=zb J m;replace P:=zb P m;clear m;have C1:=zh (Y w2 P gs y u z l f D gr o);have aj:Hid (∀W,Below w2.heap.size w2 W->SpR W p A1 A2 A3 A4 A5 c1 c2 c3 c4 c5 gs y u z l f D gr):=zh λW h=>o.below h;clear o aQ CO Y F;go_wp2_with fail;refine C1.out.mono ?_;rintro e w3 ⟨rfl,m⟩;have C2:=zh (X w3 (ab P m) gs y u z l f D gr (aj w3 m));replace J:=zb J m;replace P:=zb P m;clear m;clear C1 X aj;go_wp2_with fail;refine C2.out.mono ?_;rintro e w4 ⟨v,rfl,av,m⟩;have aM:=zh av;clear av C2;replace J:=zb J m;replace P:=zb P m;clear m;go_wp2_with fail;go_ret2;exact⟨_,by trivial,aM,P⟩
def aX:Nat->Ex->Nat
 |0,_=>1
 |k+1,e=>e.args.foldl (λn a=>if n<100 then n+aX k a else n) 1
def fnd (k n:Nat) (l:List Ex):Nat:=l.foldl (λn a=>if n<100 then n+aX k a else n) n
theorem jT (k:Nat):∀(l:List Ex) (n:Nat),100<=n->fnd k n l=n
 |[],n,h=>rfl
 |a::l,n,h=>by
  show fnd k (if n<100 then n+aX k a else n) l=n;rw[yw (by omega),jT k l n h]
theorem vK (k n:Nat) (l m:List Ex):fnd k n (l++m)=fnd k (fnd k n l) m:=by unfold fnd;rw[BA]
theorem fnd_step {k:Nat} {l:List Ex} {j:Nat} (a:j<l.length) (h:fnd k 1 (l.take j)<100):fnd k 1 (l.take (j+1))=fnd k 1 (l.take j)+aX k (l.getD j ex0):=by
 have e:l.take (j+1)=l.take j++[l.getD j ex0]:=by
  rw[Am,yp a,yj,yp a];rfl
 rw[e,vK];show(if fnd k 1 (l.take j)<100 then _ else _)=_;rw[yz h]
theorem tY {k B:Nat} (b:∀a,aX k a<=B):∀(l:List Ex) (n:Nat),n<=99+B+1->fnd k n l<=99+B+1
 |[],n,h=>h
 |a::l,n,h=>by
  show fnd k (if n<100 then n+aX k a else n) l<=_;refine tY b l _ ?_;have:=b a
  split<;>omega
theorem kJ:∀(k:Nat) (e:Ex),aX k e<=100*(k+1)
 |0,e=>by show 1<=_;omega
 |k+1,e=>by
  have:=tY (kJ k) e.args 1 (by omega);show fnd k 1 e.args<=_;omega
def bD:Nat->Ex->Bool
 |0,_=>false
 |k+1,e=>e.args.all (bD k)
theorem oL:∀{k:Nat} {e:Ex},bD k e=true->Deep k e
 |0,e,h=>by cases h
 |k+1,e,h=>λa b=>oL (Bj.1 h a b)
theorem vJ {k:Nat} (hk:∀a,aX k a<100->Deep k a->(aq k a).length=aX k a):∀(l:List Ex) (n:Nat),fnd k n l<100->(∀a∈l,Deep k a)->n+(l.flatMap (aq k)).length=fnd k n l
 |[],n,_,_=>rfl
 |a::l,n,h,hd=>by
  have e:fnd k n (a::l)=fnd k (if n<100 then n+aX k a else n) l:=rfl;rw[e] at h⊢
  by_cases d:n<100
  ·rw[yz d] at h⊢
   have g:n+aX k a<100:=by
    rcases Cd (n+aX k a) 100 with c|c
    ·exact c
    ·rw[jT k l _ c] at h;omega
   rw[<-vJ hk l _ h λb f=>hd b (yT _ f),AS,yu,hk a (by omega) (hd a (by simp))];omega
  ·rw[yw d,jT k l n (by omega)] at h;omega
theorem pt:∀(k:Nat) (e:Ex),aX k e<100->Deep k e->(aq k e).length=aX k e
 |0,e,_,h=>h.elim
 |k+1,e,h,hd=>by
  have:=vJ (pt k) e.args 1 h hd;show(e::e.args.flatMap (aq k)).length=fnd k 1 e.args;rw[yr];omega
theorem lwNodes0 (w:World) (e:Ex) (d:Nat) (x:Value) (m:ExZ e) (q:Rs (exR d) w x e.args ah):Calls Tryz.prog 110 #[exV e x,.int .i64 30] w λr w'=>r= .returned (.int .i64 ((aX 0 e:Nat):Int))/\Below w.heap.size w w':=by
 obtain⟨A,c,rfl,G,s⟩:=q.exs;obtain⟨u,C⟩:=zk2 s m;have g:e.args.length<=maxLen:=m.len;unfold maxLen at g;obtain⟨n,k⟩:=zv (e.args.length);have B:=zh k;rw[<-k] at u g⊢;obtain⟨R,i⟩:=zv (aX 0 e);have t:=zh i;rw[<-i];unfold exV;obtain⟨F,f⟩:=zv (e.op);obtain⟨E,b⟩:=zv (e.n);obtain⟨D,a⟩:=zv (e.name);rw[<-f,<-b,<-a];clear s m q k i f b a;go_enter Tryz.func110,Tryz.ntmps110;go_upto_region 1 with fail;generalize h:w.alloc _=w1 at*;obtain⟨o,v⟩:=zB1 h;clear h;go_wp2_with fail
 go_loopw [5,6] (λnv z wr=>nv= .int .i64 1/\z= .int .i64 0/\w1=wr) (λ_ _ _=>0)
 case atStart=>exact⟨rfl,rfl,rfl⟩
 case round=>
  obtain⟨rfl,rfl,rfl⟩:=hrel;have j:R=1:=t.out;subst j;have p:=za v 3 rfl
  by_cases l:n=0
  ·subst l;go_wp2_with fail;go_ret;exact⟨rfl,o⟩
  ·have y:(0:Int)<(n:Int):=by omega
   go_wp2_with fail;go_ret;exact⟨rfl,o⟩
theorem lwNodesS (k:Nat) (hk:k+1<=30) (IH:∀(w:World) (e:Ex) (d:Nat) (x:Value),ExZ e->Rs (exR d) w x e.args ah->Calls Tryz.prog 110 #[exV e x,.int .i64 ((30-k:Nat):Int)] w λr w'=>r= .returned (.int .i64 ((aX k e:Nat):Int))/\Below w.heap.size w w')
  (w:World) (e:Ex) (d:Nat) (x:Value) (N:ExZ e) (T:Rs (exR d) w x e.args ah):Calls Tryz.prog 110 #[exV e x,.int .i64 ((30-(k+1):Nat):Int)] w λr w'=>r= .returned (.int .i64 ((aX (k+1) e:Nat):Int))/\Below w.heap.size w w':=by
 obtain⟨A,c,rfl,hc,hx⟩:=T.exs;obtain⟨HX,HZ,HI⟩:=zk3 hx N IH;have P:e.args.length<=maxLen:=N.len;unfold maxLen at P;obtain⟨n,hn⟩:=zv (e.args.length);have HN:=zh hn;rw[<-hn] at HX P⊢;obtain⟨R,Y⟩:=zv (aX (k+1) e);have HR:=zh Y;rw[<-Y];unfold exV;obtain⟨eo,F⟩:=zv (e.op);obtain⟨en,E⟩:=zv (e.n);obtain⟨em,D⟩:=zv (e.name);rw[<-F,<-E,<-D];obtain⟨S,I⟩:=zv (30-(k+1));rw[<-I];clear hx N IH T hn Y F E D;go_enter Tryz.func110,Tryz.ntmps110;go_upto_region 1 with fail;generalize Q:w.alloc _=w1 at*;obtain⟨h,q⟩:=zB1 Q;clear Q;go_wp2_with fail;have s:=zh fun(w:World) (e:Ex) (d:Nat) (x:Value) N T=>HI.out w e d x N T;have H:30-k=S+1:=by omega
 rw[H] at s;have ab:(S:Int)<30:=by omega
 have i:((S+1:Nat):Int)=(S:Int)+1:=by omega
 rw[i] at s;have z:Hid (R=fnd k 1 e.args):=zh HR
 have y:Hid (∀l,fnd k 1 l<=3101):=zh λl=>by
  have:=tY (kJ k) l 1 (by omega);omega
 have X:Hid (∀a,aX k a<=3100):=zh λa=>by have:=kJ k a;omega
 clear HI H i HR I
 go_loopw [5,6] (λnv iv wr=>∃j:Nat,j<=n/\iv= .int .i64 (j:Nat)/\nv= .int .i64 ((fnd k 1 (e.args.take j):Nat):Int)/\Box wr w.heap.size #[.int .i64 eo,.int .i64 en,.string em,.slice A n c] 79/\Below w.heap.size w wr) (λ_ iv _=>n+1-(intOf iv).toNat)
 case atStart=>exact⟨0,yt _,rfl,rfl,q,h⟩
 case round=>
  obtain⟨j,hj,rfl,rfl,M,G⟩:=hrel;clear q h;obtain⟨q,h⟩:=zk2 M G;clear M G;have ac:=y.out (e.args.take j)
  by_cases K:j<n
  ·have L:(j:Int)<(n:Int):=by omega
   have j0:(0:Int)<=(j:Int):=by omega
   have J:j<e.args.length:=by rw[<-HN.out];exact K
   by_cases C:fnd k 1 (e.args.take j)<100
   ·have h1:((fnd k 1 (e.args.take j):Nat):Int)<100:=by omega
    have B:=zh (fnd_step J C);have V:=y.out (e.args.take (j+1));obtain⟨b,o,p,d',e2,m,aa,f,v, -⟩:=HX.out j K;subst e2;have v0:=(h.out.cell m).trans (f 0 _ rfl);have v1:=(h.out.cell m).trans (f 1 _ rfl);have v2:=(h.out.cell m).trans (f 2 _ rfl);have v3:=(h.out.cell m).trans (f 3 _ rfl);rw[yU] at v0;have U:=zh (s wr (e.args.getD j ex0) d' p (HZ.out.args _ (getD_in ex0 J)) (v.below h));have ad:=X.out (e.args.getD j ex0);generalize e.args.getD j ex0=ea at*;obtain⟨Ap,cp,rfl, -⟩:=v.slice;unfold exV at U;obtain⟨f1,u⟩:=zv (fnd k 1 (e.args.take (j+1)));have W:=zh u;rw[<-u] at B V;generalize fnd k 1 (e.args.take j)=f0 at*;generalize aX k ea=na at*;clear f m v aa u;have g:=za q 3 rfl;go_wp2_with fail;clear g;clear v0 v1 v2 v3;refine U.out.mono ?_;rintro r w2 ⟨rfl,Z⟩;replace q:=zb q Z;replace h:=zb h Z;clear Z U;go_wp2_with fail;go_roundw
    ·exact⟨j+1,by omega,by go_num,by rw[<-W.out,B.out];go_num,q,h⟩
    ·simp[intOf];omega
   ·have h1:¬((fnd k 1 (e.args.take j):Nat):Int)<100:=by omega
    have t:Hid (R=fnd k 1 (e.args.take j)):=zh (by
     rw[z.out]
     conv=>lhs;rw[<-List.take_append_drop j e.args]
     rw[vK,jT k _ _ (by omega)])
    generalize fnd k 1 (e.args.take j)=f0 at*;have g:=za q 3 rfl;go_wp2_with fail;clear g;go_ret;exact⟨by rw[t.out];rfl,h⟩
  ·have L:¬(j:Int)<(n:Int):=by omega
   have t:Hid (R=fnd k 1 (e.args.take j)):=zh (by rw[z.out,Ai (by rw[<-HN.out];omega)]);generalize fnd k 1 (e.args.take j)=f0 at*;have g:=za q 3 rfl;go_wp2_with fail;clear g;go_ret;exact⟨by rw[t.out];rfl,h⟩
theorem vq:∀(k:Nat),k<=30->∀(w:World) (e:Ex) (d:Nat) (x:Value),ExZ e->Rs (exR d) w x e.args ah->Calls Tryz.prog 110 #[exV e x,.int .i64 ((30-k:Nat):Int)] w λr w'=>r= .returned (.int .i64 ((aX k e:Nat):Int))/\Below w.heap.size w w'
 |0,h=>lwNodes0
 |k+1,h=>lwNodesS k h (vq k (by omega))
theorem lwBrief0 (w:World) (e:Ex) (d:Nat) (x:Value) (j:ExZ e) (k:Rs (exR d) w x e.args ah):Calls Tryz.prog 57 #[exV e x,.int .i64 26] w λr w'=>r= .returned (.bool false)/\Below w.heap.size w w':=by
 obtain⟨A,c,rfl,y,l⟩:=k.exs;obtain⟨o,q⟩:=zk2 l j;have g:e.args.length<=maxLen:=j.len;unfold maxLen at g;obtain⟨n,i⟩:=zv (e.args.length);have p:=zh i;rw[<-i] at o g⊢;unfold exV;obtain⟨v,f⟩:=zv (e.op);obtain⟨u,b⟩:=zv (e.n);obtain⟨t,a⟩:=zv (e.name);rw[<-f,<-b,<-a];clear l j k i f b a;go_enter Tryz.func57,Tryz.ntmps57;go_upto_region 1 with fail;generalize h:w.alloc _=w1 at*;obtain⟨m,s⟩:=zB1 h;clear h;go_wp2_with fail;go_ret;exact⟨rfl,m⟩
theorem lwBriefS (k y:Nat) (hk:k+1<=25) (S:y+k=25) (Y:∀(w:World) (e:Ex) (d:Nat) (x:Value),ExZ e->Rs (exR d) w x e.args ah->Calls Tryz.prog 57 #[exV e x,.int .i64 ((y:Int)+1)] w λr w'=>r= .returned (.bool (bD k e))/\Below w.heap.size w w')
  (w:World) (e:Ex) (d:Nat) (x:Value) (U:ExZ e) (Z:Rs (exR d) w x e.args ah):Calls Tryz.prog 57 #[exV e x,.int .i64 (y:Nat)] w λr w'=>r= .returned (.bool (bD (k+1) e))/\Below w.heap.size w w':=by
 obtain⟨A,c,rfl,hc,hx⟩:=Z.exs;obtain⟨X,HZ⟩:=zk2 hx U;have I:e.args.length<=maxLen:=U.len;unfold maxLen at I;obtain⟨n,T⟩:=zv (e.args.length);have W:=zh T;rw[<-T] at X I⊢;unfold exV;obtain⟨eo,D⟩:=zv (e.op);obtain⟨en,C⟩:=zv (e.n);obtain⟨em,B⟩:=zv (e.name);rw[<-D,<-C,<-B];clear hx U Z T D C B;have M:=zh Y;obtain⟨R,N⟩:=zv (bD (k+1) e);have z:Hid (R=e.args.all (bD k)):=zh N;rw[<-N];have d1:¬((y:Int)>25):=by omega
 have d2:((y:Int)==0)=false:=by simp;omega
 have d3:y<=25:=by omega
 clear Y N S;go_enter Tryz.func57,Tryz.ntmps57;go_upto_region 1 with fail;generalize J:w.alloc _=w1 at*;obtain⟨f,q⟩:=zB1 J;clear J;go_wp2_with fail
 go_loopw [5] (λV wr=>∃j:Nat,j<=n/\V= .int .i64 (j:Nat)/\Hid ((e.args.take j).all (bD k)=true)/\Box wr w.heap.size #[.int .i64 eo,.int .i64 en,.string em,.slice A n c] 79/\Below w.heap.size w wr) (λV _=>n+1-(intOf V).toNat)
 case atStart=>exact⟨0,yt _,rfl,zh rfl,q,f⟩
 case round=>
  obtain⟨j,hj,rfl,m,H,E⟩:=hrel;clear q f;obtain⟨q,f⟩:=zk2 H E;clear H E
  by_cases F:j<n
  ·have G:(j:Int)<(n:Int):=by omega
   have j0:(0:Int)<=(j:Int):=by omega
   have l:j<e.args.length:=by rw[<-W.out];exact F
   obtain⟨b,o,p,d',e2,i,Q,a,v, -⟩:=X.out j F;subst e2;have v0:=(f.out.cell i).trans (a 0 _ rfl);have v1:=(f.out.cell i).trans (a 1 _ rfl);have v2:=(f.out.cell i).trans (a 2 _ rfl);have v3:=(f.out.cell i).trans (a 3 _ rfl);rw[yU] at v0;have K:=zh (M wr (e.args.getD j ex0) d' p (HZ.out.args _ (getD_in ex0 l)) (v.below f))
   have s:Hid ((e.args.take (j+1)).all (bD k)=((e.args.take j).all (bD k)&&bD k (e.args.getD j ex0))):=zh (by
    rw[Am,yp l,List.all_append,yj,yp l]
    simp)
   have t:Hid (bD k (e.args.getD j ex0)=false->e.args.all (bD k)=false):=zh λh=>by
    rw[List.all_eq_false];exact⟨_,getD_in ex0 l,by rw[h];simp⟩
   generalize e.args.getD j ex0=ea at*;obtain⟨Ap,cp,rfl, -⟩:=v.slice;unfold exV at K;clear a i v Q l;have g:=za q 3 rfl;go_wp2_with fail;clear g;clear v0 v1 v2 v3;refine K.out.mono ?_;rintro r w2 ⟨rfl,P⟩;replace q:=zb q P;replace f:=zb f P;clear P K
   cases hq:bD k ea with
   |true=>
    have L:Hid ((e.args.take (j+1)).all (bD k)=true):=zh (by rw[s.out,m.out,hq];rfl);clear hq s t;go_wp2_with fail;go_roundw
    ·exact⟨j+1,by omega,by go_num,L,q,f⟩
    ·simp[intOf];omega
   |false=>
    have u:=zh (t hq);clear hq s t;go_wp2_with fail;go_ret;exact⟨by rw[z.out,u.out];rfl,f⟩
  ·have G:¬(j:Int)<(n:Int):=by omega
   have u:Hid (e.args.all (bD k)=true):=zh (by
    have:=m.out;rw[Ai (by rw[<-W.out];omega)] at this
    exact this)
   have g:=za q 3 rfl;go_wp2_with fail;clear g;go_ret;exact⟨by rw[z.out,u.out];rfl,f⟩
theorem px:∀(k a:Nat),k<=25->a+k=26->∀(w:World) (e:Ex) (d:Nat) (x:Value),ExZ e->Rs (exR d) w x e.args ah->Calls Tryz.prog 57 #[exV e x,.int .i64 (a:Nat)] w λr w'=>r= .returned (.bool (bD k e))/\Below w.heap.size w w'
 |0,a,h,h2=>by
  obtain rfl:a=26:=by omega
  exact lwBrief0
 |k+1,a,h,h2=>lwBriefS k a h (by omega) (by
   have:=px k (a+1) (by omega) (by omega);have e:((a+1:Nat):Int)=(a:Int)+1:=by omega
   rw[e] at this
   exact this)
theorem vu (w:World) (e:Ex) (d:Nat) (x:Value) (U:ExZ e) (hr:Rs (exR d) w x e.args ah):Calls Tryz.prog 57 #[exV e x,.int .i64 0] w λr w'=>r= .returned (.bool (decide (aX 30 e<=60)&&bD 26 e))/\Below w.heap.size w w':=by
 have D:=zh fun(W:World) (h:Below w.heap.size w W)=>vq 30 (by omega) W e d x U (hr.below h);have Y:Hid (∀(w:World) (e:Ex) (d:Nat) (x:Value),ExZ e->Rs (exR d) w x e.args ah->Calls Tryz.prog 57 #[exV e x,.int .i64 1] w λr w'=>r= .returned (.bool (bD 25 e))/\Below w.heap.size w w'):=zh (px 25 1 (by omega) (by omega));have ad:=kJ 30 e;obtain⟨T,z⟩:=zv (bD 26 e);have q:Hid (T=e.args.all (bD 25)):=zh z;rw[<-z];clear z;obtain⟨A,c,rfl,hc,hx⟩:=hr.exs;obtain⟨HX,HZ⟩:=zk2 hx U;have R:e.args.length<=maxLen:=U.len;unfold maxLen at R;obtain⟨n,hn⟩:=zv (e.args.length);have HN:=zh hn;rw[<-hn] at HX R D⊢;unfold exV at D⊢;obtain⟨eo,L⟩:=zv (e.op);obtain⟨en,K⟩:=zv (e.n);obtain⟨em,J⟩:=zv (e.name);rw[<-L,<-K,<-J] at D⊢;clear hx U hr hn L K J;have H:((30-30:Nat):Int)=0:=rfl;rw[H] at D;clear H;generalize aX 30 e=u at*;go_enter Tryz.func57,Tryz.ntmps57;go_upto_region 1 with fail;generalize S:w.alloc _=w1 at*;obtain⟨f,i⟩:=zB1 S;clear S;have E:=za i 0 rfl;have F:=za i 1 rfl;have G:=za i 2 rfl;have g:=za i 3 rfl;go_wp2_with fail;refine(D w1 f).mono ?_;rintro r w2 ⟨rfl,B⟩;clear E F G g;replace i:=zb i B;replace f:=zb f B;clear B;clear D
 by_cases ac:u<=60
 ·have Z:¬((60:Int)<(u:Int)):=by omega
  have aa:decide (60<u)=false:=by simp;omega
  have s:decide (u<=60)=true:=by simp;omega
  have I:Hid ((decide (u<=60)&&T)=T):=zh (by rw[s];rfl);clear s;go_wp2_with fail;clear aa
  go_loopw [5] (λiv wr=>∃j:Nat,j<=n/\iv= .int .i64 (j:Nat)/\Hid ((e.args.take j).all (bD 25)=true)/\Box wr w.heap.size #[.int .i64 eo,.int .i64 en,.string em,.slice A n c] 79/\Below w.heap.size w wr) (λiv _=>n+1-(intOf iv).toNat)
  case atStart=>exact⟨0,yt _,rfl,zh rfl,i,f⟩
  case round=>
   obtain⟨j,hj,rfl,t,Q,M⟩:=hrel;clear i f;obtain⟨i,f⟩:=zk2 Q M;clear Q M
   by_cases N:j<n
   ·have P:(j:Int)<(n:Int):=by omega
    have j0:(0:Int)<=(j:Int):=by omega
    have m:j<e.args.length:=by rw[<-HN.out];exact N
    obtain⟨b,o,p,d',e2,l,ab,a,C, -⟩:=HX.out j N;subst e2;have v0:=(f.out.cell l).trans (a 0 _ rfl);have v1:=(f.out.cell l).trans (a 1 _ rfl);have v2:=(f.out.cell l).trans (a 2 _ rfl);have v3:=(f.out.cell l).trans (a 3 _ rfl);rw[yU] at v0;have V:=zh (Y wr (e.args.getD j ex0) d' p (HZ.out.args _ (getD_in ex0 m)) (C.below f))
    have v:Hid ((e.args.take (j+1)).all (bD 25)=((e.args.take j).all (bD 25)&&bD 25 (e.args.getD j ex0))):=zh (by
     rw[Am,yp m,List.all_append,yj,yp m]
     simp)
    have y:Hid (bD 25 (e.args.getD j ex0)=false->e.args.all (bD 25)=false):=zh λh=>by
     rw[List.all_eq_false];exact⟨_,getD_in ex0 m,by rw[h];simp⟩
    generalize e.args.getD j ex0=ea at*;obtain⟨Ap,cp,rfl, -⟩:=C.slice;unfold exV at V;clear a l C ab m;have g:=za i 3 rfl;go_wp2_with fail;clear g;clear v0 v1 v2 v3;refine V.out.mono ?_;rintro r w2 ⟨rfl,B⟩;replace i:=zb i B;replace f:=zb f B;clear B V
    cases hq:bD 25 ea with
    |true=>
     have X:Hid ((e.args.take (j+1)).all (bD 25)=true):=zh (by rw[v.out,t.out,hq];rfl);clear hq v y;go_wp2_with fail;go_roundw
     ·exact⟨j+1,by omega,by go_num,X,i,f⟩
     ·simp[intOf];omega
    |false=>
     have k:=zh (y hq);clear hq v y;go_wp2_with fail;go_ret;exact⟨by first|(rw[I.out,q.out,k.out];rfl)|(rw[q.out,k.out];rfl),f⟩
   ·have P:¬(j:Int)<(n:Int):=by omega
    have k:Hid (e.args.all (bD 25)=true):=zh (by
     have:=t.out;rw[Ai (by rw[<-HN.out];omega)] at this
     exact this)
    have g:=za i 3 rfl;go_wp2_with fail;clear g;go_ret;exact⟨by first|(rw[I.out,q.out,k.out];rfl)|(rw[q.out,k.out];rfl),f⟩
 ·have Z:(60:Int)<(u:Int):=by omega
  have s:Hid ((decide (u<=60)&&T)=false):=zh (by
   have:decide (u<=60)=false:=by simp;omega
   rw[this];rfl)
  go_wp2_with fail;go_ret;exact⟨by first|(rw[s.out];rfl)|rfl,f⟩
structure pb (p:Pb):Prop where
 nv:p.vars.length<=20
 nh:p.hard.length<=20
 ns:p.soft.length<=20
 nd:p.dists.length<=20
 ng:p.groups.length<=20
 hd:∀e∈p.hard,aX 30 e<=60/\bD 26 e=true
 sf:∀e∈p.soft,aX 30 e<=60/\bD 26 e=true
 dw:∀x∈p.dists,x.ws.length<=20
 gr:∀x∈p.groups,x.length<=20
theorem gA {α:Type} {l:List α} {x0:α} {P:α->Prop} (h:∀i,i<l.length->P (l.getD i x0)):∀x∈l,P x:=λx a=>by
 obtain⟨i,hi,rfl⟩:=yS.1 a;have:=h i hi;rw[yj,yp hi] at this;exact this
def SmlR (w:World) (p:Pb) (e:Ending) (w':World):Prop:=(∃b,e= .returned (.bool b)/\(b=true->pb p))/\Below w.heap.size w w'
theorem lwSmall {w:World} {p:Pb} {A1 A2 A3 A4 A5:Option Addr} {c1 c2 c3 c4 c5 d:Nat} (hh:Rs (exR d) w (.slice A2 p.hard.length c2) p.hard ah) (hs:Rs (exR d) w (.slice A3 p.soft.length c3) p.soft ah) (hd:Rs dsR w (.slice A4 p.dists.length c4) p.dists ah) (hg:Rs ilR w (.slice A5 p.groups.length c5) p.groups ah) (hz:PbZ p):
  Calls Tryz.prog 23 #[pbV p A1 A2 A3 A4 A5 c1 c2 c3 c4 c5] w (SmlR w p):=by
 obtain⟨HH,HS,HD,HG⟩:=zk4 hh hs hd hg;have aq:=zh hz.hs;have ar:=zh hz.ss;unfold pbV;obtain⟨W,ag⟩:=zv (p.vars.length);obtain⟨E,N⟩:=zv (p.hard.length);obtain⟨F,P⟩:=zv (p.soft.length);obtain⟨G,Q⟩:=zv (p.dists.length);obtain⟨H,R⟩:=zv (p.groups.length);obtain⟨ap,Y,Z,aa,ab⟩:=zk5 ag N P Q R;rw[<-N] at HH;rw[<-P] at HS;rw[<-Q] at HD;rw[<-R] at HG;rw[<-ag,<-N,<-P,<-Q,<-R];clear hh hs hd hg hz ag N P Q R;go_enter Tryz.func23,Tryz.ntmps23;go_upto_region 1 with fail;generalize ak:w.alloc _=w1 at*;obtain⟨f,k⟩:=zB1 ak;clear ak;have aj:=za k 0 rfl;have t:=za k 1 rfl;have u:=za k 2 rfl;have C:=za k 3 rfl;have D:=za k 4 rfl
 by_cases a1:W<=20
 rotate_left
 ·have b1:(20:Int)<(W:Int):=by omega
  go_wp2_with fail;go_ret;exact⟨⟨false,rfl,λh=>by cases h⟩,f⟩
 have b1:¬(20:Int)<(W:Int):=by omega
 have e1:decide ((20:Int)<(W:Int))=false:=yv b1
 by_cases a2:E<=20
 rotate_left
 ·have b2:(20:Int)<(E:Int):=by omega
  go_wp2_with fail;go_ret;exact⟨⟨false,rfl,λh=>by cases h⟩,f⟩
 have b2:¬(20:Int)<(E:Int):=by omega
 have I:decide ((20:Int)<(E:Int))=false:=yv b2
 by_cases a3:F<=20
 rotate_left
 ·have b3:(20:Int)<(F:Int):=by omega
  go_wp2_with fail;go_ret;exact⟨⟨false,rfl,λh=>by cases h⟩,f⟩
 have b3:¬(20:Int)<(F:Int):=by omega
 have M:decide ((20:Int)<(F:Int))=false:=yv b3
 by_cases a4:G<=20
 rotate_left
 ·have b4:(20:Int)<(G:Int):=by omega
  go_wp2_with fail;go_ret;exact⟨⟨false,rfl,λh=>by cases h⟩,f⟩
 have b4:¬(20:Int)<(G:Int):=by omega
 have e4:decide ((20:Int)<(G:Int))=false:=yv b4
 by_cases a5:H<=20
 rotate_left
 ·have b5:(20:Int)<(H:Int):=by omega
  go_wp2_with fail;go_ret;exact⟨⟨false,rfl,λh=>by cases h⟩,f⟩
 have b5:¬(20:Int)<(H:Int):=by omega
 have e5:decide ((20:Int)<(H:Int))=false:=yv b5;go_wp2_with fail;clear aj t u C D;clear e1 I M e4 e5
 go_loopw [3] (λB wr=>∃j:Nat,j<=E/\B= .int .i64 (j:Nat)/\Hid (∀i,i<j->(aX 30 (p.hard.getD i ex0)<=60/\bD 26 (p.hard.getD i ex0)=true))/\Box wr w.heap.size #[.slice A1 W c1,.slice A2 E c2,.slice A3 F c3,.slice A4 G c4,.slice A5 H c5] 27/\Below w.heap.size w wr) (λB _=>E+1-(intOf B).toNat)
 case atStart=>exact⟨0,yt _,rfl,zh (λi h=>absurd h (Nat.not_lt_zero _)),k,f⟩
 case round=>
 obtain⟨j,hj,rfl,x,n,m⟩:=hrel;clear k f;obtain⟨k,f⟩:=zk2 n m;clear n m
 by_cases S:j<E
 ·have K:(j:Int)<(E:Int):=by omega
  have j0:(0:Int)<=(j:Int):=by omega
  have l:j<p.hard.length:=by rw[<-Y.out];exact S
  obtain⟨A',c',e1, -,L⟩:=HH.out.exs;obtain⟨b,o,q,d',I,g,ac,c,s, -⟩:=L j l
  have M:A2=some ⟨b,o,none⟩:=by
   simp only[yA] at e1;rw[e1.1,I]
  subst M;have v0:=(f.out.cell g).trans (c 0 _ rfl);have v1:=(f.out.cell g).trans (c 1 _ rfl);have v2:=(f.out.cell g).trans (c 2 _ rfl);have v3:=(f.out.cell g).trans (c 3 _ rfl);rw[yU] at v0;have X:=zh (vu wr (p.hard.getD j ex0) d' q (aq _ (getD_in ex0 l)) (s.below f))
  have a:Hid ((aX 30 (p.hard.getD j ex0)<=60/\bD 26 (p.hard.getD j ex0)=true)->∀i,i<j+1->aX 30 (p.hard.getD i ex0)<=60/\bD 26 (p.hard.getD i ex0)=true):=zh λh i hi=>by
   by_cases e:i=j
   ·rw[e];exact h
   ·exact x i (by omega)
  generalize p.hard.getD j ex0=ea at*;obtain⟨Ap,cp,rfl, -⟩:=s.slice;unfold exV at X;generalize aX 30 ea=nn at*;generalize bD 26 ea=db at*;clear e1 I L c g s ac l;have t:=za k 1 rfl;go_wp2_with fail;clear t;clear v0 v1 v2 v3;refine X.out.mono ?_;rintro r w2 ⟨rfl,hb⟩;replace k:=zb k hb;replace f:=zb f hb;clear hb X
  cases hq:(decide (nn<=60)&&db) with
  |true=>
   rw[yF] at hq;have v:=zh (a ⟨AD hq.1,hq.2⟩);clear hq a;go_wp2_with fail;go_roundw
   ·exact⟨j+1,by omega,by go_num,v,k,f⟩
   ·simp[intOf];omega
  |false=>
   clear hq a;go_wp2_with fail;go_ret;exact⟨⟨false,rfl,λh=>by cases h⟩,f⟩
 have ad:¬(j:Int)<(E:Int):=by omega
 have al:Hid (∀i,i<E->(aX 30 (p.hard.getD i ex0)<=60/\bD 26 (p.hard.getD i ex0)=true)):=zh λi hi=>x.out i (by omega);clear x S hj;have t:=za k 1 rfl;go_wp2_with fail;clear t;clear ad
 go_loopw [4] (λB wr=>∃j:Nat,j<=F/\B= .int .i64 (j:Nat)/\Hid (∀i,i<j->(aX 30 (p.soft.getD i ex0)<=60/\bD 26 (p.soft.getD i ex0)=true))/\Box wr w.heap.size #[.slice A1 W c1,.slice A2 E c2,.slice A3 F c3,.slice A4 G c4,.slice A5 H c5] 27/\Below w.heap.size w wr) (λB _=>F+1-(intOf B).toNat)
 case atStart=>exact⟨0,yt _,rfl,zh (λi h=>absurd h (Nat.not_lt_zero _)),k,f⟩
 case round=>
 obtain⟨j,hj,rfl,y,n,m⟩:=hrel;clear k f;obtain⟨k,f⟩:=zk2 n m;clear n m
 by_cases T:j<F
 ·have K:(j:Int)<(F:Int):=by omega
  have j0:(0:Int)<=(j:Int):=by omega
  have l:j<p.soft.length:=by rw[<-Z.out];exact T
  obtain⟨A',c',e1, -,L⟩:=HS.out.exs;obtain⟨b,o,q,d',I,g,ac,c,s, -⟩:=L j l
  have M:A3=some ⟨b,o,none⟩:=by
   simp only[yA] at e1;rw[e1.1,I]
  subst M;have v0:=(f.out.cell g).trans (c 0 _ rfl);have v1:=(f.out.cell g).trans (c 1 _ rfl);have v2:=(f.out.cell g).trans (c 2 _ rfl);have v3:=(f.out.cell g).trans (c 3 _ rfl);rw[yU] at v0;have X:=zh (vu wr (p.soft.getD j ex0) d' q (ar _ (getD_in ex0 l)) (s.below f))
  have a:Hid ((aX 30 (p.soft.getD j ex0)<=60/\bD 26 (p.soft.getD j ex0)=true)->∀i,i<j+1->aX 30 (p.soft.getD i ex0)<=60/\bD 26 (p.soft.getD i ex0)=true):=zh λh i hi=>by
   by_cases e:i=j
   ·rw[e];exact h
   ·exact y i (by omega)
  generalize p.soft.getD j ex0=ea at*;obtain⟨Ap,cp,rfl, -⟩:=s.slice;unfold exV at X;generalize aX 30 ea=nn at*;generalize bD 26 ea=db at*;clear e1 I L c g s ac l;have u:=za k 2 rfl;go_wp2_with fail;clear u;clear v0 v1 v2 v3;refine X.out.mono ?_;rintro r w2 ⟨rfl,hb⟩;replace k:=zb k hb;replace f:=zb f hb;clear hb X
  cases hq:(decide (nn<=60)&&db) with
  |true=>
   rw[yF] at hq;have v:=zh (a ⟨AD hq.1,hq.2⟩);clear hq a;go_wp2_with fail;go_roundw
   ·exact⟨j+1,by omega,by go_num,v,k,f⟩
   ·simp[intOf];omega
  |false=>
   clear hq a;go_wp2_with fail;go_ret;exact⟨⟨false,rfl,λh=>by cases h⟩,f⟩
 have ae:¬(j:Int)<(F:Int):=by omega
 have am:Hid (∀i,i<F->(aX 30 (p.soft.getD i ex0)<=60/\bD 26 (p.soft.getD i ex0)=true)):=zh λi hi=>y.out i (by omega);clear y T hj;have u:=za k 2 rfl;go_wp2_with fail;clear u;clear ae
 go_loopw [5] (λB wr=>∃j:Nat,j<=G/\B= .int .i64 (j:Nat)/\Hid (∀i,i<j->((p.dists.getD i ds0).ws.length<=20))/\Box wr w.heap.size #[.slice A1 W c1,.slice A2 E c2,.slice A3 F c3,.slice A4 G c4,.slice A5 H c5] 27/\Below w.heap.size w wr) (λB _=>G+1-(intOf B).toNat)
 case atStart=>exact⟨0,yt _,rfl,zh (λi h=>absurd h (Nat.not_lt_zero _)),k,f⟩
 case round=>
 obtain⟨j,hj,rfl,z,n,m⟩:=hrel;clear k f;obtain⟨k,f⟩:=zk2 n m;clear n m
 by_cases U:j<G
 ·have K:(j:Int)<(G:Int):=by omega
  have j0:(0:Int)<=(j:Int):=by omega
  have l:j<p.dists.length:=by rw[<-aa.out];exact U
  obtain⟨A',c',e1, -,L⟩:=HD.out.dss;obtain⟨b,o,q,I,g,au,J,s⟩:=L j l
  have M:A4=some ⟨b,o,none⟩:=by
   simp only[yA] at e1;rw[e1.1,I]
  subst M;have v1:=(f.out.cell g).trans J
  have a:Hid ((p.dists.getD j ds0).ws.length<=20->∀i,i<j+1->(p.dists.getD i ds0).ws.length<=20):=zh λh i hi=>by
   by_cases e:i=j
   ·rw[e];exact h
   ·exact z i (by omega)
  obtain⟨Ap,cp,rfl, -⟩:=s.slice;generalize(p.dists.getD j ds0).ws.length=wl at*;clear e1 I L au J g s l;have C:=za k 3 rfl
  by_cases hw:wl<=20
  ·have ai:¬(20:Int)<(wl:Int):=by omega
   have v:=zh (a hw);clear a;go_wp2_with fail;go_roundw
   ·exact⟨j+1,by omega,by go_num,v,k,f⟩
   ·simp[intOf];omega
  ·have ai:(20:Int)<(wl:Int):=by omega
   clear a;go_wp2_with fail;go_ret;exact⟨⟨false,rfl,λh=>by cases h⟩,f⟩
 have af:¬(j:Int)<(G:Int):=by omega
 have an:Hid (∀i,i<G->((p.dists.getD i ds0).ws.length<=20)):=zh λi hi=>z.out i (by omega);clear z U hj;have C:=za k 3 rfl;go_wp2_with fail;clear C;clear af
 go_loopw [6] (λB wr=>∃j:Nat,j<=H/\B= .int .i64 (j:Nat)/\Hid (∀i,i<j->((p.groups.getD i []).length<=20))/\Box wr w.heap.size #[.slice A1 W c1,.slice A2 E c2,.slice A3 F c3,.slice A4 G c4,.slice A5 H c5] 27/\Below w.heap.size w wr) (λB _=>H+1-(intOf B).toNat)
 case atStart=>exact⟨0,yt _,rfl,zh (λi h=>absurd h (Nat.not_lt_zero _)),k,f⟩
 case round=>
 obtain⟨j,hj,rfl,A,n,m⟩:=hrel;clear k f;obtain⟨k,f⟩:=zk2 n m;clear n m
 by_cases V:j<H
 ·have K:(j:Int)<(H:Int):=by omega
  have j0:(0:Int)<=(j:Int):=by omega
  have l:j<p.groups.length:=by rw[<-ab.out];exact V
  obtain⟨A',c',e1, -,L⟩:=HG.out.ils;obtain⟨b,o,q,I,g,J,aw, -⟩:=L j l
  have M:A5=some ⟨b,o,none⟩:=by
   simp only[yA] at e1;rw[e1.1,I]
  subst M;have v1:=(f.out.cell g).trans J
  have a:Hid ((p.groups.getD j []).length<=20->∀i,i<j+1->(p.groups.getD i []).length<=20):=zh λh i hi=>by
   by_cases e:i=j
   ·rw[e];exact h
   ·exact A i (by omega)
  obtain⟨Ap,cp,rfl, -⟩:=aw;generalize(p.groups.getD j []).length=wl at*;clear e1 I L J g l;have D:=za k 4 rfl
  by_cases hw:wl<=20
  ·have ai:¬(20:Int)<(wl:Int):=by omega
   have v:=zh (a hw);clear a;go_wp2_with fail;go_roundw
   ·exact⟨j+1,by omega,by go_num,v,k,f⟩
   ·simp[intOf];omega
  ·have ai:(20:Int)<(wl:Int):=by omega
   clear a;go_wp2_with fail;go_ret;exact⟨⟨false,rfl,λh=>by cases h⟩,f⟩
 have av:¬(j:Int)<(H:Int):=by omega
 have ao:Hid (∀i,i<H->((p.groups.getD i []).length<=20)):=zh λi hi=>A.out i (by omega);clear A V hj;have D:=za k 4 rfl;go_wp2_with fail;clear D;go_ret;exact⟨⟨true,rfl,λ_=>⟨by rw[<-ap.out];exact a1,by rw[<-Y.out];exact a2,by rw[<-Z.out];exact a3,by rw[<-aa.out];exact a4,by rw[<-ab.out];exact a5,gA (x0:=ex0) λi hi=>al.out i (by rw[Y.out];exact hi),gA (x0:=ex0) λi hi=>am.out i (by rw[Z.out];exact hi),gA (x0:=ds0) λi hi=>an.out i (by rw[aa.out];exact hi),gA (x0:=[]) λi hi=>ao.out i (by rw[ab.out];exact hi)⟩⟩,f⟩
theorem tz (w:World) (v:Value) (vars:List Vr) (s:ByteArray) (J:Rs vrR w v vars ah) (U:vars.length<=1000):Calls Tryz.prog 60 #[v,.string s] w λe w'=>e= .returned (.int .i64 (cS vars s))/\w=w':=by
 obtain⟨A,c,rfl,S,K⟩:=J.vrs;have m:=zh K;have y:=zh (λk P Q R=>gL (p:=λv:Vr=>decide (v.name=s)) (l:=vars) (k:=k) vr0 P Q R);have z:=zh (fQ (p:=λv:Vr=>decide (v.name=s)) (l:=vars) vr0);obtain⟨N,E⟩:=zv (vars.length);have F:=zh E;have G:Hid (cS vars s=fF (λv=>decide (v.name=s)) vars):=zh rfl;rw[<-E] at S U m⊢;generalize cS vars s=r at*;clear K E J;go_enter Tryz.func60,Tryz.ntmps60;go_wp2_with fail
 go_loopw [5] (λi wr=>∃k:Nat,k<=N/\i= .int .i64 k/\wr=w/\Hid (∀j,j<k->(decide ((vars.getD j vr0).name=s))=false)) (λi _=>N-(intOf i).toNat)
 case atStart=>exact⟨0,yt _,rfl,rfl,zh (λj h=>by omega)⟩
 case round=>
  obtain⟨k,hk,rfl,rfl,d⟩:=hrel
  by_cases t:k<N
  ·have u:(k:Int)<N:=by omega
   have T:(0:Int)<=(k:Int):=by omega
   have f:k<vars.length:=by rw[<-F.out];exact t
   obtain⟨b,o,M,n,a⟩:=m.out k t;subst M;have L:=a 0 _ rfl;rw[yU] at L;have C:=zh (y k f d.out)
   have D:Hid ((decide ((vars.getD k vr0).name=s))=false->∀j,j<k+1->(decide ((vars.getD j vr0).name=s))=false):=zh λh j H=>by
    by_cases e:j=k
    ·rw[e];exact h
    ·exact d.out j (by omega)
   generalize vars.getD k vr0=x at*;obtain⟨B,W,X,Y⟩:=x;simp only at L
   have V:((B.toList==s.toList)=decide (B=s)):=by
    by_cases h:B=s
    ·subst h;simp
    ·rw[(kh h).1,yv h]
   generalize I:decide (B=s)=qv at*;cases qv
   ·have g:=zh (D rfl);clear C D I f n a d m y z;go_wp2_with fail;go_roundw
    ·exact⟨k+1,by omega,by go_num,by trivial,g⟩
    ·simp[intOf];omega
   ·have g:=zh (C rfl);clear C D I f n a d m y z;go_wp2_with fail;go_ret;exact⟨aS (by rw[G.out,g.out]),rfl⟩
  ·have u:¬(k:Int)<N:=by omega
   have q:k=N:=by omega
   have g:=zh (z λj H=>d.out j (by rw[q,F.out];exact H));clear d q m y z;go_wp2_with fail;go_ret;exact⟨aS (by rw[G.out,g.out]),rfl⟩
theorem pk (w:World) (a:ByteArray) (i:Nat) (hi:i<10) (k:a.size<=1000000):Calls Tryz.prog 112 #[.string a,.int .i64 (i:Nat)] w λe w'=>e= .returned (.string (bC a i))/\Below w.heap.size w w':=by
 rw[<-vQ a i hi]
 have l:(⟨(Lib.decDigits i).toArray⟩:ByteArray).size=1:=by
  have e:Lib.decDigits i=[UInt8.ofNat (48+i)]:=by unfold Lib.decDigits;rw[dif_pos hi]
  rw[e];rfl
 have f:xI (i:Int)=(⟨(Lib.decDigits i).toArray⟩:ByteArray):=by
  refine oN ?_;rw[lZ];rw[Lib.itoa_nonneg]
 have c:=zh λW=>wW (i:Int) W (by omega) (by omega);rw[f] at c;generalize(⟨(Lib.decDigits i).toArray⟩:ByteArray)=dg at*;have m:¬9223372036854775807<a.size+1:=by omega
 have b:(a++(⟨#[91]⟩:ByteArray)).size=a.size+1:=by rw[ByteArray.size_append];rfl
 have n:¬9223372036854775807<(a++(⟨#[91]⟩:ByteArray)).size+dg.size:=by rw[b];omega
 have h:¬9223372036854775807<a.size+1+dg.size:=by omega
 have o:¬9223372036854775807<(a++(⟨#[91]⟩:ByteArray)++dg).size+1:=by rw[ByteArray.size_append,b];omega
 have j:¬9223372036854775807<a.size+1+dg.size+1:=by omega
 clear b l k hi f;go_enter Tryz.func112,Tryz.ntmps112;go_wp2_with fail;refine(c _).mono ?_;rintro e w' ⟨rfl,d⟩;have g:=zh d;clear d;go_wp2_with fail;go_ret;exact⟨rfl,g⟩
def mu (s:ByteArray) (j:Nat):Bool:=decide (byt s j=91)&&(aN (s.extract 0 j)&&(List.range 8).any (λi=>decide (s=bC (s.extract 0 j) i)))
theorem lc (s:ByteArray) (j:Nat) (h:j<=s.size):(s.extract 0 j).size=j:=by
 rw[Ba,Ci];simp only[yM,AY];have:=Ba s;omega
theorem sI {s:ByteArray} {j:Nat} (h:j<s.size) (e:byt s j=91) (f:aN (s.extract 0 j)=true):ix 91 s.data.toList=j/\cI 91 s=s.extract 0 j/\eV 91 s=true/\1<=j:=by
 have d:=(b9.1 f).1;have c:s.data.toList.length=s.size:=(Ba s).symm
 have a:ix 91 s.data.toList=j:=by
  refine pz _ _ (by omega) (λi hi=> ?_) (λ_=> ?_)
  ·have:=pU d (b:=91) (by decide) (s.data.toList.getD i 0) (by
    rw[Ci];simp only[yO,Nat.sub_zero];rw[yj,yp (by omega)];simp only[AV];rw[List.mem_take_iff_getElem]
    exact⟨i,by omega,rfl⟩)
   exact this
  ·have g:((s.data.toList.getD j 0).toNat:Int)=91:=e;refine UInt8.toNat_inj.1 ?_;show(s.data.toList.getD j 0).toNat=91;omega
 refine⟨a, ?_, ?_, ?_⟩
 ·rw[<-a,cX]
 ·unfold eV;rw[a];exact yB (by omega)
 ·have:=d.1;rw[lc s j (by omega)] at this;exact this
theorem xi {s:ByteArray} {j:Nat} (g:j<s.size) (h:mu s j=true):cj s=true:=by
 unfold mu at h;simp only[yF] at h;obtain⟨e,b,c⟩:=h;obtain⟨_,a,d,_⟩:=sI g (AD e) b;unfold cj;rw[a,d,b]
 have:(List.range 8).any (dR s)=true:=by
  rw[AE] at c⊢;obtain⟨i,hi,f⟩:=c;refine⟨i,hi, ?_⟩;unfold dR;rw[a];exact f
 rw[this];simp
theorem named_no {s:ByteArray} (l:aN s=false) (h:∀j,1<=j->j<s.size->mu s j=false):cj s=false:=by
 cases hq:cj s
 ·rfl
 ·exfalso
  unfold cj at hq;rw[l,B7] at hq;simp only[yF] at hq;obtain⟨d,a,e⟩:=hq;have f:=qO d;have k:ix 91 s.data.toList<s.size:=by have:=AD d;rw[Ba];exact this
  rw[<-cX] at a;have g:=sI k f a;have b:=h _ g.2.2.2 k;unfold mu at b
  have m:(List.range 8).any (λi=>decide (s=bC (s.extract 0 (ix 91 s.data.toList)) i))=true:=by
   rw[AE] at e⊢;obtain⟨i,hi,c⟩:=e;refine⟨i,hi, ?_⟩;unfold dR at c;rw[g.2.1] at c;exact c
  rw[a,m,f] at b;simp at b
theorem rfNamed (w:World) (s:ByteArray) (S:s.size<=maxLen):Calls Tryz.prog 111 #[.string s] w λe w'=>e= .returned (.bool (cj s))/\Below w.heap.size w w':=by
 have M:=zh λw=>kD s w S;unfold maxLen at S;have G:=zh fun(w:World) (k:Nat) (hk:k<=s.size)=>kD (s.extract 0 k) w (by rw[lc s k hk];unfold maxLen;omega);have F:=zh fun(w:World) (k i:Nat) (hk:aN (s.extract 0 k)=true) (hi:i<8)=>pk w (s.extract 0 k) i (by omega) (by have:=(b9.1 hk).2.1;omega);have Q:Hid (aN s=true->cj s=true):=zh λh=>by unfold cj;rw[h];rfl
 have I:=zh λj (L:j<s.size)=>xi (s:=s) (j:=j) L;have J:=zh (named_no (s:=s));have u:=zh λk (h:k<s.size)=>ir s k h;have H:Hid (∀j,mu s j=(decide (byt s j=91)&&(aN (s.extract 0 j)&&(List.range 8).any (λi=>decide (s=bC (s.extract 0 j) i))))):=zh λj=>rfl;generalize cj s=r at*;generalize aN s=n1 at*;cases n1
 case true=>
  have P:=zh (Q rfl);clear Q I J H u F G;go_enter Tryz.func111,Tryz.ntmps111;go_wp2_with fail;refine(M w).mono ?_;rintro e w1 ⟨rfl,a⟩;have f:=zh a;clear a;go_wp2_with fail;go_ret;exact⟨bF P.out.symm,f⟩
 case false=>
  clear Q;go_enter Tryz.func111,Tryz.ntmps111;go_wp2_with fail;refine(M w).mono ?_;rintro e w1 ⟨rfl,a⟩;have f:=zh a;clear a M;go_wp2_with fail
  go_loopw [3,4] (λi _ wr=>∃k:Nat,1<=k/\k<=s.size+1/\i= .int .i64 k/\Hid (∀j,1<=j->j<k->mu s j=false)/\Below w.heap.size w wr) (λi _ _=>s.size+1-(intOf i).toNat)
  case atStart=>exact⟨1,by omega,by omega,rfl,zh (λj K U=>by omega),f⟩
  case round=>
   clear f;obtain⟨k,V,hk,rfl,x,a⟩:=hrel;have f:=zh a;clear a
   by_cases D:k<s.size
   case neg=>
    have E:¬(k:Int)<s.size:=by omega
    have y:Hid (r=false):=zh (J trivial λj K U=>x.out j K (by omega));clear x J I H u G F;go_wp2_with fail;go_ret;exact⟨bF y.out.symm,f⟩
   have E:(k:Int)<s.size:=by omega
   have R:k<=s.size:=by omega
   have a:=u.out k D
   have d:Hid (mu s k=false->∀j,1<=j->j<k+1->mu s j=false):=zh λh j K L=>by
    by_cases e:j=k
    ·rw[e];exact h
    ·exact x.out j K (by omega)
   have b:=zh (H k);have n:=zh (I k D);have t:=zh λw=>G.out w k R;have l:=zh λw i X hi=>F.out w k i X hi;clear J I H u G F x;rw[a] at b;clear a
   by_cases g:(s[k].toNat:Int)=91
   case neg=>
    have T:((s[k].toNat:Int) !=91)=true:=by simpa using g
    have y:=zh (d (by rw[b.out,yv g];rfl));clear d b n t l g;go_wp2_with fail;go_roundw
    ·exact⟨k+1,by omega,by omega,by go_num,y,f⟩
    ·simp[intOf];omega
   have T:((s[k].toNat:Int) !=91)=false:=by simpa using g
   rw[yB g,B5] at b;clear g;generalize aN (s.extract 0 k)=nb at*;cases nb
   case false=>
    have y:=zh (d (by rw[b.out];rfl));clear d b n l;go_wp2_with fail;refine(t _).mono ?_;rintro e w2 ⟨rfl,a⟩;have c:=zh (ab f a);clear a;go_wp2_with fail;go_roundw
    ·exact⟨k+1,by omega,by omega,by go_num,y,c⟩
    ·simp[intOf];omega
   rw[B5] at b;go_wp2_with fail;refine(t _).mono ?_;rintro e w2 ⟨rfl,a⟩;have c:=zh (ab f a);clear a f t;go_wp2_with fail
   go_loopw [4] (λi wr=>∃m:Nat,m<=8/\i= .int .i64 m/\Hid (∀j,j<m->decide (s=bC (s.extract 0 k) j)=false)/\Below w.heap.size w wr) (λi _=>8-(intOf i).toNat)
   case atStart=>exact⟨0,by decide,rfl,zh λj h=>by omega,c⟩
   case round=>
    clear c;obtain⟨m,hm,rfl,v,a⟩:=hrel;have f:=zh a;clear a
    by_cases B:m<8
    ·have C:(m:Int)<8:=by omega
     have Z:=lg s (s.extract 0 k) m;have A:=zh λW=>l.out W m trivial B;have o:=zh fun(h:decide (s=bC (s.extract 0 k) m)=true)=>n.out (b.out.trans (tc (p:=λi=>decide (s=bC (s.extract 0 k) i)) B h))
     have z:Hid (decide (s=bC (s.extract 0 k) m)=false->∀j,j<m+1->decide (s=bC (s.extract 0 k) j)=false):=zh λh j L=>by
      by_cases e:j=m
      ·rw[e];exact h
      ·exact v.out j (by omega)
     clear d b n l v;generalize decide (s=bC (s.extract 0 k) m)=q at*;generalize bC (s.extract 0 k) m=en at*;cases q
     ·have N:=zh (z rfl);clear z o;go_wp2_with fail;refine(A _).mono ?_;rintro e Y ⟨rfl,a⟩;have c:=zh (ab f a);clear a;go_wp2_with fail;go_roundw
      ·exact⟨m+1,by omega,by go_num,N,c⟩
      ·simp[intOf];omega
     ·have P:=zh (o rfl);clear z o;go_wp2_with fail;refine(A _).mono ?_;rintro e Y ⟨rfl,a⟩;have c:=zh (ab f a);clear a;go_wp2_with fail;go_ret;exact⟨bF P.out.symm,c⟩
    ·have C:¬(m:Int)<8:=by omega
     have y:=zh (d (by rw[b.out];exact pR λj L=>v.out j (by omega)));clear d b n l v;go_wp2_with fail;go_roundw
     ·exact⟨k+1,by omega,by omega,by go_num,y,f⟩
     ·simp[intOf];omega
theorem tx (w:World) (v:Vr) (r:v.name.size<=maxLen):Calls Tryz.prog 59 #[vrV v] w (ErR (eW v) w):=by
 have c:=zh fun(w':World) (er:Int) (h:¬eW v) he f=>ErR.no (w:=w) (w':=w') (er:=er) h he f;have j:=zh fun(w':World) (h:eW v) f=>ErR.yes (w:=w) (w':=w') h f;have a:Hid (eW v↔cj v.name=true/\(1<=v.width/\v.width<=8)/\(0<=v.mode/\v.mode<=2)/\(0<=v.value/\v.value<2^v.width.toNat)/\(v.mode≠0->v.value=0)):=zh Iff.rfl;generalize eW v=VO at*;obtain⟨x,q,md,m⟩:=v;simp only at a r;have o:=zh fun(W:World)=>rfNamed W x r;unfold vrV;simp only;clear r;go_enter Tryz.func59,Tryz.ntmps59;go_upto_region 1 with fail;generalize n:w.alloc _=w1 at*;obtain⟨d,g⟩:=zB1 n;clear n;have k:=za g 0 rfl;generalize cj x=nb at*;cases nb
 ·have b:Hid (¬VO):=zh λh=>by have:=(a.out.1 h).1;cases this
  go_wp2_with fail;refine(o _).mono ?_;rintro e B ⟨rfl,f⟩;clear k;replace g:=zb g f;replace d:=zb d f;clear f;go_wp2_with fail;go_ret;exact c _ _ b (by decide) d
 go_wp2_with fail;refine(o _).mono ?_;rintro e B ⟨rfl,f⟩;replace g:=zb g f;replace d:=zb d f;clear f;have s:=za g 1 rfl;have t:=za g 2 rfl;have u:=za g 3 rfl
 by_cases D:q<1
 ·have b:Hid (¬VO):=zh λh=>by have:=(a.out.1 h).2.1;omega
  go_wp2_with fail;go_ret;exact c _ _ b (by decide) d
 by_cases E:q>8
 ·have b:Hid (¬VO):=zh λh=>by have:=(a.out.1 h).2.1;omega
  go_wp2_with fail;go_ret;exact c _ _ b (by decide) d
 obtain⟨wn,rfl⟩:∃wn:Nat,q=wn:=⟨q.toNat,by omega⟩;have C:(0:Int)<=(wn:Int):=by omega
 have J:IntKind.i64.wrap (2^wn)=2^wn:=by
  have:wn=1\/wn=2\/wn=3\/wn=4\/wn=5\/wn=6\/wn=7\/wn=8:=by omega
  rcases this with rfl|rfl|rfl|rfl|rfl|rfl|rfl|rfl<;>decide
 rw[y5] at a
 by_cases F:md<0
 ·have b:Hid (¬VO):=zh λh=>by have:=(a.out.1 h).2.2.1;omega
  go_wp2_with fail;go_ret;exact c _ _ b (by decide) d
 by_cases G:md>2
 ·have b:Hid (¬VO):=zh λh=>by have:=(a.out.1 h).2.2.1;omega
  go_wp2_with fail;go_ret;exact c _ _ b (by decide) d
 by_cases H:m<0
 ·have b:Hid (¬VO):=zh λh=>by have:=(a.out.1 h).2.2.2.1.1;omega
  go_wp2_with fail;go_ret;exact c _ _ b (by decide) d
 by_cases p:md=0
 ·subst p;have y:((0:Int) !=0)=false:=by decide
  by_cases I:m≥(2:Int)^wn
  ·have b:Hid (¬VO):=zh λh=>by have:=(a.out.1 h).2.2.2.1.2;omega
   clear a;go_wp2_with fail
   go_quiet (fail)
   go_wp2_with fail;go_ret;exact c _ _ b (by decide) (ay d _)
  ·have i:=zh (a.out.2 ⟨by trivial,by omega,by omega,by omega,λh=>absurd rfl h⟩);clear c a o;go_wp2_with fail
   go_quiet (fail)
   go_wp2_with fail;go_ret;exact j _ i (ay d _)
 have y:(md !=0)=true:=by simpa using p
 have z:(md==0)=false:=by simpa using p
 by_cases l:m=0
 ·have A:(m !=0)=false:=by simpa using l
  have hp:(0:Int)<2^wn:=Int.pow_pos (by decide);have i:=zh (a.out.2 ⟨by trivial,by omega,by omega,by omega,λ_=>l⟩);clear c a o l hp;go_wp2_with fail
  go_quiet (fail)
  go_wp2_with fail;go_ret;exact j _ i (ay d _)
 ·have A:(m !=0)=true:=by simpa using l
  have b:Hid (¬VO):=zh λh=>by have:=(a.out.1 h).2.2.2.2 p;exact l this
  clear a;go_wp2_with fail
  go_quiet (fail)
  go_wp2_with fail;go_ret;exact c _ _ b (by decide) (ay d _)
theorem xT {a:ByteArray} {i j:Nat} (hi:i<8) (e:j<8) (h:bC a i=bC a j):i=j:=by
 have b:(bC a i).data.toList=(bC a j).data.toList:=by rw[h]
 unfold bC at b;simp only[Array.toList_append,List.append_cancel_left_eq] at b
 have c:UInt8.ofNat (48+i)=UInt8.ofNat (48+j):=by
  simp only[By,true_and,B9] at b;exact b
 have d:=AA UInt8.toNat c;simp at d;omega
def ou (l:List Vr) (s:ByteArray) (k n:Nat):Prop:=s=bC (s.extract 0 k) n/\cS l (bC (s.extract 0 k) (n-1))<0
theorem pG {l:List Vr} {s:ByteArray}:∀{L:List Nat},mI l s L=true->∃i∈L,dR s i=true/\cS l (bC (cI 91 s) (i-1))<0
 |[],h=>by cases h
 |i::L,h=>by
  unfold mI at h
  by_cases e:dR s i=true
  ·rw[yz e] at h;exact⟨i,by simp,e,AD h⟩
  ·rw[yw e] at h;obtain⟨j,b,a⟩:=pG h;exact⟨j,by simp[b],a⟩
theorem vG {l:List Vr} {s:ByteArray} {n:Nat} (a:dR s n=true) (b:cS l (bC (cI 91 s) (n-1))<0):∀{L:List Nat},n∈L->(∀j∈L,dR s j=true->j=n)->mI l s L=true
 |[],h,_=>by cases h
 |i::L,h,hu=>by
  unfold mI
  by_cases e:dR s i=true
  ·rw[yz e,hu i (by simp) e,yB b]
  ·rw[yw e];refine vG a b ?_ λj c=>hu j (by simp[c]);rcases yC.1 h with h|h
   ·rw[h] at a;exact absurd a e
   ·exact h
theorem rY {s:ByteArray} (h:cj s=true) (a:eV 91 s=true):aN (cI 91 s)=true/\s.size=ix 91 s.data.toList+3:=by
 unfold cj at h;rw[Cl] at h;rcases h with h|h
 ·exfalso
  have f:=(b9.1 h).1;unfold eV at a;rw[qw _ (pU f (by decide))] at a;simp at a
 ·simp only[yF] at h;obtain⟨_,b,c⟩:=h;refine⟨b, ?_⟩;obtain⟨i,_,d⟩:=AE.1 c;have e:s=bC (cI 91 s) i:=AD d;have:=l9 (cI 91 s) i;rw[<-e,fO] at this;exact this
theorem byt_mem {s:ByteArray} {k:Nat} (hk:k<s.size) (h:byt s k=91):eV 91 s=true:=by
 cases hq:eV 91 s
 ·exfalso
  have c:=of_decide_eq_false hq;have d:=kQ (b:=91) s.data.toList;have a:s.data.toList.length=s.size:=(Ba s).symm;have:=ix_ne (b:=91) s.data.toList k (by omega);refine this (UInt8.toNat_inj.1 ?_);have e:((s.data.toList.getD k 0).toNat:Int)=91:=h;show(s.data.toList.getD k 0).toNat=91;omega
 ·rfl
theorem gap_yes {l:List Vr} {s:ByteArray} {k n:Nat} (o:cj s=true) (hk:k<s.size) (m:byt s k=91) (p:1<=n) (g:n<8) (h:ou l s k n):fa l s=true:=by
 have b:=byt_mem hk m;obtain⟨q,r⟩:=rY o b;have d:=l9 (s.extract 0 k) n;rw[<-h.1,lc s k (by omega)] at d;have e:cI 91 s=s.extract 0 k:=by rw[<-cX,show ix 91 s.data.toList=k by omega]
 unfold fa;rw[b,B5];refine vG (n:=n) ?_ ?_ ?_ ?_
 ·unfold dR;rw[e];exact yB h.1
 ·rw[e];exact h.2
 ·rw[List.mem_range'];exact⟨n-1,by omega,by omega⟩
 ·intro j c f;rw[List.mem_range'] at c;obtain⟨i,hi,rfl⟩:=c;have a:s=bC (cI 91 s) (1+1*i):=AD f;rw[e] at a;exact xT (by omega) g (a.symm.trans h.1)
theorem gap_no {l:List Vr} {s:ByteArray} (g:cj s=true) (h:∀k,1<=k->k<s.size->byt s k=91->∀n,1<=n->n<8->¬ou l s k n):fa l s=false:=by
 cases hq:fa l s
 ·rfl
 ·exfalso
  unfold fa at hq;simp only[yF] at hq;obtain⟨a,c⟩:=hq;obtain⟨d,m⟩:=rY g a;obtain⟨i,hi,e,f⟩:=pG c;rw[List.mem_range'] at hi;obtain⟨j,o,rfl⟩:=hi;have b:=(b9.1 d).1.1;rw[fO] at b;refine h (ix 91 s.data.toList) b (by omega) (qO a) (1+1*j) (by omega) (by omega) ⟨?_, ?_⟩
  ·rw[cX];exact AD e
  ·rw[cX];exact f
theorem s9 {l:List Vr} {p:Vr->Bool} (h:∀j,j<l.length->p (l.getD j vr0)=false):l.any p=false:=by
 cases hq:l.any p
 ·rfl
 ·obtain⟨x,c,a⟩:=AE.1 hq;obtain⟨j,b,rfl⟩:=yS.1 c;have:=h j b;rw[yj,yp b] at this;simp only[AV] at this;rw[this] at a;cases a
def tW (l:List Vr):Bool:=l.any λv=>fa l v.name
theorem rfGap (w:World) (v:Value) (vars:List Vr) (hv:Rs vrR w v vars ah) (hn:vars.length<=1000) (hs:∀v∈vars,cj v.name=true):
  Calls Tryz.prog 61 #[v] w λe w'=>e= .returned (.bool (tW vars))/\Below w.heap.size w w':=by
 have X:=zh fun(W:World) (s:ByteArray) (d:Below w.heap.size w W)=>tz W v vars s (hv.below d) hn;have HS:=zh λk (h:k<vars.length)=>hs _ (getD_in vr0 h);have HZ:=zh λk (h:k<vars.length)=>nV (hs _ (getD_in vr0 h));have HY:Hid (∀k,k<vars.length->fa vars (vars.getD k vr0).name=true->tW vars=true):=zh λk h D=>AE.2 ⟨_,getD_in vr0 h,D⟩;have R:Hid ((∀j,j<vars.length->fa vars (vars.getD j vr0).name=false)->tW vars=false):=zh λh=>s9 (p:=λv=>fa vars v.name) h;obtain⟨A,c,rfl,hc,hx⟩:=hv.vrs;have HX:=zh hx;obtain⟨N,hN⟩:=zv (vars.length);rw[<-hN] at hc hn HX X HS HZ HY R⊢;generalize tW vars=r at*;clear hx hN hv hs;go_enter Tryz.func61,Tryz.ntmps61;go_wp2_with fail
 go_loopw [3,4,5] (λi _ _ wr=>∃k:Nat,k<=N/\i= .int .i64 k/\Hid (∀j,j<k->fa vars (vars.getD j vr0).name=false)/\Below w.heap.size w wr) (λi _ _ _=>N-(intOf i).toNat)
 case atStart=>exact⟨0,yt _,rfl,zh (λj h=>by omega),yx _ _⟩
 case round=>
  obtain⟨k,hk,rfl,U,d⟩:=hrel;have g:=zh d;clear d
  by_cases T:k<N
  case neg=>
   have ao:¬(k:Int)<N:=by omega
   have H3:=zh (R λj hj=>U.out j (by omega));clear U HX HY R HS HZ X;go_wp2_with fail;go_ret;exact⟨bF H3.out.symm,g⟩
  have ao:(k:Int)<N:=by omega
  have av:(0:Int)<=(k:Int):=by omega
  obtain⟨b,o,e2,aj,I⟩:=HX.out k T;subst e2;have ad:=I 0 _ rfl;rw[yU] at ad;have HC:=zh ad;clear ad;have u:=zh aj;have ac:=HS.out k T;have au:=HZ.out k T;have ai:=zh (HY k T)
  have H:Hid (fa vars (vars.getD k vr0).name=false->∀j,j<k+1->fa vars (vars.getD j vr0).name=false):=zh λh j hj=>by
   by_cases e:j=k
   ·rw[e];exact h
   ·exact U.out j (by omega)
  generalize(vars.getD k vr0).name=nm at*;have Q:=zh λm n a D h3 h4 h=>ai.out (gap_yes (l:=vars) (k:=m) (n:=n) ac a D h3 h4 h);have G:=zh (gap_no (l:=vars) ac);generalize fa vars nm=gq at*;clear HX HY HS HZ R U I ac ai aj;have v0:=(g.out.cell u.out).trans HC;go_wp2_with fail;clear v0
  go_loopw [4,5] (λm _ wr=>∃k:Nat,1<=k/\k<=nm.size+1/\m= .int .i64 k/\Hid (∀j,1<=j->j<k->byt nm j=91->∀q,1<=q->q<8->¬ou vars nm j q)/\Below w.heap.size w wr) (λm _ _=>nm.size+1-(intOf m).toNat)
  case atStart=>exact⟨1,by omega,by omega,rfl,zh (λj a D=>by omega),g⟩
  case round=>
   clear g;obtain⟨m,ax,hm,rfl,E,d⟩:=hrel;have g:=zh d;clear d;have v0:=(g.out.cell u.out).trans HC
   by_cases al:m<nm.size
   case neg=>
    have am:¬(m:Int)<nm.size:=by omega
    have H3:Hid (gq=false):=zh (G λj a D=>E.out j a (by omega));have H4:=zh (H H3);clear E G Q H X H3;go_wp2_with fail;go_roundw
    ·exact⟨k+1,by omega,by go_num,H4,g⟩
    ·simp[intOf];omega
   have am:(m:Int)<nm.size:=by omega
   have aw:(0:Int)<=(m:Int):=by omega
   have M:=ir nm m al
   by_cases x:byt nm m=91
   case neg=>
    have H4:Hid (∀j,1<=j->j<m+1->byt nm j=91->∀q,1<=q->q<8->¬ou vars nm j q):=zh λj a hj D=>by
     by_cases e:j=m
     ·rw[e] at D;exact absurd D x
     ·exact E.out j a (by omega) D
    rw[M] at x;have f1:((nm[m].toNat:Int) !=91)=true:=by simpa using x
    clear E G Q H X M x;go_wp2_with fail;go_roundw
    ·exact⟨m+1,by omega,by omega,by go_num,H4,g⟩
    ·simp[intOf];omega
   have aa:=zh λn a D h=>Q.out m n al x a D h
   have H4:Hid ((∀q,1<=q->q<8->¬ou vars nm m q)->∀j,1<=j->j<m+1->byt nm j=91->∀q,1<=q->q<8->¬ou vars nm j q):=zh λh j a hj D=>by
    by_cases e:j=m
    ·rw[e];exact h
    ·exact E.out j a (by omega) D
   rw[M] at x;have f1:((nm[m].toNat:Int) !=91)=false:=by simpa using x
   have ae:(nm.extract 0 m).size<=1000000:=by rw[lc nm m (by omega)];omega
   have CE:=zh λW i h=>pk W (nm.extract 0 m) i h ae;clear E Q M x ae;go_wp2_with fail;clear v0
   go_loopw [5] (λq wr=>∃k:Nat,1<=k/\k<=8/\q= .int .i64 k/\Hid (∀q,1<=q->q<k->¬ou vars nm m q)/\Below w.heap.size w wr) (λq _=>8-(intOf q).toNat)
   case atStart=>exact⟨1,by omega,by omega,rfl,zh (λj a D=>by omega),g⟩
   case round=>
    clear g;obtain⟨q,aq,hq,rfl,V,d⟩:=hrel;have g:=zh d;clear d
    by_cases ap:q<8
    case neg=>
     have an:¬(q:Int)<8:=by omega
     have H5:=zh (H4 λj a D=>V.out j a (by omega));clear V G H X H4 aa CE;go_wp2_with fail;go_roundw
     ·exact⟨m+1,by omega,by omega,by go_num,H5,g⟩
     ·simp[intOf];omega
    have an:(q:Int)<8:=by omega
    have S:Hid (ou vars nm m q↔nm=bC (nm.extract 0 m) q/\cS vars (bC (nm.extract 0 m) (q-1))<0):=zh Iff.rfl
    have H5:Hid (¬ou vars nm m q->∀j,1<=j->j<q+1->¬ou vars nm m j):=zh λh j a hj=>by
     by_cases e:j=q
     ·rw[e];exact h
     ·exact V.out j a (by omega)
    have H6:=zh (aa q aq ap);have hc:=lg nm (nm.extract 0 m) q;have Y:=zh λW=>CE.out W q (by omega);have Z:=zh λW=>CE.out W (q-1) (by omega)
    have af:IntKind.i64.wrap ((q:Int)-1)=((q-1:Nat):Int):=by
     have:q=1\/q=2\/q=3\/q=4\/q=5\/q=6\/q=7:=by omega
     rcases this with rfl|rfl|rfl|rfl|rfl|rfl|rfl<;>decide
    have ar:(0:Int)<=(q:Int):=by omega
    have ae:m<=nm.size:=by omega
    clear V G H CE H4 aa;generalize ou vars nm m q=GP at*;generalize bC (nm.extract 0 m) q=en at*;generalize bC (nm.extract 0 m) (q-1)=ep at*
    by_cases t:nm=en
    case neg=>
     have H7:=zh (H5 λh=>t (S.out.1 h).1);rw[yv t] at hc;clear S H5 H6 Z X t;go_upto_region 11 with fail;refine br 29 (Kit.of [iq 13 [] (.string en)]) (by kernel_rfl) (by kernel_rfl) (λγ=>by kernel_rfl) (by kernel_rfl) (Kit.of_stable ?_) (Kit.of_known ?_) ?_
     ·intro z y;simp only[yC,yI,AH] at y;rcases y with rfl
      ·apply cO
     ·intro z y;simp only[yC,yI,AH] at y;rcases y with rfl
      ·apply cP
     intro γ f C hC J;have B:γ 13= .string en:=f 13 rfl;have r1:∀p:gZ wr C,p.w.cell? ⟨b,o+k*4,none⟩=some (.string nm):=λp=>((g.out.trans (p.h.mono g.out.size)).cell (p:=⟨b,o+k*4,none⟩) u.out).trans HC;simp only[yX,y9,y6,yO]
     iterate 13 (refine aE rfl ?_;go_big_quiet_step (fail);refine yN ?_)
     refine bG rfl (bc (args:=#[.string (nm.extract 0 m),.int .i64 (q:Nat)]) rfl _ _ _ (cB Tryz.func112 (by kernel_rfl) (by kernel_rfl)) rfl (by simp[Act.eval]) (λw' d hf=>(Y w').mono λe w2 ⟨t,a⟩=>⟨_,t,rfl,a⟩)) ?_;simp only[yH,Nat.reduceAdd,B];go_simp
     iterate 15 (refine aE rfl ?_;go_big_quiet_step (fail);refine yN ?_)
     intro w2 d hF;have F:=zh (ab g d);clear hF f hC J r1 B d af;clear γ;go_wp2_with fail;go_roundw
     ·exact⟨q+1,by omega,by omega,by go_num,H7,F⟩
     ·simp[intOf];omega
    rw[yB t] at hc;have ag:=zh λW h=>X.out W ep h;generalize cS vars ep=ip at*;have P:Hid (GP↔ip<0):=zh (S.out.trans ⟨λh=>h.2,λh=>⟨t,h⟩⟩);clear S X t;go_upto_region 11 with fail
    by_cases ak:ip<0
    case pos=>
     have HR:=zh (H6 (P.out.2 ak));clear H5 H6 P;refine br 29 (Kit.of [iq 13 [] (.string en),iq 26 [] (.string ep),iq 27 [] (.int .i64 ip)]) (by kernel_rfl) (by kernel_rfl) (λγ=>by kernel_rfl) (by kernel_rfl) (Kit.of_stable ?_) (Kit.of_known ?_) ?_
     ·intro z y;simp only[yC,yI,AH] at y;rcases y with rfl|rfl|rfl
      ·apply cO
      ·apply cO
      ·apply cO
     ·intro z y;simp only[yC,yI,AH] at y;rcases y with rfl|rfl|rfl
      ·apply cP
      ·apply cP
      ·apply cP
     intro γ f C hC J;have B:γ 13= .string en:=f 13 rfl;have K:γ 26= .string ep:=f 26 rfl;have L:γ 27= .int .i64 ip:=f 27 rfl;have r1:∀p:gZ wr C,p.w.cell? ⟨b,o+k*4,none⟩=some (.string nm):=λp=>((g.out.trans (p.h.mono g.out.size)).cell (p:=⟨b,o+k*4,none⟩) u.out).trans HC;simp only[yX,y9,y6,yO]
     iterate 13 (refine aE rfl ?_;go_big_quiet_step (fail);refine yN ?_)
     refine bG rfl (bc (args:=#[.string (nm.extract 0 m),.int .i64 (q:Nat)]) rfl _ _ _ (cB Tryz.func112 (by kernel_rfl) (by kernel_rfl)) rfl (by simp[Act.eval]) (λw' d hf=>(Y w').mono λe w2 ⟨t,a⟩=>⟨_,t,rfl,a⟩)) ?_;simp only[yH,Nat.reduceAdd,B];go_simp
     iterate 12 (refine aE rfl ?_;go_big_quiet_step (fail);refine yN ?_)
     refine cW rfl (cG (args:=#[.string (nm.extract 0 m),.int .i64 (q-1:Nat)]) (by kernel_rfl) _ _ _ (cB Tryz.func112 (by kernel_rfl) (by kernel_rfl)) rfl (by simp[Act.eval]) (λw' d hf=>(Z w').mono λe w2 ⟨t,a⟩=>⟨_,t,rfl,a⟩)) ?_;simp only[yH,Nat.reduceAdd,K];go_simp;refine cW rfl (cG (args:=#[.slice (some ⟨b,o,none⟩) N c,.string ep]) (by kernel_rfl) _ _ _ (cB Tryz.func60 (by kernel_rfl) (by kernel_rfl)) rfl (by simp[Act.eval]) (λw' d hf=>(ag w' (ab g d)).mono λe w2 ⟨t,a⟩=>⟨_,t,rfl,a▸yx _ _⟩)) ?_;simp only[yH,Nat.reduceAdd,L];go_simp
     iterate 1 (refine aE rfl ?_;go_big_quiet_step (fail);refine yN ?_)
     intro w2 d hF;have F:=zh (ab g d);clear hF f hC J r1 B K L d af;clear γ;go_wp2_with fail;go_ret;exact⟨bF HR.out.symm,F⟩
    case neg=>
     have H7:=zh (H5 λh=>ak (P.out.1 h));clear H5 H6 P;refine br 29 (Kit.of [iq 13 [] (.string en),iq 26 [] (.string ep),iq 27 [] (.int .i64 ip)]) (by kernel_rfl) (by kernel_rfl) (λγ=>by kernel_rfl) (by kernel_rfl) (Kit.of_stable ?_) (Kit.of_known ?_) ?_
     ·intro z y;simp only[yC,yI,AH] at y;rcases y with rfl|rfl|rfl
      ·apply cO
      ·apply cO
      ·apply cO
     ·intro z y;simp only[yC,yI,AH] at y;rcases y with rfl|rfl|rfl
      ·apply cP
      ·apply cP
      ·apply cP
     intro γ f C hC J;have B:γ 13= .string en:=f 13 rfl;have K:γ 26= .string ep:=f 26 rfl;have L:γ 27= .int .i64 ip:=f 27 rfl;have r1:∀p:gZ wr C,p.w.cell? ⟨b,o+k*4,none⟩=some (.string nm):=λp=>((g.out.trans (p.h.mono g.out.size)).cell (p:=⟨b,o+k*4,none⟩) u.out).trans HC;simp only[yX,y9,y6,yO]
     iterate 13 (refine aE rfl ?_;go_big_quiet_step (fail);refine yN ?_)
     refine bG rfl (bc (args:=#[.string (nm.extract 0 m),.int .i64 (q:Nat)]) rfl _ _ _ (cB Tryz.func112 (by kernel_rfl) (by kernel_rfl)) rfl (by simp[Act.eval]) (λw' d hf=>(Y w').mono λe w2 ⟨t,a⟩=>⟨_,t,rfl,a⟩)) ?_;simp only[yH,Nat.reduceAdd,B];go_simp
     iterate 12 (refine aE rfl ?_;go_big_quiet_step (fail);refine yN ?_)
     refine cW rfl (cG (args:=#[.string (nm.extract 0 m),.int .i64 (q-1:Nat)]) (by kernel_rfl) _ _ _ (cB Tryz.func112 (by kernel_rfl) (by kernel_rfl)) rfl (by simp[Act.eval]) (λw' d hf=>(Z w').mono λe w2 ⟨t,a⟩=>⟨_,t,rfl,a⟩)) ?_;simp only[yH,Nat.reduceAdd,K];go_simp;refine cW rfl (cG (args:=#[.slice (some ⟨b,o,none⟩) N c,.string ep]) (by kernel_rfl) _ _ _ (cB Tryz.func60 (by kernel_rfl) (by kernel_rfl)) rfl (by simp[Act.eval]) (λw' d hf=>(ag w' (ab g d)).mono λe w2 ⟨t,a⟩=>⟨_,t,rfl,a▸yx _ _⟩)) ?_;simp only[yH,Nat.reduceAdd,L];go_simp
     iterate 1 (refine aE rfl ?_;go_big_quiet_step (fail);refine yN ?_)
     intro w2 d hF;have F:=zh (ab g d);clear hF f hC J r1 B K L d af;clear γ;go_wp2_with fail;go_roundw
     ·exact⟨q+1,by omega,by omega,by go_num,H7,F⟩
     ·simp[intOf];omega
theorem xK {l:List Vr} {i:Nat} (hi:i<l.length):cS l (l.getD i vr0).name=i↔cS (l.take i) (l.getD i vr0).name<0:=by
 have d:l.getD i vr0=l[i]:=by rw[yj,yp hi];rfl
 constructor
 ·intro h;rw[jA];unfold aw;rw[AP];rintro⟨v,hv,e⟩;obtain⟨j,b,rfl⟩:=yS.1 hv;rw[yM] at b;rw[List.getElem_take] at e;unfold cS fF at h
  split at h
  ·have c:l.findIdx (λv:Vr=>decide (v.name=(l.getD i vr0).name))=i:=by omega
   have a:=List.not_of_lt_findIdx (xs:=l) (p:=λv:Vr=>decide (v.name=(l.getD i vr0).name)) (i:=j) (by omega);simp at a;exact a e
  ·omega
 ·intro h;unfold cS;refine gL vr0 hi (λj b=> ?_) (by simp);rw[jA] at h;refine yv λe=>h ?_;unfold aw;rw[AP];refine⟨l.getD j vr0, ?_,e⟩;rw[yj,yp (by omega),AV,List.mem_take_iff_getElem];exact⟨j,by omega,rfl⟩
theorem rG (w:World) (vars:List Vr) (A:Option Addr) (c:Nat) (I:Rs vrR w (.slice A vars.length c) vars ah) (T:∀v∈vars,v.name.size<=maxLen):
  Calls Tryz.prog 25 #[.slice A vars.length c] w (ErR (bS vars) w):=by
 have m:=zh fun(w':World) (er:Int) h G d=>ErR.no (P:=bS vars) (w:=w) (w':=w') (er:=er) h G d;have r:=zh fun(w':World) h d=>ErR.yes (P:=bS vars) (w:=w) (w':=w') h d;obtain⟨HV,HZ⟩:=zk2 I T;obtain⟨n,hn⟩:=zv (vars.length);have HN:=zh hn
 by_cases af:vars.length<=16
 case neg=>
  have L:Hid (¬bS vars):=zh λh=>af h.len;rw[<-hn];have f1:(n:Int)>16:=by omega
  clear I T af hn;go_enter Tryz.func25,Tryz.ntmps25;go_wp2_with fail;go_ret;exact m _ _ L (by decide) (yx _ _)
 have f1:¬(n:Int)>16:=by omega
 have aq:n<=16:=by omega
 have aF:n<=c:=by
  obtain⟨au,ax,e1,hc,_⟩:=I.vrs;simp only[yA] at e1;omega
 have HG:Hid (∀k,k<n->∃(b o:Nat),A=some ⟨b,o,none⟩/\b<w.heap.size/\∀i u,(vrL (vars.getD k vr0))[i]? =some u->w.cell? ⟨b,o+k*4+i,none⟩=some u):=zh λk hk=>by
  obtain⟨au,ax,e1,_,az⟩:=I.vrs;obtain⟨bv,ov,e2,g,a⟩:=az k (by omega);simp only[yA] at e1;exact⟨bv,ov,by rw[e1.1,e2],g,a⟩
 have CF:=zh fun(W:World) (k:Nat) (s:ByteArray) (hk:k<=n) (d:Below w.heap.size w W)=>tz W (.slice A k c) (vars.take k) s ((I.below d).takeA k (by omega)) (by rw[yM];omega);have CG:=zh fun(W:World) (hs:∀v∈vars,cj v.name=true) (d:Below w.heap.size w W)=>rfGap W _ vars (I.below d) (by omega) hs;have CV:=zh fun(W:World) (k:Nat) (hk:k<n)=>tx W (vars.getD k vr0) (T _ (getD_in vr0 (by omega)));have ae:=zh λk (hk:k<n)=>xK (l:=vars) (i:=k) (by omega);rw[<-hn] at CG⊢;clear I T af hn;go_enter Tryz.func25,Tryz.ntmps25;go_wp2_with fail
 go_loopw [3,4,5] (λbt i _ wr=>∃k:Nat,k<=n/\i= .int .i64 k/\bt= .int .i64 (aU (vars.take k))/\Below w.heap.size w wr/\Hid (∀j,j<k->eW (vars.getD j vr0))/\(0<=aU (vars.take k)/\aU (vars.take k)<=8*k)) (λ_ i _ _=>n-(intOf i).toNat)
 case atStart=>exact⟨0,yt _,rfl,rfl,yx _ _,zh (λj h=>by omega),by simp[aU],by simp[aU]⟩
 case round=>
  obtain⟨k,hk,rfl,rfl,d,S,ag,ai⟩:=hrel;have t:=zh d;clear d
  by_cases x:k<n
  ·have H:(k:Int)<n:=by omega
   have k0:(0:Int)<=(k:Int):=by omega
   obtain⟨bv,ov,e2,g,a⟩:=HG.out k x;subst e2;have HC:=zh a;have F:=zh g;have v0:=(t.out.cell g).trans (a 0 _ rfl);have v1:=(t.out.cell g).trans (a 1 _ rfl);have v2:=(t.out.cell g).trans (a 2 _ rfl);have v3:=(t.out.cell g).trans (a 3 _ rfl);rw[yU] at v0;have al:k<vars.length:=by rw[<-HN.out];exact x
   have ap:=getD_in vr0 al;have B:=zh fun(w':World) (er:Int) (h:¬eW (vars.getD k vr0)) G d=>m.out w' er (λhV=>h (hV.ok _ ap)) G d
   have M:Hid (eW (vars.getD k vr0)->∀j,j<k+1->eW (vars.getD j vr0)):=zh λh j hj=>by
    by_cases e:j=k
    ·rw[e];exact h
    ·exact S.out j (by omega)
   have y:=zh (iU al);have Z:Hid (eW (vars.getD k vr0)->1<=(vars.getD k vr0).width/\(vars.getD k vr0).width<=8):=zh λh=>h.2.1;have V:=zh λW=>CV.out W k x;unfold gX at y;generalize eW (vars.getD k vr0)=VO at*;clear ap a S al g;generalize vars.getD k vr0=vr at*;obtain⟨nm,wd,md,vl⟩:=vr;simp only at v0 v1 v2 v3 Z y HC;unfold vrV at V;simp only at V;generalize aU (vars.take k)=b0 at*;obtain⟨b1,Q⟩:=zv (aU (vars.take (k+1)));have q:=zh Q;rw[<-Q] at y;clear Q;clear m r CF CG CV;go_wp2_with fail;clear v0 v1 v2 v3;refine(V _).mono ?_;rintro e w2 ⟨er,rfl,aa,d⟩;have f:=zh (ab t d);clear d t
   by_cases G:er=0
   case neg=>
    have f2:(er !=0)=true:=by simpa using G
    have Y:=zh (B w2 er (λh=>G (aa.2 h)) G f);clear G aa B M Z;go_wp2_with fail;go_ret;exact Y
   have am:=aa.1 G;have H3:=zh (M am);have aI:=Z.out am;subst G;have v1:=(f.out.cell F.out).trans (HC 1 _ rfl);have v2:=(f.out.cell F.out).trans (HC 2 _ rfl);clear aa B M Z am V HC
   by_cases hm:md=0
   ·have f3:(md !=0)=false:=by simpa using hm
    have D:=y.out;rw[yw (by simpa using hm),Int.add_zero] at D;have J:=zh D;clear y hm D;go_wp2_with fail;go_roundw
    ·exact⟨k+1,by omega,by go_num,by rw[<-q.out,J.out],f,H3,by rw[<-q.out];have:=J.out;omega,by rw[<-q.out];have:=J.out;omega⟩
    ·simp[intOf];omega
   ·have f3:(md !=0)=true:=by simpa using hm
    have D:=y.out;rw[yz hm] at D;have J:=zh D;have aD:0<=b1/\b1<=8*(k+1):=by omega
    clear y hm D;go_wp2_with fail;go_roundw
    ·exact⟨k+1,by omega,by go_num,by rw[<-q.out,J.out],f,H3,by rw[<-q.out];omega,by rw[<-q.out];omega⟩
    ·simp[intOf];omega
  ·have H:¬(k:Int)<n:=by omega
   have E:k=n:=by omega
   rw[E] at S ag ai⊢;have an:Hid (∀v∈vars,eW v):=zh (gA (x0:=vr0) λj hj=>S.out j (by rw[HN.out];exact hj));have aB:¬(n:Int)<n:=by omega
   have ht:vars.take n=vars:=by rw[HN.out,Ay]
   rw[ht] at ag ai⊢;clear ht;clear E S H hk x;clear k;obtain⟨b0,N⟩:=zv (aU vars);have ac:=zh N;rw[<-N] at ag ai⊢;clear N CV;go_wp2_with fail
   go_loopw [6] (λi wr=>∃k:Nat,k<=n/\i= .int .i64 k/\Below w.heap.size w wr/\Hid (∀j,j<k->cS vars (vars.getD j vr0).name=j)) (λi _=>n-(intOf i).toNat)
   case atStart=>exact⟨0,yt _,rfl,t,zh (λj h=>by omega)⟩
   case round=>
    obtain⟨k,hk,rfl,d,R⟩:=hrel;clear t;have t:=zh d;clear d
    by_cases x:k<n
    ·have H:(k:Int)<n:=by omega
     have k0:(0:Int)<=(k:Int):=by omega
     have aA:(k:Int)<=n:=by omega
     have aH:¬c<k:=by omega
     have E:k<=n:=by omega
     obtain⟨bv,ov,e2,g,a⟩:=HG.out k x;subst e2;have aj:=a 0 _ rfl;rw[yU] at aj;have HC:=zh aj;have F:=zh g;have B:=zh fun(w':World) (er:Int) (h:cS vars (vars.getD k vr0).name≠k) G d=>m.out w' er (λhV=>h (hV.nodup k (by rw[<-HN.out];exact x))) G d
     have K:Hid (cS vars (vars.getD k vr0).name=k->∀j,j<k+1->cS vars (vars.getD j vr0).name=j):=zh λh j hj=>by
      by_cases e:j=k
      ·rw[e];exact h
      ·exact R.out j (by omega)
     have X:=zh (ae k x);have ad:=zh λW d=>CF.out W k (vars.getD k vr0).name E d;clear a aj g R CF HG;generalize(vars.getD k vr0).name=nm at*;generalize cS (vars.take k) nm=ip at*;clear m r CG ae;go_upto_region 15 with fail
     by_cases aG:ip≥0
     all_goals
      refine br 9 (Kit.of [iq 8 [] (.int .i64 ip)]) (by kernel_rfl) (by kernel_rfl) (λγ=>by kernel_rfl) (by kernel_rfl) (Kit.of_stable ?_) (Kit.of_known ?_) ?_
      ·intro z T;simp only[yC,yI,AH] at T;rcases T with rfl
       ·apply cO
      ·intro z T;simp only[yC,yI,AH] at T;rcases T with rfl
       ·apply cP
      intro γ ar C hC ay;have k8:γ 8= .int .i64 ip:=ar 8 rfl;have r1:∀p:gZ wr C,p.w.cell? ⟨bv,ov+k*4,none⟩=some (.string nm):=λp=>((t.out.trans (p.h.mono t.out.size)).cell (p:=⟨bv,ov+k*4,none⟩) F.out).trans HC;simp only[yX,y9,y6,yO]
      iterate 8 (refine aE rfl ?_;go_big_quiet_step (fail);refine yN ?_)
      refine bG rfl (bc (args:=#[.slice (some ⟨bv,ov,none⟩) k c,.string nm]) rfl _ _ _ (cB Tryz.func60 (by kernel_rfl) (by kernel_rfl)) rfl (by simp[Act.eval]) (λw' d hf=>(ad w' (ab t d)).mono λe w2 ⟨G,h1⟩=>⟨_,G,rfl,h1▸yx _ _⟩)) ?_;simp only[yH,Nat.reduceAdd,k8];go_simp;intro w2 d hF;have f:=zh (ab t d);clear hF ar hC ay r1 k8 d;clear γ
     ·have Y:=zh (B w2 8 (λh=>absurd (X.out.1 h) (by omega)) (by decide) f);clear B K X ad;go_wp2_with fail;go_ret;exact Y
     ·have H3:=zh (K (X.out.2 (by omega)));clear B K X ad;go_wp2_with fail;go_roundw
      ·exact⟨k+1,by omega,by go_num,f,H3⟩
      ·simp[intOf];omega
    ·have H:¬(k:Int)<n:=by omega
     have E:k=n:=by omega
     rw[E] at R;have aw:=R;have U:=zh λW d=>CG.out W (λv I=>(an v I).1) d;clear R E CF CG ae HG;obtain⟨gv,ak⟩:=zv (tW vars);have ao:=zh ak;rw[<-ak] at U;clear ak;cases gv
     case true=>
      have L:Hid (¬bS vars):=zh λh=>by
       have h1:=ao.out.symm;unfold tW at h1;obtain⟨v,I,h2⟩:=AE.1 h1;rw[h.gap v I] at h2;cases h2
      have Y:=zh λw' d=>m.out w' 10 L (by decide) d;clear m r;go_wp2_with fail;refine(U _ t).mono ?_;rintro e w2 ⟨rfl,d⟩;have f:=zh (ab t d);clear d;go_wp2_with fail;go_ret;exact Y _ f
     have av:Hid (∀v∈vars,fa vars v.name=false):=zh λv I=>by
      cases hq:fa vars v.name
      ·rfl
      ·have h1:tW vars=true:=AE.2 ⟨v,I,hq⟩;rw[<-ao.out] at h1;cases h1
     by_cases aC:b0>20
     ·have L:Hid (¬bS vars):=zh λh=>by have:=h.bits;rw[<-ac.out] at this;omega
      have Y:=zh λw' d=>m.out w' 2 L (by decide) d;clear m r;go_wp2_with fail;refine(U _ t).mono ?_;rintro e w2 ⟨rfl,d⟩;have f:=zh (ab t d);clear d;go_wp2_with fail;go_ret;exact Y _ f
     ·have Y:=zh λw' d=>r.out w' ⟨by rw[<-HN.out];exact aq,an,λi hi=>aw.out i (by rw[HN.out];exact hi),av,by rw[<-ac.out];omega⟩ d;clear m r;go_wp2_with fail;refine(U _ t).mono ?_;rintro e w2 ⟨rfl,d⟩;have f:=zh (ab t d);clear d;go_wp2_with fail;go_ret;exact Y _ f
theorem rxHas (w:World) (v:Value) (l:List ByteArray) (s:ByteArray) (h:SL w v l) (E:l.length<=9223372036854775807):
  Calls Tryz.prog 261 #[v,.string s] w λe w'=>e= .returned (.bool (Lib.containsS l s))/\w=w':=by
 obtain⟨A,c,rfl,D,u⟩:=h;have g:=zh (λk hk h=>lp (l:=l) (s:=s) (k:=k) hk h);have m:=zh (j9 (l:=l) (s:=s));obtain⟨N,t⟩:=zv (l.length);rw[<-t] at u D E g m⊢;obtain⟨C,y⟩:=zk2 u t;generalize Lib.containsS l s=r at*;clear u t;go_enter Tryz.func261,Tryz.ntmps261;go_wp2_with fail
 go_loop [5] (λi=>∃k:Nat,k<=N/\i= .int .i64 k/\Hid (∀j,j<k->l.getD j ⟨#[]⟩≠s)) (λi=>N-(intOf i).toNat)
 case atStart=>exact⟨0,yt _,rfl,(λj z=>by omega)⟩
 case round=>
  obtain⟨k,hk,rfl,n⟩:=hrel
  by_cases d:k<N
  ·have o:(k:Int)<N:=by omega
   obtain⟨a,rfl,p⟩:=C.out (by omega)
   by_cases f:l.getD k ⟨#[]⟩=s
   ·have q:=zh (g k d f);have b:w.cell? (a.add k)=some (.string s):=by rw[p.cells k (by rw[<-y.out];exact d),f]
    clear f n p;go_wp2_with fail;go_ret;exact⟨bF q.out.symm,rfl⟩
   ·have B:Hid (∀j,j<k+1->l.getD j ⟨#[]⟩≠s):=λj z=>by
     by_cases e:j=k
     ·rw[e];exact f
     ·exact n.out j (by omega)
    have b:=p.cells k (by rw[<-y.out];exact d);obtain⟨e1,F⟩:=kh f;generalize l.getD k ⟨#[]⟩=x at*;clear f n p;go_wp2_with fail
    go_round
    ·exact⟨k+1,by omega,by go_num,B⟩
    ·simp[intOf];omega
  ·have o:¬(k:Int)<N:=by omega
   have q:=zh (m λj z=>n.out j (by omega));clear n;go_wp2_with fail;go_ret;exact⟨bF q.out.symm,rfl⟩
def nmB (op:Int):Bool:=decide (op=2)||(decide (op=3)||decide (op=24))
theorem rxNamed (w:World) (op:Int):Calls Tryz.prog 310 #[.int .i64 op] w λe w'=>e= .returned (.bool (nmB op))/\w=w':=by
 by_cases d:op=2
 ·subst d;go_enter Tryz.func310,Tryz.ntmps310;go_wp2_with fail;go_ret;exact⟨rfl,rfl⟩
 by_cases f:op=3
 ·subst f;go_enter Tryz.func310,Tryz.ntmps310;go_wp2_with fail;go_ret;exact⟨rfl,rfl⟩
 have h:(op==2)=false:=by simpa using d
 have i:(op==3)=false:=by simpa using f
 have c:Hid (nmB op=decide (op=24)):=zh (by unfold nmB;rw[yv d,yv f];rfl);clear d f
 by_cases b:op=24
 ·have g:(op==24)=true:=by simpa using b
  have a:Hid (nmB op=true):=zh (by rw[c.out,yB b]);clear b c;go_enter Tryz.func310,Tryz.ntmps310;go_wp2_with fail;go_ret;exact⟨bF a.out.symm,rfl⟩
 ·have g:(op==24)=false:=by simpa using b
  have a:Hid (nmB op=false):=zh (by rw[c.out,yv b]);clear b c;go_enter Tryz.func310,Tryz.ntmps310;go_wp2_with fail;go_ret;exact⟨bF a.out.symm,rfl⟩
theorem rxArity (w:World) (op:Int) (d:1<=op) (f:op<=25):Calls Tryz.prog 311 #[.int .i64 op] w λe w'=>e= .returned (.int .i64 (gY op))/\w=w':=by
 obtain⟨k,rfl,a,b⟩:∃k:Nat,op=k/\1<=k/\k<=25:=⟨op.toNat,by omega,by omega,by omega⟩;clear d f;have c:k=1\/k=2\/k=3\/k=4\/k=5\/k=6\/k=7\/k=8\/k=9\/k=10\/k=11\/k=12\/k=13\/k=14\/k=15\/k=16\/k=17\/k=18\/k=19\/k=20\/k=21\/k=22\/k=23\/k=24\/k=25:=by omega
 clear a b;rcases c with rfl|rfl|rfl|rfl|rfl|rfl|rfl|rfl|rfl|rfl|rfl|rfl|rfl|rfl|rfl|rfl|rfl|rfl|rfl|rfl|rfl|rfl|rfl|rfl|rfl
 all_goals
  go_enter Tryz.func311,Tryz.ntmps311;go_wp2_with fail;go_ret;exact⟨rfl,rfl⟩
theorem nmB_iff {op:Int}:nmB op=true↔(op=2\/op=3\/op=24):=by unfold nmB;simp
theorem rxWrong (w:World) (e:Ex) (A:Option Addr) (c:Nat) (S:ExZ e):Calls Tryz.prog 260 #[exV e (.slice A e.args.length c)] w λr w'=>r= .returned (.int .i64 (aT e))/\Below w.heap.size w w':=by
 have B:=zh fun(W:World)=>rxNamed W e.op;have C:=zh fun(W:World) V u=>rxArity W e.op V u;have H:=S.name;have P:=zh fun(W:World)=>refIsVar e.name W (by unfold maxLen at H;omega);have N:=zh fun(W:World)=>kD e.name W H;have T:=S.len
 have k:Hid (aT e=if e.op<1\/25<e.op then 1 else if(e.op=1/\(e.n<0\/65535<e.n))\/(e.op≠1/\e.n≠0) then 1 else if(¬(e.op=2\/e.op=3\/e.op=24)/\e.name.size≠0)\/lR e.op e.args.length=false then 1
  else if(e.op=2/\lI e.name=false)\/((e.op=3\/e.op=24)/\aN e.name=false) then 7 else 0):=zh rfl
 have t:Hid (lR e.op e.args.length=if e.op=23 then decide (e.args.length%2=1)&&(decide (3<=e.args.length)&&decide (e.args.length<=33)) else decide ((e.args.length:Int)=gY e.op)):=zh rfl;have s:=(et e.name).2.2;have l:=(et e.name).1;have o:=zh (nmB_iff (op:=e.op));generalize aT e=r at*;generalize lI e.name=vb at*;generalize aN e.name=nb at*;generalize lR e.op e.args.length=ob at*;unfold exV;unfold maxLen at T;generalize e.args.length=m at*;generalize e.op=op at*;generalize e.n=n at*;generalize e.name=em at*;generalize nmB op=I at*;clear S H;go_enter Tryz.func260,Tryz.ntmps260;go_upto_region 1 with fail;generalize M:w.alloc _=w1 at*;obtain⟨p,b⟩:=zB1 M;clear M;have d:=za b 0 rfl;have f:=za b 1 rfl;have g:=za b 2 rfl;have i:=za b 3 rfl
 by_cases hA:op<1
 ·have a:Hid (r=1):=zh (by rw[k.out];exact yz (.inl hA));clear k t;go_wp2_with fail;go_ret;exact⟨aS a.out.symm,p⟩
 by_cases hB:op>25
 ·have a:Hid (r=1):=zh (by rw[k.out];exact yz (.inr hB));clear k t;go_wp2_with fail;go_ret;exact⟨aS a.out.symm,p⟩
 rw[yw (by omega)] at k;replace C:=zh fun(W:World)=>C.out W (by omega) (by omega)
 by_cases V:n<0
 ·have a:Hid (r=1):=zh (by rw[k.out];exact yz (by omega));clear k t;go_wp2_with fail;go_ret;exact⟨aS a.out.symm,p⟩
 by_cases u:n>65535
 ·have a:Hid (r=1):=zh (by rw[k.out];exact yz (by omega));clear k t;go_wp2_with fail;go_ret;exact⟨aS a.out.symm,p⟩
 have G:(n≠0/\op≠1)\/((n !=0)=false\/(n !=0)=true/\(op !=1)=false)/\¬((op=1/\(n<0\/65535<n))\/(op≠1/\n≠0)):=by
  by_cases e1:n=0
  ·right;exact⟨.inl (by simpa using e1),by omega⟩
  ·by_cases J:op=1
   ·right;exact⟨.inr ⟨by simpa using e1,by simpa using J⟩,by omega⟩
   ·left;exact⟨e1,J⟩
 rcases G with⟨e1,J⟩|⟨hw,D⟩
 ·have a:Hid (r=1):=zh (by rw[k.out];exact yz (by omega));have U:(n !=0)=true:=by simpa using e1
  have Y:(op !=1)=true:=by simpa using J
  clear k t e1 J;go_wp2_with fail;go_ret;exact⟨aS a.out.symm,p⟩
 rw[yw D] at k;clear D;rcases hw with U|⟨U,Y⟩
 all_goals
  by_cases E:em.size=0
  case pos=>
   have Z:=s.2 E;have x:Hid (¬(¬(op=2\/op=3\/op=24)/\em.size≠0)):=zh λh=>h.2 E;clear E
   by_cases y:op=23
   ·subst y
    by_cases ka:m<3
    ·have j:Hid (ob=false):=zh (by rw[t.out,yz rfl];simp;omega);have a:Hid (r=1):=zh (by rw[k.out,yz (.inr j.out)]);have F:(m:Int)<3:=by omega
     clear k t j o s l x;go_wp2_with fail;go_ret;exact⟨aS a.out.symm,p⟩
    by_cases kb:33<m
    ·have j:Hid (ob=false):=zh (by rw[t.out,yz rfl];simp;omega);have a:Hid (r=1):=zh (by rw[k.out,yz (.inr j.out)]);have F:(m:Int)>33:=by omega
     have f0:¬(m:Int)<3:=by omega
     clear k t j o s l x;go_wp2_with fail;go_ret;exact⟨aS a.out.symm,p⟩
    have X:((m:Int)).tmod 2=((m%2:Nat):Int):=by
     rw[Int.tmod_eq_emod_of_nonneg (by omega)];omega
    rcases Nat.mod_two_eq_zero_or_one m with L|L
    ·have j:Hid (ob=false):=zh (by rw[t.out,yz rfl];simp;omega);have a:Hid (r=1):=zh (by rw[k.out,yz (.inr j.out)]);rw[L] at X;have F:¬(m:Int)<3:=by omega
     have f2:¬(m:Int)>33:=by omega
     clear k t j o s l x L;go_wp2_with fail;go_ret;exact⟨aS a.out.symm,p⟩
    ·have j:Hid (ob=true):=zh (by rw[t.out,yz rfl];simp;omega);rw[L] at X;have F:¬(m:Int)<3:=by omega
     have f2:¬(m:Int)>33:=by omega
     have Q:I=false:=by cases hq:I;rfl;exact absurd (o.out.1 hq) (by omega)
     subst Q;have a:Hid (r=0):=zh (by rw[k.out,yw (by rintro(h|h);exact x.out h;rw[j.out] at h;cases h),yw (by omega)]);clear k t j o s l x L;go_wp2_with fail;refine(B _).mono ?_;rintro e ab ⟨rfl,rfl⟩;go_wp2_with fail;go_ret;exact⟨aS a.out.symm,p⟩
   have d1:(op==23)=false:=by simpa using y
   have d2:(op !=23)=true:=by simpa using y
   rw[yw y] at t
   by_cases v:(m:Int)=gY op
   case neg=>
    have j:Hid (ob=false):=zh (by rw[t.out,yv v]);have a:Hid (r=1):=zh (by rw[k.out,yz (.inr j.out)]);have F:((m:Int) !=gY op)=true:=by simpa using v
    generalize gY op=ar at*;clear k t j o s l x v y;go_wp2_with fail;refine(C _).mono ?_;rintro e ac ⟨rfl,rfl⟩;go_wp2_with fail;go_ret;exact⟨aS a.out.symm,p⟩
   have j:Hid (ob=true):=zh (by rw[t.out,yB v]);have F:((m:Int) !=gY op)=false:=by simpa using v
   rw[yw (by rintro(h|h);exact x.out h;rw[j.out] at h;cases h)] at k;generalize gY op=ar at*;clear j x v y
   by_cases u:op=2
   ·have c2:(op==2)=true:=by simpa using u
    have c3:(op !=2)=false:=by simpa using u
    have R:=o.out.2 (.inl u);subst R;cases vb
    ·have a:Hid (r=7):=zh (by rw[k.out,yz (.inl ⟨u,rfl⟩)]);clear k t o u s l;go_wp2_with fail;refine(C _).mono ?_;rintro e ad ⟨rfl,rfl⟩;go_wp2_with fail;refine(P _).mono ?_;rintro e ae ⟨rfl,q⟩;clear d f g i;replace b:=zb b q;replace p:=zb p q;clear q;have d:=za b 0 rfl;have f:=za b 1 rfl;have g:=za b 2 rfl;have i:=za b 3 rfl;go_wp2_with fail;go_ret;exact⟨aS a.out.symm,p⟩
    ·have a:Hid (r=0):=zh (by rw[k.out,yw (by rintro(⟨-,h⟩|⟨h, -⟩);cases h;omega)]);clear k t o u s l;go_wp2_with fail;refine(C _).mono ?_;rintro e af ⟨rfl,rfl⟩;go_wp2_with fail;refine(P _).mono ?_;rintro e ag ⟨rfl,q⟩;clear d f g i;replace b:=zb b q;replace p:=zb p q;clear q;have d:=za b 0 rfl;have f:=za b 1 rfl;have g:=za b 2 rfl;have i:=za b 3 rfl;go_wp2_with fail;refine(B _).mono ?_;rintro e ah ⟨rfl,rfl⟩;go_wp2_with fail;go_ret;exact⟨aS a.out.symm,p⟩
   have c2:(op==2)=false:=by simpa using u
   have c3:(op !=2)=true:=by simpa using u
   cases I
   ·have a:Hid (r=0):=zh (by rw[k.out,yw (by rintro(⟨h, -⟩|⟨h, -⟩);exact u h;exact absurd (o.out.2 (.inr h)) (by simp))]);clear k t o u s l;go_wp2_with fail;refine(C _).mono ?_;rintro e ai ⟨rfl,rfl⟩;go_wp2_with fail;refine(B _).mono ?_;rintro e aj ⟨rfl,rfl⟩;go_wp2_with fail;go_ret;exact⟨aS a.out.symm,p⟩
   have z:op=3\/op=24:=by have:=o.out.1 rfl;omega
   cases nb
   ·have a:Hid (r=7):=zh (by rw[k.out,yz (.inr ⟨z,rfl⟩)]);clear k t o u s l z;go_wp2_with fail;refine(C _).mono ?_;rintro e ak ⟨rfl,rfl⟩;go_wp2_with fail;refine(B _).mono ?_;rintro e al ⟨rfl,rfl⟩;go_wp2_with fail;refine(N _).mono ?_;rintro e am ⟨rfl,q⟩;clear d f g i;replace b:=zb b q;replace p:=zb p q;clear q;have d:=za b 0 rfl;have f:=za b 1 rfl;have g:=za b 2 rfl;have i:=za b 3 rfl;go_wp2_with fail;go_ret;exact⟨aS a.out.symm,p⟩
   ·have a:Hid (r=0):=zh (by rw[k.out,yw (by rintro(⟨h, -⟩|⟨-,h⟩);exact u h;cases h)]);clear k t o u s l z;go_wp2_with fail;refine(C _).mono ?_;rintro e an ⟨rfl,rfl⟩;go_wp2_with fail;refine(B _).mono ?_;rintro e ao ⟨rfl,rfl⟩;go_wp2_with fail;refine(N _).mono ?_;rintro e ap ⟨rfl,q⟩;clear d f g i;replace b:=zb b q;replace p:=zb p q;clear q;have d:=za b 0 rfl;have f:=za b 1 rfl;have g:=za b 2 rfl;have i:=za b 3 rfl;go_wp2_with fail;go_ret;exact⟨aS a.out.symm,p⟩
  have Z:¬em.toList=[]:=λh=>E (s.1 h);have aa:em.toList.isEmpty=false:=by rw[l,yv E]
  cases I
  case false=>
   have a:Hid (r=1):=zh (by rw[k.out,yz (.inl ⟨λh=>absurd (o.out.2 h) (by simp),E⟩)]);clear k t o E s l;go_wp2_with fail;refine(B _).mono ?_;rintro e aq ⟨rfl,rfl⟩;go_wp2_with fail;go_ret;exact⟨aS a.out.symm,p⟩
  have x:Hid (¬(¬(op=2\/op=3\/op=24)/\em.size≠0)):=zh λh=>h.1 (o.out.1 rfl);clear E;have K:∃I:Bool,I=true:=⟨_,rfl⟩;have y:¬op=23:=by have:=o.out.1 rfl;omega
  have d1:(op==23)=false:=by simpa using y
  have d2:(op !=23)=true:=by simpa using y
  rw[yw y] at t
  by_cases v:(m:Int)=gY op
  case neg=>
   have j:Hid (ob=false):=zh (by rw[t.out,yv v]);have a:Hid (r=1):=zh (by rw[k.out,yz (.inr j.out)]);have F:((m:Int) !=gY op)=true:=by simpa using v
   generalize gY op=ar at*;clear k t j o s l x v y K;go_wp2_with fail;refine(B _).mono ?_;rintro e au ⟨rfl,rfl⟩;go_wp2_with fail;refine(C _).mono ?_;rintro e av ⟨rfl,rfl⟩;go_wp2_with fail;go_ret;exact⟨aS a.out.symm,p⟩
  have j:Hid (ob=true):=zh (by rw[t.out,yB v]);have F:((m:Int) !=gY op)=false:=by simpa using v
  rw[yw (by rintro(h|h);exact x.out h;rw[j.out] at h;cases h)] at k;generalize gY op=ar at*;have z:op=2\/op=3\/op=24:=o.out.1 rfl;clear j x v y K t s l o
  by_cases u:op=2
  ·have c2:(op==2)=true:=by simpa using u
   have c3:(op !=2)=false:=by simpa using u
   cases vb
   ·have a:Hid (r=7):=zh (by rw[k.out,yz (.inl ⟨u,rfl⟩)]);clear k u z;go_wp2_with fail;refine(B _).mono ?_;rintro e aw ⟨rfl,rfl⟩;go_wp2_with fail;refine(C _).mono ?_;rintro e ax ⟨rfl,rfl⟩;go_wp2_with fail;refine(P _).mono ?_;rintro e ay ⟨rfl,q⟩;clear d f g i;replace b:=zb b q;replace p:=zb p q;clear q;have d:=za b 0 rfl;have f:=za b 1 rfl;have g:=za b 2 rfl;have i:=za b 3 rfl;go_wp2_with fail;go_ret;exact⟨aS a.out.symm,p⟩
   ·have a:Hid (r=0):=zh (by rw[k.out,yw (by rintro(⟨-,h⟩|⟨h, -⟩);cases h;omega)]);clear k u z;go_wp2_with fail;refine(B _).mono ?_;rintro e az ⟨rfl,rfl⟩;go_wp2_with fail;refine(C _).mono ?_;rintro e aA ⟨rfl,rfl⟩;go_wp2_with fail;refine(P _).mono ?_;rintro e aB ⟨rfl,q⟩;clear d f g i;replace b:=zb b q;replace p:=zb p q;clear q;have d:=za b 0 rfl;have f:=za b 1 rfl;have g:=za b 2 rfl;have i:=za b 3 rfl;go_wp2_with fail;refine(B _).mono ?_;rintro e aC ⟨rfl,rfl⟩;go_wp2_with fail;go_ret;exact⟨aS a.out.symm,p⟩
  have c2:(op==2)=false:=by simpa using u
  have c3:(op !=2)=true:=by simpa using u
  replace z:op=3\/op=24:=by omega
  cases nb
  ·have a:Hid (r=7):=zh (by rw[k.out,yz (.inr ⟨z,rfl⟩)]);clear k u z;go_wp2_with fail;refine(B _).mono ?_;rintro e aD ⟨rfl,rfl⟩;go_wp2_with fail;refine(C _).mono ?_;rintro e aE ⟨rfl,rfl⟩;go_wp2_with fail;refine(B _).mono ?_;rintro e aF ⟨rfl,rfl⟩;go_wp2_with fail;refine(N _).mono ?_;rintro e aG ⟨rfl,q⟩;clear d f g i;replace b:=zb b q;replace p:=zb p q;clear q;have d:=za b 0 rfl;have f:=za b 1 rfl;have g:=za b 2 rfl;have i:=za b 3 rfl;go_wp2_with fail;go_ret;exact⟨aS a.out.symm,p⟩
  ·have a:Hid (r=0):=zh (by rw[k.out,yw (by rintro(⟨h, -⟩|⟨-,h⟩);exact u h;cases h)]);clear k u z;go_wp2_with fail;refine(B _).mono ?_;rintro e aH ⟨rfl,rfl⟩;go_wp2_with fail;refine(C _).mono ?_;rintro e aI ⟨rfl,rfl⟩;go_wp2_with fail;refine(B _).mono ?_;rintro e aJ ⟨rfl,rfl⟩;go_wp2_with fail;refine(N _).mono ?_;rintro e aK ⟨rfl,q⟩;clear d f g i;replace b:=zb b q;replace p:=zb p q;clear q;have d:=za b 0 rfl;have f:=za b 1 rfl;have g:=za b 2 rfl;have i:=za b 3 rfl;go_wp2_with fail;go_ret;exact⟨aS a.out.symm,p⟩
section
theorem app_str {W:World} {B q:Nat} {v:Value} {xs:List ByteArray} {s:ByteArray} (ty:TypeId) (h:OG jn W B 0 9 v xs) (Q:W.cell? ⟨q,0,none⟩=some (.string s)) (V:xs.length<=1000) (L:B<=W.heap.size):
  ∃v' W',(Builtin.append_ #[188,188] ty #[v,.slice (some ⟨q,0,none⟩) 1 1]).run Tryz.prog W= .ok v' W'/\OG jn W' B 0 9 v' (xs++[s])/\W.grownBy W' v.ownBlock/\(v'.ownBlock=v.ownBlock\/∀p,v'.ownBlock=some p->W.heap.size<=p):=by
 obtain⟨n,f,m,G,H⟩:=Bb istr;obtain⟨M,uss,F,c,E⟩:=h
 have b:∀j u,([.string s]:List Value)[j]? =some u->W.cell? ((⟨q,0,none⟩:Addr).add j)=some u:=λj u k=>by
  cases j with
  |zero=>
   simp only[List.getElem?_cons_zero,yy] at k;rw[dq,yH,<-k];exact Q
  |succ j=>simp at k
 have y:∀u∈([.string s]:List Value),u.oneCell'=true:=λu K=>by
  simp only[yC,yI,AH] at K;rw[K];rfl
 have o:([.string s]:List Value).length=1*1:=rfl;have i:n.bytes=16:=H;have d:n.size=1:=G;obtain⟨v',W',w,C,I, -⟩:=run_append_own_wide (P:=Tryz.prog) W B 188 ty 9 n _ 1 16 Tryz.underlying188 f m d i rfl (by decide) v xs.length uss.flatten c ⟨q,0,none⟩ 1 1 [.string s] o b y (by unfold maxLen;omega) (by omega) L;refine⟨v',W',w,OG.pushes (us2:=[[.string s]]) M F c E rfl (λj x k=> ?_) C I,I, ?_⟩
 ·cases j with
  |zero=>
   simp only[List.getElem?_cons_zero,yy] at k;rw[<-k];rfl
  |succ j=>simp at k
 rcases c.2 with⟨e,J⟩|⟨g,cap,cur,e,N,A,S,R,z,D⟩
 ·right;have T:uss.flatten=[]:=yV (by have:=c.1;rw[J] at this;simpa using this);have t:W.ownsRow W.heap.size 9 1 v xs.length uss.flatten:=⟨c.1,.inl ⟨e,J⟩⟩;obtain⟨X,U,a,r, -, -⟩:=run_append_own_wide (P:=Tryz.prog) W W.heap.size 188 ty 9 n _ 1 16 Tryz.underlying188 f m d i rfl (by decide) v xs.length uss.flatten t ⟨q,0,none⟩ 1 1 [.string s] o b y (by unfold maxLen;omega) (by omega) (yq _);rw[w] at a;simp only[Result.ok.injEq] at a;rw[<-a.1] at r;intro p hp;exact(r.lt p hp).1
 ·subst e
  by_cases l:xs.length+1<=cap
  ·left;have a:=run_append_room (P:=Tryz.prog) W 188 ty 9 n Tryz.underlying188 f g xs.length cap cur A ⟨q,0,none⟩ 1 1 [.string s] (by rw[d];rfl) b y l (by rw[d,z];show xs.length*1+1<=cap*1;omega);rw[w] at a;simp only[Result.ok.injEq] at a;rw[a.1];rfl
  ·right;have a:=run_append_grow (P:=Tryz.prog) W 188 ty 9 n _ Tryz.underlying188 f m ⟨g,0,none⟩ xs.length cap uss.flatten (by rw[d];exact c.1) (c.cells (g:=g) rfl) ⟨q,0,none⟩ 1 1 [.string s] (by rw[d];rfl) b (by omega) (by omega) (by rw[i];have:=nextslicecap_le (need:=xs.length+1) (old:=cap) (by omega);omega);rw[w] at a;simp only[Result.ok.injEq] at a;intro p hp;rw[a.1] at hp;simp only[Value.ownBlock,yy] at hp;omega
variable {ops:Array Oper} {rest:List Oper} {o:Oper} {a:Act} {Q:Exit->Act->World->Prop}
theorem js {w:World} {B q:Nat} {v:Value} {xs:List ByteArray} {s:ByteArray} (d:o.guard=none) (x y:Operand) (m:o.op= .call {callee:= .builtin .append,args:=#[x,y],argTypes:=#[188,188]})
  (n:a.eval x=v) (b:OG jn w B 0 9 v xs) (r:a.eval y= .slice (some ⟨q,0,none⟩) 1 1) (k:w.cell? ⟨q,0,none⟩=some (.string s)) (l:xs.length<=1000) (i:B<=w.heap.size)
  (h:∀v' w',Hid (OG jn w' B 0 9 v' (xs++[s]))->Hid (w.grownBy w' v.ownBlock)->Hid (v'.ownBlock=v.ownBlock\/∀p,v'.ownBlock=some p->w.heap.size<=p)->wpList Tryz.prog ops Q rest (a.put o.dst v') w'):wpList Tryz.prog ops Q (o::rest) a w:=by
 obtain⟨v',w',c,e,f,g⟩:=app_str o.type b k l i;refine wpList_plain d λK j=> ?_;have:=h v' w' (zh e) (zh f) (zh g);unfold Oper.wp;simp[execOp,m,resolve,invoke,builtin,n,r,c,Result.andThen];exact j _ _ this
end
def fu (er f:Int):Int:=if er=0 then f else er
theorem pO (a b c:Int):fu (fu a b) c=fu a (fu b c):=by
 unfold fu
 by_cases h:a=0
 ·rw[yz h,yz h]
 ·rw[yw h,yw h,yw h]
theorem cmb_zero (a:Int):fu a 0=a:=by
 unfold fu
 by_cases h:a=0
 ·rw[yz h,h]
 ·rw[yw h]
theorem xL (f:Ex->Int) (l m:List Ex):aY f (l++m)=fu (aY f l) (aY f m):=oC l m
theorem sP (D dep:Nat) (f:Ex->Nat):∀(l:List Ex) (c:Nat),l.foldl (λm a=>max m (dep+f a)) (max D (dep+c))=max D (dep+l.foldl (λm a=>max m (f a)) c)
 |[],c=>rfl
 |a::l,c=>by
  rw[AM,AM,show max (max D (dep+c)) (dep+f a)=max D (dep+max c (f a)) by omega];exact sP D dep f l (max c (f a))
def mF (d:Nat) (e:Ex) (k:Nat):Nat:=((e.args.take k).flatMap (aq d)).length
def qi (d D dep:Nat) (e:Ex) (k:Nat):Nat:=(e.args.take k).foldl (λm a=>max m (dep+dh d a)) (max D dep)
def oZ (d:Nat) (er:Int) (e:Ex) (k:Nat):Int:=fu (fu er (aT e)) (aY aT ((e.args.take k).flatMap (aq d)))
theorem tm {e:Ex} {k:Nat} (h:k<e.args.length):e.args.take (k+1)=e.args.take k++[e.args.getD k ex0]:=by
 rw[Am,yp h,yj,yp h];rfl
theorem seeL_s {d:Nat} {e:Ex} {k:Nat} (h:k<e.args.length):mF d e (k+1)=mF d e k+(aq d (e.args.getD k ex0)).length:=by
 unfold mF;rw[tm h];simp
theorem seeD_s {d D dep:Nat} {e:Ex} {k:Nat} (h:k<e.args.length):qi d D dep e (k+1)=max (qi d D dep e k) (dep+dh d (e.args.getD k ex0)):=by
 unfold qi;rw[tm h,BA];rfl
theorem seeE_s {d:Nat} {er:Int} {e:Ex} {k:Nat} (h:k<e.args.length):oZ d er e (k+1)=fu (oZ d er e k) (aY aT (aq d (e.args.getD k ex0))):=by
 unfold oZ;rw[tm h,List.flatMap_append,xL,pO (fu er (aT e))];simp
theorem tv (d:Nat) (e:Ex):1+mF d e e.args.length=(aq (d+1) e).length:=by
 unfold mF;rw[Ay];show _=(e::e.args.flatMap (aq d)).length;rw[yr];omega
theorem seeD_n (d D dep:Nat) (e:Ex):qi d D dep e e.args.length=max D (dep+dh (d+1) e-1):=by
 unfold qi;rw[Ay];have:=sP D dep (dh d) e.args 0;rw[yU] at this;rw[this];show _=max D (dep+(kK (dh d) e.args+1)-1);unfold kK;congr 1
theorem seeE_n (d:Nat) (er:Int) (e:Ex):oZ d er e e.args.length=fu er (aY aT (aq (d+1) e)):=by
 unfold oZ;rw[Ay,pO];rfl
theorem seeL_le (d:Nat) (e:Ex) (k:Nat):1+mF d e k<=(aq (d+1) e).length:=by
 rw[<-tv];unfold mF;rw[Ay];have h:e.args.flatMap (aq d)=(e.args.take k).flatMap (aq d)++(e.args.drop k).flatMap (aq d):=by rw[<-List.flatMap_append,List.take_append_drop]
 rw[h,yu];omega
theorem wE (d:Nat):∀l:List Ex,l.length<=(l.flatMap (aq (d+1))).length
 |[]=>yq _
 |a::l=>by
  have:=wE d l;have b:=nM d a;rw[AS,yu,yr];omega
def wkC (N D:Nat) (er:Int) (a b:Value):Array Value:=#[.int .i64 (N:Nat),.int .i64 (D:Nat),.int .i64 er,a,b]
structure WkO (w0 W:World) (g:Nat) (cs:Array Value) (v3 v4:Value) (l3 l4:List ByteArray):Prop where
 below:Below w0.heap.size w0 W
 ge:w0.heap.size<=g
 box:Box W g cs 190
 o3:OG jn W w0.heap.size 0 9 v3 l3
 o4:OG jn W w0.heap.size 0 9 v4 l4
 ne3:v3.ownBlock=none\/v3.ownBlock≠v4.ownBlock
theorem WkO.ne4 {w0 W:World} {g:Nat} {cs:Array Value} {b a:Value} {c d:List ByteArray} (h:WkO w0 W g cs b a c d):a.ownBlock=none\/a.ownBlock≠b.ownBlock:=by
 rcases h.ne3 with h|h
 ·cases hq:a.ownBlock
  ·exact .inl rfl
  ·right;rw[h];simp
 ·exact .inr λe=>h e.symm
theorem WkO.set {w0 W:World} {g:Nat} {cs:Array Value} {b c:Value} {a l4:List ByteArray} (h:WkO w0 W g cs b c a l4) (i:Nat) (u:Value):WkO w0 (W.setCell ⟨g,i,none⟩ u) g (cs.setIfInBounds i u) b c a l4:=
 ⟨h.below.setCell (p:=⟨g,i,none⟩) h.ge u,h.ge,h.box.set_ i u,h.o3.setBox h.box (by decide) (yt _) (by decide) i u,h.o4.setBox h.box (by decide) (yt _) (by decide) i u,h.ne3⟩
theorem WkO.later {w0 W W':World} {g:Nat} {cs:Array Value} {c d:Value} {b l4:List ByteArray} (h:WkO w0 W g cs c d b l4) (a:Below W.heap.size W W'):WkO w0 W' g cs c d b l4:=
 ⟨ab h.below a,h.ge,h.box.below a,h.o3.below a,h.o4.below a,h.ne3⟩
theorem uX {α:Type} {φ:Rd α} {W:World} {B C:Nat} {T:TypeId} {v:Value} {xs:List α} (h:OG φ W B C T v xs):∀p,v.ownBlock=some p->p<W.heap.size:=by
 obtain⟨-,uss, -,a, -⟩:=h;exact tH a
theorem WkO.app3 {w0 W W':World} {g:Nat} {cs:Array Value} {f j v:Value} {d i:List ByteArray} {s:ByteArray} (h:WkO w0 W g cs f j d i) (l:OG jn W' w0.heap.size 0 9 v (d++[s])) (b:W.grownBy W' f.ownBlock) (a:v.ownBlock=f.ownBlock\/∀p,v.ownBlock=some p->W.heap.size<=p):WkO w0 W' g cs v j (d++[s]) i:=by
 refine⟨h.o3.belowG b h.below h.below.size (yq _),h.ge,h.o3.boxKept b h.box (.inl (by decide)),l, ?_, ?_⟩
 ·have k:=h.o3;obtain⟨-,uss, -,c, -⟩:=k;exact h.o4.grow (by decide) (yt _) c b h.ne4
 ·rcases a with a|a
  ·rw[a];exact h.ne3
  ·cases hq:v.ownBlock with
   |none=>exact .inl rfl
   |some p=>
    right;intro e;have:=uX h.o4 p e.symm;have:=a p hq;omega
theorem WkO.app4 {w0 W W':World} {g:Nat} {cs:Array Value} {f i v:Value} {j d:List ByteArray} {s:ByteArray} (h:WkO w0 W g cs f i j d) (l:OG jn W' w0.heap.size 0 9 v (d++[s])) (b:W.grownBy W' i.ownBlock) (a:v.ownBlock=i.ownBlock\/∀p,v.ownBlock=some p->W.heap.size<=p):WkO w0 W' g cs f v j (d++[s]):=by
 refine⟨h.o4.belowG b h.below h.below.size (yq _),h.ge,h.o4.boxKept b h.box (.inl (by decide)), ?_,l, ?_⟩
 ·have k:=h.o4;obtain⟨-,uss, -,c, -⟩:=k;exact h.o3.grow (by decide) (yt _) c b h.ne3
 ·rcases a with a|a
  ·rw[a];exact h.ne3
  ·cases hq:f.ownBlock with
   |none=>exact .inl rfl
   |some p=>
    right;intro e;have:=uX h.o3 p hq;have:=a p e.symm;omega
def WkS (w0 W:World) (g N D:Nat) (er:Int):Prop:=∃c d a b,WkO w0 W g (wkC N D er c d) c d a b/\a.length<=N/\b.length<=N
def wkT:List TypeId:=[190,9]
structure jJ (w0 W wx:World) (g ga N D:Nat) (er:Int) (v3 v4:Value) (l3 l4:List ByteArray) (cs:Array Value):Prop where
 o:WkO w0 wx g (wkC N D er v3 v4) v3 v4 l3 l4
 x:Box wx ga cs 79
 k:cR wkT W wx
theorem jJ.set {w0 W f:World} {g ga N D N' D':Nat} {er er':Int} {a b:Value} {c d:List ByteArray} {cs:Array Value} (h:jJ w0 W f g ga N D er a b c d cs) (i:Nat) (u:Value) (e:(wkC N D er a b).setIfInBounds i u=wkC N' D' er' a b):jJ w0 W (f.setCell ⟨g,i,none⟩ u) g ga N' D' er' a b c d cs:=
 ⟨e▸h.o.set i u,h.x.setNe (p:=⟨g,i,none⟩) (af h.o.box h.x (by decide)) u,h.k.trans (jy h.o.box (by simp[wkT]) i u)⟩
theorem jJ.later {w0 W b i:World} {g ga N D:Nat} {er:Int} {e f:Value} {c d:List ByteArray} {cs:Array Value} (h:jJ w0 W b g ga N D er e f c d cs) (a:Below b.heap.size b i):jJ w0 W i g ga N D er e f c d cs:=
 ⟨h.o.later a,h.x.below a,h.k.below a⟩
def SeeC (d:Nat):Prop:=∀(w0 W:World) (g N D dep:Nat) (er:Int) (e:Ex) (A:Option Addr) (c:Nat),WkS w0 W g N D er->ExZ e->Rs (exR d) w0 (.slice A e.args.length c) e.args ah->N+(aq (d+1) e).length<=1000->dep+d<=1000→
 Calls Tryz.prog 190 #[.pointer (some ⟨g,0,none⟩),exV e (.slice A e.args.length c),.int .i64 (dep:Nat)] W λr W'=>r= .returned (.tuple #[])/\WkS w0 W' g (N+(aq (d+1) e).length) (max D (dep+dh (d+1) e-1)) (fu er (aY aT (aq (d+1) e)))/\cR wkT W W'
end
end Go.Proofs.YtdahpdnhkflnnaaGreatDoor
