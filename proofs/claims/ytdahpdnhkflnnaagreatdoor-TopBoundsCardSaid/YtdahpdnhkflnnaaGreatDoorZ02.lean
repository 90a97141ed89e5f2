/-
  Contracts and laws for the law TopBounds, part 2 of 12; made small by a program of mine out of longer texts.
-/
import Derived.Test.YtdahpdnhkflnnaaGreatDoorZ01
set_option linter.unusedVariables false
set_option linter.unusedSimpArgs false
set_option linter.unusedSectionVars false
set_option linter.defProp false
set_option maxRecDepth 100000
set_option maxHeartbeats 64000000
namespace Go.Proofs.YtdahpdnhkflnnaaGreatDoor
open Value renaming int → zI, slice → zU, string → zV, bool → zW, agg → zX, tuple → zY
open IntKind renaming i64 → zi
open Ending renaming returned → zE
open Obj renaming cells → zC
open List renaming length → zN, getD → zG
open Or renaming inl → zQ, inr → zO
open Go.Proofs.Tryz
section
section
variable {fn:Func} {f:FuncId}
section
open Go.RowKit
def eB:Frame:={fn:=0,tmps:=#[],todo:=[.code (.exit 0)],defers:=[],mode:= .run,kind:= .normal}
def oG (v:Value):eB.finish v=eB:=rfl
def Dk (P:Program) (w:World):∃o w',step P (lone eB [] w)= .ended o w':=by
 refine⟨_,_,step_lone_ended (P:=P) (o:= .stuck "exit, goto: no such block or label" (eB.pos P)) (w':=w) ?_⟩
 simp[stepG,stepG.exec,eB,exitTo,Frame.roundOf]
theorem tW (P:Program):∀(n k:Nat) (m a:Machine),runN P n m= .next a->runN P (n+k) m=runN P k a
 |0,k,m,a,h=>by simp only[runN] at h;injection h with h;subst h;rw[DY]
 |n+1,k,m,a,h=>by
  rw[show n+1+k=(n+k)+1 by omega];simp only[runN] at h⊢;cases hs:step P m with
  |next m1=>rw[hs] at h;simp only at h⊢;exact tW P n k m1 a h
  |ended o w=>rw[hs] at h;cases h
theorem rH {P:Program} {m:Machine} {b fr2:Frame} {w1 w2:World} {f v2:Value} {n k:Nat} (h:runN P n m= .next (lone b [eB] w1)) (a:runN P (n+k) m= .next (lone fr2 [eB] w2))
  (e:b.leaving P w1 (zE f)) (p:fr2.leaving P w2 (zE v2)):f=v2:=by
 rw[tW P n k _ _ h] at a;match k,a with
 |0,a=>
  simp only[runN] at a;injection a with a;have e1:b=fr2:=by have:=Ev (λm:Machine=>m.gs[0]?.map (·.frame)) a;simpa [lone] using this
  have g:w1=w2:=Ev (λm:Machine=>m.world) a;subst e1 g;obtain⟨_,_,_,fn,j,l⟩:=e;obtain⟨_,_,_,fn',c,d⟩:=p;have:fn=fn':=Eu (j.symm.trans c);subst this;have:=l.symm.trans d;injection this
 |1,a=>simp only[runN,step_leave_returned e,oG] at a;injection a with a;have:=Ev (λm:Machine=>m.gs[0]?.map (·.callers)) a;simp[lone] at this
 |k+2,a=>have⟨o,w',i⟩:=Dk P w1;simp only[runN,step_leave_returned e,oG,i] at a;cases a
def Dp {P:Program} {args:Array Value} {w:World} {v v':Value} {A B:World->Prop} (h:Calls P f args w λe w'=>e=zE v/\A w') (j:Calls P f args w λe w'=>e=zE v'/\B w'):v=v':=by
 obtain⟨e1,w1,g,⟨rfl,_⟩,⟨n,c1⟩,_,b⟩:=h [eB];obtain⟨l,w2,i,⟨rfl,_⟩,⟨k,c2⟩,_,c⟩:=j [eB];rcases Nat.le_total n k with a|a
 .obtain⟨d,rfl⟩:=FT a;exact rH c1 c2 b c
 obtain⟨d,rfl⟩:=FT a;exact(rH c2 c1 c b).symm
theorem uj {P:Program} {o:Oper} {a:Act} {C C':World->Prop} {w:World} {v v':Value} (h:o.quietAt P a C w v) (b:o.quietAt P a C' w v'):v=v':=by
 unfold Oper.quietAt at h b;generalize(execOp a.eval o).run P w=r at*;cases r with
 |ok n w'=>
  cases n<;>simp only[Oper.quietUpon] at h b
  case value u=>exact h.2.symm.trans b.2
  case skip=>exact h.2.trans b.2.symm
  case enter f args=>exact Dp h.2 b.2
 |halt x w'=>simp only[Oper.quietUpon] at h
def jn {P:Program} {ops:Array Oper} {C C':World->Prop} {o:Oper} {v v':Value} {a:Act} (h:YieldsIn P ops C o v a) (b:YieldsIn P ops C' o v' a) {w:World} (e:C w) (c:C' w):v=v':=by
 rcases h with⟨_,h⟩|⟨f,rfl⟩
 .rcases b with⟨_,b⟩|⟨d,_⟩
  .exact uj (h w e) (b w c)
  simp_all
 rcases b with⟨d,_⟩|⟨_,rfl⟩
 .simp_all
 rfl
structure mY (w0:World) (C:World->Prop):Prop where
 sub:∀w,C w->zL w0 w
 step:∀w w',C w->zL w w'->C w'
 ne:∃w,C w
def mY.of (w0 w:World) (h:zL w0 w):mY w0 (λw'=>zL w w'):=⟨λw' a=>h.trans (a.mono h.size),λw1 w2 b c=>aa b c,⟨w,DM _ _⟩⟩
section
variable {P:Program} {md:Region.Mode} {l:List Oper} {n gg:Nat} {w0:World} {Z:TypeId->Array Value} {Q':Exit->Act->World->Prop} {Lq:(Nat->Nat)->Act->Prop}
structure iF (w0:World) (C:World->Prop) where
 w:World
 h:zL w0 w
 c:C w
def uI {w0:World} {C:World->Prop} (a:mY w0 C) (w':World):(∃p:iF w0 C,w'=p.w)↔C w':=⟨λ⟨p,h⟩=>h▸p.c,λh=>⟨⟨w',a.sub _ h,h⟩,rfl⟩⟩
def Box.latC {w:World} {C:World->Prop} {g:Nat} {t:TypeId} {cs:Array Value} (h:Box w g cs t) (i:Nat) (v:Value) (a:cs[i]? =some v):∀p:iF w C,p.w.cell? ⟨g,i,none⟩=some v:=λp=>by
 rw[(h.Q p.h).cell i,a]
end
end
section
open Go.RowKit
structure Kit where
 fr:Nat->Bool
 Φ:Nat->Value->World->Prop
 D:Nat->List Nat
 S:Nat->Value->Prop
structure Kit.Known (K:Kit):Prop where
 of:∀j u w,K.Φ j u w->K.S j u
 ne:∀j,∃u,K.S j u
def Kit.Good (K:Kit) (γ:Nat->Value):Prop:=∀j,K.fr j=true->K.S j (γ j)
def Kit.Stable (K:Kit):Prop:=∀j v w w',K.Φ j v w->zL w w'->K.Φ j v w'
def Yr (v:Value) (o:Oper):Oper:={o with op:= .assign (.const v)}
def eI (K:Kit) (γ:Nat->Value):Nat->List Oper->List Oper
 |_,[]=>[]
 |i,o::l=>(if K.fr i=true then Yr (γ i) o else o)::eI K γ (i+1) l
section
variable (K:Kit) (γ:Nat->Value)
def fY (i:Nat) (o:Oper):Oper:=if K.fr i=true then Yr (γ i) o else o
def qc (i:Nat) (o:Oper):(fY K γ i o).after=o.after:=by unfold fY;split<;>rfl
def ig (i:Nat) (o:Oper):(fY K γ i o).dst=o.dst:=by unfold fY;split<;>rfl
def qb (i:Nat) (o:Oper):(fY K γ i o).guard=o.guard:=by unfold fY;split<;>rfl
theorem uW:∀(l:List Oper) (i j:Nat),(eI K γ i l)[j]? =(l[j]?).map (fY K γ (i+j))
 |[],i,j=>by simp[eI]
 |o::l,i,0=>by simp[eI,fY]
 |o::l,i,j+1=>by rw[eI,FD,FD,uW l (i+1) j,show i+1+j=i+(j+1) by omega]
theorem mz:∀(l:List Oper) (i:Nat),(eI K γ i l).length=zN l
 |[],i=>rfl
 |o::l,i=>by rw[eI,DF,DF,mz l]
def kI (l:List Oper) (j:Nat):(eI K γ 0 l).toArray[j]? =(l.toArray[j]?).map (fY K γ j):=by rw[Ek,Ek,uW,DY]
theorem rN (l:List Oper) (md:Region.Mode) (listed:Array Bool):Region.ready md (eI K γ 0 l).toArray listed=Region.ready md l.toArray listed:=by
 unfold Region.ready;rw[ED,ED,mz];congr 1;funext i;rw[kI];cases l.toArray[i]? with
 |none=>rfl
 |some o=>simp only[ES,qc]
theorem dF (l:List Oper) (tmps:Array Value):yielded (eI K γ 0 l).toArray tmps=yielded l.toArray tmps:=by
 funext j;unfold yielded;rw[kI];cases l.toArray[j]? with
 |none=>rfl
 |some o=>simp only[ES,Option.bind_some,ig]
theorem AD (l:List Oper) (md:Region.Mode):∀(g k:Nat) (a:Array Bool),Region.seqB md (eI K γ 0 l).toArray g k a=Region.seqB md l.toArray g k a
 |0,k,a=>by simp only[Region.seqB,rN]
 |g+1,k,a=>by simp only[Region.seqB,rN,AD l md g]
end
def kS (P:Program) (Φ:Value->World->Prop) (w:World):Result Next->Prop
 | .ok (.value u) w'=>Φ u w'/\zL w w'
 | .ok (.enter f args) w'=>w'=w/\Calls P f args w (λe a=>∃v,e=zE v/\(Φ v a/\zL w a))
 |_=>False
def jB (P:Program) (K:Kit) (w0:World) (γ:Nat->Value) (j:Nat) (o:Oper) (a:Act):Prop:=o.guard=none/\∀w,zL w0 w->(∀d∈K.D j,K.Φ d (γ d) w)->kS P (K.Φ j) w ((execOp a.eval o).run P w)
def fP (ops:Array Oper) (P:Program) (K:Kit) (w0:World) (γ:Nat->Value) (j:Nat) (o:Oper) (a:Act):Prop:=Region.wanted o (yielded ops a.tmps)=true/\∀w,zL w0 w->(∀d∈K.D j,K.Φ d (γ d) w)->kS P (K.Φ j) w ((execOp a.eval o).run P w)
def jB.met {P:Program} {K:Kit} {w0:World} {γ:Nat->Value} {j:Nat} {o:Oper} {a:Act} (ops:Array Oper) (h:jB P K w0 γ j o a):fP ops P K w0 γ j o a:=⟨by unfold Region.wanted;rw[h.1],h.2⟩
def fP.of_same {ops:Array Oper} {P:Program} {K:Kit} {w0:World} {γ:Nat->Value} {j:Nat} {o:Oper} {a a':Act} (h:fP ops P K w0 γ j o a) (b:execOp a'.eval o=execOp a.eval o) (c:Region.wanted o (yielded ops a'.tmps)=Region.wanted o (yielded ops a.tmps)):fP ops P K w0 γ j o a':=by unfold fP at*;rw[b,c];exact h
section
variable {P:Program} {K:Kit} {w0:World} {γ:Nat->Value} {md:Region.Mode} {l:List Oper} {C:World->Prop} {n gg:Nat}
def jj (P:Program) (K:Kit) (w0:World) (γ:Nat->Value) (md:Region.Mode) (l:List Oper) (C:World->Prop) (n:Nat) (L:Array Bool->Act->Prop):Nat->Array Bool->Act->Prop
 |0,listed,a=>L listed a
 |f+1,listed,a=>Region.ready md l.toArray listed≠[]/\∀i∈Region.ready md l.toArray listed,i<n/\(K.fr i=true->∀o,l[i]? =some o->fP l.toArray P K w0 γ i o a)∧
   qOp P (eI K γ 0 l).toArray C i (jj P K w0 γ md l C n L f (listed.setIfInBounds i true)) a
def B5 {P:Program} {ops:Array Oper} {C:World->Prop} {i:Nat} {o:Oper} {a:Act} {K:Act->Prop} (hi:ops[i]? =some o) (h:qOp P ops C i K a):qOp P ops C i (λb=>K b/\∃u,b=a.put o.dst u) a:=by
 unfold qOp at*;simp only[hi] at*;split
 .rename_i hw;simp only[hw,if_true] at h;obtain⟨v,c,d⟩:=h;exact⟨v,c,d,v,rfl⟩
 rename_i hw;simp only[hw] at h;exact⟨h,undef,rfl⟩
theorem oA {i:Nat} {oi:Oper} {v:Value} {L:Array Bool->Act->Prop} (hi:l[i]? =some oi) (t:∀(j:Nat) (o:Oper) cs b,(eI K γ 0 l).toArray[j]? =some o->o.op≠ .select cs b) (m:∀(j:Nat) (o:Oper) cs b,l.toArray[j]? =some o->o.op≠ .select cs b)
  (Z:Region.sinkB md l.toArray n=true) (X:Region.chainB md l.toArray n=true) (Y:n<l.toArray.size) (M:i<n) (r:∀c a,L c a->∀j∈Region.ready md l.toArray c,n<=j):
  ∀(f:Nat) (c:Array Bool) (a:Act),HeadInv md l.toArray n c→
   (∀j oj,(eI K γ 0 l).toArray[j]? =some oj->j≠i->c.getD j true=false->(∀e∈oj.after,Region.binds md e=true->e.on≠i)->(fY K γ i oi).apart (eI K γ 0 l).toArray oj=true)→
   (∀j oj,l.toArray[j]? =some oj->j≠i->c.getD j true=false->(∀e∈oj.after,Region.binds md e=true->e.on≠i)->oi.apart l.toArray oj=true)→
   i∈Region.ready md l.toArray c->YieldsIn P (eI K γ 0 l).toArray C (fY K γ i oi) v a->(K.fr i=true->fP l.toArray P K w0 γ i oi a)->jj P K w0 γ md l C n L f (c.setIfInBounds i true) (a.put oi.dst v)→
   jj P K w0 γ md l C n L (f+1) c a
 |f,c,a,inv,hfree,hfreeL,hr,hy,hfr,H=>by
  have N:=(Fr.1 hr).1;have J:(eI K γ 0 l).toArray[i]? =some (fY K γ i oi):=by rw[kI,Ek,hi];rfl
  have A:∀j∈Region.ready md l.toArray c,j<n:=λj x=>E8 λh=>tail_waits Z X Y inv _ i rfl M N j (by omega) x;refine⟨λh=>(by rw[h] at hr;cases hr),λj x=>⟨A j x, ?_⟩⟩;by_cases g:j=i
  .subst g;refine⟨λh o E=> ?_, ?_⟩
   .have:o=oi:=Eu (E.symm.trans hi);subst this;exact hfr h
   have:=hy.qOp (K:=jj P K w0 γ md l C n L f (c.setIfInBounds j true)) J (by rw[ig];exact H);exact this
  cases f with
  |zero=>have:=r _ _ H j (FV x g);have:=A j x;omega
  |succ f=>
   have⟨p,oj,q,I⟩:=Fr.1 x;have w:(eI K γ 0 l).toArray[j]? =some (fY K γ j oj):=by rw[kI,q];rfl
   have y:∀e∈oj.after,Region.binds md e=true->e.on≠i:=λe he hb Q=>by have V:=I e he hb;rw[Q,getD_both N] at V;cases V
   have⟨F,aa,G⟩:=Oper.apart_spec (hfreeL j oj q g p y);have⟨_,R,T⟩:=H.2 j (FV x g);refine⟨λh o E=> ?_, ?_⟩
   .have e1:=execOp_put (ops:=l.toArray) o (m j o · · (by rw[Ek];exact E)) a oi.dst v (λd hd=>by
     have:o=oj:=by rw[Ek] at q;exact Eu (E.symm.trans q)
     subst this;exact F d hd);have S:o=oj:=by rw[Ek] at q;exact Eu (E.symm.trans q)
    exact(R h o E).of_same e1.symm (by rw[S];exact(wanted_put oj a oi.dst v F).symm)
   have h2:=qOp_put (P:=P) (C:=C) w (hfree j _ w g p (by rw[qc];exact y)) (λcs b=>t i _ cs b J) (λcs b=>t j _ cs b w) hy (by rw[ig];exact T);have h3:=B5 w h2;refine qOp_mono (λa' h4=> ?_) h3;obtain⟨⟨h5,W⟩,u,hu⟩:=h4;refine oA hi t m Z X Y M r f (c.setIfInBounds j true) a' (inv.set x (A j x)) (λk U hk z D B=> ?_) (λk U hk z D B=> ?_) (FV hr (FA g)) h5 (λh=> ?_) ?_
   .refine hfree k U hk z ?_ B;by_cases s:j=k
    .subst s;exact p
    rwa [getD_set_ne true s] at D
   .refine hfreeL k U hk z ?_ B;by_cases s:j=k
    .subst s;exact p
    rwa [getD_set_ne true s] at D
   .rw[hu,ig];exact(hfr h).of_same (execOp_put (ops:=l.toArray) oi (m i oi · · (by rw[Ek];exact hi)) a oj.dst u G) (wanted_put oi a oj.dst u G)
   rw[Array.setIfInBounds_comm _ _ g];rw[ig] at W;exact W
def wpF (P:Program) (K:Kit) (w0:World) (γ:Nat->Value) (C:World->Prop) (ops:Array Oper) (Lq:Act->Prop):Nat->List Oper->Act->Prop
 |_,[],a=>Lq a
 |j,o::rest,a=>if K.fr j=true then fP ops P K w0 γ j o a/\wpF P K w0 γ C ops Lq (j+1) rest (a.put o.dst (γ j)) else∃v,YieldsIn P ops C o v a/\wpF P K w0 γ C ops Lq (j+1) rest (a.put o.dst v)
def b6 {ops:Array Oper} {Lq:Act->Prop} {j:Nat} {o:Oper} {rest:List Oper} {a:Act} (c:K.fr j=true) (h:jB P K w0 γ j o a) (b:wpF P K w0 γ C ops Lq (j+1) rest (a.put o.dst (γ j))):wpF P K w0 γ C ops Lq j (o::rest) a:=by rw[wpF,DP c];exact⟨h.met ops,b⟩
def dH {ops:Array Oper} {Lq:Act->Prop} {j:Nat} {o:Oper} {rest:List Oper} {a:Act} (c:K.fr j=true) (h:fP ops P K w0 γ j o a) (b:wpF P K w0 γ C ops Lq (j+1) rest (a.put o.dst (γ j))):wpF P K w0 γ C ops Lq j (o::rest) a:=by rw[wpF,DP c];exact⟨h,b⟩
def aO {ops:Array Oper} {Lq:Act->Prop} {j:Nat} {o:Oper} {rest:List Oper} {a:Act} (d:K.fr j=false) (h:wpQuiet P ops C (wpF P K w0 γ C ops Lq (j+1) rest) [o] a):wpF P K w0 γ C ops Lq j (o::rest) a:=by
 rw[wpF,DK (by rw[d];decide)];unfold wpQuiet at h;split at h
 .rename_i hw;obtain⟨v,b,c⟩:=h;exact⟨v,zQ ⟨hw,b⟩,c⟩
 rename_i hw;exact⟨undef,zO ⟨by simpa using hw,rfl⟩,h⟩
theorem nK {Lq:Act->Prop} (d:Region.noSelect (eI K γ 0 l).toArray=true) (b:Region.noSelect l.toArray=true) (x:Region.sinkB md l.toArray n=true) (s:Region.chainB md l.toArray n=true) (t:n<l.toArray.size):
  ∀(m:List Oper) (k:Nat) (listed:Array Bool) (a:Act),(∀j,j<zN m->m[j]? =l[k+j]?)->k+zN m=n->HeadInv md l.toArray n listed→
   Region.lexHead md (eI K γ 0 l).toArray gg (zN m) k listed=true->Region.lexHead md l.toArray gg (zN m) k listed=true->wpF P K w0 γ C (eI K γ 0 l).toArray Lq k m a→
   jj P K w0 γ md l C n (λc y=>Region.seqB md l.toArray gg n c=true/\Lq y) (zN m) listed a
 |[],k,listed,a,_,hk,_,hB,_,h=>by
  obtain rfl:k=n:=by simpa using hk
  exact⟨by simp only[D8,Region.lexHead] at hB;rw[AD] at hB;exact hB,h⟩
 |o::m,k,listed,a,hl,hk,inv,hB,hBL,h=>by
  have f:l[k]? =some o:=by simpa using(hl 0 (by simp)).symm
  rw[DF] at hk hB hBL;simp only[Region.lexHead,DW] at hB hBL;have u:k∈Region.ready md l.toArray listed:=by simpa using hBL.1.1
  have p:(eI K γ 0 l).toArray[k]? =some (fY K γ k o):=by rw[kI,Ek,f];rfl
  have g:l.toArray[k]? =some o:=by rw[Ek];exact f
  have q:∃v,YieldsIn P (eI K γ 0 l).toArray C (fY K γ k o) v a/\(K.fr k=true->fP l.toArray P K w0 γ k o a)/\wpF P K w0 γ C (eI K γ 0 l).toArray Lq (k+1) m (a.put o.dst v):=by
   rw[wpF] at h;by_cases e:K.fr k=true
   .rw[DP e] at h;refine⟨γ k,zQ ⟨?_,λw _=> ?_⟩,λ_=>(by have:=h.1;unfold fP at this⊢;rw[dF] at this;exact this),h.2⟩
    .have r:=h.1.1;unfold Region.wanted at r⊢;rw[qb];exact r
    have e1:(fY K γ k o).op= .assign (.const (γ k)):=by unfold fY;rw[DP e];rfl
    unfold Oper.quietAt;rw[show(execOp a.eval (fY K γ k o)).run P w= .ok (.value (γ k)) w from by simp[execOp,e1,Act.eval]];exact⟨rfl,rfl⟩
   rw[DK e] at h;obtain⟨v,z,A⟩:=h;refine⟨v, ?_,λE=>absurd E e,A⟩;have:fY K γ k o=o:=by unfold fY;rw[DK e]
   rw[this];exact z
  obtain⟨v,F,i,B⟩:=q;refine oA f (FC d) (FC b) x s t (by omega) (λ_ _ D=>seqB_ready D.1) (zN m) listed a inv (Region.free_spec p hB.1.2) (Region.free_spec g hBL.1.2) u F i ?_;refine nK d b x s t m (k+1) _ _ (λj G=> ?_) (by omega) (inv.set u (by omega)) hB.2 hBL.2 B;have:=hl (j+1) (by simp only[DF];omega);rw[FD] at this;rw[this];congr 1;omega
variable {Q':Exit->Act->World->Prop} {Lq:(Nat->Value)->Act->Prop}
def Dh (md:Region.Mode) (l:List Oper) (K:Kit) (n:Nat):Bool:=
 (List.range (zN l)).all λj=> !K.fr j||((K.D j).all λd=>K.fr d&&decide (d<n)&&match l[j]? with
  |some o=>o.after.any λe=>Region.binds md e&&e.on==d
  |none=>false)
def Dg {j d:Nat} {o:Oper} (h:Dh md l K n=true) (f:l[j]? =some o) (q:K.fr j=true) (m:d∈K.D j):K.fr d=true/\d<n/\∃e∈o.after,Region.binds md e=true/\e.on=d:=by unfold Dh at h;have a:=Fa.1 h j (Fv.2 (D0.1 f).1);rw[q] at a;simp only[Bool.not_true,FJ] at a;have b:=Fa.1 a d m;rw[f] at b;simp only[DW,Ef] at b;obtain⟨⟨g,i⟩,k⟩:=b;have⟨e,p,c⟩:=Array.any_eq_true'.1 k;simp only[DW,beq_iff_eq] at c;exact⟨g,i,e,p,c.1,c.2⟩
theorem oX (hK:K.Stable) (hV:K.Known) (hn:n<l.length) (hs:Region.sinkB md l.toArray n=true) (hc:Region.chainB md l.toArray n=true) (Y:0<gg) (t:Dh md l K n=true)
  (hL:∀γ listed a w,HeadInv md l.toArray n listed->zL w0 w->(∀d,d<n->K.fr d=true->K.Φ d (γ d) w)->Region.seqB md l.toArray gg n listed=true->Lq γ a->wpAny P md l.toArray Q' gg listed a w):
  ∀(f:Nat) (listed:Array Bool) (a:Act) (w:World) (b:Nat->Value),K.Good b->HeadInv md l.toArray n listed->zL w0 w->(∀d,d<n->K.fr d=true->listed.getD d false=true->K.Φ d (b d) w)→
   (∀γ C,K.Good γ->mY w0 C->(∀d,d<n->K.fr d=true->listed.getD d false=true->γ d=b d)→
    jj P K w0 γ md l C n (λA a'=>Region.seqB md l.toArray gg n A=true/\Lq γ a') f listed a)→
   wpAny P md l.toArray Q' (f+gg) listed a w
 |0,listed,a,w,b,hgd,inv,hb,hm,H=>by
  have⟨g,k⟩:=H b _ hgd (mY.of w0 w0 (DM _ _)) (λ_ _ _ _=>rfl);rw[DY];refine hL b listed a w inv hb (λd s c=>hm d s c ?_) g k;refine E8 λan=> ?_;have M:listed.getD d true=false:=by
   have:listed.getD d false=false:=by simpa using an
   exact getD_in (by rw[inv.size];simp;omega) this
  obtain⟨g',rfl⟩:∃g',gg=g'+1:=⟨gg-1,by omega⟩;simp only[Region.seqB,DW,Ef] at g;have hr:n∈Region.ready md l.toArray listed:=by rw[g.1];simp
  exact tail_waits hs hc (by simpa using hn) inv _ d rfl s M n (DE _) hr
 |f+1,listed,a,w,b,hgd,inv,hb,hm,H=>by
  have e:f+1+gg=(f+gg)+1:=by omega
  rw[e];have H0:=H b _ hgd (mY.of w0 w0 (DM _ _)) (λ_ _ _ _=>rfl);refine⟨λR=>absurd R H0.1,λi hi=> ?_⟩;have⟨Z,am,ao⟩:=H0.2 i hi;have⟨M,o,ho,X⟩:=Fr.1 hi;have ab:l[i]? =some o:=by simpa using ho
  have ar:i<listed.size:=by
   rcases FO i listed.size with h|h
   .exact h
   rw[inv.size] at h;simp at h;omega
  have aa:listed.getD i false=false:=getD_both M;have J:=inv.set hi Z;have p:∀j,(listed.setIfInBounds i true).getD j false=true↔j=i\/listed.getD j false=true:=λj=>by
   by_cases hj:i=j
   .subst hj;simp[ar]
   rw[getD_set_ne false hj];exact⟨.inr,λh=>h.resolve_left (FA hj)⟩
  have E:∀γ,(eI K γ 0 l).toArray[i]? =some (fY K γ i o):=λγ=>by rw[kI,ho];rfl
  by_cases q:K.fr i=true
  .have L:=am q o ab;have ak:∀d∈K.D i,K.Φ d (b d) w:=λd s=>by have⟨g,k,e,he,B,al⟩:=Dg t ab q s;have U:=X e he B;rw[al] at U;exact hm d k g U
   have T:=L.2 w hb ak;have z:∀(u:Value) (w':World),K.Φ i u w'->zL w w'->wpAny P md l.toArray Q' (f+gg) (listed.setIfInBounds i true) (a.put o.dst u) w':=λu w' af B=>by
    refine oX hK hV hn hs hc Y t hL f _ _ _ (λj=>if j=i then u else b j) (λj hj=> ?_) J (hb.trans (B.mono hb.size)) (λd s c D=> ?_) (λγ C y S G=> ?_)
    .by_cases m:j=i
     .subst m;show K.S j (if j=j then u else b j);rw[DP rfl];exact hV.of _ _ _ af
     show K.S j (if j=i then u else b j);rw[DK m];exact hgd j hj
    .rcases(p d).1 D with rfl|hl'
     .rw[DP rfl];exact af
     have m:d≠i:=λh=>by rw[h,aa] at hl';cases hl'
     rw[DK m];exact hK d _ _ _ (hm d s c hl') B
    have ag:γ i=u:=by rw[G i Z q ((p i).2 (zQ rfl)),DP rfl]
    have H1:=H γ C y S (λd s c D=>by
     have m:d≠i:=λh=>by rw[h,aa] at D;cases D
     rw[G d s c ((p d).2 (zO D)),DK m]);have⟨_,_,hq⟩:=H1.2 i hi;have⟨v,hy,W⟩:=FF (E γ) hq;have hv:v=u:=by
     have⟨wC,F⟩:=S.ne;rcases hy with⟨_,hy⟩|⟨R,_⟩
     .have k:=hy wC F;unfold Oper.quietAt at k;have e1:(fY K γ i o).op= .assign (.const (γ i)):=by unfold fY;rw[DP q];rfl
      rw[show(execOp a.eval (fY K γ i o)).run P wC= .ok (.value (γ i)) wC from by simp[execOp,e1,Act.eval]] at k;simp only[Oper.quietUpon] at k;rw[<-k.2,ag]
     have U:=L.1;rw[dF] at R;unfold Region.wanted at R U;rw[qb,U] at R;cases R
    rw[hv,ig] at W;exact W
   unfold wpOp;simp only[ho];rw[DP L.1];left;unfold Oper.wp;generalize(execOp a.eval o).run P w=r at T⊢;cases r with
   |ok nx w'=>
    cases nx<;>simp only[kS] at T<;>simp only[Oper.upon]
    case value u=>exact z u w' T.1 T.2
    case enter f' args=>obtain⟨e1,aj⟩:=T;subst e1;refine aj.mono λe w'' ⟨v,he,g,k⟩=> ?_;subst he;exact z v w'' g k
   |halt x w'=>simp only[kS] at T
  have I:∀γ,fY K γ i o=o:=λγ=>by unfold fY;rw[DK q]
  have HW:=H b _ hgd (mY.of w0 w hb) (λ_ _ _ _=>rfl);have⟨_,_,aq⟩:=HW.2 i hi;have⟨v,Q,aw⟩:=FF (E b) aq;have⟨v0,N,av⟩:=FF (E b) ao;rw[I] at Q N;have ev:v=v0:=jn Q N (DM _ _) hb;have au:YieldsIn P l.toArray (λw'=>zL w w') o v a:=by
   rcases Q with⟨g,k⟩|⟨g,k⟩
   .exact zQ ⟨by rw[dF] at g;exact g,k⟩
   exact zO ⟨by rw[dF] at g;exact g,k⟩
  have ap:qOp P l.toArray (λw'=>zL w w') i (λa'=>a'=a.put o.dst v) a:=au.qOp ho rfl;refine wpOp_of_qOp (DM _ _) (λa' w' ac ai=> ?_) ap;subst ai;refine oX hK hV hn hs hc Y t hL f _ _ _ b hgd J (hb.trans (ac.mono hb.size)) (λd s c D=> ?_) (λγ C y S G=> ?_)
  .have m:d≠i:=λh=>q (h▸c);exact hK d _ _ _ (hm d s c (((p d).1 D).resolve_left m)) ac
  have H1:=H γ C y S (λd s c D=>G d s c ((p d).2 (zO D)));have⟨_,_,hq⟩:=H1.2 i hi;have⟨v',ad,V⟩:=FF (E γ) hq;have⟨wC,F⟩:=S.ne;rw[I] at ad;have ae:YieldsIn P (eI K γ 0 l).toArray (λw'=>zL w0 w') o v0 a:=by
   rcases N with⟨g,k⟩|⟨g,k⟩
   .exact zQ ⟨by rw[dF] at g⊢;exact g,k⟩
   exact zO ⟨by rw[dF] at g⊢;exact g,k⟩
  have ah:v'=v0:=jn ad ae F (S.sub _ F);rw[ah,<-ev,ig] at V;exact V
theorem lR {ops ops':Array Oper} (c:∀tmps,yielded ops tmps=yielded ops' tmps) {Lq:Act->Prop}:∀(m:List Oper) (j:Nat) (a:Act),wpF P K w0 γ C ops Lq j m a->wpF P K w0 γ C ops' Lq j m a
 |[],j,a,h=>h
 |o::m,j,a,h=>by
  rw[wpF] at h⊢;split at h
  .rename_i hf;rw[DP hf];exact⟨by have b:=h.1;unfold fP at b⊢;rw[<-c];exact b,lR c m _ _ h.2⟩
  rename_i hf;rw[DK hf];obtain⟨v,b,d⟩:=h;refine⟨v, ?_,lR c m _ _ d⟩;unfold YieldsIn at b⊢;rw[<-c];exact b
def bB {id:Nat} {Q:Exit->Act->World->Prop} {a:Act} {w:World} {l:List Oper} (n:Nat) (K:Kit) (V:K.Stable) (z:K.Known) (h:∀(γ:Nat->Value) (Z:K.Good γ) (C:World->Prop) (k:mY w C) (X:Nonempty (iF w C)),wpF P K w γ (λw'=>∃p:iF w C,w'=p.w) l.toArray (λf=>∀w',zL w w'->(∀d,d<n->K.fr d=true->K.Φ d (γ d) w')->wpList P l.toArray Q (l.drop n) f w') 0 (l.take n) a) (hm:P.follows .mixedOrders=true:=by kernel_rfl) (M:Region.lexTailB .any l.toArray n=true:=by kernel_rfl) (i:∀γ,Region.lexTailB .any (eI K γ 0 l).toArray n=true:=by intro γ;kernel_rfl) (m:Dh .any l K n=true:=by kernel_rfl):(Code.region id l.toArray true).wp P Q a w:=by
 simp only[Region.lexTailB,DW,Ef] at M;obtain⟨⟨⟨⟨R,G⟩,I⟩,J⟩,S⟩:=M;have D:n<zN l:=by simpa using G
 have o:(l.drop n).length=l.toArray.size-n:=by simp
 have b:(l.take n).length=n:=by rw[D3];omega
 have e:HeadInv .any l.toArray n (Array.replicate l.toArray.size false):=
  ⟨by simp,λj oj _ r=>(by rw[Ft] at r;cases r),λt _ Y=>getD_in (by simpa using Y) (Ft _ _)⟩;refine wp_region_any hm ?_;have e0:l.toArray.size=n+(l.toArray.size-n):=by simp;omega
 have F:=oX (P:=P) (K:=K) (md:= .any) (l:=l) (n:=n) (gg:=l.toArray.size-n) (w0:=w) (Q':=Q)
  (Lq:=λγ f=>∀w',zL w w'->(∀d,d<n->K.fr d=true->K.Φ d (γ d) w')->wpList P l.toArray Q (l.drop n) f w')
  V z D I J (by simp;omega) m (λγ c f w' aa W B s y=> ?_) n (Array.replicate l.toArray.size false) a {w with drawn:=w.drawn+1} (λj=>Classical.choose (z.ne j)) (λj _=>Classical.choose_spec (z.ne j)) e (ae _)
  (λd _ _ r=>(by rw[Ft] at r;cases r)) (λγ C q k _=> ?_)
 .rw[<-e0] at F;exact F
 .have U:=wpAny_of_seq (P:=P) (md:= .any) (ops:=l.toArray) (Q':=Q) (l.drop n) n c f w' (λj=>by simp[Fh]) (by rw[o];exact s) (y w' W B);rwa [o] at U
 have g:=i γ;simp only[Region.lexTailB,DW,Ef] at g;obtain⟨⟨⟨⟨T,g2⟩,g3⟩,g4⟩,L⟩:=g;have E:(eI K γ 0 l).toArray.size=l.toArray.size:=by rw[ED,ED,mz]
 have x:(λw'=>∃p:iF w C,w'=p.w)=C:=by funext w';exact propext (uI k w')
 have v:=h γ q C k (by obtain⟨wC,u⟩:=k.ne;exact⟨⟨wC,k.sub _ u,u⟩⟩);rw[x] at v;replace v:=lR (ops':=(eI K γ 0 l).toArray) (λtmps=>(dF K γ l tmps).symm) _ _ _ v;have H:=nK (P:=P) (K:=K) (w0:=w) (γ:=γ) (md:= .any) (l:=l) (C:=C) (n:=n) (gg:=l.toArray.size-n) T R I J G (l.take n) 0 (Array.replicate l.toArray.size false) a (λj N=>by
  have A:j<n:=by rw[b] at N;exact N
  simp[A]) (by simpa using b) e (by rw[b];rw[E] at L;exact L) (by rw[b];exact S) v;rw[b] at H;exact H
structure FOp where
 j:Nat
 D:List Nat
 S:Value->Prop
 Φ:Value->World->Prop
def Kit.of (L:List FOp):Kit where
 fr j:=L.any λx=>x.j==j
 Φ j:=match L.find? (λx=>x.j==j) with
  |some x=>x.Φ
  |none=>λ_ _=>True
 D j:=match L.find? (λx=>x.j==j) with
  |some x=>x.D
  |none=>[]
 S j:=match L.find? (λx=>x.j==j) with
  |some x=>x.S
  |none=>λ_=>True
theorem Kit.of_stable {L:List FOp} (h:∀x∈L,∀v w w',x.Φ v w->zL w w'->x.Φ v w'):(Kit.of L).Stable:=λj v w w' a b=>by
 unfold Kit.of at a⊢;cases hx:L.find? (λx=>x.j==j) with
 |none=>simp only[hx]
 |some x=>simp only[hx] at a⊢;exact h x (List.mem_of_find?_eq_some hx) v w w' a b
theorem Kit.of_known {L:List FOp} (h:∀x∈L,(∀u w,x.Φ u w->x.S u)/\∃u,x.S u):(Kit.of L).Known:=by
 refine⟨λj u w a=> ?_,λj=> ?_⟩
 .unfold Kit.of at a⊢;cases hx:L.find? (λx=>x.j==j) with
  |none=>simp only[hx]
  |some x=>simp only[hx] at a⊢;exact(h x (List.mem_of_find?_eq_some hx)).1 u w a
 unfold Kit.of;cases hx:L.find? (λx=>x.j==j) with
 |none=>simp only[hx];exact⟨undef,trivial⟩
 |some x=>simp only[hx];exact(h x (List.mem_of_find?_eq_some hx)).2
def dh {P:Program} (hf:P.funcs[f]? =some fn) (hname:(fn.name== "runtime.NumGoroutine")=false) (hb:fn.body.isNone=false) (args:Array Value) (w:World):(callFunc f args).run P w= .ok (.enter f args) w:=by
 have h1:fn.name≠ "runtime.NumGoroutine":=by simpa using hname
 have h2:¬fn.body=none:=by intro h;rw[h] at hb;cases hb
 simp[callFunc,hf,h1,h2]
def cT {ops:Array Oper} {j:Nat} {o:Oper} {a:Act} (k:Region.wanted o (yielded ops a.tmps)=true) (f:FuncId) (xs:Array Operand) (ts:Array TypeId) (c:∀args w,(callFunc f args).run P w= .ok (.enter f args) w) (l:o.op= .call {callee:= .value (.func f),args:=xs,argTypes:=ts}) {args:Array Value} (b:xs.map a.eval=args) (h:∀w,zL w0 w->(∀d∈K.D j,K.Φ d (γ d) w)->Calls P f args w (λe w'=>∃v,e=zE v/\(K.Φ j v w'/\zL w w'))):fP ops P K w0 γ j o a:=by
 subst b;refine⟨k,λw g i=> ?_⟩;have:(execOp a.eval o).run P w= .ok (.enter f (xs.map a.eval)) w:=by simp[execOp,l,resolve,invoke,Act.eval,Deferred.ofValue,c,Result.andThen]
 rw[this];exact⟨rfl,h w g i⟩
def bW {j:Nat} {o:Oper} {a:Act} (k:o.guard=none) (f:FuncId) (xs:Array Operand) (ts:Array TypeId) (c:∀args w,(callFunc f args).run P w= .ok (.enter f args) w) (l:o.op= .call {callee:= .value (.func f),args:=xs,argTypes:=ts}) {args:Array Value} (b:xs.map a.eval=args) (h:∀w,zL w0 w->(∀d∈K.D j,K.Φ d (γ d) w)->Calls P f args w (λe w'=>∃v,e=zE v/\(K.Φ j v w'/\zL w w'))):jB P K w0 γ j o a:=by
 subst b;refine⟨k,λw g i=> ?_⟩;have:(execOp a.eval o).run P w= .ok (.enter f (xs.map a.eval)) w:=by simp[execOp,l,resolve,invoke,Act.eval,Deferred.ofValue,c,Result.andThen]
 rw[this];exact⟨rfl,h w g i⟩
end
end
section
open Go.RowKit
def wfc {P:Program} {K:Kit} {w0:World} {γ:Nat→Value} {C:World→Prop} {ops:Array Oper} {Lq:Act→Prop} {j:Nat} {o:Oper} {rest:List Oper} {a:Act} {xs:Array Operand} {ts:Array TypeId} (args:Array Value) (hf:P.funcs[f]? =some fn) (h:∀w,zL w0 w→(∀d∈K.D j,K.Φ d (γ d) w)→Calls P f args w (fun e w'=>∃v,e=zE v∧(K.Φ j v w'∧zL w w'))) (h2:wpF P K w0 γ C ops Lq (j+1) rest (a.put o.dst (γ j))) (hfr:K.fr j=true:=by rfl) (hg:o.guard=none:=by rfl) (ho:o.op= .call {callee:= .value (.func f),args:=xs,argTypes:=ts}:=by rfl) (hargs:xs.map a.eval=args:=by simp[Act.eval]) (hname:(fn.name== "runtime.NumGoroutine")=false:=by kernel_rfl) (hb:fn.body.isNone=false:=by kernel_rfl):wpF P K w0 γ C ops Lq j (o::rest) a:=b6 hfr (bW hg f xs ts (dh hf hname hb) ho hargs h) h2
def wfg {P:Program} {K:Kit} {w0:World} {γ:Nat→Value} {C:World→Prop} {ops:Array Oper} {Lq:Act→Prop} {j:Nat} {o:Oper} {rest:List Oper} {a:Act} {xs:Array Operand} {ts:Array TypeId} (args:Array Value) (hf:P.funcs[f]? =some fn) (h:∀w,zL w0 w→(∀d∈K.D j,K.Φ d (γ d) w)→Calls P f args w (fun e w'=>∃v,e=zE v∧(K.Φ j v w'∧zL w w'))) (h2:wpF P K w0 γ C ops Lq (j+1) rest (a.put o.dst (γ j))) (hfr:K.fr j=true:=by rfl) (hg:Region.wanted o (yielded ops a.tmps)=true:=by kernel_rfl) (ho:o.op= .call {callee:= .value (.func f),args:=xs,argTypes:=ts}:=by rfl) (hargs:xs.map a.eval=args:=by simp[Act.eval]) (hname:(fn.name== "runtime.NumGoroutine")=false:=by kernel_rfl) (hb:fn.body.isNone=false:=by kernel_rfl):wpF P K w0 γ C ops Lq j (o::rest) a:=dH hfr (cT hg f xs ts (dh hf hname hb) ho hargs h) h2
end
end
end
section
open Go.RowKit
section
variable {a:Act} {o:Oper} {T:TypeId}
def ja (j:Nat) (D:List Nat) (v:Value):FOp:=⟨j,D,λu=>u=v,λu w=>u=v⟩
def dN (j:Nat) (D:List Nat) (v:Value):∀u w w',(ja j D v).Φ u w->zL w w'->(ja j D v).Φ u w':=λu w w' h _=>h
def dO (j:Nat) (D:List Nat) (v:Value):(∀u w,(ja j D v).Φ u w->(ja j D v).S u)/\∃u,(ja j D v).S u:=⟨λu w h=>h,v,rfl⟩
def oC (j:Nat) (D:List Nat) (B n c:Nat) (cs:Array Value) (T:TypeId):FOp:=⟨j,D,λv=>∃g,v=zU (some ⟨g,0,none⟩) n c,λv w=>∃g,v=zU (some ⟨g,0,none⟩) n c/\Box w g cs T/\B<=g⟩
def qe (j:Nat) (D:List Nat) (B n c:Nat) (cs:Array Value) (T:TypeId):∀u w w',(oC j D B n c cs T).Φ u w->zL w w'->(oC j D B n c cs T).Φ u w':=λu w w' ⟨g,e,h,hB⟩ hb=>⟨g,e,h.Q hb,hB⟩
def qg (j:Nat) (D:List Nat) (B n c:Nat) (cs:Array Value) (T:TypeId):(∀u w,(oC j D B n c cs T).Φ u w->(oC j D B n c cs T).S u)/\∃u,(oC j D B n c cs T).S u:=⟨λu w ⟨g,e,_⟩=>⟨g,e⟩,_,0,rfl⟩
def uV {v:Value} {g n c:Nat} {w:World} {cs:Array Value} {B:Nat} (e:v=zU (some ⟨g,0,none⟩) n c) (h:∃a,v=zU (some ⟨a,0,none⟩) n c/\Box w a cs T/\B<=a):Box w g cs T/\B<=g:=by obtain⟨a,b,h⟩:=h;rw[e] at b;simp at b;rw[b];exact h
section
variable {P:Program} {K:Kit} {w0:World} {γ:Nat->Value}
def mA {j:Nat} {n c:Nat} {cs:Array Value} (d:o.guard=none) (e:∀w,(execOp a.eval o).run P w= .ok (.value (zU (some ⟨w.heap.size,0,none⟩) n c)) (w.alloc (zC cs T))) (h:∀w g,w0.heap.size<=g->Box w g cs T->K.Φ j (zU (some ⟨g,0,none⟩) n c) w):jB P K w0 γ j o a:=by refine⟨d,λw b f=> ?_⟩;rw[e];exact⟨h _ _ b.size (Box.new _ _ _),ab _ _⟩
def Cy {t:TypeId} {x y:Operand} {l c:Int} (b:o.op= .makeSlice t x y) (d:a.eval x=zI zi l) (e:a.eval y=zI zi c) {v:Value} {w w':World} (h:(Instr.makeSlice t (zI zi l) (zI zi c)).run P w= .ok v w'):(execOp a.eval o).run P w= .ok (.value v) w':=by simp[execOp,b,d,e,h,Result.andThen]
end
def af {w:World} {g g':Nat} {cs b:Array Value} {T T':TypeId} (h:Box w g cs T) (a:Box w g' b T') (c:T≠T':=by decide):g≠g':=λe=>by
 subst e;unfold Box at h a;rw[h] at a;simp only[DN,Fk] at a;exact c a.2.1
def aV {w w':World} {g b:Nat} {cs:Array Value} (h:Box w g cs T) (c:w.grownBy w' (some b)) (a:g≠b):Box w' g cs T:=(c.block g h.lt (by simpa using a)).trans h
def aN {a:Nat} {w w2 w3:World} {g:Nat} (h:Below a w w2) (d:a<=w2.heap.size) (e:a<=g) (b:w2.grownBy w3 (some g)):Below a w w3:=h.grown b d λq c=>by simp only[DN] at c;omega
def jE:Rd ByteArray where
 k:=1
 ts:=[]
 pos:=by decide
 R:=λw us s F=>us=[zV s]
 len:=λh=>by rw[h];rfl
 one:=λh u a=>by rw[h] at a;simp at a;subst a;rfl
 mono:=λh _=>h
 same:=λh _ _=>h
def Rs.sl {w:World} {v:Value} {l:List ByteArray} {F:Nat->Prop} (h:Rs jE w v l F):SL w v l:=by obtain⟨A,c,rfl,m,h⟩:=h;refine⟨A,c,rfl,m,λn=> ?_⟩;obtain⟨b,o,rfl,k,h⟩:=h n;refine⟨⟨b,o,none⟩,rfl,k,λj f=> ?_⟩;have⟨us,g,i⟩:=h j _ (DD f);have d:=g 0 (by decide);have a:us=[zV l[j]]:=i;rw[a,Eb] at d;have e:jE.k=1:=rfl;rw[e,Nat.mul_one] at d;rw[cC,d,DC,DD f];rfl
end
end
section
open Go.RowKit Go.WideShapes Go.ChangeShapes
section
variable {α:Type} {φ:Rd α} {w w':World} {v:Value} {xs:List α} {F:Nat->Prop}
def iV (h:Rs φ w v xs F) (g:w.heap.size<=w'.heap.size) (i:0<zN xs->∀b,b<w.heap.size->v.ownBlock=some b->w'.heap[b]? =w.heap[b]?) (hk:∀b,b<w.heap.size->F b->w'.heap[b]? =w.heap[b]?):Rs φ w' v xs F:=by
 by_cases a:0<zN xs
 .refine h.same g (λb d=>i a b ?_ d) hk;obtain⟨A,c,rfl,_,h⟩:=h;obtain⟨j,o,rfl,f,_⟩:=h a;simp only[Value.ownBlock,DN] at d;omega
 obtain⟨A,c,rfl,e,_⟩:=h;exact⟨A,c,rfl,e,λh=>absurd h a⟩
end
def exL (v:Value) (e:Ex):List Value:=[zI zi e.op,zI zi e.n,zV e.s,v]
def WP:Rd Ex where
 k:=4
 ts:=[79]
 pos:=by decide
 R:=λ_ _ _ _=>False
 len:=λh=>h.elim
 one:=λh=>h.elim
 mono:=λh _=>h.elim
 same:=λh _ _=>h.elim
def WJ (φ:Rd Ex):Rd Ex where
 k:=4
 ts:=[79]
 pos:=by decide
 R:=λw us e F=>∃v,us=exL v e/\Rs φ w v e.a F/\In F v (zN e.a)
 len:=λ⟨_,h,_⟩=>by rw[h];rfl
 one:=λ⟨v,h,a,_⟩ u f=>by have⟨A,c,e1,_⟩:=a.slice;rw[h,e1] at f;unfold exL at f;simp only[DS,DZ,EC] at f;rcases f with rfl|rfl|rfl|rfl<;>rfl
 mono:=λ⟨v,h,a,d⟩ l=>⟨v,h,a.mono l,λi b g=>l b (d i b g)⟩
 same:=λ⟨v,h,a,d⟩ m hk=>⟨v,h,iV a m (λi b j g=>hk b j (d i b g)) hk,d⟩
def exR:Nat->Rd Ex
 |0=>WP
 |d+1=>WJ (exR d)
def dY (d:Nat):(exR d).k=4:=by cases d<;>rfl
def Rs.weak {α:Type} {φ ψ:Rd α} {w:World} {v:Value} {xs:List α} {F:Nat->Prop} (hk:φ.k=ψ.k) (f:∀us x,x∈xs->φ.R w us x F->ψ.R w us x F) (h:Rs φ w v xs F):Rs ψ w v xs F:=by obtain⟨A,c,rfl,k,h⟩:=h;refine⟨A,c,rfl,k,λl=> ?_⟩;obtain⟨b,o,rfl,g,h⟩:=h l;refine⟨b,o,rfl,g,λj x a=> ?_⟩;have⟨us,d,e⟩:=h j x a;exact⟨us,λi hi=>by rw[<-hk];exact d i (by rw[hk];exact hi),f us x (List.mem_of_getElem? a) e⟩
theorem QY {w:World} {F:Nat->Prop}:∀(d:Nat) {us:List Value} {e:Ex},(exR d).R w us e F->(exR (d+1)).R w us e F
 |0,_,_,h=>h.elim
 |d+1,us,e,⟨v,h1,h2,h3⟩=>⟨v,h1,h2.weak (by rw[dY,dY]) (λus x _ h=>QY d h),h3⟩
theorem WM {w:World} {F:Nat->Prop} {us:List Value} {e:Ex} {d a:Nat} (b:d<=a) (h:(exR d).R w us e F):(exR a).R w us e F:=by
 obtain⟨k,rfl⟩:=FT b;induction k with
 |zero=>exact h
 |succ k ih=>exact QY _ (ih (by omega))
def Rs.exle {w:World} {v:Value} {l:List Ex} {F:Nat->Prop} {d a:Nat} (b:d<=a) (h:Rs (exR d) w v l F):Rs (exR a) w v l F:=h.weak (by rw[dY,dY]) λ_ _ _ h=>WM b h
theorem Rs.exs {w:World} {v:Value} {l:List Ex} {F:Nat->Prop} {d:Nat} (h:Rs (exR d) w v l F):∃(A:Option Addr) (c:Nat),v=zU A (zN l) c/\zN l<=c/\∀k,k<zN l->∃b o p f,A=some ⟨b,o,none⟩/\b<w.heap.size/\d=f+1/\(∀i u,(exL p (zG l k ex0))[i]? =some u->w.cell? ⟨b,o+k*4+i,none⟩=some u)∧
  Rs (exR f) w p (zG l k ex0).a F/\In F p (zG l k ex0).a.length:=by
 obtain⟨A,c,rfl,n,h⟩:=h;refine⟨A,c,rfl,n,λk hk=> ?_⟩;obtain⟨b,o,rfl,m,h⟩:=h (by omega);cases d with
 |zero=>have⟨us,_,a⟩:=h k _ (DD hk);exact a.elim
 |succ d=>
  obtain⟨us,j,p,rfl,a⟩:=h k _ (DD hk);have e:zG l k ex0=l[k]:=by rw[DC,DD hk];rfl
  rw[e];refine⟨b,o,p,d,rfl,m,rfl,λi u g=> ?_,a⟩;have hi:i<4:=by have:=(D0.1 g).1;exact this
  exact(j i hi).trans g
theorem dZ {α H:Type} {enc:TypeId×Value->H} {P:Program} {w:World} {base:Nat} {spare:Nat->Bool} {held:Bool} (φ:Rd α) (Z:α->Prop) {t e:TypeId} {k:Nat} {cs:List Value} {y:DataW H×List MemPlace}
  (N:P.underlying t=some (.slice e)) (hk:P.cellsOf e=φ.k) (A:∀n us z,zN us=φ.k->SizeOf.sizeOf z.1<SizeOf.sizeOf y.1->DataW.trod enc P w base spare held n e us=some z->∃x,φ.R w us x ah/\Z x)
  (h:DataW.trod enc P w base spare held k t cs=some y):
  ∃(v:Value) (xs:List α),cs=[v]/\Rs φ w v xs ah/\zN xs<=maxLen/\∀x∈xs,Z x:=by
 rcases Go.Deep.open_slice N h with⟨rfl,R⟩|⟨a,len,cap,m,n,D,Q,rfl,_,K,hm,B,rfl,F⟩
 .exact⟨_,[],rfl,Rs.nil φ w _,by simp,by simp⟩
 have L:len<=m:=by rw[B];split<;>omega
 have I:∀i,i<=len->∃xs:List α,zN xs=i/\∀j x,xs[j]? =some x->∃us,w.cells? base (a.add (j*φ.k)) φ.k=some us/\φ.R w us x ah/\Z x:=by
  intro i;induction i with
  |zero=>intro _;exact⟨[],rfl,λj x h=>by simp at h⟩
  |succ i ih=>
   intro hi;have⟨xs,r,c⟩:=ih (by omega);have⟨us,d,l⟩:=F i (by omega);rw[hk] at d;have C:SizeOf.sizeOf (D i)<SizeOf.sizeOf (DataW.slice ((List.range len).map D) ((List.range (m-len)).map λj=>D (len+j))):=by have p:D i∈(List.range len).map D:=EJ.2 ⟨i,Fv.2 (by omega),rfl⟩;have:=List.sizeOf_lt_of_mem p;rw[DataW.slice.sizeOf_spec];omega
   have⟨x,M,G⟩:=A n us _ (World.cells?_some d).2.1 C l;refine⟨xs++[x],by simp[r],λj y f=> ?_⟩;by_cases e:j<i
   .rw[D6 (by omega)] at f;exact c j y f
   obtain rfl:j=i:=by have:=(D0.1 f).1;simp at this;omega
   rw[<-r] at f;simp only[List.getElem?_concat_length,DN] at f;subst f;exact⟨us,d,M,G⟩
 obtain⟨xs,rfl,c⟩:=I len (DE _);refine⟨_,xs,rfl,⟨some a,cap,rfl,K,λJ=> ?_⟩,by omega,λx F=> ?_⟩
 .have q:a.spot=none:=by have⟨us,d,l,_⟩:=c 0 _ (DD J);have E:=(World.cells?_some d).2.1;have g:=(World.cells?_some d).2.2 0 φ.pos;rw[Nat.zero_mul] at g;have u:us[0]? =some (us[0]'(by rw[E];exact φ.pos)):=DD _;rw[u] at g;exact BH g
  obtain⟨b,o,s⟩:=a;simp only at q;subst q;refine⟨b,o,rfl, ?_,λj x f=> ?_⟩
  .have⟨us,d,l,_⟩:=c 0 _ (DD J);have E:=(World.cells?_some d).2.1;have g:=(World.cells?_some d).2.2 0 φ.pos;have u:us[0]? =some (us[0]'(by rw[E];exact φ.pos)):=DD _;rw[u] at g;have:=Fu _ _ g;rwa [Nat.zero_mul] at this
  have⟨us,d,l,_⟩:=c j x f;refine⟨us,λi hi=> ?_,l⟩;have:=(World.cells?_some d).2.2 i hi;rw[cC,cC] at this;exact this
 obtain⟨j,f,rfl⟩:=D9.1 F;have⟨us,_,_,G⟩:=c j _ (DD f);exact G
inductive ExZ:Ex->Prop
 |mk {op n:Int} {name:ByteArray} {args:List Ex}:I64 op->I64 n->name.size<=maxLen->zN args<=maxLen->(∀a∈args,ExZ a)->ExZ (.mk op n name args)
section
variable {H:Type} {enc:TypeId×Value->H} {w:World} {base:Nat} {spare:Nat->Bool} {held:Bool}
theorem lN:∀(N:Nat) {a:Nat} {us:List Value} {z:DataW H×List MemPlace},SizeOf.sizeOf z.1<=N->zN us=4->DataW.trod enc zz w base spare held a 79 us=some z->∃e,(exR N).R w us e ah/\ExZ e
 |0,_,_,z,hz,_,_=>by
  have:0<SizeOf.sizeOf z.1:=by cases z.1<;>simp<;>omega
  omega
 |N+1,a,us,z,hz,g,h=>by
  have o:zz.cellsOf 9=1:=by kernel_rfl
  have c3:zz.cellsOf 3=1:=by kernel_rfl
  have cE:zz.cellsOf 23=1:=by kernel_rfl
  obtain⟨xs,m,rfl,rfl, -,j,d⟩:=DataW.trod_struct underlying79 h;match us,g with
  |[u0,u1,u2,u3],_=>
   have b:∀i,i<4->xs[i]? =some (zG xs i (.nil,[])):=λi hi=>by
    have f:i<zN xs:=by rw[j];exact hi
    rw[DC,DD f];rfl
   have q:DataW.trod enc zz w base spare held m 3 [u0]=some (zG xs 0 (.nil,[])):=by have:=d 0 _ rfl;rw[b 0 (by decide)] at this;change DataW.trod enc zz w base spare held m 3 (([u0,u1,u2,u3].drop 0).take (zz.cellsOf 3))=_ at this;rw[c3] at this;exact this
   have r:DataW.trod enc zz w base spare held m 3 [u1]=some (zG xs 1 (.nil,[])):=by have:=d 1 _ rfl;rw[b 1 (by decide)] at this;change DataW.trod enc zz w base spare held m 3 (([u0,u1,u2,u3].drop 1).take (zz.cellsOf 3))=_ at this;rw[c3] at this;exact this
   have s:DataW.trod enc zz w base spare held m 9 [u2]=some (zG xs 2 (.nil,[])):=by have:=d 2 _ rfl;rw[b 2 (by decide)] at this;change DataW.trod enc zz w base spare held m 9 (([u0,u1,u2,u3].drop 2).take (zz.cellsOf 9))=_ at this;rw[o] at this;exact this
   have t:DataW.trod enc zz w base spare held m 23 [u3]=some (zG xs 3 (.nil,[])):=by have:=d 3 _ rfl;rw[b 3 (by decide)] at this;change DataW.trod enc zz w base spare held m 23 (([u0,u1,u2,u3].drop 3).take (zz.cellsOf 23))=_ at this;rw[cE] at this;exact this
   have y:SizeOf.sizeOf (zG xs 3 (.nil,[])).1<N+1:=by have c:(zG xs 3 (.nil,[])).1∈xs.map (·.1):=EJ.2 ⟨_,List.mem_of_getElem? (b 3 (by decide)),rfl⟩;have:=List.sizeOf_lt_of_mem c;simp only[DataW.agg.sizeOf_spec] at hz;omega
   obtain⟨A,e0, -,D⟩:=FM underlying3 q;obtain⟨B,e1, -,E⟩:=FM underlying3 r;obtain⟨C,k, -,F⟩:=DataW.trod_string underlying9 s;have⟨v,p,l,x,hm,u⟩:=dZ (exR N) ExZ underlying23 (by rw[dY];kernel_rfl) (λn us z g G h=>lN N (by omega) (by rw[g,dY]) h) t;simp only[Fm,FL] at e0 e1 k l;subst e0 e1 k l;exact⟨.mk A B C p,⟨_,rfl,x,lE _ _⟩,.mk (bounds_i64 D) (bounds_i64 E) F hm u⟩
end
end
section
open Go.RowKit Go.Maps
section
variable {b:Nat} {w w':World}
def pW:laidOutB zz=true:=by kernel_rfl
def T2:Keyed zz 95:=Keyed.of_law (deep_law_laid pW (m:=2) (by omega) (Ey (by kernel_rfl)) (by kernel_rfl) (by rw[underlying95]))
def Qs:Keyed zz 152:=Keyed.of_law (deep_law_laid pW (m:=2) (by omega) (Ey (by kernel_rfl)) (by kernel_rfl) (by rw[underlying152]))
def TZ (a b c:Int):Lit:= .string (keyBytes [.int .i64 a,.int .i64 b,.int .i64 c])
def Qr (a b c:Int) (h:(Lit.int .i64 a).wf=true) (i:(Lit.int .i64 b).wf=true) (j:(Lit.int .i64 c).wf=true):keyOf Tryz.prog 95 (zX #[.int .i64 a,.int .i64 b,.int .i64 c])=some (TZ a b c):=by
 have f:Tryz.prog.keyType 95=true:=by kernel_rfl
 have e:Tryz.prog.cellsOf 95=3:=by kernel_rfl
 have g:(Value.agg #[.int .i64 a,.int .i64 b,.int .i64 c]).formed Tryz.prog 95=true:=by simp[Value.formed,underlying95,e]
 have c3:Tryz.prog.cellsOf 3=1:=by kernel_rfl
 have hk:∀d x,(Lit.int .i64 x).wf=true->Tryz.prog.keyLits (d+1) 3 [.int .i64 x]=some [.int .i64 x]:=λd x m=>by simp[Program.keyLits,underlying3,m]
 obtain⟨d,k⟩:∃d,Tryz.prog.types.size=d+1:=⟨Tryz.prog.types.size-1,by have:0<Tryz.prog.types.size:=Ey (by kernel_rfl);omega⟩;unfold keyOf;simp only[underlying95,f,g,Bool.and_self,if_true,k];show(Tryz.prog.keyLits (d+1+1) 95 [.int .i64 a,.int .i64 b,.int .i64 c]).map _=_;have l:Tryz.prog.keyLits (d+1+1) 95 [.int .i64 a,.int .i64 b,.int .i64 c]=some [.int .i64 a,.int .i64 b,.int .i64 c]:=by unfold Program.keyLits;rw[underlying95];simp[e,c3,hk d a h,hk d b i,hk d c j]
 rw[l];rfl
def Cl (a b c:Int) (h:(Lit.int .i64 a).wf=true) (i:(Lit.int .i64 b).wf=true) (j:(Lit.int .i64 c).wf=true):keyOf Tryz.prog 152 (zX #[.int .i64 a,.int .i64 b,.int .i64 c])=some (TZ a b c):=by
 have f:Tryz.prog.keyType 152=true:=by kernel_rfl
 have e:Tryz.prog.cellsOf 152=3:=by kernel_rfl
 have g:(Value.agg #[.int .i64 a,.int .i64 b,.int .i64 c]).formed Tryz.prog 152=true:=by simp[Value.formed,underlying152,e]
 have c3:Tryz.prog.cellsOf 3=1:=by kernel_rfl
 have hk:∀d x,(Lit.int .i64 x).wf=true->Tryz.prog.keyLits (d+1) 3 [.int .i64 x]=some [.int .i64 x]:=λd x m=>by simp[Program.keyLits,underlying3,m]
 obtain⟨d,k⟩:∃d,Tryz.prog.types.size=d+1:=⟨Tryz.prog.types.size-1,by have:0<Tryz.prog.types.size:=Ey (by kernel_rfl);omega⟩;unfold keyOf;simp only[underlying152,f,g,Bool.and_self,if_true,k];show(Tryz.prog.keyLits (d+1+1) 152 [.int .i64 a,.int .i64 b,.int .i64 c]).map _=_;have l:Tryz.prog.keyLits (d+1+1) 152 [.int .i64 a,.int .i64 b,.int .i64 c]=some [.int .i64 a,.int .i64 b,.int .i64 c]:=by unfold Program.keyLits;rw[underlying152];simp[e,c3,hk d a h,hk d b i,hk d c j]
 rw[l];rfl
structure eD (κ:Type) (kT:TypeId) where
 kv:κ->Value
 lit:κ->Lit
 ok:κ->Prop
 key:∀x,ok x->keyOf zz kT (kv x)=some (lit x)
 K:Keyed zz kT
 inj:∀x y,kv x=kv y->x=y
section
variable {κ:Type} {kT:TypeId}
def eD.lit_inj (φ:eD κ kT) {x y:κ} (a:φ.ok x) (b:φ.ok y) (h:φ.lit x=φ.lit y):x=y:=φ.inj _ _ (φ.K.inj (φ.key x a) (by rw[h];exact φ.key y b))
def UF (φ:eD κ kT) (l:List (κ×Int)):DataW Unit:=l.foldr (λp D=>D.put (φ.lit p.1) (.lit (.int .i64 p.2))) (.map [])
def bR (φ:eD κ kT) (w:World) (b:Nat) (l:List (κ×Int)):Prop:=(∀p∈l,φ.ok p.1/\(Lit.int .i64 p.2).wf=true)/\∃n,n<=zN l/\w.ownsMap (H:=Unit) zz kT (plainElem zz 3) b n (UF φ l)
def bZ [DecidableEq κ] (l:List (κ×Int)) (x:κ):Option Int:=(l.find? λp=>decide (p.1=x)).map (·.2)
def cW [DecidableEq κ] (p:κ×Int) (l:List (κ×Int)) (x:κ):bZ (p::l) x=if p.1=x then some p.2 else bZ l x:=by
 unfold bZ;by_cases h:p.1=x
 .rw[DP h,List.find?_cons_of_pos (by simpa using h)];rfl
 rw[DK h,List.find?_cons_of_neg (by simpa using h)]
theorem vw (φ:eD κ kT):∀(l:List (κ×Int)),IsMap (UF φ l)
 |[]=>isMap_empty
 |p::l=>(vw φ l).put _ _
theorem tg [DecidableEq κ] (φ:eD κ kT) {x:κ} (a:φ.ok x) (z:DataW Unit):∀(l:List (κ×Int)),(∀p∈l,φ.ok p.1/\(Lit.int .i64 p.2).wf=true)->(UF φ l).atKey (φ.lit x) z=match bZ l x with
  |some i=> .lit (.int .i64 i)
  |none=>z
 |[],_=>rfl
 |p::l,h=>by
  have b:=(h p (by simp)).1;rw[cW];show((UF φ l).put (φ.lit p.1) (.lit (.int .i64 p.2))).atKey (φ.lit x) z=_;by_cases e:p.1=x
  .rw[DP e,e];exact atKey_put_same (vw φ l) (φ.K.key (φ.key x a)) _ _
  rw[DK e,atKey_put_other (λh=>e (φ.lit_inj a b h).symm)];exact tg φ a z l (λq c=>h q (Ea _ c))
def bR.new (φ:eD κ kT) (w:World):bR φ (w.alloc (.map #[] 0)) w.heap.size []:=⟨λp h=>(by cases h),0,DE _,World.ownsMap_made _ _ _ _⟩
def bR.lt {φ:eD κ kT} {l:List (κ×Int)} (h:bR φ w b l):b<w.heap.size:=by obtain⟨_,n,_,h⟩:=h;exact h.lt
def bR.grown {φ:eD κ kT} {l:List (κ×Int)} {row:Option Nat} (h:bR φ w b l) (g:w.grownBy w' row) (a:row≠some b):bR φ w' b l:=by obtain⟨c,n,d,f⟩:=h;exact⟨c,n,d,f.kept g (λe=>a e.symm)⟩
def bR.Q {φ:eD κ kT} {l:List (κ×Int)} (h:bR φ w b l) (a:zL w w'):bR φ w' b l:=h.grown (ft a none) (by simp)
instance {φ:eD κ kT} {w w':World} {b:Nat} {l:List (κ×Int)}:Zm w w' (bR φ w b l) (bR φ w' b l):=⟨λhb h=>bR.Q h hb⟩
def pc (w:World):(zeroValue 3).run zz w= .ok (zI zi 0) w:=by kernel_rfl
theorem bR.look2 [DecidableEq κ] {φ:eD κ kT} {mT:TypeId} (r:zz.underlying mT=some (.map kT 3)) {w:World} {b:Nat} {l:List (κ×Int)} (h:bR φ w b l) {x:κ} (j:φ.ok x):
  (Instr.lookup mT (.map (some b)) (φ.kv x) true).run zz w= .ok (match bZ l x with
   |some i=>zY #[.int .i64 i,zW true]
   |none=>zY #[.int .i64 0,zW false]) w:=by
 obtain⟨m,n,v,u,f,s,F,A,q⟩:=h;have e:=λz=>tg φ j z l m;rw[q] at e;rcases fit_look true φ.K r (pc w) s F (φ.key x j) with⟨a,_,o⟩|⟨e0,y,_,_,a,p,g,_⟩
 .rw[a];cases hf:bZ l x with
  |none=>rfl
  |some i=>have d:=e .nil;rw[hf,o] at d;cases d
 rw[a];have⟨c,t,k,_⟩:=plainElem_int_inv underlying3 p;cases hf:bZ l x with
 |none=>have d:=e .nil;rw[hf,g,k] at d;cases d
 |some i=>have d:=e .nil;rw[hf,g,k] at d;simp only[DataW.lit.injEq,Lit.int.injEq,true_and] at d;rw[t,d];rfl
def bR.upd {φ:eD κ kT} {mT:TypeId} (g:zz.underlying mT=some (.map kT 3)) {l:List (κ×Int)} (h:bR φ w b l) {x:κ} (d:φ.ok x) {i:Int} (hi:(Lit.int .i64 i).wf=true) (o:zN l<maxLen):∃w',(Instr.mapUpdate mT (.map (some b)) (φ.kv x) (.int .i64 i)).run zz w= .ok () w'/\bR φ w' b ((x,i)::l)/\w.grownBy w' (some b):=by
 obtain⟨e,n,m,f⟩:=h;have⟨w',a,k,j⟩:=f.update φ.K g (by omega) (φ.key x d) (plainElem_int underlying3 hi);refine⟨w',a,⟨λp c=> ?_,n+1,by simp;omega,k⟩,j⟩;rcases DS.1 c with rfl|c
 .exact⟨d,hi⟩
 exact e p c
end
end
end
section
section
variable (d:List Nd) (f:Nat->Nat) {k:Nat}
def xI (a:List Bool) (b:Bool) (l f:Nat):bF d l (a++[b]) f=if lvA d (bF d l a f)=l+zN a then(if b=true then(ndA d (bF d l a f)).hi else(ndA d (bF d l a f)).lo) else bF d l a f:=by rw[nS];rfl
def SI {w v k:Nat} (h:k<w):(vb w v).take (k+1)=(vb w v).take k++[v.testBit (w-1-k)]:=by rw[Ep,DD (by rw[jL];exact h)];unfold vb;rw[List.getElem_map,List.getElem_range];rfl
theorem tx:∀(a b:List Wd),fH (a++b)=fH a+fH b
 |[],b=>by simp[fH]
 |v::a,b=>by show v.w+fH (a++b)=v.w+fH a+fH b;rw[tx a b];omega
def mG {α:Type} {vs:List α} {x0:α} (h:k<zN vs):vs.drop k=zG vs k x0::vs.drop (k+1):=by rw[Eq h,DC,DD h];rfl
theorem yg (v:Wd):(aX v).length<=2^v.w:=by
 unfold aX;cases v.fixed with
 |some x=>exact Nat.one_le_two_pow
 |none=>rw[EV];exact DE _
def jI:List Wd->Nat
 |[]=>0
 |v::vs=>1+(aX v).length*jI vs
theorem Af:∀(vs:List Wd),(∀v∈vs,1<=v.w)->jI vs<2^fH vs
 |[],_=>by show 0<2^0;simp
 |v::vs,h=>by
  have ih:=Af vs λx c=>h x (Ea _ c);have a:=yg v;have d:(aX v).length*jI vs<=2^v.w*jI vs:=Nat.mul_le_mul_right _ a;have b:2^v.w*(jI vs+1)<=2^v.w*2^fH vs:=Nat.mul_le_mul_left _ ih;have e:2<=2^v.w:=by have:=Ew (n:=2) (by omega) (h v (by simp));simpa using this
  show 1+(aX v).length*jI vs<2^(v.w+fH vs);rw[Nat.pow_add];rw[Nat.mul_add] at b;omega
def cD:Nat:=1099511627777
def jD (a b:Nat):Nat:=min (a+b) cD
def eN (a b:Nat):Nat:=min (a*b) cD
def eC (f:Nat->Nat) (l:List Nat):Nat:=l.foldl (λs x=>jD s (f x)) 0
def nZ (x:Nat) (l:List Nat):eC f (l++[x])=jD (eC f l) (f x):=by unfold eC;rw[Fp];rfl
def mV (l:List Nat):eC f l<=cD:=by
 rcases List.eq_nil_or_concat l with rfl|⟨m,x,rfl⟩
 .exact DH _
 rw[List.concat_eq_append,nZ];exact Nat.min_le_right _ _
def jM (d:List Nd) (wt:Nat->Nat->Nat):Nat->Nat->List Wd->Nat->Nat
 |_,_,[],f=>if f=0 then 0 else 1
 |l,i,v::vs,f=>if f=0 then 0 else eC (λx=>eN (wt i x) (jM d wt (l+v.w) (i+1) vs (bF d l (vb v.w x) f))) (aX v)
theorem SV (d:List Nd) (wt:Nat->Nat->Nat) (vs:List Wd) (l i f:Nat):jM d wt l i vs f<=cD:=by
 cases vs with
 |nil=>show(if f=0 then 0 else 1)<=_;split<;>(unfold cD;omega)
 |cons v vs=>
  show(if f=0 then 0 else eC _ (aX v))<=_;split
  .exact DH _
  exact mV _ _
def n7 (d:List Nd) (wt:Nat->Nat->Nat) (b:Nat) (vs:List Wd) (c:List ((Int×Int)×Int)):Prop:=∀(a f:Nat) (v:Int),bZ c ((a:Int),(f:Int))=some v->v=(jM d wt (b+fH (vs.take a)) a (vs.drop a) f:Nat)
def Qn (wt:Nat->Nat->Nat) (b:Nat) (vs:List Wd):n7 d wt b vs []:=λa f v h=>by cases h
def n7.put {d:List Nd} {wt:Nat->Nat->Nat} {b:Nat} {vs:List Wd} {g:List ((Int×Int)×Int)} (h:n7 d wt b vs g) (a f:Nat):n7 d wt b vs ((((a:Int),(f:Int)),((jM d wt (b+fH (vs.take a)) a (vs.drop a) f:Nat):Int))::g):=λa' f' v c=>by
 rw[cW] at c;by_cases e:((a:Int),(f:Int))=((a':Int),(f':Int))
 .rw[DP e] at c;simp only[FH,DN] at e c;have e1:a=a':=by omega
  have i:f=f':=by omega
  rw[<-c,e1,i]
 rw[DK e] at c;exact h a' f' v c
end
theorem qT (f:Nat->Nat) (l:List Nat):eC f l=min (dB f l) cD:=by
 have a:∀(l:List Nat) (s:Nat),s<=cD->l.foldl (λs x=>jD s (f x)) s=min (s+dB f l) cD:=by
  intro l;induction l with
  |nil=>intro s b;show s=min (s+0) cD;omega
  |cons x l ih=>intro s b;rw[bQ,EH,ih (jD s (f x)) (Nat.min_le_right _ _)];unfold jD;omega
 have:=a l 0 (DH _);rw[DY] at this;exact this
theorem sg {f g:Nat->Nat}:∀{l:List Nat},(∀x∈l,f x<=g x)->dB f l<=dB g l
 |[],_=>DE _
 |x::l,h=>by rw[bQ,bQ];have b:=h x (by simp);have c:=sg (f:=f) (g:=g) (l:=l) λy a=>h y (Ea _ a);omega
theorem se (f g:Nat->Nat):∀l:List Nat,dB (λx=>f x+g x) l=dB f l+dB g l
 |[]=>rfl
 |x::l=>by rw[bQ,bQ,bQ,se f g l];omega
theorem sd (f:Nat->Nat->Nat) (r:List Nat):∀l:List Nat,dB (λy=>dB (λx=>f x y) r) l=dB (λx=>dB (f x) l) r
 |[]=>by
  show 0=_;induction r with
  |nil=>rfl
  |cons x r ih=>rw[bQ,<-ih];rfl
 |y::l=>by rw[bQ,sd f r l,<-se];exact iw λx _=>(bQ (f x) y l).symm
theorem qS (f:Nat->Nat):∀l:List Nat,min (dB f l) cD<=dB (λx=>min (f x) cD) l
 |[]=>by show min 0 cD<=0;omega
 |x::l=>by have:=qS f l;rw[bQ,bQ];omega
theorem vS (c:Nat) (f:Nat->Nat):∀l:List Nat,c*dB f l=dB (λx=>c*f x) l
 |[]=>rfl
 |x::l=>by rw[bQ,bQ,Nat.mul_add,vS c f l]
def P9 {c s:Nat} {f:Nat->Nat} {r:List Nat} (h:s<=dB f r):eN c s<=dB (λx=>eN c (f x)) r:=by unfold eN;refine D2 ?_ (qS (λx=>c*f x) r);have:=Nat.mul_le_mul_left c h;rw[vS] at this;omega
def Sl {F:Nat->Nat} {G:Nat->Nat->Nat} {l r:List Nat} (h:∀y∈l,F y<=dB (λx=>G x y) r):eC F l<=dB (λx=>eC (G x) l) r:=by have e:(λx=>eC (G x) l)=λx=>min (dB (G x) l) cD:=funext λx=>qT _ _;rw[qT,e];refine D2 ?_ (qS (λx=>dB (G x) l) r);have:=sg h;rw[sd] at this;omega
def vT (f:Nat->Nat) (x:Nat):eC f [x]=min (f x) cD:=by show jD 0 (f x)=_;unfold jD;rw[DY]
section
variable {σ:Type} (step:σ->Nat->Nat->σ) (dead:σ->Bool) (wt:Nat->Nat->Nat) (W:Nat->Nat)
def eT (fx:Nat->Option Nat):List Nat->σ->Nat
 |[],s=>if dead s=true then 0 else 1
 |i::g,s=>if dead s=true then 0 else eC (λx=>eN (wt i x) (eT fx g (step s i x))) (aX ⟨W i,fx i⟩)
def df (fx:Nat->Option Nat) (i:Nat) (g:List Nat) (s:σ):eT step dead wt W fx (i::g) s=if dead s=true then 0 else eC (λx=>eN (wt i x) (eT step dead wt W fx g (step s i x))) (aX ⟨W i,fx i⟩):=rfl
theorem yq (fx:Nat->Option Nat) (g:List Nat) (s:σ):eT step dead wt W fx g s<=cD:=by
 cases g with
 |nil=>unfold eT;split<;>(unfold cD;omega)
 |cons i g=>
  unfold eT;split
  .exact DH _
  exact mV _ _
theorem lx {fx a:Nat->Option Nat}:∀(g:List Nat) (s:σ),(∀i∈g,fx i=a i)->eT step dead wt W fx g s=eT step dead wt W a g s
 |[],s,_=>rfl
 |i::g,s,h=>by
  rw[df,df,h i (by simp)];have e:(λx=>eN (wt i x) (eT step dead wt W fx g (step s i x)))=λx=>eN (wt i x) (eT step dead wt W a g (step s i x)):=funext λx=>by rw[lx g _ λj b=>h j (Ea _ b)]
  rw[e]
def m5 (fx:Nat->Option Nat) (i x:Nat):Nat->Option Nat:=λj=>if j=i then some x else fx j
theorem pm {fx:Nat->Option Nat} {i:Nat}:∀(g:List Nat) (s:σ),i∈g->g.Nodup->fx i=none->eT step dead wt W fx g s<=dB (λx=>eT step dead wt W (m5 fx i x) g s) (List.range (2^W i))
 |[],s,h,_,_=>by cases h
 |j::g,s,h,hn,hf=>by
  rw[List.nodup_cons] at hn;by_cases a:dead s=true
  .rw[df,DP a];exact DH _
  by_cases e:j=i
  .subst e;have e1:∀x,eT step dead wt W (m5 fx j x) (j::g) s=eN (wt j x) (eT step dead wt W fx g (step s j x)):=λx=>by
    have c:∀y,eT step dead wt W (m5 fx j x) g (step s j y)=eT step dead wt W fx g (step s j y):=λy=>lx step dead wt W g _ λk hk=>by unfold m5;rw[DK (λe:k=j=>hn.1 (e▸hk))]
    have b:aX ⟨W j,m5 fx j x j⟩=[x]:=by unfold m5;rw[DP rfl];rfl
    rw[df,DK a,b,vT,c];unfold eN;exact Nat.min_eq_left (Nat.min_le_right _ _)
   have d:aX ⟨W j,fx j⟩=List.range (2^W j):=by rw[hf];rfl
   rw[iw (λx _=>e1 x)];rw[df,DK a,d,qT];exact Nat.min_le_left _ _
  have hi:i∈g:=by
   rcases DS.1 h with h|h
   .exact absurd h.symm e
   exact h
  have e1:∀x,eT step dead wt W (m5 fx i x) (j::g) s=eC (λy=>eN (wt j y) (eT step dead wt W (m5 fx i x) g (step s j y))) (aX ⟨W j,fx j⟩):=λx=>by
   have b:m5 fx i x j=fx j:=by unfold m5;rw[DK e]
   rw[df,DK a,b]
  rw[iw (λx _=>e1 x)];rw[df,DK a];exact Sl λy _=>P9 (pm g _ hi hn.2 hf)
theorem m6 {fx:Nat->Option Nat} {b:Nat->Nat}:∀(g:List Nat) (s:σ),(∀i∈g,fx i=some (b i))->0<eT step dead wt W fx g s->dead (g.foldl (λs i=>step s i (b i)) s)=false
 |[],s,_,h=>by
  unfold eT at h;split at h
  .omega
  rename_i hd;simpa using hd
 |i::g,s,hf,h=>by
  rw[df] at h;split at h
  .omega
  have e:aX ⟨W i,fx i⟩=[b i]:=by rw[hf i (by simp)];rfl
  rw[e,vT] at h;refine m6 g _ (λj c=>hf j (Ea _ c)) ?_;refine Fq λa=> ?_;rw[a] at h;simp[eN] at h
end
def fxP (gs p:List Nat) (i:Nat):Option Nat:=(gs.zip p).lookup i
def AH (gs:List Nat) (i:Nat):fxP gs [] i=none:=by unfold fxP;rw[List.zip_nil_right];rfl
theorem lK:∀{gs p:List Nat} {j:Nat},gs.Nodup->j<zN gs->fxP gs p (zG gs j 0)=p[j]?
 |[],p,j,_,h=>by simp at h
 |g::gs,[],j,_,h=>by rw[AH];rfl
 |g::gs,x::p,0,_,h=>by unfold fxP;simp
 |g::gs,x::p,j+1,hn,h=>by
  rw[List.nodup_cons] at hn;have a:j<zN gs:=by simpa using h
  have hm:zG gs j 0∈gs:=by rw[DC,DD a];exact EE a
  have e:(zG gs j 0==g)=false:=by rw[Fb];exact λe=>hn.1 (e▸hm)
  have:=lK (p:=p) hn.2 a;unfold fxP at this⊢;show List.lookup (zG gs j 0) ((g,x)::gs.zip p)=p[j]?;rw[List.lookup_cons,e];exact this
def Wg {l:List Nat} (a:l.Nodup) {i j:Nat} (hi:i<zN l) (b:j<zN l) (e:l[i]=l[j]):i=j:=by
 rw[List.nodup_iff_pairwise_ne,List.pairwise_iff_getElem] at a;rcases Nat.lt_trichotomy i j with h|h|h
 .exact absurd e (a i j hi b h)
 .exact h
 exact absurd e.symm (a j i b hi h)
def Uj {gs p:List Nat} (b:gs.Nodup) (c:zN p<zN gs) (x:Nat):∀i∈gs,fxP gs (p++[x]) i=m5 (fxP gs p) (zG gs (zN p) 0) x i:=λi hi=>by
 obtain⟨j,a,rfl⟩:=D9.1 hi;have e:gs[j]=zG gs j 0:=by rw[DC,DD a];rfl
 unfold m5;rw[e,lK b a,lK b a];by_cases h:j=zN p
 .subst h;rw[DP rfl,DX (DE _),EB];rfl
 rw[DK]
 .by_cases d:j<zN p
  .rw[D6 d]
  rw[DX (by omega),EF (by simp;omega),EF (by omega)]
 rw[<-e,DC,DD c];exact λf=>h (Wg b a c f)
end
section
open Go.RowKit
def ndL (x:Nd):List Value:=[zI zi (x.lv:Nat),zI zi (x.lo:Nat),zI zi (x.hi:Nat)]
def ndR:Rd Nd where
 k:=3
 ts:=[]
 pos:=by decide
 R:=λw us x F=>us=ndL x
 len:=λh=>by rw[h];rfl
 one:=λh u a=>by rw[h] at a;unfold ndL at a;simp only[DS,DZ,EC] at a;rcases a with rfl|rfl|rfl<;>rfl
 mono:=λh _=>h
 same:=λh _ _=>h
def Rs.nds {w:World} {v:Value} {F:Nat->Prop} {l:List Nd} (h:Rs ndR w v l F):∃(A:Option Addr) (c:Nat),v=zU A (zN l) c/\zN l<=c/\∀k,k<zN l->∃b o,A=some ⟨b,o,none⟩/\b<w.heap.size/\w.cell? ⟨b,o+k*3,none⟩=some (zI zi ((ndA l k).lv:Nat))/\w.cell? ⟨b,o+k*3+1,none⟩=some (zI zi ((ndA l k).lo:Nat))/\w.cell? ⟨b,o+k*3+2,none⟩=some (zI zi ((ndA l k).hi:Nat)):=by
 obtain⟨A,c,rfl,i,h⟩:=h;refine⟨A,c,rfl,i,λk hk=> ?_⟩;obtain⟨b,o,rfl,g,h⟩:=h (by omega);have⟨us,a,f⟩:=h k _ (DD hk);have d:us=ndL l[k]:=f;subst d;have e:ndA l k=l[k]:=by unfold ndA;rw[DC,DD hk];rfl
 rw[e];exact⟨b,o,rfl,g,a 0 (by decide),a 1 (by decide),a 2 (by decide)⟩
def kL (w:World) (g:Nat) (v:Value) (m:Value) (q:Bool) (hm:∃b,m= .map b) (d:List Nd) (B:Box w g #[v,m,zW q] 273) (G:Rs ndR w v d ah) (L:zN d<=8192) (f l:Nat) (E:f<zN d) (a:Bool):Calls zz 215 #[zP g,zI zi f,zI zi l,zW a] w (zR (zI zi (cZ d f l a:Nat)) w):=by
 obtain⟨A,c,rfl,D,H⟩:=G.nds;obtain⟨M,rfl⟩:=hm;obtain⟨b,o,rfl,C,I,J,K⟩:=H f E;have h:Hid (cZ d f l a=if lvA d f≠l then f else if a=true then(ndA d f).hi else(ndA d f).lo):=zh rfl;have k:lvA d f=(ndA d f).lv:=rfl;rw[k] at h;generalize cZ d f l a=r at*;have x0:=B.A 0 _ rfl;have j:(f:Int)<(zN d:Int):=by omega
 have F:=zn0 f;have⟨N,z⟩:=zv (zN d);rw[<-z] at x0 j D;generalize ndA d f=nd at*;obtain⟨lv,lo,hi⟩:=nd;simp only at I J K h;go_enter func215,ntmps215;go_upto_region 2 with fail;generalize n:w.alloc _=w1 at*;have⟨i,x⟩:=zB1 n;obtain⟨p,s,t⟩:=zc3 x;by_cases u:lv=l;case neg=>
  have y:((lv:Int) !=(l:Int))=true:=by
   have:¬(lv:Int)=(l:Int):=by omega
   simpa using this
  have e:Hid (r=f):=zh (by rw[h,DP u]);go_wp2;go_ret;exact⟨by rw[e];rfl,i⟩
 subst u;have y:((lv:Int) !=(lv:Int))=false:=by simp
 cases a
 .have e:Hid (r=lo):=zh (by rw[h,DK (by simp)];rfl);go_wp2;go_ret;exact⟨by rw[e];rfl,i⟩
 have e:Hid (r=hi):=zh (by rw[h,DK (by simp)];rfl);go_wp2;go_ret;exact⟨by rw[e];rfl,i⟩
def noQ (Q:Exit->Act->World->Prop):Exit->Act->World->Prop:=λb a w=>b= .normal/\Q b a w
def jX {Q:Exit->Act->World->Prop}:¬LetsOut (noQ Q):=λ⟨_,_,h,_⟩=>by cases h
section
variable {P:Program} {md:Region.Mode} {Q:Exit->Act->World->Prop} {ops:Array Oper}
theorem Uo {o:Oper} {t:Operand} {ix:Nat} (b:o.op= .extract t ix) (a:Act):(∃v,∀w,(execOp a.eval o).run P w= .ok (.value v) w)\/∀w K (Q:Exit->Act->World->Prop),¬o.wp P a w K Q:=by
 unfold Oper.wp;cases h:a.eval t with
 |tuple vs=>
  cases h2:vs[ix]? with
  |some v=>left;exact⟨v,λw=>by simp[execOp,b,h,Instr.extract,h2,Result.andThen]⟩
  |none=>right;intro w K Q;simp[execOp,b,h,Instr.extract,h2,Result.andThen,Oper.upon]
 |_=>right;intro w K Q;simp[execOp,b,h,Instr.extract,Result.andThen,Oper.upon]
def WH {i ix:Nat} {o:Oper} {t:Operand} (hi:ops[i]? =some o) (e:o.op= .extract t ix) (d:o.guard=none) {K:Act->World->Prop} {a:Act} {w:World} (h:wpOp P ops (noQ Q) i K a w):∃v,Yields P ops o v a/\K (a.put o.dst v) w:=by
 unfold wpOp at h;simp only[hi] at h;have c:Region.wanted o (yielded ops a.tmps)=true:=by unfold Region.wanted;rw[d]
 rw[DP c] at h;rcases h with h|⟨_,h⟩
 .rcases Uo (P:=P) e a with⟨v,b⟩|b
  .refine⟨v,zQ ⟨c,b⟩, ?_⟩;unfold Oper.wp at h;rw[b w] at h;exact h
  exact absurd h (b w _ _)
 exact absurd h jX
theorem tA {i:Nat} {K:Act->World->Prop} {a:Act} {w:World} (h:wpOp P ops (noQ Q) i K a w):wpOp P ops Q i K a w:=by
 unfold wpOp at*;split
 .rename_i e;rw[e] at h;exact h
 rename_i o e;simp only[e] at h;split
 .rename_i hw;rw[DP hw] at h;rcases h with h|⟨_,h⟩
  .left;unfold Oper.wp at*;generalize(execOp a.eval o).run P w=r at*;cases r with
   |ok n w'=>
    cases n<;>simp only[Oper.upon] at h⊢<;>
     first
      |exact h
      |exact Calls.mono h (λe c b=>by cases e<;>first|exact b|exact b.2|exact absurd b jX)
   |halt x w'=>cases x<;>simp only[Oper.upon] at h⊢<;>first|exact h|exact h.2
  exact absurd h jX
 rename_i hw;rw[DK hw] at h;exact h
end
def xY (e:Nat) (o:Oper):Oper:={o with after:=o.after.push {on:=e,ground:= .data}}
def eE (l:List Oper) (e s:Nat):List Oper:=l.modify s (xY e)
def Qm (md:Region.Mode) (l:List Oper) (e s:Nat):Bool:=
 decide (e<s)&&decide (s<zN l)&&(match l[e]?,l[s]? with
  |some oe,some os=>(match oe.op with | .extract _ _=>true|_=>false)&&oe.guard.isNone&&oe.apart l.toArray os&&Region.noSelect l.toArray&&
   (oe.after.all λx=> !Region.binds md x||(os.after.any λy=>Region.binds md y&&y.on==x.on))&&
   (List.range (zN l)).all λi=>i==e||i==s||(os.after.any λy=>Region.binds md y&&y.on==i)||(match l[i]? with |some o=>o.after.any λy=>Region.binds md y&&y.on==e|none=>false)
  |_,_=>false)
section
variable {P:Program} {md:Region.Mode} {Q:Exit->Act->World->Prop} {l:List Oper} {e s:Nat}
def mn (j:Nat):(eE l e s).toArray[j]? =(l.toArray[j]?).map λo=>if s=j then xY e o else o:=by rw[Ek,Ek,eE,List.getElem?_modify];rfl
theorem ju (tmps:Array Value):yielded (eE l e s).toArray tmps=yielded l.toArray tmps:=by
 funext j;unfold yielded;rw[mn];cases l.toArray[j]? with
 |none=>rfl
 |some o=>by_cases h:s=j<;>simp[h,xY]
theorem sU (i:Nat) (K:Act->World->Prop) (a:Act) (w:World):wpOp P (eE l e s).toArray Q i K a w=wpOp P l.toArray Q i K a w:=by
 unfold wpOp;rw[mn,ju];cases l.toArray[i]? with
 |none=>rfl
 |some o=>simp only[ES];split<;>rfl
def ie {i:Nat} {listed:Array Bool} (hi:i∈Region.ready md l.toArray listed) (h:i≠s\/listed.getD e false=true):i∈Region.ready md (eE l e s).toArray listed:=by
 have⟨c,o,f,a⟩:=Fr.1 hi;refine Fr.2 ⟨c,_,by rw[mn,f];rfl,λx b d=> ?_⟩;split at b
 .rename_i hs;simp only[xY,Array.mem_push] at b;rcases b with b|rfl
  .exact a x b d
  rcases h with h|h
  .exact absurd hs.symm h
  exact h
 exact a x b d
theorem Cj {i:Nat} {listed:Array Bool} (hi:i∈Region.ready md (eE l e s).toArray listed):i∈Region.ready md l.toArray listed:=by
 have⟨c,o,a,b⟩:=Fr.1 hi;rw[mn] at a;cases h:l.toArray[i]? with
 |none=>rw[h] at a;cases a
 |some o'=>
  rw[h] at a;simp only[ES,DN] at a;subst a;refine Fr.2 ⟨c,o',h,λx d f=>b x ?_ f⟩;split
  .simp only[xY,Array.mem_push];exact zQ d
  exact d
theorem Ql (u:Qm md l e s=true):∀(f:Nat) (listed:Array Bool) (a:Act) (w:World),listed.size=l.length->wpAny P md (eE l e s).toArray (noQ Q) f listed a w->wpAny P md l.toArray Q f listed a w:=by
 simp only[Qm,DW,Ef] at u;obtain⟨⟨ab,ac⟩,u⟩:=u;cases he0:l[e]? with
 |none=>rw[he0] at u;cases u
 |some oe=>
 cases hs0:l[s]? with
 |none=>rw[he0,hs0] at u;cases u
 |some os=>
 rw[he0,hs0] at u;simp only[DW] at u;obtain⟨⟨⟨⟨⟨hx,hg⟩,S⟩,A⟩,G⟩,E⟩:=u;have L:l.toArray[e]? =some oe:=by rw[Ek];exact he0
 have M:l.toArray[s]? =some os:=by rw[Ek];exact hs0
 obtain⟨tt,ix,Y⟩:∃tt ix,oe.op= .extract tt ix:=by
  split at hx
  .rename_i t' ix' h;exact⟨t',ix',h⟩
  cases hx
 have U:oe.guard=none:=by simpa using hg
 have r:e≠s:=by omega
 have p:∀listed:Array Bool,s∈Region.ready md l.toArray listed->listed.getD e true=false->e∈Region.ready md l.toArray listed:=λlisted I m=>by have⟨_,o,F,R⟩:=Fr.1 I;obtain rfl:=Eu (M.symm.trans F);refine Fr.2 ⟨m,oe,L,λx aa T=> ?_⟩;have g:=Array.all_eq_true'.1 G x aa;rw[T] at g;simp only[Bool.not_true,FJ] at g;have⟨y,D,d⟩:=Array.any_eq_true'.1 g;simp only[DW,beq_iff_eq] at d;rw[<-d.2];exact R y D d.1
 have only:∀(listed:Array Bool),listed.size=l.length->s∈Region.ready md l.toArray listed->listed.getD e true=false->∀i∈Region.ready md l.toArray (listed.setIfInBounds s true),i=e:=λlisted k I m i hi=>by
  have⟨q,o,F,R⟩:=Fr.1 hi;have⟨_,o',X,T⟩:=Fr.1 I;obtain rfl:=Eu (M.symm.trans X);have C:i<l.length:=by have:=(Fj.1 F).1;simpa using this
  have g:=Fa.1 E i (Fv.2 C);simp only[FX,beq_iff_eq] at g;rcases g with((g|g)|g)|g
  .exact g
  .subst g;rw[show(listed.setIfInBounds i true).getD i true=true by simp[k,C]] at q;cases q
  .have⟨y,D,d⟩:=Array.any_eq_true'.1 g;simp only[DW,beq_iff_eq] at d;have t:=T y D d.1;rw[d.2] at t;have Z:s≠i:=λh=>by subst h;rw[show(listed.setIfInBounds s true).getD s true=true by simp[k,C]] at q;cases q
   rw[getD_set_ne true Z] at q;rw[getD_both q] at t;cases t
  rw[Ek] at F;rw[F] at g;have⟨y,D,d⟩:=Array.any_eq_true'.1 g;simp only[DW,beq_iff_eq] at d;have t:=R y D d.1;rw[d.2,getD_set_ne false (FA r),getD_both m] at t;cases t
 have K:∀(n f:Nat),f<=n->∀(listed:Array Bool) (a:Act) (w:World),listed.size=l.length->wpAny P md (eE l e s).toArray (noQ Q) f listed a w->wpAny P md l.toArray Q f listed a w:=by
  intro n;induction n with
  |zero=>
   intro f hf listed a w k H;obtain rfl:f=0:=by omega
   refine⟨List.eq_nil_iff_forall_not_mem.2 λi hi=> ?_,H.2.2⟩;by_cases h:i≠s\/listed.getD e true≠false
   .have:i∈Region.ready md (eE l e s).toArray listed:=ie hi (h.imp id λh=>by
     by_cases W:e<listed.size
     .simpa [Array.getD,W] using h
     omega);rw[H.1] at this;cases this
   simp only[not_or,ne_eq,Decidable.not_not] at h;obtain⟨rfl,m⟩:=h;have:e∈Region.ready md (eE l e i).toArray listed:=ie (p _ hi m) (zQ r);rw[H.1] at this;cases this
  |succ n ih=>
   intro f hf listed a w k H;cases f with
   |zero=>exact ih 0 (by omega) listed a w k H
   |succ f=>
    refine⟨λN=>(H.1 (List.eq_nil_iff_forall_not_mem.2 λi hi=>by have:=Cj hi;rw[N] at this;cases this)).2,λi hi=> ?_⟩;by_cases h:i≠s\/listed.getD e true≠false
    .have I:i∈Region.ready md (eE l e s).toArray listed:=ie hi (h.imp id λh=>by
      by_cases W:e<listed.size
      .simpa [Array.getD,W] using h
      omega);have g:=H.2 i I;rw[sU] at g;exact wpOp_mono (λa' w' t=>ih f (by omega) _ a' w' (by simpa using k) t) (tA g)
    simp only[not_or,ne_eq,Decidable.not_not] at h;obtain⟨rfl,m⟩:=h;have J:=p _ hi m;have g:=H.2 e (ie J (zQ r));rw[sU] at g;have⟨v,D,t⟩:=WH L Y U g;have V:i∈Region.ready md l.toArray (listed.setIfInBounds e true):=FV hi (FA r);have B:i∈Region.ready md (eE l e i).toArray (listed.setIfInBounds e true):=ie V (zO (by simp[k];omega));cases f with
    |zero=>have:=t.1;rw[this] at B;cases B
    |succ f=>have h3:=t.2 i B;rw[sU] at h3;have h4:=wpOp_put M S (λcs b=>FC A e _ cs b L) (λcs b=>FC A i _ cs b M) (λc a w h=>by cases h.1) D h3;refine wpOp_mono (λa' w' ⟨hy',h5⟩=> ?_) (tA h4);have z:e∈Region.ready md l.toArray (listed.setIfInBounds i true):=FV J r;refine⟨λN=>(by rw[N] at z;cases z),λj hj=> ?_⟩;obtain rfl:=only listed k hi m j hj;refine Yields.wpOp L hy' (ih f (by omega) _ _ _ (by simpa using k) ?_);rw[Array.setIfInBounds_comm _ _ (FA r)];exact h5
 exact λf=>K f f (DE _)
theorem pf {ops ops':Array Oper} (b:∀tmps,yielded ops' tmps=yielded ops tmps):∀(m:List Oper),wpList P ops' Q m=wpList P ops Q m
 |[]=>rfl
 |o::m=>by funext a w;unfold wpList;rw[b,pf b m]
theorem n9 {ops ops':Array Oper} (b:∀tmps,yielded ops' tmps=yielded ops tmps):∀(m:List Oper) (k:Nat),wpList P ops' Q (m.modify k (xY e))=wpList P ops Q m
 |[],k=>by simp only[List.modify_nil];rfl
 |o::m,0=>by funext a w;rw[List.modify_zero_cons];unfold wpList;rw[b,pf b m];rfl
 |o::m,k+1=>by funext a w;rw[List.modify_succ_cons];unfold wpList;rw[b,n9 b m k]
def Ch {n:Nat} (h:n<=s):(eE l e s).take n=l.take n:=by
 refine List.ext_getElem? λj=> ?_;rw[List.getElem?_take,List.getElem?_take,eE,List.getElem?_modify];split
 .rename_i hj;have a:¬s=j:=by omega
  simp only[a,FN];cases l[j]? <;>rfl
 rfl
def Ci {n:Nat} (h:n<=s):(eE l e s).drop n=(l.drop n).modify (s-n) (xY e):=by
 refine List.ext_getElem? λj=> ?_;rw[Fh,eE,List.getElem?_modify,List.getElem?_modify,Fh];by_cases b:s=n+j
 .have a:s-n=j:=by omega
  simp only[b,a,if_true];simp
 have a:¬s-n=j:=by omega
 simp only[b,a,FN]
def Ua {a:Act} {w:World} {l:List Oper} (n:Nat) (K:Kit) (M:Region.lexTailB .any l.toArray n=true) (i:∀γ,Region.lexTailB .any (eI K γ 0 l).toArray n=true) (m:Dh .any l K n=true) (V:K.Stable) (z:K.Known) (h:∀(γ:Nat->Value) (Z:K.Good γ) (C:World->Prop) (k:mY w C) (X:Nonempty (iF w C)),wpF P K w γ (λw'=>∃p:iF w C,w'=p.w) l.toArray (λf=>∀w',zL w w'->(∀d,d<n->K.fr d=true->K.Φ d (γ d) w')->wpList P l.toArray Q (l.drop n) f w') 0 (l.take n) a):wpAny P .any l.toArray Q l.toArray.size (Array.replicate l.toArray.size false) a {w with drawn:=w.drawn+1}:=by
 simp only[Region.lexTailB,DW,Ef] at M;obtain⟨⟨⟨⟨R,G⟩,I⟩,J⟩,S⟩:=M;have D:n<zN l:=by simpa using G
 have o:(l.drop n).length=l.toArray.size-n:=by simp
 have b:(l.take n).length=n:=by rw[D3];omega
 have e:HeadInv .any l.toArray n (Array.replicate l.toArray.size false):=
  ⟨by simp,λj oj _ r=>(by rw[Ft] at r;cases r),λt _ Y=>getD_in (by simpa using Y) (Ft _ _)⟩;have e0:l.toArray.size=n+(l.toArray.size-n):=by simp;omega
 have F:=oX (P:=P) (K:=K) (md:= .any) (l:=l) (n:=n) (gg:=l.toArray.size-n) (w0:=w) (Q':=Q)
  (Lq:=λγ f=>∀w',zL w w'->(∀d,d<n->K.fr d=true->K.Φ d (γ d) w')->wpList P l.toArray Q (l.drop n) f w')
  V z D I J (by simp;omega) m (λγ c f w' aa W B s y=> ?_) n (Array.replicate l.toArray.size false) a {w with drawn:=w.drawn+1} (λj=>Classical.choose (z.ne j)) (λj _=>Classical.choose_spec (z.ne j)) e (ae _)
  (λd _ _ r=>(by rw[Ft] at r;cases r)) (λγ C q k _=> ?_)
 .rw[<-e0] at F;exact F
 .have U:=wpAny_of_seq (P:=P) (md:= .any) (ops:=l.toArray) (Q':=Q) (l.drop n) n c f w' (λj=>by simp[Fh]) (by rw[o];exact s) (y w' W B);rwa [o] at U
 have g:=i γ;simp only[Region.lexTailB,DW,Ef] at g;obtain⟨⟨⟨⟨T,g2⟩,g3⟩,g4⟩,L⟩:=g;have E:(eI K γ 0 l).toArray.size=l.toArray.size:=by rw[ED,ED,mz]
 have x:(λw'=>∃p:iF w C,w'=p.w)=C:=by funext w';exact propext (uI k w')
 have v:=h γ q C k (by obtain⟨wC,u⟩:=k.ne;exact⟨⟨wC,k.sub _ u,u⟩⟩);rw[x] at v;replace v:=lR (ops':=(eI K γ 0 l).toArray) (λtmps=>(dF K γ l tmps).symm) _ _ _ v;have H:=nK (P:=P) (K:=K) (w0:=w) (γ:=γ) (md:= .any) (l:=l) (C:=C) (n:=n) (gg:=l.toArray.size-n) T R I J G (l.take n) 0 (Array.replicate l.toArray.size false) a (λj N=>by
  have A:j<n:=by rw[b] at N;exact N
  simp[A]) (by simpa using b) e (by rw[b];rw[E] at L;exact L) (by rw[b];exact S) v;rw[b] at H;exact H
def jJ {v:Nat} {a:Act} {w:World} (e s n:Nat) (K:Kit) (hm:P.follows .mixedOrders=true) (t:Qm .any l e s=true) (m:n<=s) (q:Region.lexTailB .any (eE l e s).toArray n=true) (b:∀γ,Region.lexTailB .any (eI K γ 0 (eE l e s)).toArray n=true) (c:Dh .any (eE l e s) K n=true) (r:K.Stable) (u:K.Known) (h:∀(γ:Nat->Value) (g:K.Good γ) (C:World->Prop) (k:mY w C) (f:Nonempty (iF w C)),wpF P K w γ (λw'=>∃p:iF w C,w'=p.w) l.toArray (λo=>∀w',zL w w'->(∀d,d<n->K.fr d=true->K.Φ d (γ d) w')->wpList P l.toArray (noQ Q) (l.drop n) o w') 0 (l.take n) a):(Code.region v l.toArray true).wp P Q a w:=by
 refine wp_region_any hm ?_;refine Ql (e:=e) (s:=s) t _ _ _ _ (by simp) ?_;have i:(eE l e s).toArray.size=l.toArray.size:=by simp[eE]
 have j:=Ua (P:=P) (Q:=noQ Q) (a:=a) (w:=w) (l:=eE l e s) n K q b c r u (λγ g C k f=>by rw[Ch m,Ci m,n9 ju];exact lR (λtmps=>(ju tmps).symm) _ _ _ (h γ g C k f));rw[i] at j;exact j
end
section
variable {P:Program} {md:Region.Mode} {Q:Exit->Act->World->Prop} {ops:Array Oper} {S:World->Prop}
def YF (_:World):Prop:=True
def cY (w:World):YF w:=trivial
theorem xr {i:Nat} {o:Oper} {c:Nat} {b:Array Bool} {a:Act} {w:World} (j:ops[i]? =some o)
  (h:wpList P ops (noQ λ_ f w'=>S w'/\wpAnyH P md ops Q S c (b.setIfInBounds i true) f w') [o] a w):wpOp P ops Q i (λf w'=>S w'/\wpAnyH P md ops Q S c (b.setIfInBounds i true) f w') a w:=by
 unfold wpOp;simp only[j];unfold wpList at h;by_cases g:Region.wanted o (yielded ops a.tmps)=true
 .rw[DP g] at h⊢;rcases h with h|⟨_,h⟩
  .left;unfold Oper.wp at*;generalize(execOp a.eval o).run P w=r at*;cases r with
   |ok n w'=>
    cases n<;>simp only[Oper.upon,wpList] at h⊢<;>
     first
      |exact h.2
      |exact Calls.mono h (λe k d=>by cases e<;>first|exact d.2|exact absurd d.1 (by intro h;cases h)|exact absurd d jX)
      |exact Rows.mono h (λ_ _ d=>d.2)
   |halt x w'=>cases x<;>simp only[Oper.upon] at h⊢<;>first|exact h|exact absurd h.1 (by intro h;cases h)
  exact absurd h jX
 rw[DK g] at h⊢;exact h.2
def ay (i:Nat) {o:Oper} {c:Nat} {b:Array Bool} {a:Act} {w:World} (f:ops[i]? =some o) (h:wpList P ops (noQ λ_ d w'=>S w'/\wpAnyH P md ops Q S c (b.setIfInBounds i true) d w') [o] a w) (g:Region.ready md ops b=[i]:=by kernel_rfl):wpAnyH P md ops Q S (c+1) b a w:=by
 refine wpAnyH_all g (by simp) (λj e=> ?_);obtain rfl:j=i:=by simpa using e
 exact xr f h
def Am {i j:Nat} {o f:Oper} {c:Nat} {b:Array Bool} {a:Act} {w:World} (m:Region.ready md ops b=[i,j]) (l:ops[i]? =some o) (e:ops[j]? =some f) (h:wpList P ops (noQ λ_ d w'=>S w'/\wpAnyH P md ops Q S c (b.setIfInBounds i true) d w') [o] a w) (g:wpList P ops (noQ λ_ d w'=>S w'/\wpAnyH P md ops Q S c (b.setIfInBounds j true) d w') [f] a w):wpAnyH P md ops Q S (c+1) b a w:=by
 refine wpAnyH_all m (by simp) (λk hk=> ?_);simp only[DS,DZ,EC] at hk;rcases hk with rfl|rfl
 .exact xr l h
 exact xr e g
end
def xR (W:World):(Instr.typeAssert Value.nilIface 20 197 true).run zz W= .ok (zY #[zX #[zI zi 0],zW false]) W:=by kernel_rfl
def rc (e:Int) (W:World):(Instr.typeAssert (.iface 197 (zX #[zI zi e])) 20 197 true).run zz W= .ok (zY #[zX #[zI zi e],zW true]) W:=by have a:=underlying197;simp[Instr.typeAssert,run_underlying a,go_sem,Result.andThen]
def xL (p:Addr) (w:World):CallsD zz 122 #[.pointer (some p)] .returning w λe d w'=>e=zE (zY #[])/\d= .returning/\zL w w':=by have c:=xR;have f:=ab w (zC #[zI zi 0] 197);refine callsD_of_wpS func122 rfl λa cs b=> ?_;apply wpS_seq;apply wpS_region;simp[wpOpsS,go_sem,recoverD,b,ntmps122,Exit.thenS];refine wpS_of_wp ?_;cases a;simp only at b;simp only[Array.replicate];go_wp2;simp_all [bodyPostS,results,results122]
def ti (p:Addr) (x:Value) (er:Int) (a:List PanicEntry) (w:World) (g:w.cell? p=some x) (h:w.frozen? p=false) (c:p.block<w.heap.size):CallsD zz 122 #[.pointer (some p)] (.panicking ({v:= .iface 197 (zX #[zI zi er]),recovered:=false}::a)) w λe i w'=>e=zE (zY #[])/\i= .panicking ({v:= .iface 197 (zX #[zI zi er]),recovered:=true}::a)/\w'=(w.alloc (zC #[zI zi er] 197)).setCell p (zI zi er):=by
 have f:=rc;have j:(w.alloc (zC #[zI zi er] 197)).cell? p=some x:=by rw[(ab w _).cell c];exact g
 have k:(w.alloc (zC #[zI zi er] 197)).frozen? p=false:=by rw[(ab w _).frozen c];exact h
 refine callsD_of_wpS func122 rfl λb cs d=> ?_;apply wpS_seq;apply wpS_region;simp[wpOpsS,go_sem,recoverD,d,ntmps122,Exit.thenS];refine wpS_of_wp ?_;cases b;simp only at d;simp only[Array.replicate];go_wp2;simp_all [bodyPostS,results,results122]
def bI {w w2:World} {g i:Nat} {u:Value} (h:w.grownBy w2 (some g)):w.grownBy (w2.setCell ⟨g,i,none⟩ u) (some g):=⟨h.os,h.tape,h.output,by simpa [World.setCell] using h.size,λk hk a=>(Eo w2 ⟨g,i,none⟩ u k (λe=>a (by rw[e]))).trans (h.block k hk a)⟩
def au {w w' w2:World} {row:Option Nat} (h:w.grownBy w' row) (a:zL w' w2):w.grownBy w2 row:=⟨a.os.trans h.os,a.tape.trans h.tape,a.output.trans h.output,D2 h.size a.size,λk hk b=>(a.block k (DU hk h.size)).trans (h.block k hk b)⟩
def bJ (row:Option Nat) (w:World):w.grownBy w row:=⟨rfl,rfl,rfl,DE _,λ_ _ _=>rfl⟩
def oE (er:Int):List PanicEntry:=[{v:= .iface 197 (zX #[zI zi er]),recovered:=false}]
def vK (w:World) (g:Nat) (cs:Array Value) (Q:Int->World->Prop) (o:∀W,(callFunc g cs).run zz W= .ok (.enter g cs) W) (l:Calls zz g cs (w.alloc (zC #[zI zi 0] 29)) λe w'=>((e=zE (zY #[])/\Q 0 w')\/∃er,er≠0/\e= .panicked (oE er)/\Q er w')/\Box w' w.heap.size #[zI zi 0] 29):Calls zz 71 #[.func (.func g) #[] cs] w λe w'=>∃(er:Int) (w0:World),e=zE (zI zi er)/\Q er w0/\w0.grownBy w' (some w.heap.size):=by
 have m:=zm
 go_enter_defers func71,ntmps71
 go_wp2;refine l.mono ?_;rintro e w1 ⟨⟨rfl,d⟩|⟨er,p,rfl,d⟩,a⟩
 .have x0:=a.A 0 _ rfl;have j:=a.lt;have k:=a.Z 0;go_wp2;refine leaves_cons (f:=122) (args:=#[.pointer (some ⟨w.heap.size,0,none⟩)]) (by simp) (by simp[go_sem]) ?_;refine(xL ⟨w.heap.size,0,none⟩ _).mono ?_;rintro e n h ⟨rfl,rfl,i⟩;have c:Box (w1.setCell ⟨w.heap.size,0,none⟩ (zI zi 0)) w.heap.size #[zI zi 0] 29:=a.set_ 0 (zI zi 0);have b:=(c.Q i).A 0 _ rfl;simp[Leaves,settle,results,results71,go_sem,b];exact⟨w1,d,au (bI (bJ _ _)) i⟩
 have x0:=a.A 0 _ rfl;have j:=a.lt;have k:=a.Z 0;unfold oE;go_wp2;refine leaves_cons (f:=122) (args:=#[.pointer (some ⟨w.heap.size,0,none⟩)]) (by simp) (by simp[go_sem]) ?_;refine(ti ⟨w.heap.size,0,none⟩ _ er [] _ x0 k j).mono ?_;rintro e n h ⟨rfl,rfl,rfl⟩;have c:Box _ w.heap.size #[zI zi er] 29:=(a.Q (ab w1 (zC #[zI zi er] 197))).set_ 0 (zI zi er);have b:=c.A 0 _ rfl;simp[Leaves,settle,results,results71,go_sem,b];exact⟨w1,d,bI (au (bJ _ _) (ab _ _))⟩
end
section
open Go.RowKit Go.Maps
section
variable {xs:List Nd} {B C b gm:Nat} {S:Nat->Prop} {κ:Type} {T kT:TypeId} {v:Value} {w w1:World}
def Yl (x:Nd):Value:=zX #[zI zi (x.lv:Nat),zI zi (x.lo:Nat),zI zi (x.hi:Nat)]
def wfN {n:Nat} (h:n<=16384):(Lit.int .i64 n).wf=true:=by have a:IntKind.i64.min= -9223372036854775808:=rfl;have b:IntKind.i64.max=9223372036854775807:=rfl;simp[Lit.wf,a,b];omega
def PO (x:Nd):Prop:=x.lv<=16384/\x.lo<=16384/\x.hi<=16384
def φN:eD Nd 95 where
 kv:=Yl
 lit:=λx=>TZ x.lv x.lo x.hi
 ok:=PO
 key:=λx h=>Qr _ _ _ (wfN h.1) (wfN h.2.1) (wfN h.2.2)
 K:=T2
 inj:=λx y h=>by obtain⟨a,b,c⟩:=x;obtain⟨d,e,f⟩:=y;unfold Yl at h;simp only[Value.agg.injEq,Array.mk.injEq,Fm,Value.int.injEq,true_and,FL,Int.ofNat_inj] at h;obtain⟨rfl,rfl,rfl⟩:=h;rfl
def TX (w:World) (B:Nat) (S:Nat->Prop) (b:Nat):Prop:=S b\/(B<=b/\∃cs a,w.heap[b]? =some (zC cs 95 a))
def TX.back (h:dC (TX w B S) w w1) (f:b<w.heap.size) (c:¬TX w B S b):¬TX w1 B S b:=λa=>c (by
 rcases a with a|⟨a,cs,d,e⟩
 .exact zQ a
 exact zO ⟨a,cs,d,(h.2 b f c).symm.trans e⟩)
def TX.trans {w w1 w2:World} (h:dC (TX w B S) w w1) (c:dC (TX w1 B S) w1 w2):dC (TX w B S) w w2:=⟨D2 h.1 c.1,λb a d=>(c.2 b (DU a h.1) (TX.back h a d)).trans (h.2 b a d)⟩
def TX.more {S S':Nat->Prop} (c:∀b,S b->S' b) (h:dC (TX w B S) w w1):dC (TX w B S') w w1:=h.mono λb a=>by
 rcases a with a|a
 .exact zQ (c b a)
 exact zO a
structure BT (w:World) (B g gm:Nat) (s:Bd):Prop where
 hB:B<=g/\B<=gm
 v:∃v,Box w g #[v,.map (some gm),zW s.full] 273/\OG ndR w B B 95 v s.d
 mp:∃l,bR φN w gm l/\zN l<=zN s.d/\∀x:Nd,bZ l x=if x∈s.d then some ((s.d.idxOf x:Nat):Int) else none
def wu (h:OG ndR w B B 95 v xs):∀q,v.ownBlock=some q->TX w B S q:=λq a=>by
 obtain⟨_,uss,_,d,_⟩:=h;rcases d.2 with⟨rfl,_⟩|⟨g,cap,cur,rfl,b,c,_⟩
 .simp[Value.ownBlock] at a
 simp only[Value.ownBlock,DN] at a;subst a;exact zO ⟨b,cur,_,c⟩
def BT.apart {B g gm:Nat} {s:Bd} (h:BT w B g gm s):gm≠g:=λe=>by
 have⟨v,b,_⟩:=h.v;have⟨l,⟨_,n,_,c,a,hm,_⟩,_⟩:=h.mp;unfold Box at b;rw[e,b] at hm;cases hm
def Vb:(zz.info? 95).map (λi=>(i.zero,i.size,i.bytes))=some (some (zX #[zI zi 0,zI zi 0,zI zi 0]),3,24):=by kernel_rfl
def jW {w w':World} {φ:eD κ kT} {l:List (κ×Int)} (h:OG ndR w B C T v xs) (hm:bR φ w gm l) (k:w.grownBy w' (some gm)):OG ndR w' B C T v xs:=by
 obtain⟨f,uss,o,d,i⟩:=h;refine⟨f,uss,o,d.kept k (zO λe=> ?_),λj x m=>i j x m⟩;obtain⟨_,n,_,p,a,c,_⟩:=hm;rcases d.2 with⟨rfl,_⟩|⟨g,cap,cur,rfl,_,b,_⟩
 .simp[Value.ownBlock] at e
 simp only[Value.ownBlock,DN] at e;subst e;rw[b] at c;cases c
def oY {d:List Nd} {n:Nd} {a:List (Nd×Int)} (c:n∉d) (b:∀x:Nd,bZ a x=if x∈d then some ((d.idxOf x:Nat):Int) else none) (x:Nd):bZ ((n,((zN d:Nat):Int))::a) x=if x∈d++[n] then some (((d++[n]).idxOf x:Nat):Int) else none:=by
 rw[cW,List.idxOf_append,b x];by_cases e:n=x
 .subst e;rw[DP rfl,DP (by simp),DK c];simp
 rw[DK e];by_cases hm:x∈d
 .rw[DP hm,DP (by simp[hm]),DP hm]
 rw[DK hm,DK (by simp[hm];exact λh=>e h.symm)]
def wQ {φ:eD κ kT} {l:List (κ×Int)} (h:OG ndR w B C T v xs) (hm:bR φ w gm l):v.ownBlock≠some gm:=λe=>by
 obtain⟨i,uss,k,d,j⟩:=h;obtain⟨_,n,_,f,a,c,_⟩:=hm;rcases d.2 with⟨rfl,_⟩|⟨g,cap,cur,rfl,_,b,_⟩
 .simp[Value.ownBlock] at e
 simp only[Value.ownBlock,DN] at e;subst e;rw[b] at c;cases c
def sx (h:dC (TX w B S) w w1) (c:TX w1 B S b):TX w B S b\/w.heap.size<=b:=by
 rcases FO b w.heap.size with a|a
 .exact zQ (E8 λd=>TX.back h a d c)
 exact zO a
def AX (w:World) (B g gm:Nat) (s:Bd) (l lo hi:Nat) (h:BT w B g gm s) (hd:zN s.d<=8192) (hl:l<=8192) (aH:lo<=8192) (aG:hi<=8192):Calls zz 216 #[zP g,zI zi l,zI zi lo,zI zi hi] w λe w'=>e=zE (zI zi ((cA s l lo hi).2:Nat))/\BT w' B g gm (cA s l lo hi).1/\Below B w w'/\dC (TX w B λb=>b=g\/b=gm) w w':=by
 have P:=h.apart;obtain⟨⟨d,D⟩,⟨v,H,k⟩,lm,J,R,I⟩:=h;obtain⟨A,c,rfl⟩:=k.slice;have ax:PO ⟨l,lo,hi⟩:=⟨by show l<=_;omega,by show lo<=_;omega,by show hi<=_;omega⟩;go_enter func216,ntmps216;by_cases he:lo=hi
 .subst he;have f1:((lo:Int)==(lo:Int))=true:=by simp
  go_wp2;go_ret;have:cA s l lo lo=(s,lo):=by unfold cA;rw[DP rfl]
  rw[this];exact⟨rfl,⟨⟨d,D⟩,⟨_,H,k⟩,lm,J,R,I⟩,DM _ _,dC.refl _ _⟩
 have f1:((lo:Int)==(hi:Int))=false:=by simp;omega
 have⟨f,m,a⟩:=zk3 k J H;have HF:=zh (I ⟨l,lo,hi⟩);have⟨M,HD,HE⟩:=zk3 I hd he;have N:=zh H.lt;have af:=J.lt;clear k J H I hd he ax;go_upto_region 4 with fail;generalize ak:w.alloc _=w1 at*;have⟨n,o⟩:=zB1 ak;clear ak;replace f:=zh (f.Q n);replace m:=zh (m.Q n);replace a:=zh (a.Q n);have E:∀p:Lat w1,(Instr.lookup 271 (.map (some gm)) (zX #[zI zi l,zI zi lo,zI zi hi]) true).run zz p.w= .ok _ p.w:=λp=>(m.Q p.h).look2 (φ:=φN) underlying271 (x:=⟨l,lo,hi⟩) ⟨by show l<=_;omega,by show lo<=_;omega,by show hi<=_;omega⟩;rw[HF] at E;have a0:=o.lat 0 _ rfl;have a1:=o.lat 1 _ rfl;have a2:=o.lat 2 _ rfl;have g1:=a.lat 1 _ rfl;refine az ?_;by_cases hm:(⟨l,lo,hi⟩:Nd)∈s.d
 .simp only[DP hm] at E;have X:Hid (cA s l lo hi=(s,s.d.idxOf ⟨l,lo,hi⟩)):=zh (by unfold cA;rw[DK HE.out,DP hm]);clear hm;generalize s.d.idxOf ⟨l,lo,hi⟩=r at*;repeat(go_big_quiet_step (fail))
  refine D4 ?_;intro w2 L;clear a0 a1 a2 g1 E;replace⟨f,m,a,o,n⟩:=zb5 f m a o n L;clear L;go_wp2;go_ret;rw[X];exact⟨rfl,⟨⟨d,D⟩,⟨_,a,f⟩,lm,m,R,M⟩,n.mono (D2 d (Nat.le_of_lt N)),(dC.refl _ _).Q n⟩
 simp only[DK hm] at E;repeat(go_big_quiet_step (fail))
 refine D4 ?_;intro w2 L;clear a0 a1 a2 g1 E;replace⟨f,m,a,o,n⟩:=zb5 f m a o n L;clear L;by_cases ac:8192<=zN s.d
 .have X:Hid (cA s l lo hi=(⟨s.d,true⟩,0)):=zh (by unfold cA;rw[DK HE.out,DK hm,DP ac]);have g0:((zN s.d:Int)≥8192):=by omega
  have Q:=N.out;obtain⟨Y,aB⟩:=zd2 a 0 2;have av:=a.Z 2;have Z:=a.lt;clear hm;go_wp2;go_ret;rw[X];exact⟨rfl,⟨⟨d,D⟩,⟨_,a.set_ 2 (zW true),f.setBox a (by decide) d (by decide) 2 _⟩,lm,m.grown (bI (bJ _ _)) (λe=>P (by simpa using e.symm)),R,M⟩,
   (n.mono (D2 d (Nat.le_of_lt Q))).setCell (p:=⟨g,2,none⟩) d _,((dC.refl _ _).Q n).set (p:=⟨g,2,none⟩) (zQ (zQ (zQ rfl))) _⟩
 have X:Hid (cA s l lo hi=(⟨s.d++[⟨l,lo,hi⟩],s.full⟩,zN s.d)):=zh (by unfold cA;rw[DK HE.out,DK hm,DK ac]);have g0:¬((zN s.d:Int)≥8192):=by omega
 have Q:=N.out;have an:=zh hm;have Y:=za a 0;have Z:=a.lt;clear hm;go_upto_region 10 with fail;have aC:=af;refine aj 10 ?_;have l0:=a.lat 0 _ rfl;have l1:=a.lat 1 _ rfl;have a0:=o.lat 0 _ rfl;have a1:=o.lat 1 _ rfl;have a2:=o.lat 2 _ rfl;simp only[Ee,El,Ei,D5];repeat(go_big_quiet_step (fail))
 refine D4 ?_;intro w3 L;clear l0 l1 a0 a1 a2;replace⟨f,m,a,o,n⟩:=zb5 f m a o n L;clear L;have⟨G,hu,ad,t⟩:=m.upd (φ:=φN) underlying271 (x:=⟨l,lo,hi⟩) ⟨by show l<=_;omega,by show lo<=_;omega,by show hi<=_;omega⟩ (i:=(zN s.d:Nat)) (wfN (by omega)) (by unfold maxLen;omega);have aA:(Instr.mapUpdate 271 (.map (some gm)) (zX #[zI zi l,zI zi lo,zI zi hi]) (zI zi (zN s.d:Nat))).run zz w3= .ok () G:=hu;go_upto_region 11 with fail;have W:g≠gm:=λe=>P e.symm;have aI:=n.size;have BB:Hid (Below B w G):=zh (aN (n.mono (D2 d (Nat.le_of_lt Q))) (by omega) D t);have KK:Hid (dC (TX w B λb=>b=g\/b=gm) w G):=zh (((dC.refl _ _).Q n).grown t (λq hq=>by
  simp only[DN] at hq;exact zQ (zQ (zO hq.symm))));replace a:=zh (aV a t W);replace o:=zh (aV o t (by omega));replace f:=zh (jW f m t);replace m:=zh ad;have aE:=t.size;clear ad t hu aA;have⟨i0,hi,ag,ah,ai⟩:=EX Vb;have⟨HI,ao,ap,aq⟩:=zk4 hi ag ah ai;clear hi ag ah ai;refine zhd (YF) (cY _) (λhS=> ?_);refine zta 0 (zP g) rfl ?_;simp only[Act.put,E1,Fg,List.set_cons_succ];refine zta 1 (zP g) rfl ?_;simp only[Act.put,E1,Fg,List.set_cons_succ];refine zta 2 (zP g) rfl ?_;simp only[Act.put,E1,Fg,List.set_cons_succ];refine zta 3 (zP g) rfl ?_;simp only[Act.put,E1,Fg,List.set_cons_succ];have x0:=za a 0;obtain⟨y0,y1,y2⟩:=zc3 o;have V:=ab G (zC #[zI zi l,zI zi lo,zI zi hi] 95);have z0:=(a.Q V).A 0 _ rfl;refine Am (i:=4) (j:=5) (by kernel_rfl) rfl rfl ?oa ?ob;case' oa=>
  go_wp2;refine⟨rfl,cY _, ?_⟩;refine ay 5 rfl ?_;go_wp2;refine⟨rfl,cY _, ?_⟩;refine ay 6 rfl ?_;go_wp2;refine⟨rfl,cY _, ?_⟩
 case' ob=>go_wp2;refine⟨rfl,cY _, ?_⟩;refine Am (i:=4) (j:=6) (by kernel_rfl) rfl rfl ?oc ?od
 case' oc=>go_wp2;refine⟨rfl,cY _, ?_⟩;refine ay 6 rfl ?_;go_wp2;refine⟨rfl,cY _, ?_⟩
 case' od=>go_wp2;refine⟨rfl,cY _, ?_⟩;refine ay 4 rfl ?_;go_wp2;refine⟨rfl,cY _, ?_⟩
 all_goals
  have au:Hid (Rs ndR (G.alloc (zC #[zI zi l,zI zi lo,zI zi hi] 95)).drew (zU (some ⟨G.heap.size,0,none⟩) 1 1) [⟨l,lo,hi⟩] (Ty (G.alloc (zC #[zI zi l,zI zi lo,zI zi hi] 95)).drew B ndR.ts)):=
   zh (((Rs.one (φ:=ndR) (F:=λ_=>False) (us:=ndL ⟨l,lo,hi⟩) rfl 95).Q (ae _)).mono λ_ h=>h.elim);have y:Hid (zL G (G.alloc (zC #[zI zi l,zI zi lo,zI zi hi] 95)).drew):=zh (aa V (ae _));generalize(G.alloc (zC #[zI zi l,zI zi lo,zI zi hi] 95)).drew=w5 at*;clear hS x0 y0 y1 y2 z0;replace f:=zh (f.Q y);replace m:=zh (m.Q y);replace a:=zh (a.Q y);have aF:=y.size;replace KK:=zh (KK.Q y);replace BB:=zh (BB.trans (y.mono (by have:=BB.size;omega)));refine ay 7 rfl ?_;refine aD (φ:=ndR) (T:=95) (B:=B) (C:=B) (xs:=s.d) (ys:=[⟨l,lo,hi⟩]) rfl _ _ 36 rfl i0 (zX #[zI zi 0,zI zi 0,zI zi 0]) 24 underlying36 HI ao ap aq rfl rfl f (zU (some ⟨G.heap.size,0,none⟩) 1 1) rfl au ?c1 ?c2 ?c3 ?_;case c1=>simp only[Ej];omega
  case c2=>simp only[Ej];unfold maxLen;omega
  case c3=>omega
  intro v9 w6 k hg;have z:=zh (f.boxKept hg a (zQ (by decide)));have am:=zh (m.grown hg (wQ f m));have al:=zh (f.belowG hg BB (by omega) (DE _));have ar:=zh (KK.grown hg (λq hq=>sx KK (wu f q hq)));refine(show noQ _ _ _ _ from⟨rfl,cY _, ?_⟩);obtain⟨S,U,rfl⟩:=k.slice;have⟨K,HK⟩:=zvh ((s.d++[(⟨l,lo,hi⟩:Nd)]).length);have aw:Hid (K=zN s.d+1):=zh (by rw[HK];simp);rw[<-HK] at k⊢;have c0:=z.A 0 _ rfl;have cz:=z.Z 0;have cl:=z.lt;clear hg;refine ay 8 rfl ?_;go_wp2;refine⟨rfl,cY _, ?_⟩;refine ay 9 rfl ?_;go_wp2;refine⟨rfl,cY _, ?_⟩;refine ay 10 rfl ?_;go_wp2;refine⟨rfl,cY _,zdn ?_⟩;have XN:=zh (z.set_ 0 (zU S K U));have ON:=zh (k.setBox z (by decide) d (by decide) 0 (zU S K U));have MN:=zh (am.grown (bI (i:=0) (u:=zU S K U) (bJ (some g) w6)) (λe=>P (by simpa using e.symm)));have BN:=zh (al.setCell (p:=⟨g,0,none⟩) d (zU S K U));have KN:=zh (ar.set (p:=⟨g,0,none⟩) (zQ (zQ (zQ rfl))) (zU S K U));clear k c0 cz;generalize w6.setCell ⟨g,0,none⟩ (zU S K U)=w7 at*;have c0:=za XN 0;have e1:((K:Int)-1)=(zN s.d:Nat):=by have:=aw.out;omega
  go_wp2;go_ret;rw[X];refine⟨rfl,⟨⟨d,D⟩,⟨_,XN, ?_⟩,_,MN,by simp only[DF,DI,D8];omega,λx=>oY an M x⟩,BN,KN⟩;have:=ON.out;rwa [HK] at this
end
section
variable {cs:Array Value} {s:Bd} {B a g gm:Nat} {S:Nat->Prop} {κ:Type} {T kT:TypeId} {w w':World}
def uu (s:Bd) (l lo hi:Nat) (a:zN s.d<=8192) (b:lo<=8192):(cA s l lo hi).1.d.length<=8192/\(cA s l lo hi).2<=8192:=by
 unfold cA;split
 .exact⟨a,b⟩
 split
 .rename_i h;exact⟨a,D2 (Nat.le_of_lt (List.idxOf_lt_length_of_mem h)) a⟩
 split
 .exact⟨a,DH _⟩
 exact⟨by simp;omega,a⟩
theorem mU (op:Bool->Bool->Bool->Bool):∀(k:Nat) (s:Ap3) (x:T3),zN s.b.d<=8192->(∀p∈s.known,p.2<=8192)→
  (aS op k s x).1.b.d.length<=8192/\(∀p∈(aS op k s x).1.known,p.2<=8192)/\(aS op k s x).2<=8192
 |0,s,x,hd,hk=>⟨hd,hk,DH _⟩
 |k+1,s,x,hd,hk=>by
  unfold aS;split
  .exact⟨hd,hk,DH _⟩
  split
  .exact⟨hd,hk,by unfold bN;split<;>omega⟩
  cases hkn:jv s.known x with
  |some i=>exact⟨hd,hk,hk _ (pX hkn)⟩
  |none=>
   simp only;have⟨b,c,d⟩:=mU op k s (bL s.b.d x (lv3 s.b.d x) false) hd hk;generalize aS op k s (bL s.b.d x (lv3 s.b.d x) false)=r1 at*;have⟨e,f,g⟩:=mU op k r1.1 (bL r1.1.b.d x (lv3 s.b.d x) true) b c;generalize aS op k r1.1 (bL r1.1.b.d x (lv3 s.b.d x) true)=r2 at*;have⟨c1,c2⟩:=uu r2.1.b (lv3 s.b.d x) r1.2 r2.2 e d;refine⟨c1,λp a=> ?_,c2⟩;rcases DS.1 a with rfl|a
   .exact c2
   exact f p a
theorem gF (op:Bool->Bool->Bool->Bool):∀(k:Nat) (s:Ap3) (x:T3),(aS op k s x).1.known.length+1<=zN s.known+2^k
 |0,s,x=>DE _
 |k+1,s,x=>by
  have c:1<=2^k:=Nat.one_le_two_pow;have d:2^(k+1)=2^k+2^k:=by rw[FB];omega
  unfold aS;split
  .show zN s.known+1<=_;omega
  split
  .show zN s.known+1<=_;omega
  cases hkn:jv s.known x with
  |some i=>show zN s.known+1<=_;omega
  |none=>simp only[DF];have a:=gF op k s (bL s.b.d x (lv3 s.b.d x) false);generalize aS op k s (bL s.b.d x (lv3 s.b.d x) false)=r1 at*;have b:=gF op k r1.1 (bL r1.1.b.d x (lv3 s.b.d x) true);omega
def kvT (x:T3):Value:=zX #[zI zi (x.f:Nat),zI zi (x.g:Nat),zI zi (x.h:Nat)]
def φT:eD T3 152 where
 kv:=kvT
 lit:=λx=>TZ x.f x.g x.h
 ok:=λx=>x.f<=16384/\x.g<=16384/\x.h<=16384
 key:=λx h=>Cl _ _ _ (wfN h.1) (wfN h.2.1) (wfN h.2.2)
 K:=Qs
 inj:=λx y h=>by obtain⟨a,b,c⟩:=x;obtain⟨d,e,f⟩:=y;unfold kvT at h;simp only[Value.agg.injEq,Array.mk.injEq,Fm,Value.int.injEq,true_and,FL,Int.ofNat_inj] at h;obtain⟨rfl,rfl,rfl⟩:=h;rfl
def knI (l:List (T3×Nat)):List (T3×Int):=l.map λp=>(p.1,(p.2:Int))
theorem uJ (x:T3):∀(l:List (T3×Nat)),bZ (knI l) x=(jv l x).map λi=>(i:Int)
 |[]=>rfl
 |p::l=>by
  show bZ ((p.1,(p.2:Int))::knI l) x=_;rw[cW,uJ x l];unfold jv;by_cases h:p.1=x
  .rw[DP h,List.find?_cons_of_pos (by simpa using h)];rfl
  rw[DK h,List.find?_cons_of_neg (by simpa using h)]
def Cc (a b c m:Nat) (h:m=min (min a b) c) (ts:Array TypeId) (t:TypeId) (W:World):(Builtin.min_ ts t #[zI zi a,zI zi b,zI zi c]).run zz W= .ok (zI zi m) W:=by
 have e:(Builtin.min_ ts t #[zI zi a,zI zi b,zI zi c]).run zz W= .ok (zI zi (if(c:Int)<(if(b:Int)<a then(b:Int) else a) then(c:Int) else(if(b:Int)<a then(b:Int) else a))) W:=by simp[Builtin.min_,Builtin.min2]
 rw[e];congr 2;subst h;split<;>split<;>omega
structure OT (w:World) (B g gm go gk:Nat) (fv:Value) (s:Ap3):Prop where
 hB:B<=go/\B<=gk/\gk≠gm
 b:BT w B g gm s.b
 o:Box w go #[zP g,fv,.map (some gk)] 214
 mp:bR φT w gk (knI s.known)
 dl:zN s.b.d<=8192
 kl:∀p∈s.known,p.2<=8192
def BT.row (h:BT w B g gm s) (f:0<zN s.d):∃b o c,Box w g #[zU (some ⟨b,o,none⟩) (zN s.d) c,.map (some gm),zW s.full] 273/\Rs ndR w (zU (some ⟨b,o,none⟩) (zN s.d) c) s.d ah/\b<w.heap.size∧∀k,k<zN s.d->w.cell? ⟨b,o+k*3,none⟩=some (zI zi (lvA s.d k:Nat)):=by have⟨v,j,m⟩:=h.v;have a:=m.any;obtain⟨A,c,rfl,p,d⟩:=a.nds;obtain⟨b,o,rfl,l,_⟩:=d 0 f;refine⟨b,o,c,j,a,l,λk hk=> ?_⟩;have⟨n,q,e,_,i,_⟩:=d k hk;simp only[DN,FK,FL] at e;obtain⟨rfl,rfl⟩:=e;exact i
def OT.Q {B g gm go d:Nat} {c:Value} {s:Ap3} (h:OT w B g gm go d c s) (a:zL w w'):OT w' B g gm go d c s:=by obtain⟨e,⟨f,⟨v,i,j⟩,p,k,l⟩,m,n,o,b⟩:=h;exact⟨e,⟨f,⟨v,i.Q a,j.Q a⟩,p,k.Q a,l⟩,m.Q a,n.Q a,o,b⟩
instance {w w':World} {B g gm go gk:Nat} {fv:Value} {s:Ap3}:Zm w w' (OT w B g gm go gk fv s) (OT w' B g gm go gk fv s):=⟨λhb h=>OT.Q h hb⟩
def mK (w:World) (s:Ap3) (B g gm go k F G H:Nat) (o:Value) (h:OT w B g gm go k o s) (a:s.b.full=true):Calls zz 139 #[zP go,zX #[zI zi F,zI zi G,zI zi H]] w λe w'=>e=zE (zI zi 0)/\OT w' B g gm go k o s/\Below B w w'/\dC (TX w B λb=>b=g\/b=gm\/b=k) w w':=by have q:=h.o.lt;have p:=h.hB.1;have j:=zh h.o;obtain⟨v,d, -⟩:=h.b.v;rw[a] at d;have⟨i,f⟩:=zk2 d h;go_enter func139,ntmps139;go_upto_region 1 with fail;generalize l:w.alloc _=w1 at*;have⟨c,r⟩:=zB1 l;replace j:=zh (j.Q c);replace i:=zh (i.Q c);replace f:=zh (f.Q c);have n:=za j 0;have m:=za i 2;go_wp2;go_ret;exact⟨rfl,f,c.mono (by omega),(dC.refl _ _).Q c⟩
def kN (c:Box w a cs T) (h:dC (TX w B S) w w') (e:¬S a) (f:T≠95):Box w' a cs T:=by
 refine(h.2 a c.lt λb=> ?_).trans c;rcases b with b|⟨_,d,g,b⟩
 .exact e b
 unfold Box at c;rw[c] at b;simp only[DN,Fk] at b;exact f b.2.1
def Cf {φ:eD κ kT} {l:List (κ×Int)} (f:bR φ w a l) (h:dC (TX w B S) w w') (m:¬S a):bR φ w' a l:=by
 have d:=f.lt;obtain⟨j,n,k,i,b,e,F,o⟩:=f;refine⟨j,n,k,i,b,(h.2 a d λc=> ?_).trans e,F,o⟩;rcases c with c|⟨_,g,p,c⟩
 .exact m c
 rw[e] at c;cases c
def xV (op:Bool->Bool->Bool->Bool) (k:Nat) (s:Ap3) (x:T3) (L:Nat) (b:Zh op s) (f:In3 s.b.d x) (o:L=lv3 s.b.d x) (m:L≠20) (n:21<=k+1+L):(Zh op s/\In3 s.b.d (bL s.b.d x L false)/\21<=k+lv3 s.b.d (bL s.b.d x L false))∧In3 (aS op k s (bL s.b.d x L false)).1.b.d x/\((aS op k s (bL s.b.d x L false)).1.b.full=false->Zh op (aS op k s (bL s.b.d x L false)).1/\In3 (aS op k s (bL s.b.d x L false)).1.b.d (bL (aS op k s (bL s.b.d x L false)).1.b.d x L true)/\21<=k+lv3 (aS op k s (bL s.b.d x L false)).1.b.d (bL (aS op k s (bL s.b.d x L false)).1.b.d x L true)):=by
 subst o;have c:=b.dv;have a:lv3 s.b.d x<20:=by have:=pR c f;omega
 have⟨h,r,t⟩:=j6 c f a false;have g:=mS op k s (bL s.b.d x (lv3 s.b.d x) false) (λ_=>⟨b,h,by omega⟩);generalize aS op k s (bL s.b.d x (lv3 s.b.d x) false)=r1 at g⊢;have⟨q,e1⟩:=g.ext;have e:In3 r1.1.b.d x:=by rw[e1];exact f.app
 refine⟨⟨b,h,by omega⟩,e,λp=> ?_⟩;have⟨j,v⟩:=g.ok p;have d:lv3 r1.1.b.d x=lv3 s.b.d x:=by rw[e1];exact gR f
 have⟨i,l,u⟩:=j6 j.dv e (by rw[d];exact a) true;rw[d] at i l;exact⟨j,i,by omega⟩
def fp {φ:eD κ kT} {a b:Nat} {l:List (κ×Int)} (f:bR φ w a l) (h:Box w b cs T):a≠b:=λe=>by
 obtain⟨i,n,j,g,c,d,F,k⟩:=f;unfold Box at h;rw[e,h] at d;cases d
def BT.Q (h:BT w B g gm s) (a:zL w w'):BT w' B g gm s:=by obtain⟨b,⟨v,c,d⟩,i,e,f⟩:=h;exact⟨b,⟨v,c.Q a,d.Q a⟩,i,e.Q a,f⟩
instance {w w':World} {B g gm:Nat} {s:Bd}:Zm w w' (BT w B g gm s) (BT w' B g gm s):=⟨λhb h=>BT.Q h hb⟩
def BT.grownM {φ:eD κ kT} {l:List (κ×Int)} (h:BT w B g gm s) (hm:bR φ w a l) (c:w.grownBy w' (some a)) (d:g≠a) (b:gm≠a):BT w' B g gm s:=by obtain⟨f,⟨v,i,j⟩,n,k,m⟩:=h;exact⟨f,⟨v,aV i c d,jW j hm c⟩,n,k.grown c (λe=>b (by simpa using e.symm)),m⟩
def OT.apart {B g gm go gk:Nat} {b:Value} {s:Ap3} (h:OT w B g gm go gk b s):go≠g/\go≠gm/\gk≠g/\gk≠gm/\go≠gk:=by have⟨v,a,_⟩:=h.b.v;have⟨c,hm,_⟩:=h.b.mp;exact⟨af h.o a,(fp hm h.o).symm,fp h.mp a,h.hB.2.2,(fp h.mp h.o).symm⟩
theorem Rx (op:Bool->Bool->Bool->Bool) (J:FuncId) (HV:∀W p q r,Calls zz J #[zW p,zW q,zW r] W (zR (zW (op p q r)) W))
  (eg:∀(p q r:Bool) (W:World),(callFunc J #[zW p,zW q,zW r]).run zz W= .ok (.enter J #[zW p,zW q,zW r]) W) (B g gm go K:Nat):∀(k:Nat) (w:World) (s:Ap3) (x:T3),OT w B g gm go K (.func (.func J) #[] #[]) s→
  (s.b.full=false->Zh op s/\In3 s.b.d x/\21<=k+lv3 s.b.d x)->zN s.known+2^k<=2^22→
  Calls zz 139 #[zP go,zX #[zI zi (x.f:Nat),zI zi (x.g:Nat),zI zi (x.h:Nat)]] w λe w'=>
   e=zE (zI zi ((aS op k s x).2:Nat))/\OT w' B g gm go K (.func (.func J) #[] #[]) (aS op k s x).1/\Below B w w'/\dC (TX w B λb=>b=g\/b=gm\/b=K) w w':=by
 intro k;induction k with
 |zero=>
  intro w s x h hp aa;cases hfull:s.b.full
  .have⟨h1,h2,h3⟩:=hp hfull;have:=pR h1.dv h2;omega
  refine zK (mK w s B g gm go K x.f x.g x.h _ h hfull) λw' h1=> ?_;exact⟨rfl,h1⟩
 |succ k ih=>
  intro w s x h hp aa;cases hfull:s.b.full;case true=>
   refine zK (mK w s B g gm go K x.f x.g x.h _ h hfull) λw' h1=> ?_;have:aS op (k+1) s x=(s,0):=by unfold aS;rw[DP hfull]
   rw[this];exact⟨rfl,h1⟩
  have Y:aS op (k+1) s x=_:=aS.eq_2 op s x k;rw[DK (by rw[hfull];decide)] at Y;have⟨au,aU,an⟩:=hp hfull;clear hp;obtain⟨F,G,H⟩:=x;simp only;have h2:=au.dv.two;have a8:=h.o.lt;have a6:=h.hB.1;have z:=zh h.o;obtain⟨hF,hG,hH⟩:=aU;simp only at hF hG hH;have⟨b,o,c,R,av,ao,Z⟩:=h.b.row (by omega);rw[hfull] at R;have v:=zh R;have aI:=R.lt;have ad:=h.mp.lt;have ae:gm<w.heap.size:=by obtain⟨lm,hm,_⟩:=h.b.mp;exact hm.lt
  have I:Hid (g<w.heap.size/\K<w.heap.size/\gm<w.heap.size):=zh ⟨aI,ad,ae⟩;clear aI ad ae;have af:Hid (go≠g/\go≠gm/\K≠g/\K≠gm/\go≠K):=zh h.apart;have aP:=zh h.hB;have⟨u,a⟩:=zk2 h av;have aA:Hid (In3 s.b.d ⟨F,G,H⟩):=zh ⟨hF,hG,hH⟩;have⟨ai,t,a3,ax,IH⟩:=zk5 au Y hfull an ih;have y0:=Z F hF;have y1:=Z G hG;have y2:=Z H hH;have HL:Hid (lv3 s.b.d ⟨F,G,H⟩=min (min (lvA s.b.d F) (lvA s.b.d G)) (lvA s.b.d H)):=zh rfl;have hd:=h.dl;have⟨N,HN⟩:=zvh (zN s.b.d);rw[<-HN] at R hF hG hH hd h2 av v a;have q0:(F:Int)<(N:Int):=by omega
  have q1:(G:Int)<(N:Int):=by omega
  have q2:(H:Int)<(N:Int):=by omega
  have p0:=zn0 F;have p1:=zn0 G;have p2:=zn0 H;have⟨L,ah⟩:=zvh (lv3 s.b.d ⟨F,G,H⟩);rw[<-ah] at Y HL t ax an;generalize lvA s.b.d F=lF,lvA s.b.d G=lG,lvA s.b.d H=lH at*;clear h R av Z au Y hfull an ih;go_enter func139,ntmps139;go_upto_region 1 with fail;generalize aO:w.alloc _=w1 at*;have⟨j,l⟩:=zB1 aO;clear aO;replace z:=zh (z.Q j);replace v:=zh (v.Q j);replace u:=zh (u.Q j);replace a:=zh (a.Q j);have aZ:=za z 0;have aY:=za v 2;go_upto_region 3 with fail;refine aj 36 ?_;have o0:=z.lat 0 _ rfl;have g0:=v.lat 0 _ rfl;have M:=l.lat 0 _ rfl;have P:=l.lat 1 _ rfl;have Q:=l.lat 2 _ rfl;have r0:∀p:Lat w1,p.w.cell? ⟨b,o+F*3,none⟩=some (zI zi lF):=λp=>((j.trans (p.h.mono j.size)).cell ao).trans y0;have f:∀p:Lat w1,p.w.cell? ⟨b,o+G*3,none⟩=some (zI zi lG):=λp=>((j.trans (p.h.mono j.size)).cell ao).trans y1;have r2:∀p:Lat w1,p.w.cell? ⟨b,o+H*3,none⟩=some (zI zi lH):=λp=>((j.trans (p.h.mono j.size)).cell ao).trans y2;simp only[Ee,El,Ei,D5];repeat(go_big_quiet_step (fail))
  refine D4 ?_;intro w2 d;clear o0 g0 M P Q r0 f r2 y0 y1 y2 q0 q1 q2 p0 p1 p2;replace⟨z,v,u,l,a⟩:=zb5 z v u l a d;replace j:=zb j d;clear d;have aK:=Cc lF lG lH L HL;go_upto_if 56 with fail;clear aK;by_cases A:L=20
  .have f1:((L:Int)==20)=true:=by rw[A];rfl
   have HR:Hid (aS op (k+1) s ⟨F,G,H⟩=(s,bN (op (F==1) (G==1) (H==1)))):=zh (by rw[t,DP A]);have e1:((F:Int)==1)=(F==1):=by cases h:F==1<;>simp at h⊢<;>omega
   have e2:((G:Int)==1)=(G==1):=by cases h:G==1<;>simp at h⊢<;>omega
   have e3:((H:Int)==1)=(H==1):=by cases h:H==1<;>simp at h⊢<;>omega
   generalize(F==1)=b1,(G==1)=b2,(H==1)=b3 at*;clear A;go_upto_region 5 with fail;refine az ?_;have o1:=z.lat 1 _ rfl;have M:=l.lat 0 _ rfl;have P:=l.lat 1 _ rfl;have Q:=l.lat 2 _ rfl;have CV:∀p:Lat w2,Calls zz J #[zW b1,zW b2,zW b3] p.w _:=λp=>aG (HV p.w b1 b2 b3);have ec:=eg b1 b2 b3;repeat(go_big_quiet_step (with_reducible exact CV _))
   refine D4 ?_;intro w3 d;clear o1 M P Q ec e1 e2 e3 f1;replace⟨z,v,u,l,a⟩:=zb5 z v u l a d;replace j:=zb j d;clear d;generalize op b1 b2 b3=q at*;cases q
   .go_wp2;go_ret;rw[HR];exact⟨rfl,u,j.mono (by omega),(dC.refl _ _).Q j⟩
   go_wp2;go_ret;rw[HR];exact⟨rfl,u,j.mono (by omega),(dC.refl _ _).Q j⟩
  have f1:((L:Int)==20)=false:=by simp;omega
  have aw:=zh A;go_upto_region 8 with fail;clear f1;have T:∀p:Lat w2,(Instr.lookup 212 (.map (some K)) (zX #[zI zi F,zI zi G,zI zi H]) true).run zz p.w= .ok _ p.w:=λp=>(u.mp.Q p.h).look2 (φ:=φT) underlying212 (x:=⟨F,G,H⟩) ⟨by show F<=_;omega,by show G<=_;omega,by show H<=_;omega⟩;rw[uJ] at T;have o2:=z.lat 2 _ rfl;have M:=l.lat 0 _ rfl;have P:=l.lat 1 _ rfl;have Q:=l.lat 2 _ rfl;refine az ?_;cases hkn:jv s.known ⟨F,G,H⟩ with
  |some i=>
   simp only[hkn,ES] at T;have HR:Hid (aS op (k+1) s ⟨F,G,H⟩=(s,i)):=zh (by rw[t,DK aw.out,hkn]);clear hkn A;repeat(go_big_quiet_step (fail))
   refine D4 ?_;intro w3 d;clear o2 M P Q T;replace⟨z,v,u,l,a⟩:=zb5 z v u l a d;replace j:=zb j d;clear d;go_wp2;go_ret;rw[HR];exact⟨rfl,u,j.mono (by omega),(dC.refl _ _).Q j⟩
  |none=>
   simp only[hkn,Option.map_none] at T;rw[DK A,hkn] at t;simp only at t;clear hkn A;repeat(go_big_quiet_step (fail))
   refine D4 ?_;intro w3 d;clear o2 M P Q T;replace⟨z,v,u,l,a⟩:=zb5 z v u l a d;replace j:=zb j d;clear d;have⟨⟨aW,ab,ac⟩,nb,nc⟩:=xV op k s ⟨F,G,H⟩ L ai aA ah aw ax;have al:=gF op k s (bL s.b.d ⟨F,G,H⟩ L false);have⟨u1,u2,u3⟩:=mU op k s (bL s.b.d ⟨F,G,H⟩ L false) u.dl u.kl;have aM:2^(k+1)=2^k+2^k:=by rw[FB];omega
   rw[aM] at aa;have ak:=λW m=>IH W s (bL s.b.d ⟨F,G,H⟩ L false) m;unfold bL at ak ab ac nb nc t al u1 u2 u3;simp only at ak ab ac nb nc t al u1 u2 u3;have CF:=fun(W:World) (m:zL w3 W)=>kL W g (zU (some ⟨b,o,none⟩) N c) (.map (some gm)) false ⟨gm,rfl⟩ s.b.d (v.Q m) (a.Q m) (by rw[<-HN];exact hd) F L (by rw[<-HN];exact hF) false;have CG:=fun(W:World) (m:zL w3 W)=>kL W g (zU (some ⟨b,o,none⟩) N c) (.map (some gm)) false ⟨gm,rfl⟩ s.b.d (v.Q m) (a.Q m) (by rw[<-HN];exact hd) G L (by rw[<-HN];exact hG) false;have CH:=fun(W:World) (m:zL w3 W)=>kL W g (zU (some ⟨b,o,none⟩) N c) (.map (some gm)) false ⟨gm,rfl⟩ s.b.d (v.Q m) (a.Q m) (by rw[<-HN];exact hd) H L (by rw[<-HN];exact hH) false;generalize cZ s.b.d F L false=h1,cZ s.b.d G L false=h2',cZ s.b.d H L false=h3 at*;have NA:Hid _:=zh ab;have NB:Hid _:=zh nb;have NC:Hid _:=zh nc;have⟨KL,ag,U1,U2,U3,aR⟩:=zk6 al aa u1 u2 u3 ac;have IA:=zh ak;clear aW ab ac nb nc aa u1 u2 u3 aM;have LF:=fun(p:Lat w3)=>aG (CF p.w p.h);have LG:=fun(p:Lat w3)=>aG (CG p.w p.h);have LH:=fun(p:Lat w3)=>aG (CH p.w p.h);go_upto_region 11 with fail;refine aj 26 ?_;have o0:=z.lat 0 _ rfl;have M:=l.lat 0 _ rfl;have P:=l.lat 1 _ rfl;have Q:=l.lat 2 _ rfl;simp only[Ee,El,Ei,D5];repeat(go_big_quiet_step (first|with_reducible exact LF _|with_reducible exact LG _|with_reducible exact LH _))
   refine D4 ?_;intro w4 d;clear o0 M P Q;replace⟨z,v,u,l,a⟩:=zb5 z v u l a d;replace j:=zb j d;clear d;go_wp2;refine(IA w4 u (λ_=>⟨ai,NA,aR⟩) (by have:=ag.out;have:=Nat.one_le_two_pow (n:=k);omega)).mono ?_;rintro e w5 ⟨rfl,ar,aD,ap⟩;have V:=zh ar;have BB:=zh ((j.mono (show B<=w.heap.size by omega)).trans aD);have KK:Hid (dC (TX w B λb=>b=g\/b=gm\/b=K) w w5):=zh (TX.trans ((dC.refl _ _).Q j) ap);have a9:=BB.size;have y:=zh (kN l ap (by have:=I.out;omega) (by decide));have aT:=zh ar.o;have bb:L<=20:=by rw[ah];exact pR ai.dv aA
   clear ar aD ap;have a5:=λf=>gF op k f ⟨h1,h2',h3⟩;generalize aS op k s ⟨h1,h2',h3⟩=f at*;have aQ:=λW m=>IH W f.1 ⟨cZ f.1.b.d F L true,cZ f.1.b.d G L true,cZ f.1.b.d H L true⟩ m NC;have KM:=zh (gF op k f.1 ⟨cZ f.1.b.d F L true,cZ f.1.b.d G L true,cZ f.1.b.d H L true⟩);have⟨u1,u2,u3⟩:=mU op k f.1 ⟨cZ f.1.b.d F L true,cZ f.1.b.d G L true,cZ f.1.b.d H L true⟩ U1 U2;have⟨V1,V2,V3⟩:=zk3 u1 u2 u3;obtain⟨nF,nG,nH⟩:=NB;simp only at nF nG nH;obtain⟨b5,o5,c5,C,E, -, -⟩:=V.b.row (by omega);have CF:=fun(W:World) (m:zL w5 W)=>kL W g (zU (some ⟨b5,o5,none⟩) f.1.b.d.length c5) (.map (some gm)) f.1.b.full ⟨gm,rfl⟩ f.1.b.d (C.Q m) (E.Q m) U1 F L nF true;have CG:=fun(W:World) (m:zL w5 W)=>kL W g (zU (some ⟨b5,o5,none⟩) f.1.b.d.length c5) (.map (some gm)) f.1.b.full ⟨gm,rfl⟩ f.1.b.d (C.Q m) (E.Q m) U1 G L nG true;have CH:=fun(W:World) (m:zL w5 W)=>kL W g (zU (some ⟨b5,o5,none⟩) f.1.b.d.length c5) (.map (some gm)) f.1.b.full ⟨gm,rfl⟩ f.1.b.d (C.Q m) (E.Q m) U1 H L nH true;clear nF nG nH u1 u2 u3 C E;generalize cZ f.1.b.d F L true=j1,cZ f.1.b.d G L true=j2,cZ f.1.b.d H L true=j3 at*;have IA:=zh aQ;have LF:=fun(p:Lat w5)=>aG (CF p.w p.h);have LG:=fun(p:Lat w5)=>aG (CG p.w p.h);have LH:=fun(p:Lat w5)=>aG (CH p.w p.h);go_upto_region 12 with fail;refine aj 26 ?_;have o0:=aT.lat 0 _ rfl;have M:=y.lat 0 _ rfl;have P:=y.lat 1 _ rfl;have Q:=y.lat 2 _ rfl;simp only[Ee,El,Ei,D5];repeat(go_big_quiet_step (first|with_reducible exact LF _|with_reducible exact LG _|with_reducible exact LH _))
   refine D4 ?_;intro w6 d;clear o0 M P Q;replace⟨y,V⟩:=zb2 y V d;replace BB:=zh (BB.trans (d.mono (by have:=I.out;omega)));replace KK:=zb KK d;clear d;go_wp2;refine(IA w6 V (by have:=KL.out;have:=ag.out;have:=Nat.one_le_two_pow (n:=k);omega)).mono ?_;rintro e w7 ⟨rfl,aL,aE,aq⟩;have X:=zh aL;replace BB:=zh (BB.trans aE);replace KK:=zh (TX.trans KK aq);replace y:=zh (kN y aq (by have:=I.out;omega) (by decide));clear aL aE aq;generalize aS op k f.1 ⟨j1,j2,j3⟩=r2 at*;have aB:=zh X.o;have o7:=za aB 0;go_wp2;refine(AX w7 B g gm r2.1.b L f.2 r2.2 X.b V1 (by omega) U3 V3).mono ?_;rintro e w8 ⟨rfl,aH,aF,S⟩;clear o7;have ay:=zh aH;have a4:=BB.size;replace BB:=zh (BB.trans aF);have aC:=zh (kN aB S (by have:=X.o;have:=af.out;omega) (by decide));have am:=zh (kN y S (by have:=I.out;omega) (by decide));have U:=zh (Cf X.mp S (by have:=af.out;omega));replace KK:=zh (TX.trans KK (TX.more (S':=λb=>b=g\/b=gm\/b=K) (λb d=>by omega) S));have⟨n1,n2⟩:=uu r2.1.b L f.2 r2.2 V1 U3;have⟨W1,W2⟩:=zk2 n1 n2;clear aH aF S n1 n2;generalize cA r2.1.b L f.2 r2.2=r3 at*;obtain⟨s3,i3⟩:=r3;simp only at t W1 W2 ay⊢;go_upto_region 14 with fail;refine aj 6 ?_;have o2:=aC.lat 2 _ rfl;have M:=am.lat 0 _ rfl;have P:=am.lat 1 _ rfl;have Q:=am.lat 2 _ rfl;simp only[Ee,El,Ei,D5];repeat(go_big_quiet_step (fail))
   refine D4 ?_;intro w9 d;clear o2 M P Q;replace U:=zb U d;have⟨aX,hu,aJ,D⟩:=U.upd (φ:=φT) underlying212 (x:=⟨F,G,H⟩) ⟨by show F<=_;omega,by show G<=_;omega,by show H<=_;omega⟩ (i:=(i3:Nat)) (wfN (by have:=W2.out;omega)) (by unfold maxLen knI;rw[DT];have:=KL.out;have:=KM.out;have:=ag.out;have:=Nat.one_le_two_pow (n:=k);omega);have ba:(Instr.mapUpdate 212 (.map (some K)) (zX #[zI zi F,zI zi G,zI zi H]) (zI zi i3)).run zz w9= .ok () aX:=hu;go_wp2;go_ret;rw[t];have a7:=BB.size;obtain⟨k1,k2,k3⟩:=aP;obtain⟨v1,v2,v3,v4,v5⟩:=af;refine⟨rfl,⟨⟨k1,k2,k3⟩,(ay.Q d).grownM U D (λe=>v3 e.symm) (λe=>v4 e.symm),aV (aC.Q d) D v5,aJ,W1,λp hp=> ?_⟩, ?_, ?_⟩
   .rcases DS.1 hp with rfl|hp
    .exact W2
    exact V2 p hp
   .exact aN (BB.trans (d.mono (by have:=I.out;omega))) (by have:=d.size;have:=I.out;omega) k2 D
   exact(KK.Q d).grown D (λq hq=>by simp only[DN] at hq;exact zQ (zQ (zO (zO hq.symm))))
end
end
section
open Go.RowKit
def Rs.take {α:Type} {φ:Rd α} {w:World} {b o N c:Nat} {xs:List α} {F:Nat->Prop} (h:Rs φ w (zU (some ⟨b,o,none⟩) N c) xs F) (k:Nat) (hk:k<=N):Rs φ w (zU (some ⟨b,o,none⟩) k c) (xs.take k) F:=by
 obtain⟨A,l,e,m,h⟩:=h;simp only[DQ] at e;obtain⟨rfl,rfl,rfl⟩:=e;have g:(xs.take k).length=k:=by rw[D3];omega
 refine⟨_,_,by rw[g],by omega,λn=> ?_⟩;have⟨i,p,e,f,h⟩:=h (by omega);simp only[DN] at e;cases e;refine⟨_,_,rfl,f,λj x a=> ?_⟩;have d:j<k:=by have:=(D0.1 a).1;omega
 rw[EY d] at a;exact h j x a
def Rs.drop {α:Type} {φ:Rd α} {w:World} {b o N c:Nat} {xs:List α} {F:Nat->Prop} (h:Rs φ w (zU (some ⟨b,o,none⟩) N c) xs F) (k:Nat) (hk:k<N) (c2:Nat) (l:N-k<=c2):Rs φ w (zU (some ⟨b,o+k*φ.k,none⟩) (N-k) c2) (xs.drop k) F:=by
 obtain⟨A,p,e,q,h⟩:=h;simp only[DQ] at e;obtain⟨rfl,rfl,rfl⟩:=e;have m:(xs.drop k).length=zN xs-k:=by rw[ET]
 refine⟨_,_,by rw[m],by omega,λr=> ?_⟩;have⟨n,s,e,g,h⟩:=h (by omega);simp only[DN] at e;cases e;refine⟨_,_,rfl,g,λj x a=> ?_⟩;rw[Fh] at a;have⟨us,d,f⟩:=h (k+j) x a;refine⟨us,λi hi=> ?_,f⟩;have:=d i hi;rw[Nat.add_mul] at this;rw[<-this];congr 2;omega
def Rs.takeA {α:Type} {φ:Rd α} {w:World} {A:Option Addr} {N c:Nat} {xs:List α} {F:Nat->Prop} (h:Rs φ w (zU A N c) xs F) (k:Nat) (hk:k<=N):Rs φ w (zU A k c) (xs.take k) F:=by
 obtain⟨l,m,e,n,h⟩:=h;simp only[DQ] at e;obtain⟨rfl,rfl,rfl⟩:=e;have g:(xs.take k).length=k:=by rw[D3];omega
 refine⟨A,c,by rw[g],by omega,λp=> ?_⟩;have⟨b,o,e,f,i⟩:=h (by omega);refine⟨b,o,e,f,λj x d=>i j x ?_⟩;have a:j<k:=by have:=(D0.1 d).1;omega
 rwa [EY a] at d
def ku {α:Type} {φ:Rd α} {w:World} {g:Nat} {T:TypeId} {uss:List (List Value)} {xs:List α} {F:Nat->Prop} (h:Box w g uss.flatten.toArray T) (e:zN uss=zN xs) (d:∀j x,xs[j]? =some x->φ.R w (zG uss j []) x F):Rs φ w (zU (some ⟨g,0,none⟩) (zN xs) (zN xs)) xs F:=by
 have b:∀us∈uss,zN us=φ.k:=λus hm=>by obtain⟨j,c,rfl⟩:=D9.1 hm;have:=φ.len (d j _ (DD (by omega)));rwa [DC,DD c] at this
 refine⟨_,_,rfl,DE _,λ_=>⟨g,0,rfl,h.lt,λj x c=>⟨zG uss j [],λi hi=> ?_,d j x c⟩⟩⟩;have a:j<zN uss:=by have:=(D0.1 c).1;omega
 rw[DY,h.cell (j*φ.k+i),Ek,ei b j i hi,DD a];simp[DC,DD a]
def yD {α:Type} {φ:Rd α} {w:World} {g:Nat} {us:List Value} {T:TypeId} {x:α} {F:Nat->Prop} (c:Box w g us.toArray T) (h:φ.R w us x F):Rs φ w (zU (some ⟨g,0,none⟩) 1 1) [x] F:=by
 refine⟨_,1,rfl,DE _,λ_=>⟨g,0,rfl,c.lt,λj y b=>⟨us,λi hi=> ?_, ?_⟩⟩⟩
 .have a:j=0:=by have:=(D0.1 b).1;simp at this;exact this
  subst a;simp only[Nat.zero_mul,DY];rw[c.cell i,Ek]
 have a:j=0:=by have:=(D0.1 b).1;simp at this;exact this
 subst a;obtain rfl:x=y:=by simpa using b
 exact h
def OG.lit0 {α:Type} {φ:Rd α} (w:World) {B C:Nat} {T:TypeId} (c:T∉φ.ts) (b:C<=B) (a:B<=w.heap.size):OG φ (w.alloc (zC #[] T)) B C T (zU (some ⟨w.heap.size,0,none⟩) 0 0) []:=⟨⟨c,b⟩,[],rfl,World.ownsRow_lit w #[] 0 a (by unfold maxLen;omega) (by simp),λj x h=>by simp at h⟩
def eG:Rd Int where
 k:=1
 ts:=[]
 pos:=by decide
 R:=λw us z F=>us=[zI zi z]
 len:=λh=>by rw[h];rfl
 one:=λh u a=>by rw[h] at a;simp at a;subst a;rfl
 mono:=λh _=>h
 same:=λh _ _=>h
def Rs.il {w:World} {v:Value} {l:List Int} {F:Nat->Prop} (h:Rs eG w v l F):IL w v l:=by obtain⟨A,c,rfl,m,h⟩:=h;refine⟨A,c,rfl,m,λn=> ?_⟩;obtain⟨b,o,rfl,k,h⟩:=h n;refine⟨⟨b,o,none⟩,rfl,k,λj f=> ?_⟩;have⟨us,g,i⟩:=h j _ (DD f);have d:=g 0 (by decide);have a:us=[zI zi l[j]]:=i;rw[a,Eb] at d;have e:eG.k=1:=rfl;rw[e,Nat.mul_one] at d;rw[cC,d,DC,DD f];rfl
def OG.il {w:World} {B C:Nat} {T:TypeId} {v:Value} {l:List Int} (h:OG eG w B C T v l):IL w v l:=h.any.il
section
variable {α:Type} {φ:Rd α} {w w' w2:World} {B C g:Nat} {T T':TypeId} {v:Value} {xs:List α} {cs:Array Value}
def aA {row:Option Nat} (h:w.grownBy w' row) (a:w'.grownBy w2 row):w.grownBy w2 row:=⟨a.os.trans h.os,a.tape.trans h.tape,a.output.trans h.output,D2 h.size a.size,λk hk b=>(a.block k (DU hk h.size) b).trans (h.block k hk b)⟩
end
section
variable (i:Nat) {c:Nat}
def hQ (K:Act->World->Prop) (Q:Exit->Act->World->Prop):Exit->Act->World->Prop
 | .normal,a,w=>K a w
 |e,a,w=>Q e a w
section
variable {P:Program} {md:Region.Mode} {Q:Exit->Act->World->Prop} {ops:Array Oper} {S:World->Prop}
def Ze {b:Array Bool} {a:Act} {w:World} (hi:wpOp P ops Q i (λe w'=>S w'/\wpAnyH P md ops Q S c (b.setIfInBounds i true) e w') a w) (f:Region.ready md ops b=[i]:=by decide+kernel):wpAnyH P md ops Q S (c+1) b a w:=
 wpAnyH_all f (by simp) (λx d=>by simp only[DS,DZ,EC] at d;rcases d with rfl;exact hi)
def Zf (i j:Nat) {b:Array Bool} {a:Act} {w:World} (hi:wpOp P ops Q i (λd w'=>S w'/\wpAnyH P md ops Q S c (b.setIfInBounds i true) d w') a w) (f:wpOp P ops Q j (λd w'=>S w'/\wpAnyH P md ops Q S c (b.setIfInBounds j true) d w') a w) (g:Region.ready md ops b=[i,j]:=by decide+kernel):wpAnyH P md ops Q S (c+1) b a w:=
 wpAnyH_all g (by simp) (λx e=>by
  simp only[DS,DZ,EC] at e;rcases e with rfl|rfl
  .exact hi
  exact f)
def Zg (i j k:Nat) {b:Array Bool} {a:Act} {w:World} (hi:wpOp P ops Q i (λd w'=>S w'/\wpAnyH P md ops Q S c (b.setIfInBounds i true) d w') a w) (f:wpOp P ops Q j (λd w'=>S w'/\wpAnyH P md ops Q S c (b.setIfInBounds j true) d w') a w) (hk:wpOp P ops Q k (λd w'=>S w'/\wpAnyH P md ops Q S c (b.setIfInBounds k true) d w') a w) (g:Region.ready md ops b=[i,j,k]:=by decide+kernel):wpAnyH P md ops Q S (c+1) b a w:=
 wpAnyH_all g (by simp) (λx e=>by
  simp only[DS,DZ,EC] at e;rcases e with rfl|rfl|rfl
  .exact hi
  .exact f
  exact hk)
theorem aL {i:Nat} {o:Oper} {c:Nat} {b:Array Bool} {a:Act} {w:World} (l:ops[i]? =some o)
  (h:wpList P ops (hQ (λd w'=>S w'/\wpAnyH P md ops Q S c (b.setIfInBounds i true) d w') Q) [o] a w):wpOp P ops Q i (λd w'=>S w'/\wpAnyH P md ops Q S c (b.setIfInBounds i true) d w') a w:=by
 unfold wpOp;simp only[l];unfold wpList at h;by_cases g:Region.wanted o (yielded ops a.tmps)=true
 .rw[DP g] at h⊢;rcases h with h|⟨j,k⟩
  .left;unfold Oper.wp at*;generalize(execOp a.eval o).run P w=r at*;cases r with
   |ok n w'=>
    cases n<;>simp only[Oper.upon,wpList] at h⊢<;>
     first
      |exact h
      |exact Calls.mono h (λe m f=>by cases e<;>exact f)
      |exact Rows.mono h (λ_ _ f=>f)
   |halt x w'=>cases x<;>simp only[Oper.upon] at h⊢<;>exact h
  right;exact⟨j,k⟩
 rw[DK g] at h⊢;exact h
def aC {o:Oper} {b:Array Bool} {a:Act} {w:World} (f:ops[i]? =some o) (h:wpList P ops (hQ (λd w'=>S w'/\wpAnyH P md ops Q S c (b.setIfInBounds i true) d w') Q) [o] a w) (g:Region.ready md ops b=[i]:=by kernel_rfl):wpAnyH P md ops Q S (c+1) b a w:=by
 refine wpAnyH_all g (by simp) (λj e=> ?_);obtain rfl:j=i:=by simpa using e
 exact aL f h
def QF {i j:Nat} {o f:Oper} {b:Array Bool} {a:Act} {w:World} (m:Region.ready md ops b=[i,j]) (l:ops[i]? =some o) (e:ops[j]? =some f) (h:wpList P ops (hQ (λd w'=>S w'/\wpAnyH P md ops Q S c (b.setIfInBounds i true) d w') Q) [o] a w) (g:wpList P ops (hQ (λd w'=>S w'/\wpAnyH P md ops Q S c (b.setIfInBounds j true) d w') Q) [f] a w):wpAnyH P md ops Q S (c+1) b a w:=by
 refine wpAnyH_all m (by simp) (λk hk=> ?_);simp only[DS,DZ,EC] at hk;rcases hk with rfl|rfl
 .exact aL l h
 exact aL e g
end
end
section
variable {P:Program} {md:Region.Mode} {Q:Exit->Act->World->Prop} {ops:Array Oper} {S:World->Prop} {N:Nat}
def bC (P:Program) (md:Region.Mode) (ops:Array Oper) (Q:Exit->Act->World->Prop) (S:World->Prop) (N:Nat):Nat->Array Bool->Act->World->Prop
 |0,listed,a,w=>Region.ready md ops listed=[]/\Q .normal a w
 |fuel+1,listed,a,w=>
  (Region.ready md ops listed=[]->Q .normal a w)∧
  ∀i∈Region.ready md ops listed,wpOp P ops Q i (λb w'=>((listed.setIfInBounds i true).getD N true=false->S w')/\bC P md ops Q S N fuel (listed.setIfInBounds i true) b w') a w
theorem pg:∀(b:Nat) (c:Array Bool) (a:Act) (w:World),bC P md ops Q S N b c a w->wpAny P md ops Q b c a w
 |0,_,_,_,h=>h
 |b+1,_,_,_,h=>⟨h.1,λi hi=>wpOp_mono (λd w' e=>pg b _ d w' e.2) (h.2 i hi)⟩
def wt (md:Region.Mode) (ops:Array Oper):Nat->Nat->Nat->Bool
 |0,_,_=>false
 |f+1,j,i=>match ops[j]? with
  |some o=>o.after.any λe=>Region.binds md e&&(e.on==i||wt md ops f e.on i)
  |none=>false
def kM (md:Region.Mode) (ops:Array Oper) (a:Array Bool):Bool:=
 (List.range ops.size).all λj=>match ops[j]? with
  |some o=> !(a.getD j false)||o.after.all λe=> !(Region.binds md e)||a.getD e.on false
  |none=>true
def n8 (md:Region.Mode) (ops:Array Oper) (a:Array Bool):Prop:=∀j o,ops[j]? =some o->a.getD j false=true->∀e∈o.after,Region.binds md e=true->a.getD e.on false=true
def rW {listed:Array Bool} (h:kM md ops listed=true):n8 md ops listed:=λj o b i e f d=>by
 unfold kM at h;have g:j<ops.size:=by
  rcases FO j ops.size with h|h
  .exact h
  rw[Array.getElem?_eq_none h] at b;cases b
 have a:=Fa.1 h j (Fv.2 g);rw[b] at a;simp only[i,Bool.not_true,FJ] at a;have c:=Array.all_eq_true'.1 a e f;simpa [d] using c
theorem Xv {a:Array Bool} (d:n8 md ops a) {i:Nat} (hi:a.getD i true=false):∀(f j:Nat),wt md ops f j i=true->∀o,ops[j]? =some o->∃e∈o.after,Region.binds md e=true/\(e.on=i\/wt md ops (f-1) e.on i=true)
 |0,j,h,o,ho=>by cases h
 |f+1,j,h,o,ho=>by unfold wt at h;rw[ho] at h;have⟨e,c,b⟩:=Array.any_eq_true'.1 h;simp only[DW,FX,beq_iff_eq] at b;exact⟨e,c,b.1,b.2⟩
theorem Oj {a:Array Bool} (l:n8 md ops a) {i:Nat} (hi:a.getD i true=false):∀(f j:Nat),wt md ops f j i=true->a.getD j false=false/\j∉Region.ready md ops a
 |0,j,h=>by cases h
 |f+1,j,h=>by
  cases ho:ops[j]? with
  |none=>unfold wt at h;rw[ho] at h;cases h
  |some o=>
   have⟨e,n,m,c⟩:=Xv l hi (f+1) j h o ho;have k:a.getD e.on false=true->False:=λb=>by
    rcases c with c|c
    .rw[c,getD_both hi] at b;cases b
    have⟨p,_⟩:=Oj l hi f e.on c;rw[p] at b;cases b
   refine⟨?_,λq=> ?_⟩
   .cases b:a.getD j false with
    |false=>rfl
    |true=>exact(k (l j o ho b e n m)).elim
   have⟨_,o',g,d⟩:=Fr.1 q;rw[ho] at g;obtain rfl:o=o':=Eu g;exact k (d e n m)
def vB {a:Array Bool} (l:n8 md ops a) {j:Nat} (m:j∈Region.ready md ops a):n8 md ops (a.setIfInBounds j true):=λk o d i e h g=>by
 have⟨_,n,f,b⟩:=Fr.1 m;by_cases c:j=k
 .subst c;rw[f] at d;obtain rfl:n=o:=Eu d;exact getD_set_true (b e h g)
 rw[getD_set_ne false c] at i;exact getD_set_true (l k o d i e h g)
theorem lS {i:Nat} {u:Oper} {v:Value} (hi:ops[i]? =some u) (r:∀(j:Nat) (o:Oper) cs b,ops[j]? =some o->o.op≠ .select cs b)
  (hQ:∀c a w,Q (.panic c) (a.put u.dst v) w->Q (.panic c) a w) (W:i≠N) (f:Nat) (T:World->Prop) (R:(T=S/\wt md ops f N i=true/\N≠i/\N<ops.size)\/∀w,T w):
  ∀(g:Nat) (d:Array Bool) (a:Act) (w:World),n8 md ops d->d.size=ops.size→
   (∀j x,ops[j]? =some x->j≠i->d.getD j true=false->(∀e∈x.after,Region.binds md e=true->e.on≠i)->u.apart ops x=true)→
   i∈Region.ready md ops d->YieldsIf P ops T u v a->T w->((d.setIfInBounds i true).getD N true=false->S w)→
   bC P md ops Q S N g (d.setIfInBounds i true) (a.put u.dst v) w->bC P md ops Q S N (g+1) d a w:=by
 intro g;induction g with
 |zero=>
  intro d a w _ _ _ q I L J H;refine⟨λh=>(by rw[h] at q;cases q),λj y=> ?_⟩;by_cases l:j=i
  .subst l;exact I.wpOp hi L ⟨J,H⟩
  have:=FV y l;rw[H.1] at this;cases this
 |succ g ih=>
  intro d a w A D m q I L J H;refine⟨λh=>(by rw[h] at q;cases q),λj y=> ?_⟩;by_cases l:j=i
  .subst l;exact I.wpOp hi L ⟨J,H⟩
  have G:=H.2 j (FV y l);have⟨p,x,t,z⟩:=Fr.1 y;have C:∀e∈x.after,Region.binds md e=true->e.on≠i:=λe he hb V=>by have G:=z e he hb;have h0:=(Fr.1 q).1;rw[V,getD_both h0] at G;cases G
  have h2:=wpOp_putIf t (m j x t l p C) (λcs b=>r i u cs b hi) (λcs b=>r j x cs b t) hQ I G;have n:∀k F,ops[k]? =some F->k≠i->(d.setIfInBounds j true).getD k true=false→
    (∀e∈F.after,Region.binds md e=true->e.on≠i)->u.apart ops F=true:=λk F hk X E aa=>by
   refine m k F hk X ?_ aa;by_cases B:j=k
   .subst B;exact p
   rw[getD_set_ne true B] at E;exact E
  have U:∀w',(((d.setIfInBounds i true).setIfInBounds j true).getD N true=false->S w')->T w':=λw' M=>by
   rcases R with⟨rfl,hw,Z,Y⟩|R
   .have⟨q1,q2⟩:=Oj A (Fr.1 q).1 f N hw;refine M ?_;have K:j≠N:=λe=>q2 (e▸y);rw[getD_set_ne true K,getD_set_ne true (FA Z)];exact getD_in (by rw[D];exact Y) q1
   exact R w'
  refine wpOp_mono (λa' w' h3=> ?_) h2;obtain⟨y1,y2,y3⟩:=h3;have e1:=Array.setIfInBounds_comm (xs:=d) true true l;refine⟨λs=> ?_,ih (d.setIfInBounds j true) a' w' (vB A y) (by simpa using D) n (FV q (FA l)) y1 (U w' y2) (λs=>y2 (by rw[<-e1];exact s)) (by rw[e1];exact y3)⟩;refine y2 ?_;rw[<-e1,getD_set_ne true W];exact s
def tB {i:Nat} {g:Oper} {v:Value} {d:Nat} {b:Array Bool} {a:Act} {w:World} (hi:ops[i]? =some g) (n:Region.noSelect ops=true) (l:Region.free md ops b i=true) (m:(Region.ready md ops b).contains i=true) (k:(kM md ops b&&(b.size==ops.size)&&wt md ops ops.size N i&& !(i==N)&&decide (N<ops.size))=true) (hQ:∀c a w,Q (.panic c) (a.put g.dst v) w->Q (.panic c) a w) (o:YieldsIf P ops S g v a) (j:S w) (h:bC P md ops Q S N d (b.setIfInBounds i true) (a.put g.dst v) w):bC P md ops Q S N (d+1) b a w:=by
 simp only[DW,beq_iff_eq,Ef,Bool.not_eq_true'] at k;obtain⟨⟨⟨⟨c1,c2⟩,c3⟩,c4⟩,c5⟩:=k;have f:i≠N:=λe=>by rw[e] at c4;simp at c4
 exact lS hi (FC n) hQ f ops.size S (zQ ⟨rfl,c3,FA f,c5⟩) d b a w (rW c1) c2 (Region.free_spec hi l) (by simpa using m) o j (λ_=>j) h
def sq {i:Nat} {f:Oper} {v:Value} {d:Nat} {b:Array Bool} {a:Act} {w:World} (hi:ops[i]? =some f) (n:Region.noSelect ops=true) (l:Region.free md ops b i=true) (m:(Region.ready md ops b).contains i=true) (j:(kM md ops b&&(b.size==ops.size)&& !(i==N))=true) (hQ:∀c a w,Q (.panic c) (a.put f.dst v) w->Q (.panic c) a w) (o:YieldsIf P ops (λ_=>True) f v a) (k:S w) (h:bC P md ops Q S N d (b.setIfInBounds i true) (a.put f.dst v) w):bC P md ops Q S N (d+1) b a w:=by
 simp only[DW,beq_iff_eq,Bool.not_eq_true'] at j;obtain⟨⟨c1,c2⟩,c4⟩:=j;have g:i≠N:=λe=>by rw[e] at c4;simp at c4
 exact lS hi (FC n) hQ g ops.size (λ_=>True) (zO λ_=>trivial) d b a w (rW c1) c2 (Region.free_spec hi l) (by simpa using m) o trivial (λ_=>k) h
theorem Ax {i:Nat} {o:Oper} {K:Act->World->Prop} {a:Act} {w:World} (g:ops[i]? =some o) (h:wpList P ops (hQ K Q) [o] a w):wpOp P ops Q i K a w:=by
 unfold wpOp;simp only[g];unfold wpList at h;by_cases c:Region.wanted o (yielded ops a.tmps)=true
 .rw[DP c] at h⊢;rcases h with h|⟨d,f⟩
  .left;unfold Oper.wp at*;generalize(execOp a.eval o).run P w=r at*;cases r with
   |ok n w'=>
    cases n<;>simp only[Oper.upon,wpList] at h⊢<;>
     first
      |exact h
      |exact Calls.mono h (λe j b=>by cases e<;>exact b)
      |exact Rows.mono h (λ_ _ b=>b)
   |halt x w'=>cases x<;>simp only[Oper.upon] at h⊢<;>exact h
  right;exact⟨d,f⟩
 rw[DK c] at h⊢;exact h
def eP (i:Nat) {o:Oper} {c:Nat} {b:Array Bool} {a:Act} {w:World} (k:ops[i]? =some o) (h:wpList P ops (hQ (λg w'=>((b.setIfInBounds i true).getD N true=false->S w')/\bC P md ops Q S N c (b.setIfInBounds i true) g w') Q) [o] a w) (f:Region.ready md ops b=[i]:=by kernel_rfl):bC P md ops Q S N (c+1) b a w:=by
 refine⟨λd=>(by rw[f] at d;cases d),λj e=> ?_⟩;rw[f] at e;obtain rfl:j=i:=by simpa using e
 exact Ax k h
def bq (i:Nat) {o:Oper} {c:Nat} {b:Array Bool} {a:Act} {w:World} (m:ops[i]? =some o) (h:wpList P ops (hQ (λe w'=>bC P md ops Q S N c (b.setIfInBounds i true) e w') Q) [o] a w) (g:Region.ready md ops b=[i]:=by kernel_rfl) (l:(b.setIfInBounds i true).getD N true=true:=by kernel_rfl):bC P md ops Q S N (c+1) b a w:=by
 refine⟨λd=>(by rw[g] at d;cases d),λj f=> ?_⟩;rw[g] at f;obtain rfl:j=i:=by simpa using f
 exact wpOp_mono (λe w' k=>⟨λd=>(by rw[l] at d;cases d),k⟩) (Ax m h)
theorem dE {b:Array Bool} {a:Act} {w:World} (d:Region.ready md ops b=[]) (h:Q .normal a w):
  ∀c,bC P md ops Q S N c b a w
 |0=>⟨d,h⟩
 |_+1=>⟨λ_=>h,by rw[d];simp⟩
def dD {c:Nat} {a:Act} {w:World} (N:Nat) (hm:P.follows .mixedOrders=true) (b:S w.drew) (h:S w.drew->bC P .any ops Q S N ops.size (Array.replicate ops.size false) a w.drew):(Code.region c ops true).wp P Q a w:=wp_region_any hm (pg _ _ _ _ (h b))
end
section
open Go.RowKit
def zu {P:Program} {md:Region.Mode} {Q:Exit->Act->World->Prop} {ops:Array Oper} {S:World->Prop} {N:Nat} {f:Oper} {d:Nat} {b:Array Bool} {a:Act} {w:World} (i:Nat) (v:Value) (hi:ops[i]? =some f) (j:YieldsIf P ops S f v a) (h:bC P md ops Q S N d (b.setIfInBounds i true) (a.put f.dst v) w) (e:(Region.noSelect ops&&(Region.free md ops b i&&((Region.ready md ops b).contains i&&(kM md ops b&&(b.size==ops.size)&&wt md ops ops.size N i&& !(i==N)&&decide (N<ops.size)))))=true:=by kernel_rfl) (hQ:∀c a w,Q (.panic c) (a.put f.dst v) w->Q (.panic c) a w:=by exact λ_ _ _ h=>h) (g:S w:=by assumption):bC P md ops Q S N (d+1) b a w:=by rw[DW,DW,DW] at e;exact tB hi e.1 e.2.1 e.2.2.1 e.2.2.2 hQ j g h
def zuP {P:Program} {md:Region.Mode} {Q:Exit->Act->World->Prop} {ops:Array Oper} {S:World->Prop} {N:Nat} {f:Oper} {d:Nat} {b:Array Bool} {a:Act} {w:World} (i:Nat) (v:Value) (hi:ops[i]? =some f) (j:YieldsIf P ops (λ_=>True) f v a) (h:bC P md ops Q S N d (b.setIfInBounds i true) (a.put f.dst v) w) (e:(Region.noSelect ops&&(Region.free md ops b i&&((Region.ready md ops b).contains i&&(kM md ops b&&(b.size==ops.size)&& !(i==N)))))=true:=by kernel_rfl) (hQ:∀c a w,Q (.panic c) (a.put f.dst v) w->Q (.panic c) a w:=by exact λ_ _ _ h=>h) (g:S w:=by assumption):bC P md ops Q S N (d+1) b a w:=by rw[DW,DW,DW] at e;exact sq hi e.1 e.2.1 e.2.2.1 e.2.2.2 hQ j g h
def zua {P:Program} {md:Region.Mode} {Q:Exit->Act->World->Prop} {ops:Array Oper} {S:World->Prop} {N:Nat} {e:Oper} {d:Nat} {b:Array Bool} {a:Act} {w:World} (i:Nat) (v:Value) (hi:ops[i]? =some e) (h:bC P md ops Q S N d (b.setIfInBounds i true) (a.put e.dst v) w) (g:(Region.noSelect ops&&(Region.free md ops b i&&((Region.ready md ops b).contains i&&(kM md ops b&&(b.size==ops.size)&&wt md ops ops.size N i&& !(i==N)&&decide (N<ops.size)))))=true:=by kernel_rfl) (hQ:∀c a w,Q (.panic c) (a.put e.dst v) w->Q (.panic c) a w:=by exact λ_ _ _ h=>h) (f:S w:=by assumption) (j:YieldsIf P ops S e v a:=by exact zQ ⟨by rfl,λ_ _=>by go_simp⟩):bC P md ops Q S N (d+1) b a w:=zu i v hi j h g hQ f
def zup {P:Program} {md:Region.Mode} {Q:Exit->Act->World->Prop} {ops:Array Oper} {S:World->Prop} {N:Nat} {e:Oper} {d:Nat} {b:Array Bool} {a:Act} {w:World} (i:Nat) (v:Value) (hi:ops[i]? =some e) (h:bC P md ops Q S N d (b.setIfInBounds i true) (a.put e.dst v) w) (g:(Region.noSelect ops&&(Region.free md ops b i&&((Region.ready md ops b).contains i&&(kM md ops b&&(b.size==ops.size)&& !(i==N)))))=true:=by kernel_rfl) (hQ:∀c a w,Q (.panic c) (a.put e.dst v) w->Q (.panic c) a w:=by exact λ_ _ _ h=>h) (f:S w:=by assumption) (j:YieldsIf P ops (λ_=>True) e v a:=by exact zQ ⟨by rfl,λ_ _=>by go_simp⟩):bC P md ops Q S N (d+1) b a w:=zuP i v hi j h g hQ f
end
end
section
open Go.RowKit Go.WideShapes Go.ChangeShapes
structure Vr where
 s:ByteArray
 w:Int
 m:Int
 u:Int
structure Wt where
 lo:Int
 hi:Int
 weight:Int
 each:Bool
structure Ds where
 var:Int
 ws:List Wt
structure Pb where
 v:List Vr
 h:List Ex
 s:List Ex
 d:List Ds
 g:List (List Int)
def vr0:Vr:=⟨⟨#[]⟩,0,0,0⟩
def wt0:Wt:=⟨0,0,0,false⟩
def ds0:Ds:=⟨0,[]⟩
def vrL (x:Vr):List Value:=[zV x.s,zI zi x.w,zI zi x.m,zI zi x.u]
def wtL (x:Wt):List Value:=[zI zi x.lo,zI zi x.hi,zI zi x.weight,zW x.each]
def vrR:Rd Vr where
 k:=4
 ts:=[]
 pos:=by decide
 R:=λw us x F=>us=vrL x
 len:=λh=>by rw[h];rfl
 one:=λh u a=>by rw[h] at a;unfold vrL at a;simp only[DS,DZ,EC] at a;rcases a with rfl|rfl|rfl|rfl<;>rfl
 mono:=λh _=>h
 same:=λh _ _=>h
def wtR:Rd Wt where
 k:=4
 ts:=[]
 pos:=by decide
 R:=λw us x F=>us=wtL x
 len:=λh=>by rw[h];rfl
 one:=λh u a=>by rw[h] at a;unfold wtL at a;simp only[DS,DZ,EC] at a;rcases a with rfl|rfl|rfl|rfl<;>rfl
 mono:=λh _=>h
 same:=λh _ _=>h
def dsR:Rd Ds where
 k:=2
 ts:=[133]
 pos:=by decide
 R:=λw us x F=>∃v,us=[zI zi x.var,v]/\Rs wtR w v x.ws F/\In F v (zN x.ws)
 len:=λ⟨_,h,_⟩=>by rw[h];rfl
 one:=λ⟨v,h,a,_⟩ u i=>by have⟨A,c,e1,_⟩:=a.slice;rw[h,e1] at i;simp only[DS,DZ,EC] at i;rcases i with rfl|rfl<;>rfl
 mono:=λ⟨v,h,a,d⟩ j=>⟨v,h,a.mono j,λf b e=>j b (d f b e)⟩
 same:=λ⟨v,h,a,d⟩ l hk=>⟨v,h,iV a l (λf b g e=>hk b g (d f b e)) hk,d⟩
section
variable {w:World} {v:Value} {F:Nat->Prop}
def Rs.vrs {l:List Vr} (h:Rs vrR w v l F):∃(A:Option Addr) (c:Nat),v=zU A (zN l) c/\zN l<=c/\∀k,k<zN l->∃b o,A=some ⟨b,o,none⟩/\b<w.heap.size/\∀i u,(vrL (zG l k vr0))[i]? =some u->w.cell? ⟨b,o+k*4+i,none⟩=some u:=by
 obtain⟨A,c,rfl,m,h⟩:=h;refine⟨A,c,rfl,m,λk hk=> ?_⟩;obtain⟨b,o,rfl,j,h⟩:=h (by omega);have⟨us,f,g⟩:=h k _ (DD hk);have a:us=vrL l[k]:=g;subst a;have e:zG l k vr0=l[k]:=by rw[DC,DD hk];rfl
 rw[e];refine⟨b,o,rfl,j,λi u d=> ?_⟩;have hi:i<4:=by have:=(D0.1 d).1;exact this
 exact(f i hi).trans d
def Rs.wts {l:List Wt} (h:Rs wtR w v l F):∃(A:Option Addr) (c:Nat),v=zU A (zN l) c/\zN l<=c/\∀k,k<zN l->∃b o,A=some ⟨b,o,none⟩/\b<w.heap.size/\∀i u,(wtL (zG l k wt0))[i]? =some u->w.cell? ⟨b,o+k*4+i,none⟩=some u:=by
 obtain⟨A,c,rfl,m,h⟩:=h;refine⟨A,c,rfl,m,λk hk=> ?_⟩;obtain⟨b,o,rfl,j,h⟩:=h (by omega);have⟨us,f,g⟩:=h k _ (DD hk);have a:us=wtL l[k]:=g;subst a;have e:zG l k wt0=l[k]:=by rw[DC,DD hk];rfl
 rw[e];refine⟨b,o,rfl,j,λi u d=> ?_⟩;have hi:i<4:=by have:=(D0.1 d).1;exact this
 exact(f i hi).trans d
def Rs.dss {l:List Ds} (h:Rs dsR w v l F):∃(A:Option Addr) (c:Nat),v=zU A (zN l) c/\zN l<=c/\∀k,k<zN l->∃b o p,A=some ⟨b,o,none⟩/\b<w.heap.size/\w.cell? ⟨b,o+k*2,none⟩=some (zI zi (zG l k ds0).var)/\w.cell? ⟨b,o+k*2+1,none⟩=some p/\Rs wtR w p (zG l k ds0).ws F:=by
 obtain⟨A,c,rfl,g,h⟩:=h;refine⟨A,c,rfl,g,λk hk=> ?_⟩;obtain⟨b,o,rfl,f,h⟩:=h (by omega);obtain⟨us,a,p,rfl,d, -⟩:=h k _ (DD hk);have e:zG l k ds0=l[k]:=by rw[DC,DD hk];rfl
 rw[e];exact⟨b,o,p,rfl,f,a 0 (by decide),a 1 (by decide),d⟩
end
structure PbZ (p:Pb):Prop where
 vl:zN p.v<=maxLen
 vs:∀x∈p.v,x.s.size<=maxLen/\I64 x.w/\I64 x.m/\I64 x.u
 hl:zN p.h<=maxLen
 hs:∀x∈p.h,ExZ x
 sl:zN p.s<=maxLen
 ss:∀x∈p.s,ExZ x
 dl:zN p.d<=maxLen
 ds:∀x∈p.d,I64 x.var/\zN x.ws<=maxLen/\∀y∈x.ws,I64 y.lo/\I64 y.hi/\I64 y.weight
 gl:zN p.g<=maxLen
 gs:∀x∈p.g,zN x<=maxLen/\∀y∈x,I64 y
end
section
section
open Go.RowKit
def kE (a:Int) (w:World) (c: -9223372036854775808<=a) (b:a<=9223372036854775807):Calls zz 320 #[zI zi a] w (zS (.int .u64 (a.natAbs:Int)) w):=by
 go_enter func320,ntmps320;go_wp2;all_goals
  go_ret;refine⟨aU ?_,rfl⟩;try simp only[IntKind.wrap_u64]
  omega
def rD (a:Bool) (n:Int) (w:World) (c:0<=n) (b:n<=18446744073709551615):Calls zz 321 #[zW a,.int .u64 n] w (zS (zY #[zI zi (cV (if a then -n else n)),zI zi (cE (if a then -n else n))]) w):=by
 cases a;all_goals
  go_enter func321,ntmps321;go_wp2;all_goals
   go_ret2;refine⟨Ps ?_,rfl⟩;simp only[IntKind.wrap_u64,Bw,FL,and_self];omega
def uA (x y:Nat) (p:Int) (w:World) (b:x<18446744073709551616) (c:y<18446744073709551616) (a:p=((x*y:Nat):Int)) (h:p<18446744073709551616):Calls zz 319 #[.int .u64 x,.int .u64 y] w (zS (zY #[.int .u64 0,.int .u64 p]) w):=
 (Tryz.bits_Mul64 x y b c w).mono λe w' ⟨he,hw⟩=>⟨by rw[he,a];rw[a] at h;exact qY (by omega) (by omega),hw.symm⟩
def Qa (x y:Nat) (w:World) (a:x<18446744073709551616) (b:y<18446744073709551616) (h:18446744073709551616<=x*y):Calls zz 319 #[.int .u64 x,.int .u64 y] w λe w'=>∃hi lo:Int,(0<hi/\0<=lo/\lo<18446744073709551616)/\e=zE (zY #[.int .u64 hi,.int .u64 lo])/\w=w':=(Tryz.bits_Mul64 x y a b w).mono λe w' ⟨he,hw⟩=>⟨_,_,⟨by omega,by omega,by omega⟩,he,hw.symm⟩
def qZ (a b:Int):((a.natAbs*b.natAbs:Nat):Int)=if(decide (a<0) !=decide (b<0)) then -(a*b) else a*b:=by
 have h:((a.natAbs*b.natAbs:Nat):Int)=((a*b).natAbs:Int):=by rw[Int.natAbs_mul]
 rw[h];by_cases c:a<0<;>by_cases d:b<0<;>simp[c,d]
 .have:=Int.mul_nonneg_of_nonpos_of_nonpos (a:=a) (b:=b) (by omega) (by omega);omega
 .have:=Int.mul_nonpos_of_nonpos_of_nonneg (a:=a) (b:=b) (by omega) (by omega);omega
 .have:=Int.mul_nonpos_of_nonneg_of_nonpos (a:=a) (b:=b) (by omega) (by omega);omega
 have:=Int.mul_nonneg (a:=a) (b:=b) (by omega) (by omega);omega
def PT (a b:Int) (w:World) (l: -9223372036854775808<=a) (c:a<=9223372036854775807) (m: -9223372036854775808<=b) (d:b<=9223372036854775807):Calls zz 278 #[zI zi a,zI zi b] w (zS (zY #[zI zi (cV (a*b)),zI zi (cE (a*b))]) w):=by
 have o:a.natAbs<18446744073709551616:=by omega
 have q:b.natAbs<18446744073709551616:=by omega
 have hm:=qZ a b;by_cases h:a.natAbs*b.natAbs<18446744073709551616
 .have⟨p,n⟩:=zv (((a.natAbs*b.natAbs:Nat):Int):Int);have i:0<=p:=by omega
  have j:p<18446744073709551616:=by omega
  have⟨f,g⟩:=zk2 hm n;clear hm n h;go_enter func278,ntmps278;go_wp2;refine(kE a _ l c).mono ?_;rintro e w' ⟨rfl,rfl⟩;go_wp2;refine(kE b _ m d).mono ?_;rintro e w' ⟨rfl,rfl⟩;go_wp2;refine(uA a.natAbs b.natAbs p _ o q g j).mono ?_;rintro e w' ⟨rfl,rfl⟩;go_wp2;refine(rD _ p _ i (by omega)).mono ?_;rintro e w' ⟨rfl,rfl⟩;go_wp2
  .have k:(decide (a<0) !=decide (b<0))=false:=by have:=‹a<0↔b<0›;simpa using this
   have hm:=f.out;rw[<-g,k,DK (by simp)] at hm;go_ret2;rw[hm];exact⟨rfl,rfl⟩
  have k:(decide (a<0) !=decide (b<0))=true:=by have:=‹¬(a<0↔b<0)›;simpa using this
  have hm:=f.out;rw[<-g,k,DP rfl] at hm;go_ret2;rw[hm,Int.neg_neg];exact⟨rfl,rfl⟩
 have f:=zh hm;go_enter func278,ntmps278;go_wp2;refine(kE a _ l c).mono ?_;rintro e w' ⟨rfl,rfl⟩;go_wp2;refine(kE b _ m d).mono ?_;rintro e w' ⟨rfl,rfl⟩;go_wp2;refine(Qa a.natAbs b.natAbs _ o q (by omega)).mono ?_;rintro e w' ⟨hi,lo,⟨s,t,u⟩,rfl,rfl⟩;have r:(hi !=0)=true:=by simp;omega
 go_wp2;have hm:=f.out;go_ret2;refine⟨Ps (zO ⟨?_,rfl,rfl⟩),rfl⟩;split at hm<;>omega
end
section
open Go.RowKit
def wR (X Y:Nat) (w:World) (f:X<18446744073709551616) (g:Y<18446744073709551616):Calls zz 345 #[.int .u64 X,.int .u64 Y] w λe w'=>e=zE (.int .u64 (Nat.gcd X Y))/\∃n,w'=w.drewN n:=by
 go_enter func345,ntmps345;go_wp2;go_loopw [0,1] (λa b wr=>∃x y:Nat,x<18446744073709551616/\y<18446744073709551616/\Nat.gcd x y=Nat.gcd X Y/\a= .int .u64 x/\b= .int .u64 y/\∃n,wr=w.drewN n) (λ_ b _=>(intOf b).toNat)
 .exact⟨X,Y,f,g,rfl,rfl,rfl,0,rfl⟩
 obtain⟨x,y,k,i,h,rfl,rfl,n,rfl⟩:=hrel;have c:=zh h;by_cases d:y=0
 .subst d;go_wp2;go_ret;exact⟨aU (by rw[<-c,Nat.gcd_zero_right]),n,rfl⟩
 have j:((y:Int)==0)=false:=by simpa using d
 go_wp2;go_quiet (fail);go_wp2;go_roundw
 .exact⟨y,x%y,i,by have:=FQ x (y:=y) (by omega);omega,by rw[<-c,Nat.gcd_comm x y,Nat.gcd_rec y x,Nat.gcd_comm],rfl,by simp,n+nq,by simp⟩
 simp[intOf];have:=FQ x (y:=y) (by omega);omega
def Pw (a:Int) (w:World) (c: -9223372036854775808<=a) (b:a<=9223372036854775807):Calls zz 259 #[zI zi a] w (zS (zI zi (-(a.natAbs:Int))) w):=by
 go_enter func259,ntmps259;go_wp2;all_goals
  go_ret;refine⟨aU ?_,rfl⟩;omega
def Ub {a b:Int} (c:a≠0):0<Int.gcd a b:=Int.gcd_pos_of_ne_zero_left b c
def xf (a b:Int):a.natAbs/Nat.gcd a.natAbs b.natAbs*b.natAbs=Int.lcm a b:=by show _=a.natAbs*b.natAbs/Nat.gcd a.natAbs b.natAbs;rw[FG a.natAbs b.natAbs,Nat.mul_div_assoc _ (Nat.gcd_dvd_left _ _),FG]
def Wf (a b:Int) (w:World) (F: -9223372036854775808<=a) (l:a<=9223372036854775807) (H: -9223372036854775808<=b) (m:b<=9223372036854775807):Calls zz 317 #[zI zi a,zI zi b] w λe w'=>e=zE (zY #[zI zi (cV (Int.lcm a b)),zI zi (cE (Int.lcm a b))])/\∃n,w'=w.drewN n:=by
 by_cases d:a=0
 .subst d;go_enter func317,ntmps317;go_wp2;go_ret2;exact⟨by simp;exact⟨rfl,rfl⟩,0,rfl⟩
 by_cases v:b=0
 .subst v;have B:(a==0)=false:=by simpa using d
  go_enter func317,ntmps317;go_wp2;go_ret2;exact⟨by simp;exact⟨rfl,rfl⟩,0,rfl⟩
 have B:(a==0)=false:=by simpa using d
 have M:(b==0)=false:=by simpa using v
 have y:=Ub (b:=b) d;have i:=xf a b;have⟨X,g⟩:=zv (a.natAbs);have⟨Y,h⟩:=zv (b.natAbs);have⟨G,f⟩:=zv (Nat.gcd X Y);have⟨L,j⟩:=zv (Int.lcm a b);have C:0<G:=by rw[f,g,h];exact y
 rw[<-g,<-h,<-f,<-j] at i;have k:X<=9223372036854775808:=by omega
 have E:Y<=9223372036854775808:=by omega
 have K:X/G<=9223372036854775808:=D2 (Nat.div_le_self _ _) k;have c1:∀w,Calls zz 320 #[zI zi a] w (zS (.int .u64 X) w):=λw=>by rw[g];exact kE a w F l
 have c2:∀w,Calls zz 320 #[zI zi b] w (zS (.int .u64 Y) w):=λw=>by rw[h];exact kE b w H m
 have c3:∀w,Calls zz 345 #[.int .u64 X,.int .u64 Y] w λe w'=>e=zE (.int .u64 G)/\∃n,w'=w.drewN n:=λw=>by rw[f];exact wR X Y w (by omega) (by omega)
 have e1:(((X/G:Nat):Int))=(X:Int)/(G:Int):=by simp
 have c4:∃hi lo:Int,(0<=lo/\lo<18446744073709551616)/\((hi=0/\lo=L)\/(0<hi/\18446744073709551616<=L))/\∀w,Calls zz 319 #[.int .u64 ((X:Int)/(G:Int)),.int .u64 Y] w (zS (zY #[.int .u64 hi,.int .u64 lo]) w):=by
  rw[<-e1];by_cases N:L<18446744073709551616
  .exact⟨0,L,by omega,zQ ⟨rfl,rfl⟩,λw=>uA (X/G) Y L w (by omega) (by omega) (by rw[i]) (by omega)⟩
  refine⟨((X/G*Y/18446744073709551616:Nat):Int),((X/G*Y%18446744073709551616:Nat):Int),by omega,zO ⟨by rw[i];omega,by omega⟩,λw=> ?_⟩;exact(Tryz.bits_Mul64 (X/G) Y (by omega) (by omega) w).mono λe w' ⟨he,hw⟩=>⟨he,hw.symm⟩
 clear g h f i y;obtain⟨hi,lo,⟨I,z⟩,c,c4⟩:=c4;have⟨u,p,r,s,t⟩:=zk5 j c1 c2 c3 c4;clear j c1 c2 c3 c4 e1;have D:(0:Int)<G:=by omega
 have o:IntKind.u64.wrap ((X:Int)/(G:Int))=(X:Int)/(G:Int):=by rw[IntKind.wrap_u64,<-Int.natCast_ediv];generalize X/G=q at K;exact Int.emod_eq_of_lt (by omega) (by omega)
 rcases c with⟨rfl,rfl⟩|⟨A,x⟩
 .go_enter func317,ntmps317;go_wp2;go_quiet ((first|(go_at_call 320;first|with_reducible exact fJ (p.out _)|with_reducible exact fJ (r.out _))|(go_at_call 345;with_reducible exact Calls.quiet_of (s.out _))|(go_at_call 319;with_reducible exact fJ (t.out _))));go_wp2;refine(rD false _ _ (by omega) (by omega)).mono ?_;rintro e w' ⟨rfl,rfl⟩;go_wp2;go_ret2;exact⟨by rw[<-u];rfl,_,rfl⟩
 have J:(hi !=0)=true:=by simp;omega
 go_enter func317,ntmps317;go_wp2;go_quiet ((first|(go_at_call 320;first|with_reducible exact fJ (p.out _)|with_reducible exact fJ (r.out _))|(go_at_call 345;with_reducible exact Calls.quiet_of (s.out _))|(go_at_call 319;with_reducible exact fJ (t.out _))));go_wp2;go_ret2;exact⟨Ps (zO ⟨zO (by rw[<-u];omega),rfl,rfl⟩),_,rfl⟩
end
section
open Go.RowKit
def pw (a:Int) (k:Nat):Int:=a^k
end
section
variable (c:Int) (b:UInt8) {a:Addr} {s:ByteArray} {l:List ByteArray} {k:Nat} {v:Value} {w w':World}
section
open Go.RowKit
def rX (h:w.cell? a=some v):a.spot=none:=by
 unfold World.cell? at h;split at h
 .split at h
  .cases h
  rename_i hs;simpa using hs
 cases h
def iu {b o:Nat} (j:Nat):(⟨b,o,none⟩:Addr).add j=⟨b,o+j,none⟩:=by
 unfold Addr.add;split
 .rename_i h;subst h;rfl
 rfl
def add_zero (a:Addr):a.add 0=a:=rfl
def RS.form (h:RS w a l) (e:0<zN l):∃b o,a=⟨b,o,none⟩/\b<w.heap.size/\∀j,j<zN l->w.cell? ⟨b,o+j,none⟩=some (zV (zG l j ⟨#[]⟩)):=by have c:=rX (h.cells 0 e);obtain⟨b,o,s⟩:=a;rw[add_zero] at c;simp only at c;subst c;exact⟨b,o,rfl,h.lt,λj d=>by rw[<-iu];exact h.cells j d⟩
def IL.form {l:List Int} (h:IL w v l):(∃A c,v=zU A 0 c/\l=[])\/∃b o c,v=zU (some ⟨b,o,none⟩) (zN l) c/\zN l<=c/\0<zN l/\b<w.heap.size/\∀j,j<zN l->w.cell? ⟨b,o+j,none⟩=some (zI zi (zG l j 0)):=by
 obtain⟨A,c,rfl,g,m⟩:=h;by_cases k:zN l=0
 .have:l=[]:=Ec k;subst this;exact zQ ⟨A,c,rfl,rfl⟩
 obtain⟨a,rfl,f,d⟩:=m (by omega);have e:=rX (d 0 (by omega));obtain⟨b,o,s⟩:=a;rw[add_zero] at e;simp only at e;subst e;exact zO ⟨b,o,c,rfl,g,by omega,f,λj i=>by rw[<-iu];exact d j i⟩
def SL.form (h:SL w v l):(∃A c,v=zU A 0 c/\l=[])\/∃b o c,v=zU (some ⟨b,o,none⟩) (zN l) c/\zN l<=c/\0<zN l/\b<w.heap.size/\∀j,j<zN l->w.cell? ⟨b,o+j,none⟩=some (zV (zG l j ⟨#[]⟩)):=by
 obtain⟨A,c,rfl,f,k⟩:=h;by_cases g:zN l=0
 .have:l=[]:=Ec g;subst this;exact zQ ⟨A,c,rfl,rfl⟩
 obtain⟨a,rfl,i⟩:=k (by omega);obtain⟨b,o,rfl,e,d⟩:=i.form (by omega);exact zO ⟨b,o,c,rfl,f,by omega,e,d⟩
def pq (w:World) (v:Value) (l:List ByteArray) (x:ByteArray) (h:SL w v l) (f:zN l<=9223372036854775807):Calls zz 294 #[v,zV x] w (zS (zW (Lib.containsS l x)) w):=by
 rcases h.form with⟨A,c,rfl,rfl⟩|⟨b,o,c,rfl,g,i,d,a⟩
 .exact(Tryz.slices_Contains_string_empty A c x w).mono λe w' ⟨he,hw⟩=>⟨he,hw.symm⟩
 refine(Tryz.slices_Contains_string b o (zN l) c l x w (DE _) f a).mono λe w' ⟨he,hw⟩=>⟨?_,hw.symm⟩;rw[he,Et]
def PK (w:World) (base:Nat) (e:TypeId) (size:Nat):w.ownsRow base e size (zU none 0 0) 0 []:=by refine⟨by simp,zQ ⟨rfl,rfl⟩⟩
theorem tM (w:World) (v:Value) (l:List Int) (h:IL w v l) (g:zN l*8<=140737488355328):
  Calls zz 88 #[v] w λe w'=>∃v',e=zE v'/\(w'.ownsRow w.heap.size 3 1 v' (zN l) (j5 l)/\zL w w'):=by
 rcases h.form with⟨A,c,rfl,rfl⟩|⟨b,o,c,rfl,i,j,f,d⟩
 .cases A with
  |none=>exact(Tryz.slices_Clone_int_nil 0 c w).mono λe w' ⟨he,hw⟩=>⟨_,he,by rw[hw];exact⟨PK _ _ _ _,DM _ _⟩⟩
  |some a=>exact(Tryz.slices_Clone_int_zero a c w).mono λe w' ⟨v',he,ho,_,hb⟩=>⟨v',he,ho,hb⟩
 refine(Tryz.slices_Clone_int b o (zN l) c l w (DE _) g d).mono λe w' ⟨v',he,ho,_,hb⟩=>⟨v',he, ?_,hb⟩;rw[Et] at ho;exact ho
theorem F8 (b:UInt8):∀l:List UInt8,Lib.indexByte l b=if ix b l<zN l then(ix b l:Int) else -1
 |[]=>by simp[Lib.indexByte,ix]
 |x::l=>by
  unfold Lib.indexByte;rw[F8 b l];have d:=ms (b:=b) l;by_cases e:x=b
  .simp[ix,e]
  have a:(x==b)=false:=by simpa using e
  simp only[a,ix,DK e,DF,FW,FN];by_cases h:ix b l<zN l
  .have c:((ix b l:Int)== -1)=false:=by
    have:¬(ix b l:Int)= -1:=by omega
    exact beq_false_of_ne this
   simp only[DP h,DP (show ix b l+1<zN l+1 by omega),c];simp
  simp only[DK h,DK (show¬ix b l+1<zN l+1 by omega)];rfl
def TY (s:ByteArray) (w:World) (t:s.size<=9223372036854775807):Calls zz 301 #[zV s,zV ⟨#[b]⟩] w (zR (zY #[zV (cO b s),zV (eM b s),zW (fF b s)]) w):=by
 have a:=zh (λw=>Tryz.stringslite_Index_one s b w);rw[F8] at a;have c:=ms (b:=b) s.data.toList;have f:Hid (fF b s=decide (ix b s.data.toList<zN s.data.toList)):=zh rfl;have q:Hid (cO b s=s.extract 0 (ix b s.data.toList)):=zh (lq (by rw[FU];simp[cO]));have hQ:Hid (eM b s=s.extract (ix b s.data.toList+1) s.size):=zh (lq (by rw[FU];simp only[eM];exact(En (by rw[ET,EW];omega)).symm));have j:Hid (ix b s.data.toList=zN s.data.toList->cO b s=s/\eM b s=⟨#[]⟩):=zh λh=>⟨lq (by simp only[cO,h];exact En (DE _)),lq (by simp[eM,h])⟩;have⟨n,o⟩:=zv (s.size);have d:zN s.data.toList=n:=by rw[o,EW]
 rw[d] at a c f j;generalize ix b s.data.toList=i at*;have⟨p,k⟩:=zv (⟨#[b]⟩:ByteArray);have e:p.size=1:=by rw[k];rfl
 rw[<-k] at a⊢;generalize cO b s=x,eM b s=y,fF b s=z at*;by_cases h:i<n
 .rw[DP h] at a;have c1:=zn0 i;have c2:(i:Int)<=(s.size:Int):=by omega
  have c3:(0:Int)<=(i:Int)+(p.size:Int):=by omega
  have c4:(i:Int)+(p.size:Int)<=(s.size:Int):=by omega
  have m:Hid (z=true):=zh (by rw[f];exact DR h);have⟨l,r⟩:=zk2 e o;clear j f d k e h c;go_enter func301,ntmps301;go_wp2;refine zJ (a _) ?_;go_wp2;go_region;go_wp2;go_ret3;refine⟨?_,aE (DM _ _) 1⟩;rw[m,q,hQ,l];rfl
 rw[DK h] at a;have hi:i=n:=by omega
 have m:Hid (z=false):=zh (by rw[f];exact DJ h);have g:=zh (j hi);clear j f d k e h c o hi q hQ;go_enter func301,ntmps301;go_wp2;refine zJ (a _) ?_;go_wp2;go_ret3;refine⟨?_,DM _ _⟩;rw[m,g.1,g.2];rfl
def Rz (s:ByteArray) (w:World) (e:s.size<=9223372036854775807) (h:de w):Calls zz 235 #[zV s,zV ⟨#[b]⟩] w (zR (zY #[zV (cO b s),zV (eM b s),zW (fF b s)]) w):=by have a:=zh (λw=>TY b s w e);have⟨p,d⟩:=zv (⟨#[b]⟩:ByteArray);rw[<-d] at a⊢;generalize cO b s=x,eM b s=y,fF b s=z at*;clear d e h;go_enter func235,ntmps235;go_wp2;refine zK (a _) λw' c=> ?_;have f:=zh c;clear c;go_wp2;go_ret3;exact⟨rfl,f⟩
end
section
open Go.RowKit
def uF (w:World) (a: -2147483648<=c) (b:c<=2147483647):Calls zz 340 #[.int .i32 c] w (zS (zW (fg c)) w):=by
 go_enter func340,ntmps340;go_wp2;all_goals
  go_ret;refine⟨bS ?_,rfl⟩;unfold fg;first|(rw[eq_comm];exact DR (by omega))|(rw[eq_comm];exact DJ (by omega))|(simp;omega)
def Qj (w:World) (a: -2147483648<=c) (b:c<=2147483647):Calls zz 355 #[.int .i32 c] w (zS (zW (oO c)) w):=by
 go_enter func355,ntmps355;go_wp2;all_goals
  go_ret;refine⟨bS ?_,rfl⟩;unfold oO;first|(rw[eq_comm];exact DR (by omega))|(rw[eq_comm];exact DJ (by omega))|(simp;omega)
def uO:(fg c=true/\eX c=true)\/(fg c=false/\oO c=true/\eX c=true)\/(fg c=false/\oO c=false/\65<=c/\c<=90/\eX c=true)∨(fg c=false/\oO c=false/\¬65<=c/\(c==95)=false/\eX c=false)\/(fg c=false/\oO c=false/\65<=c/\decide (c<=90)=false/\(c==95)=true/\eX c=true)\/(fg c=false/\oO c=false/\65<=c/\decide (c<=90)=false/\(c==95)=false/\eX c=false):=by unfold fg oO eX;simp only[Ef,FR,beq_iff_eq,Fb];omega
def wZ (w:World) (g: -2147483648<=c) (h:c<=2147483647):Calls zz 341 #[.int .i32 c] w (zS (zW (eX c)) w):=by
 have j:=zh (λw=>uF c w g h);have k:=zh (λw=>Qj c w g h);have f:=uO c;generalize fg c=lo,oO c=di at*;rcases f with⟨rfl,a⟩|⟨rfl,rfl,a⟩|⟨rfl,rfl,b,d,a⟩|⟨rfl,rfl,b,d,a⟩|⟨rfl,rfl,b,d,l,a⟩|⟨rfl,rfl,b,d,l,a⟩
 all_goals
  have i:=zh a;clear a;go_enter func341,ntmps341;go_wp2;refine zJ (j _) ?_;go_wp2_with(refine(k _).mono ?_;rintro e w' ⟨rfl,rfl⟩);go_ret;exact⟨bS i.symm,rfl⟩
def uh (w:World) (a:0<=c) (b:c<=255):Calls zz 256 #[.int .u8 c] w (zS (zW (fg c)) w):=by
 go_enter func256,ntmps256;go_wp2;all_goals
  go_ret;refine⟨bS ?_,rfl⟩;unfold fg;first|(rw[eq_comm];exact DR (by omega))|(rw[eq_comm];exact DJ (by omega))|(simp;omega)
def B4 (w:World) (a:0<=c) (b:c<=255):Calls zz 309 #[.int .u8 c] w (zS (zW (oO c)) w):=by
 go_enter func309,ntmps309;go_wp2;all_goals
  go_ret;refine⟨bS ?_,rfl⟩;unfold oO;first|(rw[eq_comm];exact DR (by omega))|(rw[eq_comm];exact DJ (by omega))|(simp;omega)
def Pv (w:World) (g:0<=c) (h:c<=255):Calls zz 258 #[.int .u8 c] w (zS (zW (eX c)) w):=by
 have j:=zh (λw=>uh c w g h);have k:=zh (λw=>B4 c w g h);have f:=uO c;generalize fg c=lo,oO c=di at*;rcases f with⟨rfl,a⟩|⟨rfl,rfl,a⟩|⟨rfl,rfl,b,d,a⟩|⟨rfl,rfl,b,d,a⟩|⟨rfl,rfl,b,d,l,a⟩|⟨rfl,rfl,b,d,l,a⟩
 all_goals
  have i:=zh a;clear a;go_enter func258,ntmps258;go_wp2;refine zJ (j _) ?_;go_wp2_with(refine(k _).mono ?_;rintro e w' ⟨rfl,rfl⟩);go_ret;exact⟨bS i.symm,rfl⟩
end
section
open Go.RowKit
def KW (w:World):Prop:=∃v,w.cell? ⟨0,0,none⟩=some v/\SL w v fV
def KW.lt (h:KW w):0<w.heap.size:=by
 obtain⟨v,h,_⟩:=h;rcases FO 0 w.heap.size with b|a
 .exact b
 unfold World.cell? at h;simp only[Array.getElem?_eq_none a] at h;cases h
def KW.Q (h:KW w) (b:zL w w'):KW w':=by have a:=h.lt;obtain⟨v,c,d⟩:=h;exact⟨v,by rw[b.cell (p:=⟨0,0,none⟩) a];exact c,d.Q b⟩
def jz (w:World) (s:ByteArray) (p:Nat):zL w (w.iter s p):=ab w _
def pe (h:∀j,j<k->eX (byt s j)=true) (hk:eX (byt s k)=true):∀j,j<k+1->eX (byt s j)=true:=λj a=>by
 by_cases e:j=k
 .rw[e];exact hk
 exact h j (by omega)
def TE (hk:k<s.size) (h:eX (byt s k)=false):decide (Wrd s)=false:=DJ λa=>by rw[a.2.2 k hk] at h;cases h
def PU (h:fg (byt s 0)=false):decide (Wrd s)=false:=DJ λa=>by rw[a.2.1] at h;cases h
def sZ {c:Int} (h:128<=c):fg c=false/\eX c=false:=by unfold fg eX;exact⟨DJ (by omega),DJ (by omega)⟩
def TW {c:Int} (h:fg c=true):eX c=true:=by unfold fg at h;unfold eX;have:=Ey h;exact DR (by omega)
def eU (d:ByteArray):(d.toList.isEmpty=decide (d.size=0))/\((!d.toList.isEmpty)= !decide (d.size=0))/\(d.toList=[]↔d.size=0):=by
 have e:d.toList.isEmpty=decide (d.size=0):=by rw[Lib.toList_data,EW];cases d.data.toList<;>simp
 refine⟨e,by rw[e], ?_⟩;rw[Lib.toList_data,EW];exact List.length_eq_zero_iff.symm
def T0 (s:ByteArray) (w:World) (J:s.size<=maxLen):Calls zz 299 #[zV s] w (zR (zW (decide (Wrd s))) w):=by
 unfold maxLen at J;go_enter func299,ntmps299;go_wp2;go_loopw [] (λwr=>∃k:Nat,k<=s.size/\Hid (∀j,j<k->eX (byt s j)=true)/\Hid (0<k->fg (byt s 0)=true)/\wr=w.iter s k) (λwr=>s.size-wr.iterPos w.heap.size)
 .exact⟨0,DH _,(λj h=>by omega),(λh=>by omega),rfl⟩
 obtain⟨k,hk,i,g,rfl⟩:=hrel;by_cases b:k<s.size
 .have o:=iR s k b;have A:=W4 s k;obtain⟨c,p,B,H,v,l⟩:∃(c:Int) (p:Nat),(∀ty,(Instr.next (.pointer (some ⟨w.heap.size,0,none⟩)) true ty).run zz (w.iter s k)= .ok (zY #[zW true,zI zi k,.int .i32 c]) (w.iter s p))/\0<=c/\c<=2147483647∧
    ((c=byt s k/\p=k+1)\/(eX c=false/\eX (byt s k)=false/\fg c=false)):=by
   by_cases G:(s[k]'b).toNat<128
   .exact⟨byt s k,k+1,λty=>by rw[o];exact run_next_ascii (P:=zz) w s k ty b G,by omega,by omega,zQ ⟨rfl,rfl⟩⟩
   have d:=(decode_high s k b (by omega)).1;have e:=decode_le s k;exact⟨((Utf8.decode s k).1:Int),k+(Utf8.decode s k).2,λty=>run_next_any (P:=zz) w s k ty b,by omega,by omega,zO ⟨(sZ (by omega)).2,(sZ (by rw[o];omega)).2,(sZ (by omega)).1⟩⟩
  have r:=zh (λw=>uF c w (by omega) v);have n:=zh (λw=>wZ c w (by omega) v);have C:(fg c=true/\eX c=true/\c=byt s k/\p=k+1)\/(fg c=false/\eX c=true/\c=byt s k/\p=k+1)\/(fg c=false/\eX c=false/\eX (byt s k)=false):=by
   rcases l with⟨e1,z⟩|⟨e1,z,E⟩
   .cases g:fg c
    .cases hi:eX c
     .exact zO (zO ⟨rfl,rfl,by rw[<-e1];exact hi⟩)
     exact zO (zQ ⟨rfl,rfl,e1,z⟩)
    exact zQ ⟨rfl,TW g,e1,z⟩
   exact zO (zO ⟨E,e1,z⟩)
  have K:Hid (p=k+1->∀W,W=w.iter s p->W=w.iter s (k+1)):=zh λh W F=>by rw[F,h]
  clear l o A;rcases C with⟨d,e,f,t⟩|⟨d,e,f,t⟩|⟨d,e,f⟩
  .have x:=zh (pe i (by rw[<-f];exact e));have y:Hid (0<k+1->fg (byt s 0)=true):=zh λ_=>by
    by_cases a:k=0
    .subst a;rw[<-f];exact d
    exact g (by omega)
   rw[d] at r;rw[e] at n;have m:=zh t;clear d e f t i g;by_cases a:k=0
   .have u:((k:Int)==0)=true:=by simpa using a
    clear a;go_wp2;refine zJ (r _) ?_;go_wp2;refine zJ (n _) ?_;go_wp2;go_roundw
    .exact⟨k+1,by omega,x,y,by rw[m]⟩
    simp[m.out];omega
   have u:((k:Int)==0)=false:=by simpa using a
   clear a;go_wp2;refine zJ (n _) ?_;go_wp2;go_roundw
   .exact⟨k+1,by omega,x,y,by rw[m]⟩
   simp[m.out];omega
  .by_cases a:k=0
   .have u:((k:Int)==0)=true:=by simpa using a
    have q:=zh (PU (s:=s) (by rw[a] at f;rw[<-f];exact d));rw[d] at r;clear a d e f t i g;go_wp2;refine zJ (r _) ?_;go_wp2;go_ret;exact⟨bS q.symm,jz _ _ _⟩
   have u:((k:Int)==0)=false:=by simpa using a
   have x:=zh (pe i (by rw[<-f];exact e));have y:Hid (0<k+1->fg (byt s 0)=true):=zh λ_=>g (by omega);rw[e] at n;have m:=zh t;clear a d e f t i g;go_wp2;refine zJ (n _) ?_;go_wp2;go_roundw
   .exact⟨k+1,by omega,x,y,by rw[m]⟩
   simp[m.out];omega
  have q:=zh (TE b f);rw[d] at r;rw[e] at n;clear d e f i g;by_cases a:k=0
  .have u:((k:Int)==0)=true:=by simpa using a
   clear a;go_wp2;refine zJ (r _) ?_;go_wp2;go_ret;exact⟨bS q.symm,jz _ _ _⟩
  have u:((k:Int)==0)=false:=by simpa using a
  clear a;go_wp2;refine zJ (n _) ?_;go_wp2;go_ret;exact⟨bS q.symm,jz _ _ _⟩
 have B:=λty=>run_next_end (P:=zz) w s k ty b;have q:Hid ((!s.toList.isEmpty)=decide (Wrd s)):=by
  refine zh ?_;rw[(eU s).2.1];by_cases D:s.size=0
  .rw[DR D,DJ (λhw:Wrd s=>by have:=hw.1;omega)];rfl
  have I:k=s.size:=by omega
  rw[DJ D,DR (show Wrd s from⟨by omega,g (by omega),λj L=>i j (by omega)⟩)];rfl
 clear i g;go_wp2;go_ret;exact⟨bS q,jz _ _ _⟩
def Wm (s:ByteArray) (w:World) (h:KW w):Calls zz 300 #[zV s] w (zS (zW (mt s)) w):=by obtain⟨v,b,a⟩:=h;have C:=zh (pq w v fV s a (by decide));clear a;go_enter func300,ntmps300;go_wp2;refine zJ C ?_;go_wp2;go_ret;exact⟨rfl,rfl⟩
def mi (s:ByteArray) (w:World) (i:s.size<=maxLen) (h:KW w):Calls zz 234 #[zV s] w (zR (zW (aQ s)) w):=by
 have k:=zh h;have e:=zh (λw=>T0 s w i);have j:=zh (λw h=>Wm s w h);have g:Hid (aQ s=(decide (Wrd s)&&decide (s.size<=16)&& !mt s)):=zh rfl;generalize aQ s=r,decide (Wrd s)=q,mt s=ky at*;unfold maxLen at i;clear h;cases q
 .go_enter func234,ntmps234;go_wp2;refine zK (e _) λw1 a=> ?_;have c:=zh a;clear a;go_wp2;go_ret;exact⟨bS (by rw[g];rfl),c⟩
 by_cases d:s.size<=16
 .have f:(s.size:Int)<=16:=by omega
  have b:Hid (r= !ky):=zh (by rw[g,DR d];rfl);go_enter func234,ntmps234;go_wp2;refine zK (e _) λw1 a=> ?_;have c:=zh a;clear a;go_wp2;refine zJ (j _ (k.Q c)) ?_;go_wp2;go_ret;exact⟨bS (by rw[b]),c⟩
 have f:¬(s.size:Int)<=16:=by omega
 have b:Hid (r=false):=zh (by rw[g,DJ d];rfl);go_enter func234,ntmps234;go_wp2;refine zK (e _) λw1 a=> ?_;have c:=zh a;clear a;go_wp2;go_ret;exact⟨bS (by rw[b]),c⟩
end
section
open Go.RowKit
def ly {a b:ByteArray} (h:a≠b):(a.toList==b.toList)=false/\(a.toList !=b.toList)=true:=by
 have c:(a.toList==b.toList)=false:=by
  have:¬a.toList=b.toList:=λe=>h (by
   have d:a.data.toList=b.data.toList:=by rw[<-Lib.toList_data,<-Lib.toList_data];exact e
   exact lq d);simpa using this
 exact⟨c,by simp[bne,c]⟩
def SL.of_box {g:Nat} {cs:Array Value} {t:TypeId} (h:Box w g cs t) (l:List ByteArray) (c:Nat) (d:zN l<=c) (a:cs.toList=F3 l):SL w (zU (some ⟨g,0,none⟩) (zN l) c) l:=by refine⟨some ⟨g,0,none⟩,c,rfl,d,λe=>⟨_,rfl,⟨h.lt,λj b=> ?_⟩⟩⟩;rw[iu,DY];refine h.A j _ ?_;rw[<-Array.getElem?_toList,a];simp[F3,DC,DD b]
def ui (w:World):Calls Tryz.prog 308 #[] w λe w'=>∃v,e=zE v/\(SL w' v fV/\zL w w'):=by go_enter func308,ntmps308;go_wp2;go_ret;exact⟨_,rfl,SL.of_box (Box.new _ _ _) fV 24 (by decide) rfl,ab _ _⟩
def mL (hk:k<zN l) (h:zG l k ⟨#[]⟩=s):Lib.containsS l s=true:=by rw[Lib.containsS_iff,<-h,DC,DD hk];exact EE hk
def lj (h:∀j,j<zN l->zG l j ⟨#[]⟩≠s):Lib.containsS l s=false:=by
 cases hc:Lib.containsS l s
 .rfl
 have⟨j,a,b⟩:=D9.1 ((Lib.containsS_iff _ _).1 hc);exact absurd (by rw[DC,DD a];exact b) (h j a)
def V0 (w:World) (v:Value) (l:List ByteArray) (s:ByteArray) (h:SL w v l) (D:zN l<=9223372036854775807):Calls zz 307 #[v,zV s] w (zS (zW (Lib.containsS l s)) w):=by
 obtain⟨A,c,rfl,C,u⟩:=h;have g:=zh (λk hk h=>mL (l:=l) (s:=s) (k:=k) hk h);have m:=zh (lj (l:=l) (s:=s));have⟨N,q⟩:=zvh (zN l);rw[<-q] at u C D g m⊢;have B:=zh u;generalize Lib.containsS l s=r at*;clear u;go_enter func307,ntmps307;go_wp2
 go_loop [5] (λi=>∃k:Nat,k<=N/\i=zI zi k/\Hid (∀j,j<k->zG l j ⟨#[]⟩≠s)) (λi=>N-(intOf i).toNat)
 .exact⟨0,DH _,rfl,(λj y=>by omega)⟩
 obtain⟨k,hk,rfl,n⟩:=hrel;by_cases b:k<N
 .have o:=zlt b;obtain⟨a,rfl,p⟩:=B (by omega);by_cases f:zG l k ⟨#[]⟩=s
  .have t:=zh (g k b f);have d:w.cell? (a.add k)=some (zV s):=by rw[p.cells k (by rw[<-q];exact b),f]
   clear f n p;go_wp2;go_ret;exact⟨bS t.symm,rfl⟩
  have z:Hid (∀j,j<k+1->zG l j ⟨#[]⟩≠s):=λj y=>by
   by_cases e:j=k
   .rw[e];exact f
   exact n j (by omega)
  have d:=p.cells k (by rw[<-q];exact b);have⟨e1,E⟩:=ly f;generalize zG l k ⟨#[]⟩=x at*;clear f n p;go_wp2
  go_round
  .exact⟨k+1,by omega,by go_num,z⟩
  simp[intOf];omega
 have o:=zge b;have t:=zh (m λj y=>n j (by omega));clear n;go_wp2;go_ret;exact⟨bS t.symm,rfl⟩
def VZ (s:ByteArray) (w:World):Calls zz 257 #[zV s] w (zR (zW (mt s)) w):=by have c:=zh (λw v h=>V0 w v fV s h (by decide));go_enter func257,ntmps257;go_wp2;refine(ui _).mono ?_;rintro e w1 ⟨v,rfl,b,a⟩;have⟨d,f⟩:=zk2 a b;clear a b;go_wp2;refine zJ (c _ _ f) ?_;go_wp2;go_ret;exact⟨rfl,d⟩
def yS (hk:k<s.size) (h:eX (byt s k)=false):aQ s=false:=by
 cases hn:aQ s
 .rfl
 have:=(cj.1 hn).1.2.2 k hk;rw[h] at this;cases this
def lZ (s:ByteArray) (w:World) (C:s.size<=maxLen):Calls zz 188 #[zV s] w (zR (zW (aQ s)) w):=by
 unfold maxLen at C;have a:aQ s=false->Hid (aQ s=false):=λh=>zh h;by_cases g:s.size=0
 .have b:Hid (aQ s=false):=a (by
   cases hn:aQ s
   .rfl
   have:=(cj.1 hn).1.1;omega);have D:s.toList=[]:=(eU s).2.2.2 g;clear g a;go_enter func188,ntmps188;go_wp2;go_ret;exact⟨bS b.symm,DM _ _⟩
 have E:s.toList.isEmpty=false:=by rw[(eU s).1];exact DJ g
 have F:¬s.toList=[]:=λh=>g ((eU s).2.2.1 h);by_cases f:16<s.size
 .have b:Hid (aQ s=false):=a (by
   cases hn:aQ s
   .rfl
   have:=(cj.1 hn).2.1;omega);have A:(16:Int)<s.size:=by omega
  clear g a f;go_enter func188,ntmps188;go_wp2;go_ret;exact⟨bS b.symm,DM _ _⟩
 have A:¬(16:Int)<s.size:=by omega
 have d:0<s.size:=by omega
 have t:=iR s 0 d;have m:=zh (λw=>uh (s[0].toNat:Int) w (by omega) (by have:=s[0].toNat_lt;omega));by_cases l:fg (byt s 0)=true;case neg=>
  have b:Hid (aQ s=false):=a (by
   cases hn:aQ s
   .rfl
   exact absurd (cj.1 hn).1.2.1 l);have c:fg (s[0].toNat:Int)=false:=by rw[<-t];simpa using l
  rw[c] at m;clear g a f l c t;go_enter func188,ntmps188;go_wp2;refine zJ (m _) ?_;go_wp2;go_ret;exact⟨bS b.symm,DM _ _⟩
 have c:fg (s[0].toNat:Int)=true:=by rw[<-t];exact l
 rw[c] at m;have x:=zh (λw=>VZ s w);have z:Hid ((∀j,j<s.size->eX (byt s j)=true)->aQ s= !mt s):=zh λh=>by unfold aQ;rw[DR (show Wrd s from⟨d,l,h⟩),DR (show s.size<=16 by omega)];rfl
 have v:Hid (mt s=true->aQ s=false):=zh λh=>by unfold aQ;rw[h];simp
 have u:=zh (λk hk h=>yS (s:=s) (k:=k) hk h);clear a l c t f g;generalize aQ s=r,mt s=ky at*;cases ky;case true=>
  have b:=zh (v rfl);go_enter func188,ntmps188;go_wp2;refine zJ (m _) ?_;go_wp2;refine zK (x _) λw1 n=> ?_;have q:=zh n;clear n;go_wp2;go_ret;exact⟨bS b.symm,q⟩
 go_enter func188,ntmps188;go_wp2;refine zJ (m _) ?_;go_wp2;refine zK (x _) λw1 n=> ?_;have q:=zh n;clear n;go_wp2
 go_loop [3] (λi=>∃k:Nat,k<=s.size/\i=zI zi k/\Hid (∀j,j<k->eX (byt s j)=true)) (λi=>s.size-(intOf i).toNat)
 .exact⟨0,DH _,rfl,(λj B=>by omega)⟩
 obtain⟨k,hk,rfl,o⟩:=hrel;by_cases p:k<s.size
 .have bk:=iR s k p;have e:=zh (λw=>Pv (s[k].toNat:Int) w (by omega) (by have:=s[k].toNat_lt;omega));rw[<-bk] at e;have BK:=zh bk;clear bk;cases hi:eX (byt s k)
  .have b:=zh (u k p hi);rw[hi] at e;rw[BK] at e;clear o hi;go_wp2;refine zJ (e _) ?_;go_wp2;go_ret;exact⟨bS b.symm,q⟩
  have y:=zh (pe o hi);rw[hi] at e;rw[BK] at e;clear o hi;go_wp2;refine zJ (e _) ?_;go_wp2
  go_round
  .exact⟨k+1,by omega,by go_num,y⟩
  simp[intOf];omega
 have b:=zh (z λj B=>o j (by omega));clear o;go_wp2;go_ret;exact⟨bS (by rw[b];rfl),q⟩
end
section
open Go.RowKit
def SPT (w:World) (s:ByteArray) (e:Ending) (w':World):Prop:=∃(a:ByteArray) (i:Int),e=zE (zY #[zV a,zI zi i,zW (decide (Elt s))])/\zL w w'
def SPT.mk {a:ByteArray} {i:Int} {b:Bool} (h:b=decide (Elt s)) (c:zL w w'):SPT w s (zE (zY #[zV a,zI zi i,zW b])) w':=⟨a,i,by rw[h],c⟩
def Pt (s:ByteArray) (w:World) (z:s.size<=9223372036854775807):Calls zz 344 #[zV s] w (SPT w s):=by
 have a:¬Elt s->Hid (false=decide (Elt s)):=λh=>zh (DJ h).symm;by_cases k:s.size<4
 .have b:=a (λh=>by have:=h.1;omega);have f:(s.size:Int)<4:=by omega
  clear a k;go_enter func344,ntmps344;go_wp2;go_ret3;exact SPT.mk b (DM _ _)
 obtain⟨n,r⟩:∃n,s.size=n+4:=⟨s.size-4,by omega⟩;have y:¬(s.size:Int)<4:=by omega
 have u:s.size-1<s.size:=by omega
 have v:s.size-2<s.size:=by omega
 have x:s.size-3<s.size:=by omega
 have g:=iR s _ u;have i:=iR s _ v;have j:=iR s _ x;have e:Hid (Elt s↔(s[s.size-1].toNat:Int)=93/\(s[s.size-3].toNat:Int)=91/\48<=(s[s.size-2].toNat:Int)/\(s[s.size-2].toNat:Int)<56/\aQ (s.extract 0 (s.size-3))=true):=zh (by
  rw[<-g,<-i,<-j];unfold Elt;constructor
  .exact λh=>h.2
  exact λh=>⟨by omega,h⟩);have m:=zh (λw=>lZ (s.extract 0 (s.size-3)) w (by unfold maxLen;rw[EW,FU];simp only[D3,ET];omega));have u1:=s[s.size-1].toNat_lt;have u2:=s[s.size-2].toNat_lt;have u3:=s[s.size-3].toNat_lt;have C:((s.size:Int)-1).toNat=s.size-1:=by omega
 have D:((s.size:Int)-2).toNat=s.size-2:=by omega
 have E:((s.size:Int)-3).toNat=s.size-3:=by omega
 have F:1<=(s.size:Int):=by omega
 have G:2<=(s.size:Int):=by omega
 have H:3<=(s.size:Int):=by omega
 generalize aQ (s.extract 0 (s.size-3))=nb at*;clear g i j r k;by_cases c:(s[s.size-1].toNat:Int)=93;case neg=>
  have b:=a (λh=>c (e.1 h).1);have p:((s[s.size-1].toNat:Int) !=93)=true:=by simpa using c
  clear a c;go_enter func344,ntmps344;go_wp2;go_ret3;exact SPT.mk b (DM _ _)
 have p:((s[s.size-1].toNat:Int) !=93)=false:=by simpa using c
 by_cases d:(s[s.size-3].toNat:Int)=91;case neg=>
  have b:=a (λh=>d (e.1 h).2.1);have q:((s[s.size-3].toNat:Int) !=91)=true:=by simpa using d
  clear a c d;go_enter func344,ntmps344;go_wp2;go_ret3;exact SPT.mk b (DM _ _)
 have q:((s[s.size-3].toNat:Int) !=91)=false:=by simpa using d
 by_cases A:(s[s.size-2].toNat:Int)<48
 .have b:=a (λh=>by have:=(e.1 h).2.2.1;omega);have t:(s[s.size-2].toNat:Int)-48<0:=by omega
  clear a c d;go_enter func344,ntmps344;go_wp2;go_ret3;exact SPT.mk b (DM _ _)
 have t:¬(s[s.size-2].toNat:Int)-48<0:=by omega
 by_cases B:8<=(s[s.size-2].toNat:Int)-48
 .have b:=a (λh=>by have:=(e.1 h).2.2.2.1;omega);clear a c d;go_enter func344,ntmps344;go_wp2;go_ret3;exact SPT.mk b (DM _ _)
 have b:Hid (nb=decide (Elt s)):=zh (by
  cases nb
  .exact(a (λh=>by have:=(e.1 h).2.2.2.2;cases this))
  exact(DR (e.out.2 ⟨c,d,by omega,by omega,rfl⟩)).symm);clear a c d;cases nb;all_goals
  go_enter func344,ntmps344;go_wp2;refine zK (m _) λw1 l=> ?_;have o:=zh l;clear l;go_wp2;go_ret3;exact SPT.mk b o
def Pu (s:ByteArray) (w:World) (j:s.size<=9223372036854775807):Calls zz 312 #[zV s] w (zR (zW (iC s)) w):=by
 have d:=zh (λw=>Pt s w j);have h:=zh (λw=>lZ s w (by unfold maxLen;omega));have g:Hid (iC s=(decide (Elt s)||aQ s)):=zh rfl;unfold SPT at d;generalize iC s=r,decide (Elt s)=el,aQ s=nb at*;cases el
 .have f:Hid (r=nb):=zh (by rw[g];rfl);go_enter func312,ntmps312;go_wp2;refine(d _).mono ?_;rintro e w1 ⟨a,i,rfl,b⟩;have c:=zh b;clear b;go_wp2;refine zK (h _) λw2 b=> ?_;replace c:=zb c b;clear b;go_wp2;go_ret;exact⟨bS (by rw[f]),c⟩
 have f:Hid (r=true):=zh (by rw[g];rfl);go_enter func312,ntmps312;go_wp2;refine(d _).mono ?_;rintro e w1 ⟨a,i,rfl,b⟩;have c:=zh b;clear b;go_wp2;go_ret;exact⟨bS (by rw[f]),c⟩
end
end
section
variable {e:Ex} {l:List Ex} {k:Nat}
instance YU (s:ByteArray) (l:List ByteArray):Decidable (s∈l):=decidable_of_iff (l.any (λy=>decide (y=s))=true) (by simp)
def ax:Nat->Ex->List Ex
 |0,_=>[]
 |k+1,e=>e::e.a.flatMap (ax k)
def jH (f:Ex->Nat) (l:List Ex):Nat:=l.foldl (λm a=>max m (f a)) 0
def cP:Nat->Ex->Nat
 |0,_=>0
 |k+1,e=>jH (cP k) e.a+1
theorem yW (f:Ex->Nat):∀(l:List Ex) (m:Nat),m<=l.foldl (λm a=>max m (f a)) m/\∀a∈l,f a<=l.foldl (λm a=>max m (f a)) m
 |[],m=>⟨DE _,λa h=>by cases h⟩
 |x::l,m=>by
  have⟨c,d⟩:=yW f l (max m (f x));rw[EH];refine⟨D2 (Nat.le_max_left _ _) c,λa b=> ?_⟩;rcases DS.1 b with rfl|b
  .exact D2 (Nat.le_max_right _ _) c
  exact d a b
def TM {f:Ex->Nat} {a:Ex} (h:a∈l):f a<=jH f l:=(yW f l 0).2 a h
theorem yV {f:Ex->Nat} {n:Nat}:∀{l:List Ex},(∀a∈l,f a<=n)->jH f l<=n:=by
 have b:∀(l:List Ex) (m:Nat),m<=n->(∀a∈l,f a<=n)->l.foldl (λm a=>max m (f a)) m<=n:=by
  intro l;induction l with
  |nil=>intro m hm _;exact hm
  |cons x l ih=>intro m hm h;rw[EH];exact ih _ (Nat.max_le.2 ⟨hm,h x (by simp)⟩) λa c=>h a (Ea _ c)
 intro l h;exact b l 0 (DH _) h
theorem mI:∀(k:Nat) (e:Ex),cP k e<=k
 |0,_=>DE _
 |k+1,e=>by unfold cP;have:=yV (f:=cP k) (l:=e.a) (n:=k) λa _=>mI k a;omega
def iE (op:Int):Int:=if op=1\/op=2\/op=24 then 0 else if op=3\/op=4\/op=5\/op=6\/op=25 then 1 else if op=22 then 3 else if op=23 then -1 else if op<1\/25<op then -1 else 2
def kX (op:Int) (m:Nat):Bool:=if op=23 then decide (m%2=1)&&(decide (3<=m)&&decide (m<=33)) else decide ((m:Int)=iE op)
def aT (e:Ex):Int:=
 if e.op<1\/25<e.op then 1
 else if(e.op=1/\(e.n<0\/65535<e.n))\/(e.op≠1/\e.n≠0) then 1
 else if(¬(e.op=2\/e.op=3\/e.op=24)/\e.s.size≠0)\/kX e.op (zN e.a)=false then 1
 else if(e.op=2/\iC e.s=false)\/((e.op=3\/e.op=24)/\aQ e.s=false) then 7
 else 0
def aZ (f:Ex->Int):List Ex->Int
 |[]=>0
 |x::l=>if f x=0 then aZ f l else f x
theorem qp {f:Ex->Int}:∀{l:List Ex},aZ f l=0↔∀x∈l,f x=0
 |[]=>by simp[aZ]
 |x::l=>by
  unfold aZ;by_cases h:f x=0
  .rw[DP h,qp];simp[h]
  rw[DK h];simp[h]
theorem qn {f:Ex->Int}:∀(l m:List Ex),aZ f (l++m)=if aZ f l=0 then aZ f m else aZ f l
 |[],m=>by simp[aZ]
 |x::l,m=>by
  have e1:aZ f (x::l++m)=if f x=0 then aZ f (l++m) else f x:=rfl
  have a:aZ f (x::l)=if f x=0 then aZ f l else f x:=rfl
  rw[e1,a,qn l m];by_cases h:f x=0
  .rw[DP h,DP h]
  rw[DK h,DK h,DK h]
def fZ (k:Nat) (e:Ex):Int:=if aZ aT (ax k e)=0 then(if 24<cP k e\/400<(ax k e).length then 2 else 0) else aZ aT (ax k e)
def Us (h:fZ k e=0):(∀x∈ax k e,aT x=0)/\cP k e<=24/\(ax k e).length<=400:=by
 unfold fZ at h;by_cases a:aZ aT (ax k e)=0
 .rw[DP a] at h;refine⟨qp.1 a, ?_⟩;by_cases b:24<cP k e\/400<(ax k e).length
  .rw[DP b] at h;cases h
  omega
 rw[DK a] at h;exact absurd h a
def pL (ops:Int->Bool) (a:List ByteArray) (l:List Ex):List ByteArray:=l.foldl (λa e=>if ops e.op=true/\e.s∉a then a++[e.s] else a) a
def dm (ops:Int->Bool) (l:List Ex):List ByteArray:=pL ops [] l
theorem uv (ops:Int->Bool):∀(l:List Ex) (a:List ByteArray) (s:ByteArray),s∈pL ops a l↔s∈a\/∃x∈l,ops x.op=true/\x.s=s
 |[],a,s=>by simp[pL]
 |x::l,a,s=>by
  unfold pL;rw[EH];have ih:=uv ops l;unfold pL at ih;rw[ih];by_cases h:ops x.op=true/\x.s∉a
  .rw[DP h];simp only[EK,DS,DZ,EC];constructor
   .rintro((h1|rfl)|⟨y,hy,h2⟩)
    .exact zQ h1
    .exact zO ⟨x,zQ rfl,h.1,rfl⟩
    exact zO ⟨y,zO hy,h2⟩
   rintro(h1|⟨y,rfl|hy,h2,h3⟩)
   .exact zQ (zQ h1)
   .exact zQ (zO h3.symm)
   exact zO ⟨y,hy,h2,h3⟩
  rw[DK h];simp only[DS];constructor
  .rintro(h1|⟨y,hy,h2⟩)
   .exact zQ h1
   exact zO ⟨y,zO hy,h2⟩
  rintro(h1|⟨y,rfl|hy,h2,h3⟩)
  .exact zQ h1
  .refine zQ ?_;rw[<-h3];exact E8 λb=>h ⟨h2,b⟩
  exact zO ⟨y,hy,h2,h3⟩
def fT {ops:Int->Bool} {s:ByteArray}:s∈dm ops l↔∃x∈l,ops x.op=true/\x.s=s:=by unfold dm;rw[uv];simp
theorem ib (ops:Int->Bool):∀(l:List Ex) (a:List ByteArray),(pL ops a l).length<=zN a+zN l
 |[],a=>by simp[pL]
 |x::l,a=>by
  unfold pL;rw[EH];have ih:=ib ops l;unfold pL at ih;refine D2 (ih _) ?_;split
  .simp;omega
  simp
def gH (op:Int):Bool:=decide (op=3)||decide (op=24)
def ff (op:Int):Bool:=decide (op=2)
def je (names:List ByteArray) (k:Nat) (e:Ex):Prop:=fZ k e=0/\dm gH (ax k e)=[]/\∀s∈dm ff (ax k e),s∈names
def TH (h:aT e=0) (f:gH e.op=false):ed e.op (zN e.a)=true/\(e.op=1\/e.n=0)/\0<=e.n/\e.n<=65535:=by
 unfold aT at h;by_cases b:e.op<1\/25<e.op
 .rw[DP b] at h;cases h
 rw[DK b] at h;by_cases c:(e.op=1/\(e.n<0\/65535<e.n))\/(e.op≠1/\e.n≠0)
 .rw[DP c] at h;cases h
 rw[DK c] at h;by_cases d:(¬(e.op=2\/e.op=3\/e.op=24)/\e.s.size≠0)\/kX e.op (zN e.a)=false
 .rw[DP d] at h;cases h
 have a:kX e.op (zN e.a)=true:=by
  cases hq:kX e.op (zN e.a)
  .exact absurd (zO hq) d
  rfl
 unfold gH at f;simp only[Bool.or_eq_false_iff,FR] at f;refine⟨?_,by omega,by omega,by omega⟩;generalize e.op=op,zN e.a=m at*;unfold kX iE at a;unfold ed;have i:op=1\/op=2\/op=4\/op=5\/op=6\/op=25\/op=22\/op=23\/(7<=op/\op<=21):=by omega
 rcases i with rfl|rfl|rfl|rfl|rfl|rfl|rfl|rfl|⟨j,g⟩
 .simp at a⊢;omega
 .simp at a⊢;omega
 .simp at a⊢;omega
 .simp at a⊢;omega
 .simp at a⊢;omega
 .simp at a⊢;omega
 .simp at a⊢;omega
 .simp at a⊢;omega
 rw[DK (by omega),DK (by omega),DK (by omega),DK (by omega),DK (by omega),DK (by omega)] at a;rw[DK (by omega),DK (by omega),DK (by omega),DK (by omega)];simp at a⊢;omega
theorem PR (known:ByteArray->Bool):∀(k j:Nat) (e:Ex),cP k e<=j->j<k->(∀x∈ax k e,aT x=0/\gH x.op=false/\(x.op=2->known x.s=true))->okE known j e=true
 |0,j,e,_,h,_=>by omega
 |k+1,0,e,h,_,_=>by unfold cP at h;omega
 |k+1,j+1,e,h,hj,hg=>by
  have⟨p,q,r⟩:=hg e (by unfold ax;simp);have⟨i,l,m,o⟩:=TH p q;have b:∀a∈e.a,okE known j a=true:=λa d=>by
   refine PR known k j a ?_ (by omega) λx s=>hg x ?_
   .unfold cP at h;have:=TM (f:=cP k) d;omega
   unfold ax;exact Ea _ (List.mem_flatMap.2 ⟨a,d,s⟩)
  obtain⟨op,n,g,args⟩:=e;unfold okE;simp only[DW,FX,Ef,Bool.not_eq_true',FR,Fa];refine⟨⟨⟨⟨⟨i,l⟩,m⟩,o⟩, ?_⟩,b⟩;by_cases c:op=2
  .exact zO (r c)
  exact zQ c
def QZ {names:List ByteArray} (h:je names k e) (hk:24<k):okE (λs=>decide (s∈names)) 24 e=true:=by
 obtain⟨d,f,g⟩:=h;have⟨b,c,i⟩:=Us d;refine PR _ k 24 e c hk λx a=>⟨b x a, ?_,λh=> ?_⟩
 .cases hq:gH x.op
  .rfl
  have:x.s∈dm gH (ax k e):=fT.2 ⟨x,a,hq,rfl⟩;rw[f] at this;cases this
 exact DR (g _ (fT.2 ⟨x,a,by unfold ff;simp[h],rfl⟩))
theorem pK {K c:ByteArray->Bool} (h:∀s,K s=true->c s=true):∀(k:Nat) (e:Ex),okE K k e=true->okE c k e=true
 |0,_,h'=>by cases h'
 |k+1,.mk op n name args,h'=>by
  unfold okE at h'⊢;simp only[DW,FX,Ef,Bool.not_eq_true',FR,Fa] at h'⊢;obtain⟨⟨d,b⟩,f⟩:=h';refine⟨⟨d, ?_⟩,λa g=>pK h k a (f a g)⟩;rcases b with b|b
  .exact zQ b
  exact zO (h _ b)
end
end
end Go.Proofs.YtdahpdnhkflnnaaGreatDoor
