/-
  Contracts and laws for the law TopChoices, part 3 of 14; made small by a program of mine out of longer texts.
-/
import Derived.Test.YtdahpdnhkflnnaaGreatDoorZ02
namespace Go.Proofs.YtdahpdnhkflnnaaGreatDoor
set_option linter.unusedVariables false
set_option linter.unusedSimpArgs false
set_option linter.defProp false
set_option maxRecDepth 100000
set_option maxHeartbeats 64000000
section
inductive Vl where
 |val (v:Nat)
 |bits (l w:Nat)
def vlB (x:Vl):Bm (List Nat):=match x with
 | .val v=>Bm.ret (au v 16)
 | .bits l w=>(kB l w).bind λr=>Bm.ret (r++au 0 (16-w))
def vlV (b:bb):Vl->Nat
 | .val v=>v
 | .bits l w=>dj (gP b l w)
def vlOk (n:Nat):Vl->Prop
 | .val v=>v<65536
 | .bits l w=>l+w<=n/\w<=16
def opW (op:Int) (ws:List (List Nat)):Bm (List Nat):=
 if op=4 then(bE (ws.getD 0 []) 0).bind λt=>(fE t).bind λu=>Bm.ret (aH u)
 else if op=5 then iS (ws.getD 0 [])
 else if op=6 then oI (au 0 16) (ws.getD 0 [])
 else if op=25 then j7 (ws.getD 0 []) (au 0 16)
 else if op=23 then(dN (ws.getD 0 []) ws.tail 0).bind λt=>Bm.ret (aH t)
 else if op=22 then(bE (ws.getD 0 []) 0).bind λt=>cY (λf g=>eR t f g) (ws.getD 1 []) (ws.getD 2 [])
 else if op=7 then fk (ws.getD 0 []) (ws.getD 1 []) 0
 else if op=8 then oI (ws.getD 0 []) (ws.getD 1 [])
 else if op=9 then iE (ws.getD 0 []) (ws.getD 1 []) 0 (au 0 16)
 else if op=10 then cY dJ (ws.getD 0 []) (ws.getD 1 [])
 else if op=11 then cY orB (ws.getD 0 []) (ws.getD 1 [])
 else if op=12 then cY gU (ws.getD 0 []) (ws.getD 1 [])
 else if op=13 then bP true (ws.getD 0 []) (ws.getD 1 []) 16 0 (au 0 16)
 else if op=14 then bP false (ws.getD 0 []) (ws.getD 1 []) 16 0 (au 0 16)
 else if op=19 then(bE (ws.getD 0 []) 0).bind λs=>(bE (ws.getD 1 []) 0).bind λt=>(dJ s t).bind λu=>Bm.ret (aH u)
 else if op=20 then(bE (ws.getD 0 []) 0).bind λs=>(bE (ws.getD 1 []) 0).bind λt=>(orB s t).bind λu=>Bm.ret (aH u)
 else if op=21 then(bE (ws.getD 0 []) 0).bind λs=>(bE (ws.getD 1 []) 0).bind λt=>(fE s).bind λv=>(orB v t).bind λu=>Bm.ret (aH u)
 else if op=15 then(eqB (ws.getD 0 []) (ws.getD 1 []) 1).bind λt=>Bm.ret (aH t)
 else if op=16 then(eqB (ws.getD 0 []) (ws.getD 1 []) 1).bind λt=>(fE t).bind λu=>Bm.ret (aH u)
 else if op=17 then(ltB (ws.getD 0 []) (ws.getD 1 []) 0).bind λt=>Bm.ret (aH t)
 else(ltB (ws.getD 1 []) (ws.getD 0 []) 0).bind λt=>(fE t).bind λu=>Bm.ret (aH u)
def nX {α β:Type} (f:α->Bm β):List α->Bm (List β)
 |[]=>Bm.ret []
 |a::l=>(f a).bind λb=>(nX f l).bind λr=>Bm.ret (b::r)
def iu (V:ByteArray->Vl):Nat->Ex->Bm (List Nat)
 |0,_=>λ_=>none
 |k+1,.mk op n name args=>(nX (iu V k) args).bind λws=>if op=1 then Bm.ret (au n.toNat 16) else if op=2 then vlB (V name) else opW op ws
section
variable {n:Nat} {d:List Nd}
theorem tN_bN (q:Bool):tN q=bN q:=rfl
theorem insX_T:∀(l:List Nat) (x:Nat),mH x l=qx x l
 |[],x=>rfl
 |[_],x=>rfl
 |lo::hi::r,x=>by
  show((decide (lo<=x)&&decide (x<=hi))||mH x r)=((decide (lo<=x)&&decide (x<=hi))||qx x r);rw[insX_T r x]
theorem popL_N {a:Fs} (d:a.length=16) (b:bb):tF (a.map (· b))=mG (wvl a b):=by
 unfold tF mG;rw[Bo];congr 1;refine BP (by rw[yD,yD,A8,d]) λi c e=> ?_;rw[List.getElem_map,List.getElem_map,List.getElem_range,tN_bN,dK,yj,yp (by rw[yD] at c;exact c)]
 rfl
theorem one_sw {w:List Nat} {μ:bb->Nat} (op:Int) (m:op=4\/op=5\/op=6\/op=25) (a:Gd n d) (f:Sw d w 16 μ):Tr n d (opW op [w]) λe r=>Sw e r 16 λb=>op1 op (μ b):=by
 rcases m with rfl|rfl|rfl|rfl
 ·refine(eL a f).bind λt s e1 i o=> ?_;refine(io i o).bind λu x y g p=>Tr.ret g ?_;refine(dX g.dv p).congr λb=> ?_;show bN (!decide (μ b≠0))=tN (decide (μ b=0));rw[tN_bN];congr 1
  by_cases h:μ b=0<;>simp[h]
 ·exact(vZ a f).mono λr e _ _ q=>q.congr λb=>rfl
 ·refine(vR a (ft a.dv (v:=0) (by decide)) f).mono λr e _ _ q=>q.congr λb=> ?_;show(0+(2^16-μ b))%2^16=(65536-μ b)%65536;rw[yH]
 ·obtain⟨c,j,k,l⟩:=f;refine(uY w c a j (ft a.dv (v:=0) (by decide))).mono λr e _ _ q=>q.congr λb=> ?_;show(0+tF (c.map (· b)))%2^16=mG (μ b);rw[popL_N k,l,yH];exact Bi (uU _)
theorem two_sw {x y:List Nat} {μ ν:bb->Nat} (op:Int) (L:7<=op) (G:op<=21) (c:Gd n d) (e:Sw d x 16 μ) (f:Sw d y 16 ν):Tr n d (opW op [x,y]) λl r=>Sw l r 16 λb=>op2 op (μ b) (ν b):=by
 have H:op=7\/op=8\/op=9\/op=10\/op=11\/op=12\/op=13\/op=14\/op=15\/op=16\/op=17\/op=18\/op=19\/op=20\/op=21:=by omega
 rcases H with rfl|rfl|rfl|rfl|rfl|rfl|rfl|rfl|rfl|rfl|rfl|rfl|rfl|rfl|rfl
 ·exact(qc c e f (fn0 c.dv)).mono λr l _ _ q=>q.congr λb=>by show(μ b+ν b+0)%2^16=(μ b+ν b)%65536;rw[yU]
 ·exact(vR c e f).mono λr l _ _ q=>q.congr λb=>rfl
 ·exact(prod_sw c e f).mono λr l _ _ q=>q.congr λb=>rfl
 ·exact(kH (ω:=λ_ p q=>p&&q) (ρ:=λb=>μ b&&&ν b) (λ_ g A j=>gS g A j) c e f (λb=>Nat.lt_of_le_of_lt Nat.and_le_left (e.lt b)) (λb k=>Nat.testBit_and _ _ _)).mono λr l _ _ q=>q.congr λb=>rfl
 ·exact(kH (ω:=λ_ p q=>p||q) (ρ:=λb=>μ b|||ν b) (λ_ g A j=>mr g A j) c e f (λb=>Nat.or_lt_two_pow (e.lt b) (f.lt b)) (λb k=>Nat.testBit_or _ _ _)).mono λr l _ _ q=>q.congr λb=>rfl
 ·exact(kH (ω:=λ_ p q=>p !=q) (ρ:=λb=>μ b^^^ν b) (λ_ g A j=>m9 g A j) c e f (λb=>Nat.xor_lt_two_pow (e.lt b) (f.lt b)) (λb k=>Nat.testBit_xor _ _ _)).mono λr l _ _ q=>q.congr λb=>rfl
 ·exact(rp (left:=true) c e f).mono λr l _ _ q=>q.congr λb=>rfl
 ·exact(rp (left:=false) c e f).mono λr l _ _ q=>q.congr λb=>rfl
 ·exact(eq_sw c e f).bind λt z e1 a i=>Tr.ret a ((dX a.dv i).congr λb=>rfl)
 ·exact(eq_sw c e f).bind λt z e1 a i=>(io a i).bind λu C w h m=>Tr.ret h ((dX h.dv m).congr λb=>rfl)
 ·exact(vv c e f).bind λt z e1 a i=>Tr.ret a ((dX a.dv i).congr λb=>rfl)
 ·exact(vv c f e).bind λt z e1 a i=>(io a i).bind λu C w h m=>Tr.ret h ((dX h.dv m).congr λb=>rfl)
 ·exact(eL c e).bind λs z e1 a B=>(eL a (f.ext c.dv a.dv e1)).bind λt C w h i=>(gS h (B.ext a.dv h.dv w) i).bind λu E D o m=>Tr.ret o ((dX o.dv m).congr λb=>rfl)
 ·exact(eL c e).bind λs z e1 a B=>(eL a (f.ext c.dv a.dv e1)).bind λt C w h i=>(mr h (B.ext a.dv h.dv w) i).bind λu E D o m=>Tr.ret o ((dX o.dv m).congr λb=>rfl)
 ·exact(eL c e).bind λs z e1 a B=>(eL a (f.ext c.dv a.dv e1)).bind λt C w h i=>(io h (B.ext a.dv h.dv w)).bind λv E D o I=>(mr o I (i.ext h.dv o.dv D)).bind λu J K F m=>Tr.ret F ((dX F.dv m).congr λb=>rfl)
theorem var_sw (h:n<=20) {x:Vl} (e:vlOk n x) (a:Gd n d):Tr n d (vlB x) λf r=>Sw f r 16 λb=>vlV b x:=by
 cases x with
 |val v=>exact Tr.ret a ((ft a.dv (v:=v) (len:=16) e).congr λb=>rfl)
 |bits l w=>
  obtain⟨g,k⟩:=e;refine(var_tr h w a g).bind λr j e1 c i=>Tr.ret c ?_;have:=sw_high c.dv i (16-w);rw[show w+(16-w)=16 by omega] at this;exact this
theorem vk {V:ByteArray->Vl} {k:Nat} (j:∀(e:Ex) {d:List Nd},Gd n d->okE (λ_=>true) k e=true->Tr n d (iu V k e) λc r=>Sw c r 16 λb=>evT (λs=>vlV b (V s)) k e):
  ∀(l:List Ex) {d:List Nd},Gd n d->(∀a∈l,okE (λ_=>true) k a=true)->Tr n d (nX (iu V k) l) λc ws=>Sws c 16 ws (l.map λe=>λb=>evT (λs=>vlV b (V s)) k e)
 |[],d,hg,h=>Tr.ret hg .nil
 |e::l,d,hg,h=>by
  refine(j e hg (h e (by simp))).bind λw q e1 g f=> ?_;refine(vk j l g (λa o=>h a (yT _ o))).bind λr t m i p=> ?_;exact Tr.ret i (.cons (f.ext g.dv i.dv m) p)
theorem uD (L:n<=20) {V:ByteArray->Vl} (K:∀s,vlOk n (V s)):∀(k:Nat) (e:Ex) {d:List Nd},Gd n d->okE (λ_=>true) k e=true->Tr n d (iu V k e) λA r=>Sw A r 16 λb=>evT (λs=>vlV b (V s)) k e
 |0,e,d,hg,h=>by cases h
 |k+1,.mk op m name args,d,hg,h=>by
  obtain⟨l,T,U,W, -,N⟩:=lS h;refine(vk (λe=>uD L K k e) args hg N).bind λws J e1 o i=> ?_
  by_cases H:op=1
  ·subst H;rw[yz rfl];exact Tr.ret o ((ft o.dv (v:=m.toNat) (len:=16) (by omega)).congr λb=>rfl)
  rw[yw H]
  by_cases I:op=2
  ·subst I;rw[yz rfl];exact(var_sw L (K name) o).mono λr A _ _ q=>q.congr λb=>rfl
  rw[yw I]
  have u:∀b,evT (λs=>vlV b (V s)) (k+1) (.mk op m name args)=opT op (args.map (evT (λs=>vlV b (V s)) k)):=λb=>by
   show(if op=1 then _ else if op=2 then _ else _)=_;rw[yw H,yw I]
  by_cases y:op=23
  ·subst y
   match args,l,i with
   |[],l,i=>simp[eY] at l
   |a::tl,l,i=>
    cases i with
    |cons hw i=>
     rename_i w ws _;show Tr n J ((dN w ws 0).bind λt=>Bm.ret (aH t)) _;refine(pA ws _ o hw i (fn0 o.dv)).bind λt M C z G=>Tr.ret z ?_;refine(dX z.dv G).congr λb=> ?_;rw[u b];show bN (false||qx _ _)=tN (mH _ _);rw[B7,insX_T,tN_bN,Bo]
     rfl
  by_cases x:op=22
  ·subst x
   match args,l,i with
   |[],l,i=>simp[eY] at l
   |[a],l,i=>simp[eY] at l
   |[a,b],l,i=>simp[eY] at l
   |a::b::c::e::r,l,i=>simp[eY] at l
   |[a,b,c],l,i=>
    cases i with
    |cons ha i=>cases i with
     |cons hb i=>cases i with
      |cons hc i=>cases i with
       |nil=>
        rename_i wa wb wc;show Tr n J ((bE wa 0).bind λt=>cY (λf g=>eR t f g) wb wc) _;refine(eL o ha).bind λt M C z G=> ?_;refine(kH (ω:=λβ p q=>if(decide (evT (λs=>vlV β (V s)) k a≠0))=true then p else q) (ρ:=λβ=>if evT (λs=>vlV β (V s)) k a≠0 then evT (λs=>vlV β (V s)) k b else evT (λs=>vlV β (V s)) k c) (λQ g R E=>yc g (G.ext z.dv g.dv Q) R E) z (hb.ext o.dv z.dv C) (hc.ext o.dv z.dv C) (λβ=> ?_) (λβ j=> ?_)).mono λr A _ _ q=>q.congr λβ=> ?_
        ·split
         ·exact hb.lt β
         ·exact hc.lt β
        ·by_cases S:evT (λs=>vlV β (V s)) k a=0<;>simp[S]
        ·rw[u β];rfl
  by_cases F:op=4\/op=5\/op=6\/op=25
  ·have B:args.length=1:=by
    unfold eY at l;rw[yw (by omega),yz F] at l;simpa using l
   match args,B,i with
   |[a],_,i=>
    cases i with
    |cons ha i=>cases i with
     |nil=>
      refine(one_sw op F o ha).mono λr A _ _ q=>q.congr λb=> ?_;rw[u b];unfold opT;rw[yw x,yw y,yz (by simp)];rfl
  ·have B:7<=op/\op<=21/\args.length=2:=by
    unfold eY at l;rw[yw (by omega),yw F,yw x,yw y] at l;simp only[yF,yY] at l;exact⟨l.1.1,l.1.2,l.2⟩
   obtain⟨P,D,B⟩:=B
   match args,B,i with
   |[a,c],_,i=>
    cases i with
    |cons ha i=>cases i with
     |cons hc i=>cases i with
      |nil=>
       refine(two_sw op P D o ha hc).mono λr A _ _ q=>q.congr λb=> ?_;rw[u b];unfold opT;rw[yw x,yw y,yw (by simp)];rfl
end
def dep:Nat:=24
def ruleB (V:ByteArray->Vl) (e:Ex):Bm Nat:=(iu V dep e).bind λw=>bE w 0
def dC (V:ByteArray->Vl):List Ex->Nat->Bm Nat
 |[],t=>Bm.ret t
 |e::l,t=>(ruleB V e).bind λf=>(dJ t f).bind λa=>dC V l a
def gH (σ:ByteArray->Nat) (l:List Ex):Bool:=l.all λe=>decide (evT σ dep e≠0)
section
variable {n:Nat} {d:List Nd}
theorem rule_tr (j:n<=20) {V:ByteArray->Vl} (g:∀s,vlOk n (V s)) {e:Ex} (i:Gd n d) (h:okE (λ_=>true) dep e=true):Tr n d (ruleB V e) λa f=>Fn a f λb=>decide (evT (λs=>vlV b (V s)) dep e≠0):=
 (uD j g dep e i h).bind λw l e1 c k=>eL c k
theorem ux (j:n<=20) {V:ByteArray->Vl} (h:∀s,vlOk n (V s)):∀(l:List Ex) {d:List Nd} {t:Nat} {τ:bb->Bool},Gd n d->(∀e∈l,okE (λ_=>true) dep e=true)->Fn d t τ->Tr n d (dC V l t) λm k=>Fn m k λb=>τ b&&gH (λs=>vlV b (V s)) l
 |[],d,t,τ,hg,hl,ht=>Tr.ret hg (ht.congr λb=>by simp[gH])
 |e::l,d,t,τ,hg,hl,ht=>by
  refine(rule_tr j h hg (hl e (by simp))).bind λf u e1 g r=> ?_;refine(gS g (ht.ext hg.dv g.dv e1) r).bind λk v x o c=> ?_;refine(ux j h l o (λa p=>hl a (yT _ p)) c).mono λi w _ _ q=>q.congr λb=> ?_;unfold gH;rw[List.all_cons,Bool.and_assoc]
end
def j5:List Wd->Nat->Nat
 |[],_=>0
 |v::vs,0=>0
 |v::vs,i+1=>(if v.fixed=none then v.w else 0)+j5 vs i
def bOf (l:List Bool):bb:=λk=>l.getD k false
theorem sZ (l:List Bool) (i w:Nat) (h:i+w<=l.length):gP (bOf l) i w=(l.drop i).take w:=by
 have e:gP (bOf l) i w=(List.range w).map λj=>l.getD (i+j) false:=rfl;rw[e];refine BP (by rw[yD,A8,yM,AY];omega) λj a b=> ?_;rw[yD,A8] at a;rw[List.getElem_map,List.getElem_range,List.getElem_take,List.getElem_drop,yj,yp (by omega)]
 rfl
def ra (a:List Wd) (i:Nat):Vl:=match(a.getD i ⟨0,some 0⟩).fixed with
 |some x=> .val x
 |none=> .bits (j5 a i) (a.getD i ⟨0,some 0⟩).w
theorem lev_le:∀(a:List Wd) (i:Nat),(a.getD i ⟨0,some 0⟩).fixed=none->j5 a i+(a.getD i ⟨0,some 0⟩).w<=aD a
 |[],i,h=>by simp at h
 |v::a,0,h=>by
  have b:v.fixed=none:=h;show 0+v.w<=(if v.fixed=none then v.w else 0)+aD a;rw[yz b];omega
 |v::a,i+1,h=>by
  have:=lev_le a i h;show(if v.fixed=none then v.w else 0)+j5 a i+(a.getD i ⟨0,some 0⟩).w<=(if v.fixed=none then v.w else 0)+aD a;omega
theorem qI:∀(vs:List Wd) (l:List Bool) (i:Nat),i<vs.length->aD vs<=l.length->(ej vs l).getD i 0=vlV (bOf l) (ra vs i)
 |[],l,i,h,hl=>by simp at h
 |v::vs,l,0,h,hl=>by
  cases hf:v.fixed with
  |some x=>
   rw[fd hf];unfold ra;rw[show(v::vs).getD 0 ⟨0,some 0⟩=v from rfl,hf];rfl
  |none=>
   rw[ff hf];unfold ra;rw[show(v::vs).getD 0 ⟨0,some 0⟩=v from rfl,hf];show dj (l.take v.w)=dj (gP (bOf l) 0 v.w)
   have b:v.w<=l.length:=by
    have:aD (v::vs)=(if v.fixed=none then v.w else 0)+aD vs:=rfl;rw[yz hf] at this;omega
   rw[sZ l 0 v.w (by omega)];rfl
 |v::vs,l,i+1,h,hl=>by
  have a:aD (v::vs)=(if v.fixed=none then v.w else 0)+aD vs:=rfl;have hi:i<vs.length:=by simpa using h
  cases hf:v.fixed with
  |some x=>
   rw[yw (by rw[hf];simp)] at a;rw[fd hf];show(ej vs l).getD i 0=_;rw[qI vs l i hi (by omega)];unfold ra;rw[show(v::vs).getD (i+1) ⟨0,some 0⟩=vs.getD i ⟨0,some 0⟩ from rfl,show j5 (v::vs) (i+1)=j5 vs i from by show(if v.fixed=none then v.w else 0)+j5 vs i=_;rw[yw (by rw[hf];simp)];omega]
  |none=>
   rw[yz hf] at a;rw[ff hf];show(ej vs (l.drop v.w)).getD i 0=_;rw[qI vs (l.drop v.w) i hi (by rw[AY];omega)];unfold ra;rw[show(v::vs).getD (i+1) ⟨0,some 0⟩=vs.getD i ⟨0,some 0⟩ from rfl,show j5 (v::vs) (i+1)=v.w+j5 vs i from by show(if v.fixed=none then v.w else 0)+j5 vs i=_;rw[yz hf]]
   cases hx:(vs.getD i ⟨0,some 0⟩).fixed with
   |some x=>rfl
   |none=>
    show dj (gP (bOf (l.drop v.w)) (j5 vs i) _)=dj (gP (bOf l) (v.w+j5 vs i) _);congr 1;unfold gP bOf;refine Bl λj _=> ?_;rw[yj,yj,Br];congr 2;omega
def jq:List ByteArray->ByteArray->Option Nat
 |[],_=>none
 |x::l,s=>if x=s then some 0 else(jq l s).map (· +1)
theorem qy:∀{l:List ByteArray} {s:ByteArray} {i:Nat},jq l s=some i->i<l.length
 |[],s,i,h=>by cases h
 |x::l,s,i,h=>by
  unfold jq at h
  split at h
  ·simp only[yy] at h;subst h;simp
  ·cases hq:jq l s with
   |none=>rw[hq] at h;cases h
   |some j=>
    rw[hq] at h;simp only[AX,yy] at h;have:=qy hq;rw[yr];omega
def iM (a:List ByteArray) (b:List Wd) (s:ByteArray):Vl:=match jq a s with
 |some i=>ra b i
 |none=> .val 0
def fo (b:List ByteArray) (a:List Nat) (s:ByteArray):Nat:=match jq b s with
 |some i=>a.getD i 0
 |none=>0
structure o9 (names:List ByteArray) (vs:List Wd):Prop where
 len:names.length=vs.length
 bits:aD vs<=20
 ok:∀v∈vs,v.w<=16/\∀x,v.fixed=some x->x<65536
theorem r6 {a:List ByteArray} {vs:List Wd} (h:o9 a vs) (s:ByteArray):vlOk (aD vs) (iM a vs s):=by
 unfold iM
 split
 ·rename_i i hm;have hi:i<vs.length:=by rw[<-h.len];exact qy hm
  have d:vs.getD i ⟨0,some 0⟩∈vs:=by
   rw[yj,yp hi];exact AJ hi
  obtain⟨b,c⟩:=h.ok _ d;unfold ra
  split
  ·rename_i x hx;exact c x hx
  ·rename_i hx;exact⟨lev_le vs _ hx,b⟩
 ·show 0<65536;omega
theorem rZ {a:List ByteArray} {b:List Wd} (h:o9 a b) {l:List Bool} (c:aD b<=l.length) (s:ByteArray):vlV (bOf l) (iM a b s)=fo a (ej b l) s:=by
 unfold iM fo
 cases hm:jq a s with
 |some i=>
  have hi:i<b.length:=by rw[<-h.len];exact qy hm
  exact(qI b l _ hi c).symm
 |none=>rfl
def de (b:List ByteArray) (c:List Wd) (rules:List Ex):List (List Nat):=(aK c).filter λa=>gH (fo b a) rules
theorem fN {a:List ByteArray} {b:List Wd} {rules:List Ex} {d:List Nd} {t:Nat} (h:o9 a b) (k:∀e∈rules,okE (λ_=>true) dep e=true) (g:dC (iM a b) rules 1 bT=some (t,d)):
  Gd (aD b) d/\t<d.length/\de a b rules=(fX d 0 (aD b) t).map (ej b):=by
 obtain⟨-,f,c⟩:=ux h.bits (r6 h) rules ⟨dv0,lim0 _⟩ k (fn1 dv0) t d g;refine⟨f,c.lt, ?_⟩;unfold de;rw[tZ];congr 1;refine Bp λl i=> ?_;have j:=mZ _ l i;have e:evL d 0 l t=ev d (bOf l) t:=rfl;rw[e,c.val,B5];congr 1
 funext s
 exact(rZ h (by omega) s).symm
theorem tr {a:List ByteArray} {b:List Wd} {rules:List Ex} {d:List Nd} {t:Nat} (h:o9 a b) (j:∀e∈rules,okE (λ_=>true) dep e=true) (i:dC (iM a b) rules 1 bT=some (t,d)):
  dG d (aD b) t 0=(de a b rules).length:=by
 obtain⟨c,f,g⟩:=fN h j i;rw[g,yD];exact(kp c.dv h.bits c.lim f (yt _) (yH _).symm).symm
theorem sols_nth {a:List ByteArray} {b:List Wd} {rules:List Ex} {d:List Nd} {t k:Nat} (h:o9 a b) (j:∀e∈rules,okE (λ_=>true) dep e=true) (i:dC (iM a b) rules 1 bT=some (t,d)) (hk:k<(de a b rules).length):
  (de a b rules)[k]? =some (ej b (ja d (aD b) (aD b) 0 t k)):=by
 obtain⟨c,g,f⟩:=fN h j i;rw[f,yD] at hk;rw[f,yW,qp c.dv h.bits c.lim _ 0 t k g (yt _) (yH _).symm hk]
 rfl
theorem jD {α β:Type} {l:List α} {f g:α->List β} (h:∀a∈l,f a=g a):l.flatMap f=l.flatMap g:=by
 induction l with
 |nil=>rfl
 |cons a l ih=>
  rw[AS,AS,h a (by simp),ih (λb c=>h b (yT _ c))]
theorem eq {α β:Type} (P:β->Bool) (f:α->List β):∀(l:List α),(l.flatMap f).filter P=l.flatMap λa=>(f a).filter P
 |[]=>rfl
 |a::l=>by rw[AS,AS,List.filter_append,eq P f l]
def goV (c:Nat->Nat):Nat->Nat->Nat->Nat×Nat
 |0,v,k=>(v,k)
 |m+1,v,k=>if k<c v then(v,k) else goV c m (v+1) (k-c v)
theorem goV_at {β:Type} (f:Nat->List β):∀(m v k:Nat),k<((List.range' v m).flatMap f).length->((List.range' v m).flatMap f)[k]? =(f (goV (λx=>(f x).length) m v k).1)[(goV (λx=>(f x).length) m v k).2]? ∧(goV (λx=>(f x).length) m v k).1<v+m/\v<=(goV (λx=>(f x).length) m v k).1/\(goV (λx=>(f x).length) m v k).2<(f (goV (λx=>(f x).length) m v k).1).length
 |0,v,k,h=>by simp at h
 |m+1,v,k,h=>by
  rw[List.range'_succ,AS] at h⊢;unfold goV
  by_cases hk:k<(f v).length
  ·rw[yz hk,yP hk];exact⟨rfl,by simp,by simp,hk⟩
  ·rw[yw hk,yG (by omega)];rw[yu] at h;obtain⟨a,c,d,b⟩:=goV_at f m (v+1) (k-(f v).length) (by omega);exact⟨a,by omega,by omega,b⟩
def pn:(List Nat->Bool)->List Nat->Nat->List Nat
 |_,[],_=>[]
 |P,w::ws,k=>
  let r:=goV (λv=>((aK (ws.map λw=>⟨w,none⟩)).filter λt=>P (v::t)).length) (2^w) 0 k
  r.1::pn (λt=>P (r.1::t)) ws r.2
theorem uV:∀(ws:List Nat) (P:List Nat->Bool) (k:Nat),k<((aK (ws.map λw=>⟨w,none⟩)).filter P).length->((aK (ws.map λw=>⟨w,none⟩)).filter P)[k]? =some (pn P ws k)
 |[],P,k,h=>by
  have b:((aK ([].map λw=>(⟨w,none⟩:Wd))).filter P).length<=1:=yK (List.length_filter_le _ _) (by simp[aK])
  have c:(aK ([].map λw=>(⟨w,none⟩:Wd))).filter P=[[]]:=by
   show[[]].filter P=[[]];cases hq:P []
   ·have:([[]]:List (List Nat)).filter P=[]:=by simp[hq]
    simp[aK,this] at h
   ·simp[hq]
  obtain rfl:k=0:=by omega
  rw[c];rfl
 |w::ws,P,k,h=>by
  have e:(aK ((w::ws).map λw=>(⟨w,none⟩:Wd))).filter P=(List.range' 0 (2^w)).flatMap λv=>((aK (ws.map λw=>⟨w,none⟩)).filter λt=>P (v::t)).map (v:: ·):=by
   show((List.range (2^w)).flatMap λx=>(aK (ws.map λw=>⟨w,none⟩)).map (x:: ·)).filter P=_;rw[eq,List.range_eq_range'];refine jD λv _=> ?_;rw[BJ];rfl
  rw[e] at h⊢;obtain⟨b,c,d,a⟩:=goV_at (λv=>((aK (ws.map λw=>⟨w,none⟩)).filter λt=>P (v::t)).map (v:: ·)) (2^w) 0 k h;rw[b];simp only[yD] at a⊢;unfold pn;simp only;generalize goV (λv=>((aK (ws.map λw=>(⟨w,none⟩:Wd))).filter λt=>P (v::t)).length) (2^w) 0 k=r at a⊢;rw[yW,uV ws (λt=>P (r.1::t)) r.2 a]
  rfl
def vb (w v:Nat):List Bool:=(List.range w).map λk=>v.testBit (w-1-k)
theorem i5 (w v:Nat):(vb w v).length=w:=by unfold vb;rw[yD,A8]
theorem bval_lt (l:List Bool):dj l<2^l.length:=by
 induction l with
 |nil=>simp[dj]
 |cons b l ih=>
  rw[mc,yr,BR];have:=oV b;have a:bN b*2^l.length<=1*2^l.length:=Nat.mul_le_mul_right _ (by omega);omega
theorem v7:∀(w v:Nat),dj (vb w v)=v%2^w
 |0,v=>by simp[vb,dj,Nat.mod_one]
 |w+1,v=>by
  have e:vb (w+1) v=vb w (v/2)++[v.testBit 0]:=by
   unfold vb;rw[List.range_succ,Bx,Cm,List.map_nil];congr 1
   ·refine Bl λk hk=> ?_;rw[BI] at hk;rw[show w+1-1-k=(w-1-k)+1 by omega,Nat.testBit_succ]
   ·rw[show w+1-1-w=0 by omega]
  rw[e,ma,v7 w (v/2),Nat.testBit_zero,BR,BY (2^w) 2,Nat.mod_mul]
  by_cases h:v%2=1
  ·simp[bN,h];omega
  ·have:v%2=0:=by omega
   simp[bN,this]
def cT:List Wd->List Nat->List Nat×Bool
 |[],_=>([],true)
 |v::vs,a=>
  let r:=cT vs a.tail
  if r.2=false then(a.headD 0::r.1,false)
  else match v.fixed with
   |some x=>(a.headD 0::r.1,true)
   |none=>if a.headD 0+1<2^v.w then((a.headD 0+1)::r.1,false) else(0::r.1,true)
def eP:List Wd->List Nat
 |[]=>[]
 |v::vs=>(match v.fixed with |some x=>x|none=>0)::eP vs
theorem vals_pos (v:Wd):0<(aR v).length:=by
 unfold aR
 split
 ·simp
 ·rw[A8];exact BD (by simp)
theorem m6:∀(a:List Wd),0<(aK a).length
 |[]=>by simp[aK]
 |v::a=>by
  have c:=m6 a;have b:=vals_pos v;unfold aK
  cases hv:aR v with
  |nil=>rw[hv] at b;simp at b
  |cons x r=>rw[AS,yu,yD];omega
theorem vL {α β:Type} {f:α->List β} {m:Nat} (hm:0<m):∀(l:List α),(∀a∈l,(f a).length=m)->(l.flatMap f).length=l.length*m/\∀j,j<(l.flatMap f).length->(l.flatMap f)[j]? =(l[j/m]?).bind λa=>(f a)[j%m]?
 |[],h=>⟨by simp,λj d=>by simp at d⟩
 |a::l,h=>by
  obtain⟨i,k⟩:=vL hm l (λb n=>h b (yT _ n));have e:=h a (by simp);refine⟨by rw[AS,yu,i,e,yr,Nat.succ_mul];omega,λj d=> ?_⟩;rw[AS] at d⊢
  by_cases c:j<m
  ·rw[yP (by omega),Nat.div_eq_of_lt c,Bi c];rfl
  ·rw[yG (by omega),e,k (j-m) (by rw[yu] at d;omega)];have e1:j/m=(j-m)/m+1:=Nat.div_eq_sub_div hm (by omega);have g:j%m=(j-m)%m:=Nat.mod_eq_sub_mod (by omega);rw[e1,g]
   rfl
theorem asg_at (v:Wd) (b:List Wd):(aK (v::b)).length=(aR v).length*(aK b).length/\∀j,j<(aK (v::b)).length->(aK (v::b))[j]? =(aR v)[j/(aK b).length]?.bind λx=>((aK b)[j%(aK b).length]?).map (x:: ·):=by
 obtain⟨c,d⟩:=vL (f:=λx=>(aK b).map (x:: ·)) (m:=(aK b).length) (m6 b) (aR v) (λa _=>by rw[yD]);refine⟨c,λj e=> ?_⟩;show((aR v).flatMap λx=>(aK b).map (x:: ·))[j]? =_;rw[d j e];congr 1
 funext x
 rw[yW]
theorem oB:∀(vs:List Wd),(aK vs)[0]? =some (eP vs)
 |[]=>rfl
 |v::vs=>by
  obtain⟨c,a⟩:=asg_at v vs;rw[a 0 (m6 _),Nat.zero_div,Nat.zero_mod,oB vs];have b:eP (v::vs)=(match v.fixed with |some x=>x|none=>0)::eP vs:=rfl;rw[b];unfold aR;generalize eP vs=fs
  cases v.fixed with
  |some x=>rfl
  |none=>
   simp only;rw[Be (BD (by simp))];rfl
theorem adv_at:∀(b:List Wd) (j:Nat) (a:List Nat),(aK b)[j]? =some a->(j+1<(aK b).length->(aK b)[j+1]? =some (cT b a).1/\(cT b a).2=false)/\(j+1=(aK b).length->(cT b a).1=eP b/\(cT b a).2=true)
 |[],j,a,h=>by
  have C:j<1:=by have:=(yJ.1 h).1;simpa [aK] using this
  have k:(aK []).length=1:=rfl;exact⟨λh=>by omega,λ_=>⟨rfl,rfl⟩⟩
 |v::b,j,a,h=>by
  obtain⟨o,B⟩:=asg_at v b;have hm:=m6 b;have C:=(yJ.1 h).1;obtain⟨m,l⟩:∃m,m=(aK b).length:=⟨_,rfl⟩;rw[<-l] at o B hm;rw[B j C] at h;have K:j%m<m:=Cf _ hm;have G:j%m<(aK b).length:=by rw[<-l];exact K
  have p:j/m<(aR v).length:=by
   rw[o] at C;exact(Nat.div_lt_iff_lt_mul hm).2 C
  obtain⟨x,q⟩:∃x,(aR v)[j/m]? =some x:=⟨_,yp p⟩;obtain⟨t,L⟩:∃t,(aK b)[j%m]? =some t:=⟨_,yp G⟩;rw[q,Option.bind_some,L,AX,yy] at h;subst h;obtain⟨M,N⟩:=adv_at b (j%m) t L;rw[<-l] at M N;have s:=Nat.div_add_mod j m
  have f:cT (v::b) (x::t)=if(cT b t).2=false then(x::(cT b t).1,false) else match v.fixed with
   |some y=>(x::(cT b t).1,true)
   |none=>if x+1<2^v.w then((x+1)::(cT b t).1,false) else(0::(cT b t).1,true):=rfl
  by_cases c:j%m+1<m
  ·obtain⟨r,E⟩:=M c;rw[f,yz E]
   have g:(j+1)/m=j/m:=by
    rw[<-s,Nat.add_assoc,Nat.mul_add_div hm,Nat.div_eq_of_lt c,Nat.mul_add_div hm,Nat.div_eq_of_lt K]
   have n:(j+1)%m=j%m+1:=by
    conv=>lhs;rw[<-s,Nat.add_assoc,Nat.mul_add_mod]
    exact Bi c
   have d:j+1<(aK (v::b)).length:=by
    rw[o];have:(j/m+1)*m<=(aR v).length*m:=Nat.mul_le_mul_right _ p;rw[Nat.add_mul,BY (j/m)] at this;omega
   refine⟨λ_=>⟨?_,rfl⟩,λF=>by omega⟩;rw[B (j+1) d,g,n,q,Option.bind_some,r];rfl
  ·have F:j%m+1=m:=by omega
   obtain⟨r,E⟩:=N F;rw[f,yw (by rw[E];simp)]
   have g:(j+1)/m=j/m+1:=by
    have e:j+1=m*(j/m+1):=by rw[Nat.mul_add];omega
    rw[e,Nat.mul_div_cancel_left _ hm]
   have n:(j+1)%m=0:=by
    rw[show j+1=m*(j/m+1) by rw[Nat.mul_add];omega,Nat.mul_mod_right]
   have i:j+1=(j/m+1)*m:=by rw[BY,Nat.mul_add];omega
   cases hf:v.fixed with
   |some y=>
    have z:(aR v).length=1:=by unfold aR;rw[hf];rfl
    have u:j/m=0:=by rw[z] at p;exact Nat.lt_one_iff.1 p
    simp only;refine⟨λk=> ?_,λ_=>⟨?_,by first|rfl|trivial⟩⟩
    ·rw[o,z] at k;rw[u] at i;omega
    ·have J:x=y:=by
      have H:aR v=[y]:=by unfold aR;rw[hf]
      rw[H,u] at q;simpa using q.symm
     rw[r,J];show _=(match v.fixed with |some x=>x|none=>0)::eP b;rw[hf]
   |none=>
    have D:aR v=List.range (2^v.w):=by unfold aR;rw[hf]
    have I:x=j/m:=by
     rw[D,Be (by rw[D,A8] at p;exact p)] at q;simpa using q.symm
    have A:(aR v).length=2^v.w:=by rw[D,A8]
    simp only
    by_cases d:x+1<2^v.w
    ·rw[yz d]
     have k:j+1<(aK (v::b)).length:=by
      rw[o,A,i];exact Nat.mul_lt_mul_of_pos_right (by omega) hm
     refine⟨λ_=>⟨?_,rfl⟩,λF=>by omega⟩;rw[B (j+1) k,g,n,oB b,D,Be (by omega),r,I];rfl
    ·rw[yw d];refine⟨λk=> ?_,λ_=>⟨?_,rfl⟩⟩
     ·rw[o,A,i] at k;have:j/m+1<2^v.w:=Nat.lt_of_mul_lt_mul_right k;omega
     ·rw[r];show _=(match v.fixed with |some x=>x|none=>0)::eP b;rw[hf]
instance decMemB (s:ByteArray) (l:List ByteArray):Decidable (s∈l):=decidable_of_iff (l.any (λy=>decide (y=s))=true) (by simp)
def aq:Nat->Ex->List Ex
 |0,_=>[]
 |k+1,e=>e::e.args.flatMap (aq k)
def kK (f:Ex->Nat) (l:List Ex):Nat:=l.foldl (λm a=>max m (f a)) 0
def dh:Nat->Ex->Nat
 |0,_=>0
 |k+1,e=>kK (dh k) e.args+1
theorem vf (f:Ex->Nat):∀(l:List Ex) (m:Nat),m<=l.foldl (λm a=>max m (f a)) m/\∀a∈l,f a<=l.foldl (λm a=>max m (f a)) m
 |[],m=>⟨yq _,λa h=>by cases h⟩
 |x::l,m=>by
  obtain⟨c,d⟩:=vf f l (max m (f x));rw[AM];refine⟨yK (Nat.le_max_left _ _) c,λa b=> ?_⟩;rcases yC.1 b with rfl|b
  ·exact yK (Nat.le_max_right _ _) c
  ·exact d a b
theorem maxL_ge {f:Ex->Nat} {l:List Ex} {a:Ex} (h:a∈l):f a<=kK f l:=(vf f l 0).2 a h
theorem vd {f:Ex->Nat} {n:Nat}:∀{l:List Ex},(∀a∈l,f a<=n)->kK f l<=n:=by
 have b:∀(l:List Ex) (m:Nat),m<=n->(∀a∈l,f a<=n)->l.foldl (λm a=>max m (f a)) m<=n:=by
  intro l
  induction l with
  |nil=>intro m hm _;exact hm
  |cons x l ih=>
   intro m hm h;rw[AM];exact ih _ (Nat.max_le.2 ⟨hm,h x (by simp)⟩) λa c=>h a (yT _ c)
 intro l h;exact b l 0 (yt _) h
theorem mX:∀(k:Nat) (e:Ex),dh k e<=k
 |0,_=>yq _
 |k+1,e=>by
  unfold dh;have:=vd (f:=dh k) (l:=e.args) (n:=k) λa _=>mX k a;omega
def gY (op:Int):Int:=if op=1\/op=2\/op=24 then 0 else if op=3\/op=4\/op=5\/op=6\/op=25 then 1 else if op=22 then 3 else if op=23 then -1 else if op<1\/25<op then -1 else 2
def lR (op:Int) (m:Nat):Bool:=if op=23 then decide (m%2=1)&&(decide (3<=m)&&decide (m<=33)) else decide ((m:Int)=gY op)
def aT (e:Ex):Int:=
 if e.op<1\/25<e.op then 1
 else if(e.op=1/\(e.n<0\/65535<e.n))\/(e.op≠1/\e.n≠0) then 1
 else if(¬(e.op=2\/e.op=3\/e.op=24)/\e.name.size≠0)\/lR e.op e.args.length=false then 1
 else if(e.op=2/\lI e.name=false)\/((e.op=3\/e.op=24)/\aN e.name=false) then 7
 else 0
def aY (f:Ex->Int):List Ex->Int
 |[]=>0
 |x::l=>if f x=0 then aY f l else f x
theorem sJ {f:Ex->Int}:∀{l:List Ex},aY f l=0↔∀x∈l,f x=0
 |[]=>by simp[aY]
 |x::l=>by
  unfold aY
  by_cases h:f x=0
  ·rw[yz h,sJ];simp[h]
  ·rw[yw h];simp[h]
theorem oC {f:Ex->Int}:∀(l m:List Ex),aY f (l++m)=if aY f l=0 then aY f m else aY f l
 |[],m=>by simp[aY]
 |x::l,m=>by
  have e1:aY f (x::l++m)=if f x=0 then aY f (l++m) else f x:=rfl
  have a:aY f (x::l)=if f x=0 then aY f l else f x:=rfl
  rw[e1,a,oC l m]
  by_cases h:f x=0
  ·rw[yz h,yz h]
  ·rw[yw h,yw h,yw h]
def gM (k:Nat) (e:Ex):Int:=if aY aT (aq k e)=0 then(if 24<dh k e\/400<(aq k e).length then 2 else 0) else aY aT (aq k e)
theorem exErr_0 {k:Nat} {e:Ex} (h:gM k e=0):(∀x∈aq k e,aT x=0)/\dh k e<=24/\(aq k e).length<=400:=by
 unfold gM at h
 by_cases a:aY aT (aq k e)=0
 ·rw[yz a] at h;refine⟨sJ.1 a, ?_⟩
  by_cases b:24<dh k e\/400<(aq k e).length
  ·rw[yz b] at h;cases h
  ·omega
 ·rw[yw a] at h;exact absurd h a
def nT (ops:Int->Bool) (a:List ByteArray) (l:List Ex):List ByteArray:=l.foldl (λa e=>if ops e.op=true/\e.name∉a then a++[e.name] else a) a
def df (ops:Int->Bool) (l:List Ex):List ByteArray:=nT ops [] l
theorem rX (ops:Int->Bool):∀(l:List Ex) (a:List ByteArray) (s:ByteArray),s∈nT ops a l↔s∈a\/∃x∈l,ops x.op=true/\x.name=s
 |[],a,s=>by simp[nT]
 |x::l,a,s=>by
  unfold nT;rw[AM];have ih:=rX ops l;unfold nT at ih;rw[ih]
  by_cases h:ops x.op=true/\x.name∉a
  ·rw[yz h];simp only[AQ,yC,yI,AH];constructor
   ·rintro((h1|rfl)|⟨y,hy,h2⟩)
    ·exact .inl h1
    ·exact .inr ⟨x,.inl rfl,h.1,rfl⟩
    ·exact .inr ⟨y,.inr hy,h2⟩
   ·rintro(h1|⟨y,rfl|hy,h2,h3⟩)
    ·exact .inl (.inl h1)
    ·exact .inl (.inr h3.symm)
    ·exact .inr ⟨y,hy,h2,h3⟩
  ·rw[yw h];simp only[yC];constructor
   ·rintro(h1|⟨y,hy,h2⟩)
    ·exact .inl h1
    ·exact .inr ⟨y,.inr hy,h2⟩
   ·rintro(h1|⟨y,rfl|hy,h2,h3⟩)
    ·exact .inl h1
    ·refine .inl ?_;rw[<-h3];exact Bh λb=>h ⟨h2,b⟩
    ·exact .inr ⟨y,hy,h2,h3⟩
theorem iK {ops:Int->Bool} {l:List Ex} {s:ByteArray}:s∈df ops l↔∃x∈l,ops x.op=true/\x.name=s:=by
 unfold df;rw[rX];simp
theorem iL (ops:Int->Bool):∀(l:List Ex) (a:List ByteArray),(nT ops a l).length<=a.length+l.length
 |[],a=>by simp[nT]
 |x::l,a=>by
  unfold nT;rw[AM];have ih:=iL ops l;unfold nT at ih;refine yK (ih _) ?_
  split
  ·simp;omega
  ·simp
def gW (op:Int):Bool:=decide (op=3)||decide (op=24)
def eX (op:Int):Bool:=decide (op=2)
def iP (a:List ByteArray) (k:Nat) (e:Ex):Prop:=gM k e=0/\df gW (aq k e)=[]/\∀s∈df eX (aq k e),s∈a
theorem nd_opOk {e:Ex} (h:aT e=0) (f:gW e.op=false):eY e.op e.args.length=true/\(e.op=1\/e.n=0)/\0<=e.n/\e.n<=65535:=by
 unfold aT at h
 by_cases b:e.op<1\/25<e.op
 ·rw[yz b] at h;cases h
 rw[yw b] at h
 by_cases c:(e.op=1/\(e.n<0\/65535<e.n))\/(e.op≠1/\e.n≠0)
 ·rw[yz c] at h;cases h
 rw[yw c] at h
 by_cases d:(¬(e.op=2\/e.op=3\/e.op=24)/\e.name.size≠0)\/lR e.op e.args.length=false
 ·rw[yz d] at h;cases h
 have a:lR e.op e.args.length=true:=by
  cases hq:lR e.op e.args.length
  ·exact absurd (.inr hq) d
  ·rfl
 unfold gW at f;simp only[Bool.or_eq_false_iff,Cg] at f;refine⟨?_,by omega,by omega,by omega⟩;generalize e.op=op at*;generalize e.args.length=m at*;unfold lR gY at a;unfold eY;have i:op=1\/op=2\/op=4\/op=5\/op=6\/op=25\/op=22\/op=23\/(7<=op/\op<=21):=by omega
 rcases i with rfl|rfl|rfl|rfl|rfl|rfl|rfl|rfl|⟨j,g⟩
 ·simp at a⊢;omega
 ·simp at a⊢;omega
 ·simp at a⊢;omega
 ·simp at a⊢;omega
 ·simp at a⊢;omega
 ·simp at a⊢;omega
 ·simp at a⊢;omega
 ·simp at a⊢;omega
 ·rw[yw (by omega),yw (by omega),yw (by omega),yw (by omega),yw (by omega),yw (by omega)] at a;rw[yw (by omega),yw (by omega),yw (by omega),yw (by omega)];simp at a⊢;omega
theorem okE_of (b:ByteArray->Bool):∀(k j:Nat) (e:Ex),dh k e<=j->j<k->(∀x∈aq k e,aT x=0/\gW x.op=false/\(x.op=2->b x.name=true))->okE b j e=true
 |0,j,e,_,h,_=>by omega
 |k+1,0,e,h,_,_=>by unfold dh at h;omega
 |k+1,j+1,e,h,hj,hg=>by
  obtain⟨p,q,r⟩:=hg e (by unfold aq;simp);obtain⟨i,l,m,o⟩:=nd_opOk p q
  have c:∀a∈e.args,okE b j a=true:=λa g=>by
   refine okE_of b k j a ?_ (by omega) λx s=>hg x ?_
   ·unfold dh at h;have:=maxL_ge (f:=dh k) g;omega
   ·unfold aq;exact yT _ (List.mem_flatMap.2 ⟨a,g,s⟩)
  obtain⟨op,n,name,args⟩:=e;unfold okE;simp only[yF,Cl,yY,Bool.not_eq_true',Cg,Bj];refine⟨⟨⟨⟨⟨i,l⟩,m⟩,o⟩, ?_⟩,c⟩
  by_cases d:op=2
  ·exact .inr (r d)
  ·exact .inl d
theorem exOk_okE {a:List ByteArray} {k:Nat} {e:Ex} (h:iP a k e) (hk:24<k):okE (λs=>decide (s∈a)) 24 e=true:=by
 obtain⟨f,g,i⟩:=h;obtain⟨c,d,j⟩:=exErr_0 f;refine okE_of _ k 24 e d hk λx b=>⟨c x b, ?_,λh=> ?_⟩
 ·cases hq:gW x.op
  ·rfl
  ·have:x.name∈df gW (aq k e):=iK.2 ⟨x,b,hq,rfl⟩;rw[g] at this;cases this
 ·exact yB (i _ (iK.2 ⟨x,b,by unfold eX;simp[h],rfl⟩))
theorem nS {K c:ByteArray->Bool} (h:∀s,K s=true->c s=true):∀(k:Nat) (e:Ex),okE K k e=true->okE c k e=true
 |0,_,h'=>by cases h'
 |k+1,.mk op n name args,h'=>by
  unfold okE at h'⊢;simp only[yF,Cl,yY,Bool.not_eq_true',Cg,Bj] at h'⊢;obtain⟨⟨d,b⟩,f⟩:=h';refine⟨⟨d, ?_⟩,λa g=>nS h k a (f a g)⟩;rcases b with b|b
  ·exact .inl b
  ·exact .inr (h _ b)
end
section
open Go.RowKit
def noQ (Q:Exit->Act->World->Prop):Exit->Act->World->Prop:=λb a w=>b= .normal/\Q b a w
theorem jx {Q:Exit->Act->World->Prop}:¬LetsOut (noQ Q):=λ⟨_,_,h,_⟩=>by cases h
section
variable {P:Program} {md:Region.Mode} {Q:Exit->Act->World->Prop} {ops:Array Oper}
theorem ext_run {o:Oper} {t:Operand} {ix:Nat} (b:o.op= .extract t ix) (a:Act):(∃v,∀w,(execOp a.eval o).run P w= .ok (.value v) w)\/∀w K (Q:Exit->Act->World->Prop),¬o.wp P a w K Q:=by
 unfold Oper.wp
 cases h:a.eval t with
 |tuple vs=>
  cases h2:vs[ix]? with
  |some v=>left;exact⟨v,λw=>by simp[execOp,b,h,Instr.extract,h2,Result.andThen]⟩
  |none=>right;intro w K Q;simp[execOp,b,h,Instr.extract,h2,Result.andThen,Oper.upon]
 |_=>right;intro w K Q;simp[execOp,b,h,Instr.extract,Result.andThen,Oper.upon]
theorem ext_op {i ix:Nat} {o:Oper} {t:Operand} (hi:ops[i]? =some o) (e:o.op= .extract t ix) (d:o.guard=none) {K:Act->World->Prop} {a:Act} {w:World} (h:wpOp P ops (noQ Q) i K a w):∃v,Yields P ops o v a/\K (a.put o.dst v) w:=by
 unfold wpOp at h;simp only[hi] at h;have c:Region.wanted o (yielded ops a.tmps)=true:=by unfold Region.wanted;rw[d]
 rw[yz c] at h;rcases h with h|⟨_,h⟩
 ·rcases ext_run (P:=P) e a with⟨v,b⟩|b
  ·refine⟨v,.inl ⟨c,b⟩, ?_⟩;unfold Oper.wp at h;rw[b w] at h;exact h
  ·exact absurd h (b w _ _)
 ·exact absurd h jx
theorem qY {i:Nat} {K:Act->World->Prop} {a:Act} {w:World} (h:wpOp P ops (noQ Q) i K a w):wpOp P ops Q i K a w:=by
 unfold wpOp at*
 split
 ·rename_i e;rw[e] at h;exact h
 ·rename_i o e;simp only[e] at h
  split
  ·rename_i hw;rw[yz hw] at h;rcases h with h|⟨_,h⟩
   ·left;unfold Oper.wp at*;generalize(execOp a.eval o).run P w=r at*
    cases r with
    |ok n w'=>
     cases n<;>simp only[Oper.upon] at h⊢<;>
      first
       |exact h
       |exact Calls.mono h (λe c b=>by cases e<;>first|exact b|exact b.2|exact absurd b jx)
    |halt x w'=>cases x<;>simp only[Oper.upon] at h⊢<;>first|exact h|exact h.2
   ·exact absurd h jx
  ·rename_i hw;rw[yw hw] at h;exact h
end
def uz (e:Nat) (o:Oper):Oper:={o with after:=o.after.push {on:=e,ground:= .data}}
def dQ (l:List Oper) (e s:Nat):List Oper:=l.modify s (uz e)
def lateB (md:Region.Mode) (l:List Oper) (e s:Nat):Bool:=
 decide (e<s)&&decide (s<l.length)&&(match l[e]?,l[s]? with
  |some oe,some os=>(match oe.op with | .extract _ _=>true|_=>false)&&oe.guard.isNone&&oe.apart l.toArray os&&Region.noSelect l.toArray&&
   (oe.after.all λx=> !Region.binds md x||(os.after.any λy=>Region.binds md y&&y.on==x.on))&&
   (List.range l.length).all λi=>i==e||i==s||(os.after.any λy=>Region.binds md y&&y.on==i)||(match l[i]? with |some o=>o.after.any λy=>Region.binds md y&&y.on==e|none=>false)
  |_,_=>false)
section
variable {P:Program} {md:Region.Mode} {Q:Exit->Act->World->Prop} {l:List Oper} {e s:Nat}
theorem kO (j:Nat):(dQ l e s).toArray[j]? =(l.toArray[j]?).map λo=>if s=j then uz e o else o:=by
 rw[y8,y8,dQ,List.getElem?_modify]
 rfl
theorem jb (tmps:Array Value):yielded (dQ l e s).toArray tmps=yielded l.toArray tmps:=by
 funext j
 unfold yielded;rw[kO]
 cases l.toArray[j]? with
 |none=>rfl
 |some o=>by_cases h:s=j<;>simp[h,uz]
theorem qu (i:Nat) (K:Act->World->Prop) (a:Act) (w:World):wpOp P (dQ l e s).toArray Q i K a w=wpOp P l.toArray Q i K a w:=by
 unfold wpOp;rw[kO,jb]
 cases l.toArray[i]? with
 |none=>rfl
 |some o=>
  simp only[AX]
  split<;>rfl
theorem gB {i:Nat} {listed:Array Bool} (hi:i∈Region.ready md l.toArray listed) (h:i≠s\/listed.getD e false=true):i∈Region.ready md (dQ l e s).toArray listed:=by
 obtain⟨c,o,f,a⟩:=BE.1 hi;refine BE.2 ⟨c,_,by rw[kO,f];rfl,λx b d=> ?_⟩
 split at b
 ·rename_i hs;simp only[uz,Array.mem_push] at b;rcases b with b|rfl
  ·exact a x b d
  ·rcases h with h|h
   ·exact absurd hs.symm h
   ·exact h
 ·exact a x b d
theorem xA {i:Nat} {listed:Array Bool} (hi:i∈Region.ready md (dQ l e s).toArray listed):i∈Region.ready md l.toArray listed:=by
 obtain⟨c,o,a,b⟩:=BE.1 hi;rw[kO] at a
 cases h:l.toArray[i]? with
 |none=>rw[h] at a;cases a
 |some o'=>
  rw[h] at a;simp only[AX,yy] at a;subst a;refine BE.2 ⟨c,o',h,λx d f=>b x ?_ f⟩
  split
  ·simp only[uz,Array.mem_push];exact .inl d
  ·exact d
theorem late_any (u:lateB md l e s=true):∀(f:Nat) (listed:Array Bool) (a:Act) (w:World),listed.size=l.length->wpAny P md (dQ l e s).toArray (noQ Q) f listed a w->wpAny P md l.toArray Q f listed a w:=by
 simp only[lateB,yF,yY] at u;obtain⟨⟨ab,ac⟩,u⟩:=u
 cases he0:l[e]? with
 |none=>rw[he0] at u;cases u
 |some oe=>
 cases hs0:l[s]? with
 |none=>rw[he0,hs0] at u;cases u
 |some os=>
 rw[he0,hs0] at u;simp only[yF] at u;obtain⟨⟨⟨⟨⟨hx,hg⟩,S⟩,A⟩,G⟩,E⟩:=u;have L:l.toArray[e]? =some oe:=by rw[y8];exact he0
 have M:l.toArray[s]? =some os:=by rw[y8];exact hs0
 obtain⟨tt,ix,Y⟩:∃tt ix,oe.op= .extract tt ix:=by
  split at hx
  ·rename_i t' ix' h;exact⟨t',ix',h⟩
  ·cases hx
 have U:oe.guard=none:=by simpa using hg
 have r:e≠s:=by omega
 have p:∀listed:Array Bool,s∈Region.ready md l.toArray listed->listed.getD e true=false->e∈Region.ready md l.toArray listed:=λlisted I m=>by
  obtain⟨_,o,F,R⟩:=BE.1 I;obtain rfl:=Az (M.symm.trans F);refine BE.2 ⟨m,oe,L,λx aa T=> ?_⟩;have g:=Array.all_eq_true'.1 G x aa;rw[T] at g;simp only[Bool.not_true,B7] at g;obtain⟨y,D,d⟩:=Array.any_eq_true'.1 g;simp only[yF,beq_iff_eq] at d;rw[<-d.2];exact R y D d.1
 have only:∀(listed:Array Bool),listed.size=l.length->s∈Region.ready md l.toArray listed->listed.getD e true=false->∀i∈Region.ready md l.toArray (listed.setIfInBounds s true),i=e:=λlisted k I m i hi=>by
  obtain⟨q,o,F,R⟩:=BE.1 hi;obtain⟨_,o',X,T⟩:=BE.1 I;obtain rfl:=Az (M.symm.trans X)
  have C:i<l.length:=by
   have:=(Bu.1 F).1;simpa using this
  have g:=Bj.1 E i (BI.2 C);simp only[Cl,beq_iff_eq] at g;rcases g with((g|g)|g)|g
  ·exact g
  ·subst g;rw[show(listed.setIfInBounds i true).getD i true=true by simp[k,C]] at q;cases q
  ·obtain⟨y,D,d⟩:=Array.any_eq_true'.1 g;simp only[yF,beq_iff_eq] at d;have t:=T y D d.1;rw[d.2] at t
   have Z:s≠i:=λh=>by
    subst h;rw[show(listed.setIfInBounds s true).getD s true=true by simp[k,C]] at q;cases q
   rw[BZ true Z] at q;rw[getD_both q] at t;cases t
  ·rw[y8] at F;rw[F] at g;obtain⟨y,D,d⟩:=Array.any_eq_true'.1 g;simp only[yF,beq_iff_eq] at d;have t:=R y D d.1;rw[d.2,BZ false (BQ r),getD_both m] at t;cases t
 have K:∀(n f:Nat),f<=n->∀(listed:Array Bool) (a:Act) (w:World),listed.size=l.length->wpAny P md (dQ l e s).toArray (noQ Q) f listed a w->wpAny P md l.toArray Q f listed a w:=by
  intro n
  induction n with
  |zero=>
   intro f hf listed a w k H;obtain rfl:f=0:=by omega
   refine⟨List.eq_nil_iff_forall_not_mem.2 λi hi=> ?_,H.2.2⟩
   by_cases h:i≠s\/listed.getD e true≠false
   ·have:i∈Region.ready md (dQ l e s).toArray listed:=gB hi (h.imp id λh=>by
     by_cases W:e<listed.size
     ·simpa [Array.getD,W] using h
     ·omega)
    rw[H.1] at this;cases this
   ·simp only[not_or,ne_eq,Decidable.not_not] at h;obtain⟨rfl,m⟩:=h;have:e∈Region.ready md (dQ l e i).toArray listed:=gB (p _ hi m) (.inl r);rw[H.1] at this;cases this
  |succ n ih=>
   intro f hf listed a w k H
   cases f with
   |zero=>exact ih 0 (by omega) listed a w k H
   |succ f=>
    refine⟨λN=>(H.1 (List.eq_nil_iff_forall_not_mem.2 λi hi=>by have:=xA hi;rw[N] at this;cases this)).2,λi hi=> ?_⟩
    by_cases h:i≠s\/listed.getD e true≠false
    ·have I:i∈Region.ready md (dQ l e s).toArray listed:=gB hi (h.imp id λh=>by
      by_cases W:e<listed.size
      ·simpa [Array.getD,W] using h
      ·omega)
     have g:=H.2 i I;rw[qu] at g;exact wpOp_mono (λa' w' t=>ih f (by omega) _ a' w' (by simpa using k) t) (qY g)
    ·simp only[not_or,ne_eq,Decidable.not_not] at h;obtain⟨rfl,m⟩:=h;have J:=p _ hi m;have g:=H.2 e (gB J (.inl r));rw[qu] at g;obtain⟨v,D,t⟩:=ext_op L Y U g;have V:i∈Region.ready md l.toArray (listed.setIfInBounds e true):=Cj hi (BQ r);have B:i∈Region.ready md (dQ l e i).toArray (listed.setIfInBounds e true):=gB V (.inr (by simp[k];omega))
     cases f with
     |zero=>have:=t.1;rw[this] at B;cases B
     |succ f=>
      have h3:=t.2 i B;rw[qu] at h3;have h4:=wpOp_put M S (λcs b=>BS A e _ cs b L) (λcs b=>BS A i _ cs b M) (λc a w h=>by cases h.1) D h3;refine wpOp_mono (λa' w' ⟨hy',h5⟩=> ?_) (qY h4);have z:e∈Region.ready md l.toArray (listed.setIfInBounds i true):=Cj J r;refine⟨λN=>(by rw[N] at z;cases z),λj hj=> ?_⟩;obtain rfl:=only listed k hi m j hj;refine Yields.wpOp L hy' (ih f (by omega) _ _ _ (by simpa using k) ?_);rw[Array.setIfInBounds_comm _ _ (BQ r)];exact h5
 exact λf=>K f f (yq _)
theorem ni {ops ops':Array Oper} (b:∀tmps,yielded ops' tmps=yielded ops tmps):∀(m:List Oper),wpList P ops' Q m=wpList P ops Q m
 |[]=>rfl
 |o::m=>by
  funext a w
  unfold wpList;rw[b,ni b m]
theorem mn {ops ops':Array Oper} (b:∀tmps,yielded ops' tmps=yielded ops tmps):∀(m:List Oper) (k:Nat),wpList P ops' Q (m.modify k (uz e))=wpList P ops Q m
 |[],k=>by simp only[List.modify_nil];rfl
 |o::m,0=>by
  funext a w
  rw[List.modify_zero_cons];unfold wpList;rw[b,ni b m]
  rfl
 |o::m,k+1=>by
  funext a w
  rw[List.modify_succ_cons];unfold wpList;rw[b,mn b m k]
theorem xx {n:Nat} (h:n<=s):(dQ l e s).take n=l.take n:=by
 refine List.ext_getElem? λj=> ?_;rw[List.getElem?_take,List.getElem?_take,dQ,List.getElem?_modify]
 split
 ·rename_i hj;have a:¬s=j:=by omega
  simp only[a,Cc];cases l[j]? <;>rfl
 ·rfl
theorem xy {n:Nat} (h:n<=s):(dQ l e s).drop n=(l.drop n).modify (s-n) (uz e):=by
 refine List.ext_getElem? λj=> ?_;rw[Br,dQ,List.getElem?_modify,List.getElem?_modify,Br]
 by_cases b:s=n+j
 ·have a:s-n=j:=by omega
  simp only[b,a,if_true];simp
 ·have a:¬s-n=j:=by omega
  simp only[b,a,Cc]
theorem gen_all {a:Act} {w:World} {l:List Oper} (n:Nat) (K:Kit) (M:Region.lexTailB .any l.toArray n=true) (i:∀γ,Region.lexTailB .any (dV K γ 0 l).toArray n=true)
  (m:xY .any l K n=true) (V:K.Stable) (z:K.Known)
  (h:∀(γ:Nat->Value) (Z:K.Good γ) (C:World->Prop) (k:lC w C) (X:Nonempty (gZ w C)),wpF P K w γ (λw'=>∃p:gZ w C,w'=p.w) l.toArray
   (λf=>∀w',Below w.heap.size w w'->(∀d,d<n->K.fr d=true->K.Φ d (γ d) w')->wpList P l.toArray Q (l.drop n) f w') 0 (l.take n) a):
  wpAny P .any l.toArray Q l.toArray.size (Array.replicate l.toArray.size false) a {w with drawn:=w.drawn+1}:=by
 simp only[Region.lexTailB,yF,yY] at M;obtain⟨⟨⟨⟨R,G⟩,I⟩,J⟩,S⟩:=M;have D:n<l.length:=by simpa using G
 have o:(l.drop n).length=l.toArray.size-n:=by simp
 have b:(l.take n).length=n:=by rw[yM];omega
 have e:HeadInv .any l.toArray n (Array.replicate l.toArray.size false):=
  ⟨by simp,λj oj _ r=>(by rw[BF] at r;cases r),λt _ Y=>getD_in (by simpa using Y) (BF _ _)⟩
 have e0:l.toArray.size=n+(l.toArray.size-n):=by simp;omega
 have F:=mS (P:=P) (K:=K) (md:= .any) (l:=l) (n:=n) (gg:=l.toArray.size-n) (w0:=w) (Q':=Q)
  (Lq:=λγ f=>∀w',Below w.heap.size w w'->(∀d,d<n->K.fr d=true->K.Φ d (γ d) w')->wpList P l.toArray Q (l.drop n) f w')
  V z D I J (by simp;omega) m (λγ c f w' aa W B s y=> ?_) n (Array.replicate l.toArray.size false) a {w with drawn:=w.drawn+1} (λj=>Classical.choose (z.ne j)) (λj _=>Classical.choose_spec (z.ne j)) e (ae _)
  (λd _ _ r=>(by rw[BF] at r;cases r)) (λγ C q k _=> ?_)
 ·rw[<-e0] at F;exact F
 ·have U:=wpAny_of_seq (P:=P) (md:= .any) (ops:=l.toArray) (Q':=Q) (l.drop n) n c f w' (λj=>by simp[Br]) (by rw[o];exact s) (y w' W B)
  rwa [o] at U
 ·have g:=i γ;simp only[Region.lexTailB,yF,yY] at g;obtain⟨⟨⟨⟨T,g2⟩,g3⟩,g4⟩,L⟩:=g;have E:(dV K γ 0 l).toArray.size=l.toArray.size:=by rw[AI,AI,kW]
  have x:(λw'=>∃p:gZ w C,w'=p.w)=C:=by funext w';exact propext (sg k w')
  have v:=h γ q C k (by obtain⟨wC,u⟩:=k.ne;exact⟨⟨wC,k.sub _ u,u⟩⟩);rw[x] at v;replace v:=kz (ops':=(dV K γ 0 l).toArray) (λtmps=>(cV K γ l tmps).symm) _ _ _ v
  have H:=lX (P:=P) (K:=K) (w0:=w) (γ:=γ) (md:= .any) (l:=l) (C:=C) (n:=n) (gg:=l.toArray.size-n) T R I J G (l.take n) 0 (Array.replicate l.toArray.size false) a (λj N=>by
   have A:j<n:=by rw[b] at N;exact N
   simp[A]) (by simpa using b) e (by rw[b];rw[E] at L;exact L) (by rw[b];exact S) v
  rw[b] at H;exact H
theorem fT {v:Nat} {a:Act} {w:World} (e s n:Nat) (K:Kit) (hm:P.follows .mixedOrders=true) (t:lateB .any l e s=true) (m:n<=s) (q:Region.lexTailB .any (dQ l e s).toArray n=true) (b:∀γ,Region.lexTailB .any (dV K γ 0 (dQ l e s)).toArray n=true)
  (c:xY .any (dQ l e s) K n=true) (r:K.Stable) (u:K.Known)
  (h:∀(γ:Nat->Value) (g:K.Good γ) (C:World->Prop) (k:lC w C) (f:Nonempty (gZ w C)),wpF P K w γ (λw'=>∃p:gZ w C,w'=p.w) l.toArray
   (λo=>∀w',Below w.heap.size w w'->(∀d,d<n->K.fr d=true->K.Φ d (γ d) w')->wpList P l.toArray (noQ Q) (l.drop n) o w') 0 (l.take n) a):
  (Code.region v l.toArray true).wp P Q a w:=by
 refine wp_region_any hm ?_;refine late_any (e:=e) (s:=s) t _ _ _ _ (by simp) ?_;have i:(dQ l e s).toArray.size=l.toArray.size:=by simp[dQ]
 have j:=gen_all (P:=P) (Q:=noQ Q) (a:=a) (w:=w) (l:=dQ l e s) n K q b c r u (λγ g C k f=>by
  rw[xx m,xy m,mn jb]
  exact kz (λtmps=>(jb tmps).symm) _ _ _ (h γ g C k f))
 rw[i] at j;exact j
end
section
variable {P:Program} {md:Region.Mode} {Q:Exit->Act->World->Prop} {ops:Array Oper} {S:World->Prop}
def anyW (_:World):Prop:=True
theorem cJ (w:World):anyW w:=trivial
theorem tV {i:Nat} {o:Oper} {c:Nat} {b:Array Bool} {a:Act} {w:World} (j:ops[i]? =some o)
  (h:wpList P ops (noQ λ_ f w'=>S w'/\wpAnyH P md ops Q S c (b.setIfInBounds i true) f w') [o] a w):wpOp P ops Q i (λf w'=>S w'/\wpAnyH P md ops Q S c (b.setIfInBounds i true) f w') a w:=by
 unfold wpOp;simp only[j];unfold wpList at h
 by_cases g:Region.wanted o (yielded ops a.tmps)=true
 ·rw[yz g] at h⊢;rcases h with h|⟨_,h⟩
  ·left;unfold Oper.wp at*;generalize(execOp a.eval o).run P w=r at*
   cases r with
   |ok n w'=>
    cases n<;>simp only[Oper.upon,wpList] at h⊢<;>
     first
      |exact h.2
      |exact Calls.mono h (λe k d=>by cases e<;>first|exact d.2|exact absurd d.1 (by intro h;cases h)|exact absurd d jx)
      |exact Rows.mono h (λ_ _ d=>d.2)
   |halt x w'=>cases x<;>simp only[Oper.upon] at h⊢<;>first|exact h|exact absurd h.1 (by intro h;cases h)
  ·exact absurd h jx
 ·rw[yw g] at h⊢;exact h.2
theorem aB {i:Nat} {o:Oper} {c:Nat} {b:Array Bool} {a:Act} {w:World} (g:Region.ready md ops b=[i]) (f:ops[i]? =some o)
  (h:wpList P ops (noQ λ_ d w'=>S w'/\wpAnyH P md ops Q S c (b.setIfInBounds i true) d w') [o] a w):wpAnyH P md ops Q S (c+1) b a w:=by
 refine wpAnyH_all g (by simp) (λj e=> ?_);obtain rfl:j=i:=by simpa using e
 exact tV f h
theorem vA {i j:Nat} {o f:Oper} {c:Nat} {b:Array Bool} {a:Act} {w:World} (m:Region.ready md ops b=[i,j]) (l:ops[i]? =some o) (e:ops[j]? =some f)
  (h:wpList P ops (noQ λ_ d w'=>S w'/\wpAnyH P md ops Q S c (b.setIfInBounds i true) d w') [o] a w)
  (g:wpList P ops (noQ λ_ d w'=>S w'/\wpAnyH P md ops Q S c (b.setIfInBounds j true) d w') [f] a w):wpAnyH P md ops Q S (c+1) b a w:=by
 refine wpAnyH_all m (by simp) (λk hk=> ?_);simp only[yC,yI,AH] at hk;rcases hk with rfl|rfl
 ·exact tV l h
 ·exact tV e g
end
theorem Rs.take {α:Type} {φ:Rd α} {w:World} {b o N c:Nat} {xs:List α} {F:Nat->Prop} (h:Rs φ w (.slice (some ⟨b,o,none⟩) N c) xs F) (k:Nat) (hk:k<=N):Rs φ w (.slice (some ⟨b,o,none⟩) k c) (xs.take k) F:=by
 obtain⟨A,l,e,m,h⟩:=h;simp only[yA] at e;obtain⟨rfl,rfl,rfl⟩:=e;have g:(xs.take k).length=k:=by rw[yM];omega
 refine⟨_,_,by rw[g],by omega,λhp=> ?_⟩;obtain⟨i,n,e,f,h⟩:=h (by omega);simp only[yy] at e;cases e;refine⟨_,_,rfl,f,λj x a=> ?_⟩;have d:j<k:=by have:=(yJ.1 a).1;omega
 rw[Bc d] at a;exact h j x a
theorem Rs.takeA {α:Type} {φ:Rd α} {w:World} {A:Option Addr} {N c:Nat} {xs:List α} {F:Nat->Prop} (h:Rs φ w (.slice A N c) xs F) (k:Nat) (hk:k<=N):Rs φ w (.slice A k c) (xs.take k) F:=by
 obtain⟨l,m,e,n,h⟩:=h;simp only[yA] at e;obtain⟨rfl,rfl,rfl⟩:=e;have g:(xs.take k).length=k:=by rw[yM];omega
 refine⟨A,c,by rw[g],by omega,λp=> ?_⟩;obtain⟨b,o,e,f,i⟩:=h (by omega);refine⟨b,o,e,f,λj x d=>i j x ?_⟩
 have a:j<k:=by
  have:=(yJ.1 d).1;omega
 rwa [Bc a] at d
theorem jN {α:Type} {φ:Rd α} {w:World} {g:Nat} {T:TypeId} {uss:List (List Value)} {xs:List α} {F:Nat->Prop} (h:Box w g uss.flatten.toArray T) (e:uss.length=xs.length) (d:∀j x,xs[j]? =some x->φ.R w (uss.getD j []) x F):
  Rs φ w (.slice (some ⟨g,0,none⟩) xs.length xs.length) xs F:=by
 have b:∀us∈uss,us.length=φ.k:=λus hm=>by
  obtain⟨j,c,rfl⟩:=yS.1 hm;have:=φ.len (d j _ (yp (by omega)))
  rwa [yj,yp c] at this
 refine⟨_,_,rfl,yq _,λ_=>⟨g,0,rfl,h.lt,λj x c=>⟨uss.getD j [],λi hi=> ?_,d j x c⟩⟩⟩;have a:j<uss.length:=by have:=(yJ.1 c).1;omega
 rw[yH,h.cell (j*φ.k+i),y8,eb b j i hi,yp a];simp[yj,yp a]
theorem uM {α:Type} {φ:Rd α} {w:World} {g:Nat} {us:List Value} {T:TypeId} {x:α} {F:Nat->Prop} (c:Box w g us.toArray T) (h:φ.R w us x F):Rs φ w (.slice (some ⟨g,0,none⟩) 1 1) [x] F:=by
 refine⟨_,1,rfl,yq _,λ_=>⟨g,0,rfl,c.lt,λj y b=>⟨us,λi hi=> ?_, ?_⟩⟩⟩
 ·have a:j=0:=by have:=(yJ.1 b).1;simp at this;exact this
  subst a;simp only[Nat.zero_mul,yH];rw[c.cell i,y8]
 ·have a:j=0:=by have:=(yJ.1 b).1;simp at this;exact this
  subst a;obtain rfl:x=y:=by simpa using b
  exact h
theorem OG.lit0 {α:Type} {φ:Rd α} (w:World) {B C:Nat} {T:TypeId} (c:T∉φ.ts) (b:C<=B) (a:B<=w.heap.size):OG φ (w.alloc (.cells #[] T)) B C T (.slice (some ⟨w.heap.size,0,none⟩) 0 0) []:=
 ⟨⟨c,b⟩,[],rfl,World.ownsRow_lit w #[] 0 a (by unfold maxLen;omega) (by simp),λj x h=>by simp at h⟩
def dB:Rd Int where
 k:=1
 ts:=[]
 pos:=by decide
 R:=λw us z F=>us=[.int .i64 z]
 len:=λh=>by rw[h];rfl
 one:=λh u a=>by rw[h] at a;simp at a;subst a;rfl
 mono:=λh _=>h
 same:=λh _ _=>h
theorem Rs.il {w:World} {v:Value} {l:List Int} {F:Nat->Prop} (h:Rs dB w v l F):IL w v l:=by
 obtain⟨A,c,rfl,n,h⟩:=h;refine⟨A,c,rfl,n,λp=> ?_⟩;obtain⟨b,o,rfl,m,h⟩:=h p;refine⟨⟨b,o,none⟩,rfl,m,λj f=> ?_⟩;obtain⟨us,g,i⟩:=h j _ (yp f);have d:=g 0 (by decide);have a:us=[.int .i64 l[j]]:=i;rw[a,yU] at d;have e:dB.k=1:=rfl;rw[e,Nat.mul_one] at d;rw[dq,d,yj,yp f];rfl
theorem OG.il {w:World} {B C:Nat} {T:TypeId} {v:Value} {l:List Int} (h:OG dB w B C T v l):IL w v l:=h.any.il
section
variable {α:Type} {φ:Rd α} {w w' w2:World} {B C g:Nat} {T T':TypeId} {v:Value} {xs:List α} {cs:Array Value}
theorem ap {row:Option Nat} (h:w.grownBy w' row) (a:w'.grownBy w2 row):w.grownBy w2 row:=
 ⟨a.os.trans h.os,a.tape.trans h.tape,a.output.trans h.output,yK h.size a.size,λk hk b=>(a.block k (yE hk h.size) b).trans (h.block k hk b)⟩
end
theorem ur (W:World):(Instr.typeAssert Value.nilIface 20 197 true).run Tryz.prog W= .ok (.tuple #[.agg #[.int .i64 0],.bool false]) W:=by kernel_rfl
theorem o8 (e:Int) (W:World):(Instr.typeAssert (.iface 197 (.agg #[.int .i64 e])) 20 197 true).run Tryz.prog W= .ok (.tuple #[.agg #[.int .i64 e],.bool true]) W:=by
 have a:=Tryz.underlying197;simp[Instr.typeAssert,run_underlying a,go_sem,Result.andThen]
theorem um (p:Addr) (w:World):
  CallsD Tryz.prog 122 #[.pointer (some p)] .returning w λe d w'=>e= .returned (.tuple #[])/\d= .returning/\Below w.heap.size w w':=by
 have c:=ur;have f:=ac w (.cells #[.int .i64 0] 197);refine callsD_of_wpS Tryz.func122 rfl λa cs b=> ?_;apply wpS_seq;apply wpS_region;simp[wpOpsS,go_sem,recoverD,b,Tryz.ntmps122,Exit.thenS];refine wpS_of_wp ?_;cases a;simp only at b;simp only[Array.replicate];go_wp2_with fail
 simp_all [bodyPostS,results,Tryz.results122]
theorem qN (p:Addr) (x:Value) (er:Int) (a:List PanicEntry) (w:World) (f:w.cell? p=some x) (g:w.frozen? p=false) (hp:p.block<w.heap.size):
  CallsD Tryz.prog 122 #[.pointer (some p)] (.panicking ({v:= .iface 197 (.agg #[.int .i64 er]),recovered:=false}::a)) w λe h w'=>
   e= .returned (.tuple #[])/\h= .panicking ({v:= .iface 197 (.agg #[.int .i64 er]),recovered:=true}::a)/\w'=(w.alloc (.cells #[.int .i64 er] 197)).setCell p (.int .i64 er):=by
 have d:=o8;have i:(w.alloc (.cells #[.int .i64 er] 197)).cell? p=some x:=by rw[(ac w _).cell hp];exact f
 have j:(w.alloc (.cells #[.int .i64 er] 197)).frozen? p=false:=by rw[(ac w _).frozen hp];exact g
 refine callsD_of_wpS Tryz.func122 rfl λb cs c=> ?_;apply wpS_seq;apply wpS_region;simp[wpOpsS,go_sem,recoverD,c,Tryz.ntmps122,Exit.thenS];refine wpS_of_wp ?_;cases b;simp only at c;simp only[Array.replicate];go_wp2_with fail
 simp_all [bodyPostS,results,Tryz.results122]
theorem cZ {w w2:World} {g i:Nat} {u:Value} (h:w.grownBy w2 (some g)):w.grownBy (w2.setCell ⟨g,i,none⟩ u) (some g):=
 ⟨h.os,h.tape,h.output,by simpa [World.setCell] using h.size,λk hk a=>(Aj w2 ⟨g,i,none⟩ u k (λe=>a (by rw[e]))).trans (h.block k hk a)⟩
theorem aj {w w' w2:World} {row:Option Nat} (h:w.grownBy w' row) (a:Below w'.heap.size w' w2):w.grownBy w2 row:=
 ⟨a.os.trans h.os,a.tape.trans h.tape,a.output.trans h.output,yK h.size a.size,λk hk b=>(a.block k (yE hk h.size)).trans (h.block k hk b)⟩
theorem cm (row:Option Nat) (w:World):w.grownBy w row:=⟨rfl,rfl,rfl,yq _,λ_ _ _=>rfl⟩
def my (er:Int):List PanicEntry:=[{v:= .iface 197 (.agg #[.int .i64 er]),recovered:=false}]
theorem s6 (w:World) (g:Nat) (cs:Array Value) (Q:Int->World->Prop) (o:∀W,(callFunc g cs).run Tryz.prog W= .ok (.enter g cs) W)
  (l:Calls Tryz.prog g cs (w.alloc (.cells #[.int .i64 0] 29)) λe w'=>((e= .returned (.tuple #[])/\Q 0 w')\/∃er,er≠0/\e= .panicked (my er)/\Q er w')/\Box w' w.heap.size #[.int .i64 0] 29):
  Calls Tryz.prog 71 #[.func (.func g) #[] cs] w λe w'=>∃(er:Int) (w0:World),e= .returned (.int .i64 er)/\Q er w0/\w0.grownBy w' (some w.heap.size):=by
 have m:=zm
 go_enter_defers Tryz.func71,Tryz.ntmps71
 go_wp2_with fail;refine l.mono ?_;rintro e w1 ⟨⟨rfl,d⟩|⟨er,p,rfl,d⟩,a⟩
 ·have x0:=a.at_ 0 _ rfl;have j:=a.lt;have k:=a.frozen 0;go_wp2_with fail;refine leaves_cons (f:=122) (args:=#[.pointer (some ⟨w.heap.size,0,none⟩)]) (by simp) (by simp[go_sem]) ?_;refine(um ⟨w.heap.size,0,none⟩ _).mono ?_;rintro e n h ⟨rfl,rfl,i⟩;have c:Box (w1.setCell ⟨w.heap.size,0,none⟩ (.int .i64 0)) w.heap.size #[.int .i64 0] 29:=a.set_ 0 (.int .i64 0);have b:=(c.below i).at_ 0 _ rfl;simp[Leaves,settle,results,Tryz.results71,go_sem,b];exact⟨w1,d,aj (cZ (cm _ _)) i⟩
 ·have x0:=a.at_ 0 _ rfl;have j:=a.lt;have k:=a.frozen 0;unfold my;go_wp2_with fail;refine leaves_cons (f:=122) (args:=#[.pointer (some ⟨w.heap.size,0,none⟩)]) (by simp) (by simp[go_sem]) ?_;refine(qN ⟨w.heap.size,0,none⟩ _ er [] _ x0 k j).mono ?_;rintro e n h ⟨rfl,rfl,rfl⟩;have c:Box _ w.heap.size #[.int .i64 er] 29:=(a.below (ac w1 (.cells #[.int .i64 er] 197))).set_ 0 (.int .i64 er);have b:=c.at_ 0 _ rfl;simp[Leaves,settle,results,Tryz.results71,go_sem,b];exact⟨w1,d,cZ (aj (cm _ _) (ac _ _))⟩
end
section
open Go.RowKit Go.Maps
theorem n8:laidOutB Tryz.prog=true:=by kernel_rfl
theorem keyNode:Keyed Tryz.prog 95:=Keyed.of_law (deep_law_laid n8 (m:=2) (by omega) (AD (by kernel_rfl)) (by kernel_rfl) (by rw[Tryz.underlying95]))
theorem keyThree:Keyed Tryz.prog 152:=Keyed.of_law (deep_law_laid n8 (m:=2) (by omega) (AD (by kernel_rfl)) (by kernel_rfl) (by rw[Tryz.underlying152]))
def lit3 (a b c:Int):Lit:= .string (keyBytes [.int .i64 a,.int .i64 b,.int .i64 c])
theorem key_node (a b c:Int) (h:(Lit.int .i64 a).wf=true) (i:(Lit.int .i64 b).wf=true) (j:(Lit.int .i64 c).wf=true):keyOf Tryz.prog 95 (.agg #[.int .i64 a,.int .i64 b,.int .i64 c])=some (lit3 a b c):=by
 have f:Tryz.prog.keyType 95=true:=by kernel_rfl
 have e:Tryz.prog.cellsOf 95=3:=by kernel_rfl
 have g:(Value.agg #[.int .i64 a,.int .i64 b,.int .i64 c]).formed Tryz.prog 95=true:=by
  simp[Value.formed,Tryz.underlying95,e]
 have c3:Tryz.prog.cellsOf 3=1:=by kernel_rfl
 have hk:∀d x,(Lit.int .i64 x).wf=true->Tryz.prog.keyLits (d+1) 3 [.int .i64 x]=some [.int .i64 x]:=λd x m=>by
  simp[Program.keyLits,Tryz.underlying3,m]
 obtain⟨d,k⟩:∃d,Tryz.prog.types.size=d+1:=⟨Tryz.prog.types.size-1,by have:0<Tryz.prog.types.size:=AD (by kernel_rfl);omega⟩;unfold keyOf;simp only[Tryz.underlying95,f,g,Bool.and_self,if_true,k];show(Tryz.prog.keyLits (d+1+1) 95 [.int .i64 a,.int .i64 b,.int .i64 c]).map _=_
 have l:Tryz.prog.keyLits (d+1+1) 95 [.int .i64 a,.int .i64 b,.int .i64 c]=some [.int .i64 a,.int .i64 b,.int .i64 c]:=by
  unfold Program.keyLits;rw[Tryz.underlying95];simp[e,c3,hk d a h,hk d b i,hk d c j]
 rw[l];rfl
theorem xC (a b c:Int) (h:(Lit.int .i64 a).wf=true) (i:(Lit.int .i64 b).wf=true) (j:(Lit.int .i64 c).wf=true):keyOf Tryz.prog 152 (.agg #[.int .i64 a,.int .i64 b,.int .i64 c])=some (lit3 a b c):=by
 have f:Tryz.prog.keyType 152=true:=by kernel_rfl
 have e:Tryz.prog.cellsOf 152=3:=by kernel_rfl
 have g:(Value.agg #[.int .i64 a,.int .i64 b,.int .i64 c]).formed Tryz.prog 152=true:=by
  simp[Value.formed,Tryz.underlying152,e]
 have c3:Tryz.prog.cellsOf 3=1:=by kernel_rfl
 have hk:∀d x,(Lit.int .i64 x).wf=true->Tryz.prog.keyLits (d+1) 3 [.int .i64 x]=some [.int .i64 x]:=λd x m=>by
  simp[Program.keyLits,Tryz.underlying3,m]
 obtain⟨d,k⟩:∃d,Tryz.prog.types.size=d+1:=⟨Tryz.prog.types.size-1,by have:0<Tryz.prog.types.size:=AD (by kernel_rfl);omega⟩;unfold keyOf;simp only[Tryz.underlying152,f,g,Bool.and_self,if_true,k];show(Tryz.prog.keyLits (d+1+1) 152 [.int .i64 a,.int .i64 b,.int .i64 c]).map _=_
 have l:Tryz.prog.keyLits (d+1+1) 152 [.int .i64 a,.int .i64 b,.int .i64 c]=some [.int .i64 a,.int .i64 b,.int .i64 c]:=by
  unfold Program.keyLits;rw[Tryz.underlying152];simp[e,c3,hk d a h,hk d b i,hk d c j]
 rw[l];rfl
structure dP (κ:Type) (kT:TypeId) where
 kv:κ->Value
 lit:κ->Lit
 ok:κ->Prop
 key:∀x,ok x->keyOf Tryz.prog kT (kv x)=some (lit x)
 K:Keyed Tryz.prog kT
 inj:∀x y,kv x=kv y->x=y
section
variable {κ:Type} {kT:TypeId}
theorem dP.lit_inj (φ:dP κ kT) {x y:κ} (a:φ.ok x) (b:φ.ok y) (h:φ.lit x=φ.lit y):x=y:=
 φ.inj _ _ (φ.K.inj (φ.key x a) (by rw[h];exact φ.key y b))
def datI (φ:dP κ kT) (l:List (κ×Int)):DataW Unit:=l.foldr (λp D=>D.put (φ.lit p.1) (.lit (.int .i64 p.2))) (.map [])
def bY (φ:dP κ kT) (w:World) (b:Nat) (l:List (κ×Int)):Prop:=(∀p∈l,φ.ok p.1/\(Lit.int .i64 p.2).wf=true)/\∃n,n<=l.length/\w.ownsMap (H:=Unit) Tryz.prog kT (plainElem Tryz.prog 3) b n (datI φ l)
def cq [DecidableEq κ] (l:List (κ×Int)) (x:κ):Option Int:=(l.find? λp=>decide (p.1=x)).map (·.2)
theorem c8 [DecidableEq κ] (p:κ×Int) (l:List (κ×Int)) (x:κ):cq (p::l) x=if p.1=x then some p.2 else cq l x:=by
 unfold cq
 by_cases h:p.1=x
 ·rw[yz h,List.find?_cons_of_pos (by simpa using h)];rfl
 ·rw[yw h,List.find?_cons_of_neg (by simpa using h)]
theorem sQ (φ:dP κ kT):∀(l:List (κ×Int)),IsMap (datI φ l)
 |[]=>isMap_empty
 |p::l=>(sQ φ l).put _ _
theorem qL [DecidableEq κ] (φ:dP κ kT) {x:κ} (a:φ.ok x) (z:DataW Unit):∀(l:List (κ×Int)),(∀p∈l,φ.ok p.1/\(Lit.int .i64 p.2).wf=true)->(datI φ l).atKey (φ.lit x) z=match cq l x with
  |some i=> .lit (.int .i64 i)
  |none=>z
 |[],_=>rfl
 |p::l,h=>by
  have hp:=(h p (by simp)).1;rw[c8];show((datI φ l).put (φ.lit p.1) (.lit (.int .i64 p.2))).atKey (φ.lit x) z=_
  by_cases e:p.1=x
  ·rw[yz e,e];exact atKey_put_same (sQ φ l) (φ.K.key (φ.key x a)) _ _
  ·rw[yw e,atKey_put_other (λh=>e (φ.lit_inj a hp h).symm)];exact qL φ a z l (λq b=>h q (yT _ b))
theorem bY.new (φ:dP κ kT) (w:World):bY φ (w.alloc (.map #[] 0)) w.heap.size []:=⟨λp h=>(by cases h),0,yq _,World.ownsMap_made _ _ _ _⟩
theorem bY.lt {φ:dP κ kT} {w:World} {b:Nat} {l:List (κ×Int)} (h:bY φ w b l):b<w.heap.size:=by
 obtain⟨_,n,_,h⟩:=h;exact h.lt
theorem bY.grown {φ:dP κ kT} {w w':World} {b:Nat} {l:List (κ×Int)} {row:Option Nat} (h:bY φ w b l) (g:w.grownBy w' row) (a:row≠some b):bY φ w' b l:=by
 obtain⟨c,n,d,f⟩:=h;exact⟨c,n,d,f.kept g (λe=>a e.symm)⟩
theorem bY.below {φ:dP κ kT} {w w':World} {b:Nat} {l:List (κ×Int)} (h:bY φ w b l) (a:Below w.heap.size w w'):bY φ w' b l:=h.grown (gI a none) (by simp)
instance {φ:dP κ kT} {w w':World} {b:Nat} {l:List (κ×Int)}:Zm w w' (bY φ w b l) (bY φ w' b l):=⟨λhb h=>bY.below h hb⟩
theorem m8 (w:World):(zeroValue 3).run Tryz.prog w= .ok (.int .i64 0) w:=by kernel_rfl
theorem bY.look2 [DecidableEq κ] {φ:dP κ kT} {mT:TypeId} (r:Tryz.prog.underlying mT=some (.map kT 3)) {w:World} {b:Nat} {l:List (κ×Int)} (h:bY φ w b l) {x:κ} (j:φ.ok x):
  (Instr.lookup mT (.map (some b)) (φ.kv x) true).run Tryz.prog w= .ok (match cq l x with
   |some i=> .tuple #[.int .i64 i,.bool true]
   |none=> .tuple #[.int .i64 0,.bool false]) w:=by
 obtain⟨m,n,v,u,f,s,F,A,q⟩:=h;have e:=λz=>qL φ j z l m;rw[q] at e;rcases fit_look true φ.K r (m8 w) s F (φ.key x j) with⟨a,_,o⟩|⟨e0,y,_,_,a,p,g,_⟩
 ·rw[a]
  cases hf:cq l x with
  |none=>rfl
  |some i=>
   have d:=e .nil;rw[hf,o] at d;cases d
 ·rw[a];obtain⟨c,t,k,_⟩:=plainElem_int_inv Tryz.underlying3 p
  cases hf:cq l x with
  |none=>
   have d:=e .nil;rw[hf,g,k] at d;cases d
  |some i=>
   have d:=e .nil;rw[hf,g,k] at d;simp only[DataW.lit.injEq,Lit.int.injEq,true_and] at d;rw[t,d];rfl
theorem bY.upd {φ:dP κ kT} {mT:TypeId} (f:Tryz.prog.underlying mT=some (.map kT 3)) {w:World} {b:Nat} {l:List (κ×Int)} (h:bY φ w b l) {x:κ} (c:φ.ok x) {i:Int} (hi:(Lit.int .i64 i).wf=true) (m:l.length<maxLen):
  ∃w',(Instr.mapUpdate mT (.map (some b)) (φ.kv x) (.int .i64 i)).run Tryz.prog w= .ok () w'/\bY φ w' b ((x,i)::l)/\w.grownBy w' (some b):=by
 obtain⟨d,n,k,e⟩:=h;obtain⟨w',a,j,g⟩:=e.update φ.K f (by omega) (φ.key x c) (plainElem_int Tryz.underlying3 hi);refine⟨w',a,⟨λp hp=> ?_,n+1,by simp;omega,j⟩,g⟩;rcases yC.1 hp with rfl|hp
 ·exact⟨c,hi⟩
 ·exact d p hp
end
end
section
open Go.RowKit
def ndL (x:Nd):List Value:=[.int .i64 (x.lv:Nat),.int .i64 (x.lo:Nat),.int .i64 (x.hi:Nat)]
def ndR:Rd Nd where
 k:=3
 ts:=[]
 pos:=by decide
 R:=λw us x F=>us=ndL x
 len:=λh=>by rw[h];rfl
 one:=λh u a=>by
  rw[h] at a;unfold ndL at a;simp only[yC,yI,AH] at a;rcases a with rfl|rfl|rfl<;>rfl
 mono:=λh _=>h
 same:=λh _ _=>h
theorem Rs.nds {w:World} {v:Value} {F:Nat->Prop} {l:List Nd} (h:Rs ndR w v l F):∃(A:Option Addr) (c:Nat),v= .slice A l.length c/\l.length<=c/\∀k,k<l.length->∃b o,A=some ⟨b,o,none⟩/\b<w.heap.size/\w.cell? ⟨b,o+k*3,none⟩=some (.int .i64 ((ndA l k).lv:Nat))/\w.cell? ⟨b,o+k*3+1,none⟩=some (.int .i64 ((ndA l k).lo:Nat))/\w.cell? ⟨b,o+k*3+2,none⟩=some (.int .i64 ((ndA l k).hi:Nat)):=by
 obtain⟨A,c,rfl,i,h⟩:=h;refine⟨A,c,rfl,i,λk hk=> ?_⟩;obtain⟨b,o,rfl,g,h⟩:=h (by omega);obtain⟨us,a,f⟩:=h k _ (yp hk);have d:us=ndL l[k]:=f;subst d;have e:ndA l k=l[k]:=by unfold ndA;rw[yj,yp hk];rfl
 rw[e];exact⟨b,o,rfl,g,a 0 (by decide),a 1 (by decide),a 2 (by decide)⟩
theorem jU (w:World) (g:Nat) (v:Value) (m:Value) (q:Bool) (hm:∃b,m= .map b) (d:List Nd) (F:Box w g #[v,m,.bool q] 273) (C:Rs ndR w v d ah) (I:d.length<=8192) (f l:Nat) (B:f<d.length) (a:Bool):
  Calls Tryz.prog 215 #[.pointer (some ⟨g,0,none⟩),.int .i64 f,.int .i64 l,.bool a] w λe w'=>e= .returned (.int .i64 (cK d f l a:Nat))/\Below w.heap.size w w':=by
 obtain⟨A,c,rfl,H,D⟩:=C.nds;obtain⟨P,rfl⟩:=hm;obtain⟨b,o,rfl,G,K,L,M⟩:=D f B;have i:Hid (cK d f l a=if lvA d f≠l then f else if a=true then(ndA d f).hi else(ndA d f).lo):=zh rfl;have j:lvA d f=(ndA d f).lv:=rfl;rw[j] at i;generalize cK d f l a=r at*;have x0:=F.at_ 0 _ rfl;have t:(f:Int)<(d.length:Int):=by omega
 have J:(0:Int)<=(f:Int):=by omega
 obtain⟨N,z⟩:=zv (d.length);rw[<-z] at x0 t H;clear j D C B I z;generalize ndA d f=nd at*;obtain⟨lv,lo,hi⟩:=nd;simp only at K L M i;go_enter Tryz.func215,Tryz.ntmps215;go_upto_region 2 with fail;generalize k:w.alloc _=w1 at*;obtain⟨n,p⟩:=zB1 k;clear k;have u:=za p 0 rfl;have x:=za p 1 rfl;have y:=za p 2 rfl
 by_cases s:lv=l
 case neg=>
  have E:((lv:Int) !=(l:Int))=true:=by
   have:¬(lv:Int)=(l:Int):=by omega
   simpa using this
  have h:Hid (r=f):=zh (by rw[i.out,yz s]);clear i s;go_wp2_with fail;go_ret;exact⟨by rw[h.out];rfl,n⟩
 subst s;have E:((lv:Int) !=(lv:Int))=false:=by simp
 cases a
 ·have h:Hid (r=lo):=zh (by rw[i.out,yw (by simp)];rfl);clear i;go_wp2_with fail;go_ret;exact⟨by rw[h.out];rfl,n⟩
 ·have h:Hid (r=hi):=zh (by rw[i.out,yw (by simp)];rfl);clear i;go_wp2_with fail;go_ret;exact⟨by rw[h.out];rfl,n⟩
end
section
open Go.RowKit Go.Maps
def kvNd (x:Nd):Value:= .agg #[.int .i64 (x.lv:Nat),.int .i64 (x.lo:Nat),.int .i64 (x.hi:Nat)]
theorem wfN {n:Nat} (h:n<=16384):(Lit.int .i64 (n:Nat)).wf=true:=by
 have a:IntKind.i64.min= -9223372036854775808:=rfl;have b:IntKind.i64.max=9223372036854775807:=rfl;simp[Lit.wf,a,b];omega
def okNd (x:Nd):Prop:=x.lv<=16384/\x.lo<=16384/\x.hi<=16384
def φN:dP Nd 95 where
 kv:=kvNd
 lit:=λx=>lit3 x.lv x.lo x.hi
 ok:=okNd
 key:=λx h=>key_node _ _ _ (wfN h.1) (wfN h.2.1) (wfN h.2.2)
 K:=keyNode
 inj:=λx y h=>by
  obtain⟨a,b,c⟩:=x;obtain⟨d,e,f⟩:=y;unfold kvNd at h;simp only[Value.agg.injEq,Array.mk.injEq,By,Value.int.injEq,true_and,B9,Int.ofNat_inj] at h;obtain⟨rfl,rfl,rfl⟩:=h;rfl
def TX (w:World) (B:Nat) (S:Nat->Prop) (b:Nat):Prop:=S b\/(B<=b/\∃cs a,w.heap[b]? =some (.cells cs 95 a))
theorem TX.back {w w1:World} {B:Nat} {S:Nat->Prop} {b:Nat} (h:cU (TX w B S) w w1) (f:b<w.heap.size) (c:¬TX w B S b):¬TX w1 B S b:=λa=>c (by
 rcases a with a|⟨a,cs,d,e⟩
 ·exact .inl a
 ·exact .inr ⟨a,cs,d,(h.2 b f c).symm.trans e⟩)
theorem TX.trans {w w1 w2:World} {B:Nat} {S:Nat->Prop} (h:cU (TX w B S) w w1) (c:cU (TX w1 B S) w1 w2):cU (TX w B S) w w2:=
 ⟨yK h.1 c.1,λb a d=>(c.2 b (yE a h.1) (TX.back h a d)).trans (h.2 b a d)⟩
theorem TX.more {w w1:World} {B:Nat} {S S':Nat->Prop} (c:∀b,S b->S' b) (h:cU (TX w B S) w w1):cU (TX w B S') w w1:=h.mono λb a=>by
 rcases a with a|a
 ·exact .inl (c b a)
 ·exact .inr a
structure BT (w:World) (B g gm:Nat) (s:Bd):Prop where
 hB:B<=g/\B<=gm
 v:∃v,Box w g #[v,.map (some gm),.bool s.full] 273/\OG ndR w B B 95 v s.d
 mp:∃l,bY φN w gm l/\l.length<=s.d.length/\∀x:Nd,cq l x=if x∈s.d then some ((s.d.idxOf x:Nat):Int) else none
theorem tk {w:World} {B:Nat} {S:Nat->Prop} {v:Value} {xs:List Nd} (h:OG ndR w B B 95 v xs):∀q,v.ownBlock=some q->TX w B S q:=λq a=>by
 obtain⟨_,uss,_,d,_⟩:=h;rcases d.2 with⟨rfl,_⟩|⟨g,cap,cur,rfl,b,c,_⟩
 ·simp[Value.ownBlock] at a
 ·simp only[Value.ownBlock,yy] at a;subst a;exact .inr ⟨b,cur,_,c⟩
theorem BT.apart {w:World} {B g b:Nat} {s:Bd} (h:BT w B g b s):b≠g:=λe=>by
 obtain⟨v,c,_⟩:=h.v;obtain⟨l,⟨_,n,_,d,a,hm,_⟩,_⟩:=h.mp;unfold Box at c;rw[e,c] at hm;cases hm
theorem inode:(Tryz.prog.info? 95).map (λi=>(i.zero,i.size,i.bytes))=some (some (.agg #[.int .i64 0,.int .i64 0,.int .i64 0]),3,24):=by kernel_rfl
theorem jw {w w':World} {B C:Nat} {T:TypeId} {v:Value} {xs:List Nd} {κ:Type} {kT:TypeId} {φ:dP κ kT} {l:List (κ×Int)} {c:Nat} (h:OG ndR w B C T v xs) (hm:bY φ w c l) (m:w.grownBy w' (some c)):OG ndR w' B C T v xs:=by
 obtain⟨i,uss,p,f,k⟩:=h;refine⟨i,uss,p,f.kept m (.inr λe=> ?_),λj x o=>k j x o⟩;obtain⟨_,n,_,q,a,d,_⟩:=hm;rcases f.2 with⟨rfl,_⟩|⟨g,cap,cur,rfl,_,b,_⟩
 ·simp[Value.ownBlock] at e
 ·simp only[Value.ownBlock,yy] at e;subst e;rw[b] at d;cases d
theorem mU {d:List Nd} {n:Nd} {a:List (Nd×Int)} (c:n∉d) (b:∀x:Nd,cq a x=if x∈d then some ((d.idxOf x:Nat):Int) else none) (x:Nd):cq ((n,((d.length:Nat):Int))::a) x=if x∈d++[n] then some (((d++[n]).idxOf x:Nat):Int) else none:=by
 rw[c8,List.idxOf_append,b x]
 by_cases e:n=x
 ·subst e;rw[yz rfl,yz (by simp),yw c];simp
 ·rw[yw e]
  by_cases hm:x∈d
  ·rw[yz hm,yz (by simp[hm]),yz hm]
  ·rw[yw hm,yw (by simp[hm];exact λh=>e h.symm)]
theorem tJ {w:World} {B C:Nat} {T:TypeId} {v:Value} {xs:List Nd} {κ:Type} {kT:TypeId} {φ:dP κ kT} {l:List (κ×Int)} {gm:Nat} (h:OG ndR w B C T v xs) (hm:bY φ w gm l):v.ownBlock≠some gm:=λe=>by
 obtain⟨i,uss,k,d,j⟩:=h;obtain⟨_,n,_,f,a,c,_⟩:=hm;rcases d.2 with⟨rfl,_⟩|⟨g,cap,cur,rfl,_,b,_⟩
 ·simp[Value.ownBlock] at e
 ·simp only[Value.ownBlock,yy] at e;subst e;rw[b] at c;cases c
theorem p9 {w w1:World} {B:Nat} {S:Nat->Prop} {b:Nat} (h:cU (TX w B S) w w1) (c:TX w1 B S b):TX w B S b\/w.heap.size<=b:=by
 rcases Cd b w.heap.size with a|a
 ·exact .inl (Bh λd=>TX.back h a d c)
 ·exact .inr a
theorem vT (w:World) (B g gm:Nat) (s:Bd) (l lo hi:Nat) (h:BT w B g gm s) (hd:s.d.length<=8192) (hl:l<=8192) (aM:lo<=8192) (aK:hi<=8192):
  Calls Tryz.prog 216 #[.pointer (some ⟨g,0,none⟩),.int .i64 (l:Nat),.int .i64 (lo:Nat),.int .i64 (hi:Nat)] w λe w'=>
   e= .returned (.int .i64 ((b6 s l lo hi).2:Nat))/\BT w' B g gm (b6 s l lo hi).1/\Below B w w'/\cU (TX w B λb=>b=g\/b=gm) w w':=by
 have Z:=h.apart;obtain⟨⟨o,R⟩,⟨v,ad,k⟩,lm,ag,ap,af⟩:=h;obtain⟨A,c,rfl⟩:=k.slice;have aE:okNd ⟨l,lo,hi⟩:=⟨by show l<=_;omega,by show lo<=_;omega,by show hi<=_;omega⟩;go_enter Tryz.func216,Tryz.ntmps216
 by_cases he:lo=hi
 ·subst he;have f1:((lo:Int)==(lo:Int))=true:=by simp
  go_wp2_with fail;go_ret;have:b6 s l lo lo=(s,lo):=by unfold b6;rw[yz rfl]
  rw[this];exact⟨rfl,⟨⟨o,R⟩,⟨_,ad,k⟩,lm,ag,ap,af⟩,yx _ _,cU.refl _ _⟩
 have f1:((lo:Int)==(hi:Int))=false:=by simp;omega
 obtain⟨m,t,n⟩:=zk3 k ag ad;have HF:=zh (af ⟨l,lo,hi⟩);obtain⟨X,HD,HE⟩:=zk3 af hd he;have aj:=zh ad.lt;have aw:=ag.lt;clear k ag ad af hd he aE;go_upto_region 4 with fail;generalize aA:w.alloc _=w1 at*;obtain⟨H,M⟩:=zB1 aA;clear aA;replace m:=zh (m.out.below H);replace t:=zh (t.out.below H);replace n:=zh (n.out.below H);have aa:∀p:Lat w1,(Instr.lookup 271 (.map (some gm)) (.agg #[.int .i64 (l:Nat),.int .i64 (lo:Nat),.int .i64 (hi:Nat)]) true).run Tryz.prog p.w= .ok _ p.w:=λp=>(t.out.below p.h).look2 (φ:=φN) Tryz.underlying271 (x:=⟨l,lo,hi⟩) ⟨by show l<=_;omega,by show lo<=_;omega,by show hi<=_;omega⟩;rw[HF.out] at aa;have a0:=M.out.lat 0 _ rfl;have a1:=M.out.lat 1 _ rfl;have a2:=M.out.lat 2 _ rfl;have g1:=n.out.lat 1 _ rfl;refine aJ (by kernel_rfl) (by kernel_rfl) ?_
 by_cases hm:(⟨l,lo,hi⟩:Nd)∈s.d
 ·simp only[yz hm] at aa;have HR:Hid (b6 s l lo hi=(s,s.d.idxOf ⟨l,lo,hi⟩)):=zh (by unfold b6;rw[yw HE.out,yz hm]);clear hm;generalize s.d.idxOf ⟨l,lo,hi⟩=r at*
  repeat(go_big_quiet_step (fail))
  refine yN ?_;intro w2 E;clear a0 a1 a2 g1 aa;replace m:=zb m E;replace t:=zb t E;replace n:=zb n E;replace M:=zb M E;replace H:=zb H E;clear E;go_wp2_with fail;go_ret;rw[HR.out];exact⟨rfl,⟨⟨o,R⟩,⟨_,n,m⟩,lm,t,ap,X⟩,H.out.mono (yK o (Nat.le_of_lt aj)),(cU.refl _ _).below H⟩
 simp only[yw hm] at aa
 repeat(go_big_quiet_step (fail))
 refine yN ?_;intro w2 E;clear a0 a1 a2 g1 aa;replace m:=zb m E;replace t:=zb t E;replace n:=zb n E;replace M:=zb M E;replace H:=zb H E;clear E
 by_cases au:8192<=s.d.length
 ·have HR:Hid (b6 s l lo hi=(⟨s.d,true⟩,0)):=zh (by unfold b6;rw[yw HE.out,yw hm,yz au]);have g0:((s.d.length:Int)≥8192):=by omega
  have ao:=aj.out;have ah:=za n 0 rfl;have aG:=za n 2 rfl;have aD:=n.out.frozen 2;have ai:=n.out.lt;clear hm;go_wp2_with fail;go_ret;rw[HR.out]
  exact⟨rfl,⟨⟨o,R⟩,⟨_,n.out.set_ 2 (.bool true),m.out.setBox n (by decide) o (by decide) 2 _⟩,lm,t.out.grown (cZ (cm _ _)) (λe=>Z (by simpa using e.symm)),ap,X⟩,
   (H.out.mono (yK o (Nat.le_of_lt ao))).setCell (p:=⟨g,2,none⟩) o _,((cU.refl _ _).below H).set (p:=⟨g,2,none⟩) (.inl (.inl (.inl rfl))) _⟩
 have HR:Hid (b6 s l lo hi=(⟨s.d++[⟨l,lo,hi⟩],s.full⟩,s.d.length)):=zh (by unfold b6;rw[yw HE.out,yw hm,yw au]);have g0:¬((s.d.length:Int)≥8192):=by omega
 have ao:=aj.out;have ak:=zh hm;have ah:=za n 0 rfl;have ai:=n.out.lt;clear hm;go_upto_region 10 with fail;have aH:=aw;refine aL 10 (by kernel_rfl) (by kernel_rfl) ?_;have l0:=n.out.lat 0 _ rfl;have l1:=n.out.lat 1 _ rfl;have a0:=M.out.lat 0 _ rfl;have a1:=M.out.lat 1 _ rfl;have a2:=M.out.lat 2 _ rfl;simp only[yX,y9,y6,yO]
 repeat(go_big_quiet_step (fail))
 refine yN ?_;intro w3 E;clear l0 l1 a0 a1 a2;clear ah ai;replace m:=zb m E;replace t:=zb t E;replace n:=zb n E;replace M:=zb M E;replace H:=zb H E;clear E;obtain⟨y,hu,av,U⟩:=t.out.upd (φ:=φN) Tryz.underlying271 (x:=⟨l,lo,hi⟩) ⟨by show l<=_;omega,by show lo<=_;omega,by show hi<=_;omega⟩ (i:=(s.d.length:Nat)) (wfN (by omega)) (by unfold maxLen;omega);have aF:(Instr.mapUpdate 271 (.map (some gm)) (.agg #[.int .i64 (l:Nat),.int .i64 (lo:Nat),.int .i64 (hi:Nat)]) (.int .i64 (s.d.length:Nat))).run Tryz.prog w3= .ok () y:=hu;go_upto_region 11 with fail;have aq:g≠gm:=λe=>Z e.symm;have aN:=H.out.size;have BB:Hid (Below B w y):=zh (bf (H.out.mono (yK o (Nat.le_of_lt ao))) (by omega) R U)
 have Q:Hid (cU (TX w B λb=>b=g\/b=gm) w y):=zh (((cU.refl _ _).below H).grown U (λq hq=>by
  simp only[yy] at hq
  exact .inl (.inl (.inr hq.symm))))
 replace n:=zh (bK n U aq);replace M:=zh (bK M U (by omega));replace m:=zh (jw m t U);replace t:=zh av;have aI:=U.size;clear av U hu aF H;obtain⟨i0,hi,ax,ay,az⟩:=Bb inode;obtain⟨HI,al,am,an⟩:=zk4 hi ax ay az;clear hi ax ay az;refine Ab (S:=anyW) (by kernel_rfl) (cJ _) (λhS=> ?_);refine zt 0 (.pointer (some ⟨g,0,none⟩)) rfl (Or.inl ⟨by rfl,λW hW=>by go_simp⟩) ?_;simp only[Act.put,Bf,Bq,List.set_cons_succ];refine zt 1 (.pointer (some ⟨g,0,none⟩)) rfl (Or.inl ⟨by rfl,λW hW=>by go_simp⟩) ?_;simp only[Act.put,Bf,Bq,List.set_cons_succ];refine zt 2 (.pointer (some ⟨g,0,none⟩)) rfl (Or.inl ⟨by rfl,λW hW=>by go_simp⟩) ?_;simp only[Act.put,Bf,Bq,List.set_cons_succ];refine zt 3 (.pointer (some ⟨g,0,none⟩)) rfl (Or.inl ⟨by rfl,λW hW=>by go_simp⟩) ?_;simp only[Act.put,Bf,Bq,List.set_cons_succ];have x0:=za n 0 rfl;have y0:=za M 0 rfl;have y1:=za M 1 rfl;have y2:=za M 2 rfl;have P:=ac y (.cells #[.int .i64 (l:Nat),.int .i64 (lo:Nat),.int .i64 (hi:Nat)] 95);have z0:=(n.out.below P).at_ 0 _ rfl;refine vA (i:=4) (j:=5) (by kernel_rfl) rfl rfl ?_ ?_
 ·go_wp2_with fail;refine⟨rfl,cJ _, ?_⟩;refine aB (i:=5) (by kernel_rfl) rfl ?_;go_wp2_with fail;refine⟨rfl,cJ _, ?_⟩;refine aB (i:=6) (by kernel_rfl) rfl ?_;go_wp2_with fail;refine⟨rfl,cJ _, ?_⟩
  have L:Hid (Rs ndR (y.alloc (.cells #[.int .i64 (l:Nat),.int .i64 (lo:Nat),.int .i64 (hi:Nat)] 95)).drew (.slice (some ⟨y.heap.size,0,none⟩) 1 1) [⟨l,lo,hi⟩] (Ty (y.alloc (.cells #[.int .i64 (l:Nat),.int .i64 (lo:Nat),.int .i64 (hi:Nat)] 95)).drew B ndR.ts)):=
   zh (((Rs.one (φ:=ndR) (F:=λ_=>False) (us:=ndL ⟨l,lo,hi⟩) rfl 95).below (ae _)).mono λ_ h=>h.elim)
  have a:Hid (Below y.heap.size y (y.alloc (.cells #[.int .i64 (l:Nat),.int .i64 (lo:Nat),.int .i64 (hi:Nat)] 95)).drew):=zh (ab P (ae _));generalize(y.alloc (.cells #[.int .i64 (l:Nat),.int .i64 (lo:Nat),.int .i64 (hi:Nat)] 95)).drew=w5 at*;clear hS P x0 y0 y1 y2 z0;replace m:=zh (m.out.below a);replace t:=zh (t.out.below a);replace n:=zh (n.out.below a);have ar:=a.out.size;replace Q:=zh (Q.out.below a);replace BB:=zh (BB.out.trans (a.out.mono (by have:=BB.out.size;omega)));refine aB (i:=7) (by kernel_rfl) rfl ?_;refine aC (φ:=ndR) (T:=95) (B:=B) (C:=B) (xs:=s.d) (ys:=[⟨l,lo,hi⟩]) rfl _ _ 36 rfl i0 (.agg #[.int .i64 0,.int .i64 0,.int .i64 0]) 24 Tryz.underlying36 HI al am an rfl rfl m (.slice (some ⟨y.heap.size,0,none⟩) 1 1) rfl L ?c1 ?c2 ?c3 ?_
  case c1=>simp only[y7];omega
  case c2=>simp only[y7];unfold maxLen;omega
  case c3=>omega
  intro v9 w6 k N;have f:=zh (m.out.boxKept N.out n (.inl (by decide)));have I:=zh (t.out.grown N.out (tJ m t));have G:=zh (m.out.belowG N.out BB (by omega) (yq _));have J:=zh (Q.out.grown N.out (λq hq=>p9 Q (tk m q hq)));refine(show noQ _ _ _ _ from⟨rfl,cJ _, ?_⟩);obtain⟨z,D,rfl⟩:=k.out.slice;obtain⟨K,V⟩:=zv ((s.d++[(⟨l,lo,hi⟩:Nd)]).length);have HK:=zh V;have Y:Hid (K=s.d.length+1):=zh (by rw[V];simp);rw[<-V] at k⊢;clear V;have c0:=f.out.at_ 0 _ rfl;have cz:=f.out.frozen 0;have cl:=f.out.lt;clear n t BB Q m L N a;refine aB (i:=8) (by kernel_rfl) rfl ?_;go_wp2_with fail;refine⟨rfl,cJ _, ?_⟩;refine aB (i:=9) (by kernel_rfl) rfl ?_;go_wp2_with fail;refine⟨rfl,cJ _, ?_⟩;refine aB (i:=10) (by kernel_rfl) rfl ?_;go_wp2_with fail;refine⟨rfl,cJ _,AN (by kernel_rfl) ?_ _⟩;have XN:=zh (f.out.set_ 0 (.slice z K D));have ON:=zh (k.out.setBox f (by decide) o (by decide) 0 (.slice z K D));have MN:=zh (I.out.grown (cZ (i:=0) (u:= .slice z K D) (cm (some g) w6)) (λe=>Z (by simpa using e.symm)));have BN:=zh (G.out.setCell (p:=⟨g,0,none⟩) o (.slice z K D));have KN:=zh (J.out.set (p:=⟨g,0,none⟩) (.inl (.inl (.inl rfl))) (.slice z K D));clear f k I G J c0 cz;generalize w6.setCell ⟨g,0,none⟩ (.slice z K D)=w7 at*;have c0:=za XN 0 rfl;have e1:((K:Int)-1)=(s.d.length:Nat):=by have:=Y.out;omega
  go_wp2_with fail;go_ret;rw[HR.out];refine⟨rfl,⟨⟨o,R⟩,⟨_,XN, ?_⟩,_,MN,by simp only[yr,yu,yR];omega,λx=>mU ak X x⟩,BN,KN⟩;have:=ON.out;rwa [HK.out] at this
 ·go_wp2_with fail;refine⟨rfl,cJ _, ?_⟩;refine vA (i:=4) (j:=6) (by kernel_rfl) rfl rfl ?_ ?_
  ·go_wp2_with fail;refine⟨rfl,cJ _, ?_⟩;refine aB (i:=6) (by kernel_rfl) rfl ?_;go_wp2_with fail;refine⟨rfl,cJ _, ?_⟩
   have L:Hid (Rs ndR (y.alloc (.cells #[.int .i64 (l:Nat),.int .i64 (lo:Nat),.int .i64 (hi:Nat)] 95)).drew (.slice (some ⟨y.heap.size,0,none⟩) 1 1) [⟨l,lo,hi⟩] (Ty (y.alloc (.cells #[.int .i64 (l:Nat),.int .i64 (lo:Nat),.int .i64 (hi:Nat)] 95)).drew B ndR.ts)):=
    zh (((Rs.one (φ:=ndR) (F:=λ_=>False) (us:=ndL ⟨l,lo,hi⟩) rfl 95).below (ae _)).mono λ_ h=>h.elim)
   have a:Hid (Below y.heap.size y (y.alloc (.cells #[.int .i64 (l:Nat),.int .i64 (lo:Nat),.int .i64 (hi:Nat)] 95)).drew):=zh (ab P (ae _));generalize(y.alloc (.cells #[.int .i64 (l:Nat),.int .i64 (lo:Nat),.int .i64 (hi:Nat)] 95)).drew=w5 at*;clear hS P x0 y0 y1 y2 z0;replace m:=zh (m.out.below a);replace t:=zh (t.out.below a);replace n:=zh (n.out.below a);have ar:=a.out.size;replace Q:=zh (Q.out.below a);replace BB:=zh (BB.out.trans (a.out.mono (by have:=BB.out.size;omega)));refine aB (i:=7) (by kernel_rfl) rfl ?_;refine aC (φ:=ndR) (T:=95) (B:=B) (C:=B) (xs:=s.d) (ys:=[⟨l,lo,hi⟩]) rfl _ _ 36 rfl i0 (.agg #[.int .i64 0,.int .i64 0,.int .i64 0]) 24 Tryz.underlying36 HI al am an rfl rfl m (.slice (some ⟨y.heap.size,0,none⟩) 1 1) rfl L ?c1 ?c2 ?c3 ?_
   case c1=>simp only[y7];omega
   case c2=>simp only[y7];unfold maxLen;omega
   case c3=>omega
   intro v9 w6 k N;have f:=zh (m.out.boxKept N.out n (.inl (by decide)));have I:=zh (t.out.grown N.out (tJ m t));have G:=zh (m.out.belowG N.out BB (by omega) (yq _));have J:=zh (Q.out.grown N.out (λq hq=>p9 Q (tk m q hq)));refine(show noQ _ _ _ _ from⟨rfl,cJ _, ?_⟩);obtain⟨z,D,rfl⟩:=k.out.slice;obtain⟨K,V⟩:=zv ((s.d++[(⟨l,lo,hi⟩:Nd)]).length);have HK:=zh V;have Y:Hid (K=s.d.length+1):=zh (by rw[V];simp);rw[<-V] at k⊢;clear V;have c0:=f.out.at_ 0 _ rfl;have cz:=f.out.frozen 0;have cl:=f.out.lt;clear n t BB Q m L N a;refine aB (i:=8) (by kernel_rfl) rfl ?_;go_wp2_with fail;refine⟨rfl,cJ _, ?_⟩;refine aB (i:=9) (by kernel_rfl) rfl ?_;go_wp2_with fail;refine⟨rfl,cJ _, ?_⟩;refine aB (i:=10) (by kernel_rfl) rfl ?_;go_wp2_with fail;refine⟨rfl,cJ _,AN (by kernel_rfl) ?_ _⟩;have XN:=zh (f.out.set_ 0 (.slice z K D));have ON:=zh (k.out.setBox f (by decide) o (by decide) 0 (.slice z K D));have MN:=zh (I.out.grown (cZ (i:=0) (u:= .slice z K D) (cm (some g) w6)) (λe=>Z (by simpa using e.symm)));have BN:=zh (G.out.setCell (p:=⟨g,0,none⟩) o (.slice z K D));have KN:=zh (J.out.set (p:=⟨g,0,none⟩) (.inl (.inl (.inl rfl))) (.slice z K D));clear f k I G J c0 cz;generalize w6.setCell ⟨g,0,none⟩ (.slice z K D)=w7 at*;have c0:=za XN 0 rfl;have e1:((K:Int)-1)=(s.d.length:Nat):=by have:=Y.out;omega
   go_wp2_with fail;go_ret;rw[HR.out];refine⟨rfl,⟨⟨o,R⟩,⟨_,XN, ?_⟩,_,MN,by simp only[yr,yu,yR];omega,λx=>mU ak X x⟩,BN,KN⟩;have:=ON.out;rwa [HK.out] at this
  ·go_wp2_with fail;refine⟨rfl,cJ _, ?_⟩;refine aB (i:=4) (by kernel_rfl) rfl ?_;go_wp2_with fail;refine⟨rfl,cJ _, ?_⟩
   have L:Hid (Rs ndR (y.alloc (.cells #[.int .i64 (l:Nat),.int .i64 (lo:Nat),.int .i64 (hi:Nat)] 95)).drew (.slice (some ⟨y.heap.size,0,none⟩) 1 1) [⟨l,lo,hi⟩] (Ty (y.alloc (.cells #[.int .i64 (l:Nat),.int .i64 (lo:Nat),.int .i64 (hi:Nat)] 95)).drew B ndR.ts)):=
    zh (((Rs.one (φ:=ndR) (F:=λ_=>False) (us:=ndL ⟨l,lo,hi⟩) rfl 95).below (ae _)).mono λ_ h=>h.elim)
   have a:Hid (Below y.heap.size y (y.alloc (.cells #[.int .i64 (l:Nat),.int .i64 (lo:Nat),.int .i64 (hi:Nat)] 95)).drew):=zh (ab P (ae _));generalize(y.alloc (.cells #[.int .i64 (l:Nat),.int .i64 (lo:Nat),.int .i64 (hi:Nat)] 95)).drew=w5 at*;clear hS P x0 y0 y1 y2 z0;replace m:=zh (m.out.below a);replace t:=zh (t.out.below a);replace n:=zh (n.out.below a);have ar:=a.out.size;replace Q:=zh (Q.out.below a);replace BB:=zh (BB.out.trans (a.out.mono (by have:=BB.out.size;omega)));refine aB (i:=7) (by kernel_rfl) rfl ?_;refine aC (φ:=ndR) (T:=95) (B:=B) (C:=B) (xs:=s.d) (ys:=[⟨l,lo,hi⟩]) rfl _ _ 36 rfl i0 (.agg #[.int .i64 0,.int .i64 0,.int .i64 0]) 24 Tryz.underlying36 HI al am an rfl rfl m (.slice (some ⟨y.heap.size,0,none⟩) 1 1) rfl L ?c1 ?c2 ?c3 ?_
   case c1=>simp only[y7];omega
   case c2=>simp only[y7];unfold maxLen;omega
   case c3=>omega
   intro v9 w6 k N;have f:=zh (m.out.boxKept N.out n (.inl (by decide)));have I:=zh (t.out.grown N.out (tJ m t));have G:=zh (m.out.belowG N.out BB (by omega) (yq _));have J:=zh (Q.out.grown N.out (λq hq=>p9 Q (tk m q hq)));refine(show noQ _ _ _ _ from⟨rfl,cJ _, ?_⟩);obtain⟨z,D,rfl⟩:=k.out.slice;obtain⟨K,V⟩:=zv ((s.d++[(⟨l,lo,hi⟩:Nd)]).length);have HK:=zh V;have Y:Hid (K=s.d.length+1):=zh (by rw[V];simp);rw[<-V] at k⊢;clear V;have c0:=f.out.at_ 0 _ rfl;have cz:=f.out.frozen 0;have cl:=f.out.lt;clear n t BB Q m L N a;refine aB (i:=8) (by kernel_rfl) rfl ?_;go_wp2_with fail;refine⟨rfl,cJ _, ?_⟩;refine aB (i:=9) (by kernel_rfl) rfl ?_;go_wp2_with fail;refine⟨rfl,cJ _, ?_⟩;refine aB (i:=10) (by kernel_rfl) rfl ?_;go_wp2_with fail;refine⟨rfl,cJ _,AN (by kernel_rfl) ?_ _⟩;have XN:=zh (f.out.set_ 0 (.slice z K D));have ON:=zh (k.out.setBox f (by decide) o (by decide) 0 (.slice z K D));have MN:=zh (I.out.grown (cZ (i:=0) (u:= .slice z K D) (cm (some g) w6)) (λe=>Z (by simpa using e.symm)));have BN:=zh (G.out.setCell (p:=⟨g,0,none⟩) o (.slice z K D));have KN:=zh (J.out.set (p:=⟨g,0,none⟩) (.inl (.inl (.inl rfl))) (.slice z K D));clear f k I G J c0 cz;generalize w6.setCell ⟨g,0,none⟩ (.slice z K D)=w7 at*;have c0:=za XN 0 rfl;have e1:((K:Int)-1)=(s.d.length:Nat):=by have:=Y.out;omega
   go_wp2_with fail;go_ret;rw[HR.out];refine⟨rfl,⟨⟨o,R⟩,⟨_,XN, ?_⟩,_,MN,by simp only[yr,yu,yR];omega,λx=>mU ak X x⟩,BN,KN⟩;have:=ON.out;rwa [HK.out] at this
theorem rW (s:Bd) (l lo hi:Nat) (a:s.d.length<=8192) (b:lo<=8192):(b6 s l lo hi).1.d.length<=8192/\(b6 s l lo hi).2<=8192:=by
 unfold b6
 split
 ·exact⟨a,b⟩
 ·split
  ·rename_i h;exact⟨a,yK (Nat.le_of_lt (List.idxOf_lt_length_of_mem h)) a⟩
  ·split
   ·exact⟨a,yt _⟩
   ·exact⟨by simp;omega,a⟩
theorem lz (op:Bool->Bool->Bool->Bool):∀(k:Nat) (s:Ap3) (x:T3),s.b.d.length<=8192->(∀p∈s.known,p.2<=8192)→
  (aQ op k s x).1.b.d.length<=8192/\(∀p∈(aQ op k s x).1.known,p.2<=8192)/\(aQ op k s x).2<=8192
 |0,s,x,hd,hk=>⟨hd,hk,yt _⟩
 |k+1,s,x,hd,hk=>by
  unfold aQ
  split
  ·exact⟨hd,hk,yt _⟩
  split
  ·exact⟨hd,hk,by unfold bN;split<;>omega⟩
  cases hkn:jc s.known x with
  |some i=>exact⟨hd,hk,hk _ (n9 hkn)⟩
  |none=>
   simp only;obtain⟨a,c,e⟩:=lz op k s (bH s.b.d x (lv3 s.b.d x) false) hd hk;generalize aQ op k s (bH s.b.d x (lv3 s.b.d x) false)=r1 at*;obtain⟨f,g,h⟩:=lz op k r1.1 (bH r1.1.b.d x (lv3 s.b.d x) true) a c;generalize aQ op k r1.1 (bH r1.1.b.d x (lv3 s.b.d x) true)=r2 at*;obtain⟨c1,c2⟩:=rW r2.1.b (lv3 s.b.d x) r1.2 r2.2 f e;refine⟨c1,λp hp=> ?_,c2⟩;rcases yC.1 hp with rfl|hp
   ·exact c2
   ·exact g p hp
theorem fy (op:Bool->Bool->Bool->Bool):∀(k:Nat) (s:Ap3) (x:T3),(aQ op k s x).1.known.length+1<=s.known.length+2^k
 |0,s,x=>yq _
 |k+1,s,x=>by
  have c:1<=2^k:=Nat.one_le_two_pow;have e:2^(k+1)=2^k+2^k:=by rw[BR];omega
  unfold aQ
  split
  ·show s.known.length+1<=_;omega
  split
  ·show s.known.length+1<=_;omega
  cases hkn:jc s.known x with
  |some i=>show s.known.length+1<=_;omega
  |none=>
   simp only[yr];have a:=fy op k s (bH s.b.d x (lv3 s.b.d x) false);generalize aQ op k s (bH s.b.d x (lv3 s.b.d x) false)=r1 at*;have b:=fy op k r1.1 (bH r1.1.b.d x (lv3 s.b.d x) true);omega
def kvT (x:T3):Value:= .agg #[.int .i64 (x.f:Nat),.int .i64 (x.g:Nat),.int .i64 (x.h:Nat)]
def φT:dP T3 152 where
 kv:=kvT
 lit:=λx=>lit3 x.f x.g x.h
 ok:=λx=>x.f<=16384/\x.g<=16384/\x.h<=16384
 key:=λx h=>xC _ _ _ (wfN h.1) (wfN h.2.1) (wfN h.2.2)
 K:=keyThree
 inj:=λx y h=>by
  obtain⟨a,b,c⟩:=x;obtain⟨d,e,i⟩:=y;unfold kvT at h;simp only[Value.agg.injEq,Array.mk.injEq,By,Value.int.injEq,true_and,B9,Int.ofNat_inj] at h;obtain⟨rfl,rfl,rfl⟩:=h;rfl
def knI (l:List (T3×Nat)):List (T3×Int):=l.map λp=>(p.1,(p.2:Int))
theorem sh (x:T3):∀(l:List (T3×Nat)),cq (knI l) x=(jc l x).map λi=>(i:Int)
 |[]=>rfl
 |p::l=>by
  show cq ((p.1,(p.2:Int))::knI l) x=_;rw[c8,sh x l];unfold jc
  by_cases h:p.1=x
  ·rw[yz h,List.find?_cons_of_pos (by simpa using h)];rfl
  ·rw[yw h,List.find?_cons_of_neg (by simpa using h)]
theorem xj (a b c m:Nat) (h:m=min (min a b) c) (ts:Array TypeId) (t:TypeId) (W:World):(Builtin.min_ ts t #[.int .i64 (a:Nat),.int .i64 (b:Nat),.int .i64 (c:Nat)]).run Tryz.prog W= .ok (.int .i64 (m:Nat)) W:=by
 have e:(Builtin.min_ ts t #[.int .i64 (a:Nat),.int .i64 (b:Nat),.int .i64 (c:Nat)]).run Tryz.prog W= .ok (.int .i64 (if(c:Int)<(if(b:Int)<a then(b:Int) else a) then(c:Int) else(if(b:Int)<a then(b:Int) else a))) W:=by
  simp[Builtin.min_,Builtin.min2]
 rw[e];congr 2;subst h
 split<;>split<;>omega
structure OT (w:World) (B g gm go gk:Nat) (fv:Value) (s:Ap3):Prop where
 hB:B<=go/\B<=gk/\gk≠gm
 b:BT w B g gm s.b
 o:Box w go #[.pointer (some ⟨g,0,none⟩),fv,.map (some gk)] 214
 mp:bY φT w gk (knI s.known)
 dl:s.b.d.length<=8192
 kl:∀p∈s.known,p.2<=8192
theorem BT.row {w:World} {B g a:Nat} {s:Bd} (h:BT w B g a s) (j:0<s.d.length):∃b o c,Box w g #[.slice (some ⟨b,o,none⟩) s.d.length c,.map (some a),.bool s.full] 273/\Rs ndR w (.slice (some ⟨b,o,none⟩) s.d.length c) s.d ah/\b<w.heap.size∧
  ∀k,k<s.d.length->w.cell? ⟨b,o+k*3,none⟩=some (.int .i64 (lvA s.d k:Nat)):=by
 obtain⟨v,m,p⟩:=h.v;have f:=p.any;obtain⟨A,c,rfl,r,i⟩:=f.nds;obtain⟨b,o,rfl,n,_⟩:=i 0 j;refine⟨b,o,c,m,f,n,λk hk=> ?_⟩;obtain⟨q,t,e,_,l,_⟩:=i k hk;simp only[yy,B8,B9] at e;obtain⟨rfl,rfl⟩:=e;exact l
theorem OT.below {w w':World} {B g e go d:Nat} {c:Value} {s:Ap3} (h:OT w B g e go d c s) (a:Below w.heap.size w w'):OT w' B g e go d c s:=by
 obtain⟨f,⟨i,⟨v,j,k⟩,q,l,m⟩,n,o,p,b⟩:=h;exact⟨f,⟨i,⟨v,j.below a,k.below a⟩,q,l.below a,m⟩,n.below a,o.below a,p,b⟩
instance {w w':World} {B g gm go gk:Nat} {fv:Value} {s:Ap3}:Zm w w' (OT w B g gm go gk fv s) (OT w' B g gm go gk fv s):=⟨λhb h=>OT.below h hb⟩
theorem lj (w:World) (s:Ap3) (B g m go l F G H:Nat) (q:Value) (h:OT w B g m go l q s) (a:s.b.full=true):
  Calls Tryz.prog 139 #[.pointer (some ⟨go,0,none⟩),.agg #[.int .i64 (F:Nat),.int .i64 (G:Nat),.int .i64 (H:Nat)]] w λe w'=>
   e= .returned (.int .i64 0)/\OT w' B g m go l q s/\Below B w w'/\cU (TX w B λb=>b=g\/b=m\/b=l) w w':=by
 have t:=h.o.lt;have r:=h.hB.1;have k:=zh h.o;obtain⟨v,c, -⟩:=h.b.v;rw[a] at c;obtain⟨j,i⟩:=zk2 c h;clear h c a;go_enter Tryz.func139,Tryz.ntmps139;go_upto_region 1 with fail;generalize f:w.alloc _=w1 at*;obtain⟨d,u⟩:=zB1 f;clear f;replace k:=zh (k.out.below d);replace j:=zh (j.out.below d);replace i:=zh (i.out.below d);have p:=za k 0 rfl;have n:=za j 2 rfl;go_wp2_with fail;go_ret;exact⟨rfl,i,d.out.mono (by omega),(cU.refl _ _).below d⟩
theorem jW {w w':World} {B a:Nat} {S:Nat->Prop} {cs:Array Value} {T:TypeId} (c:Box w a cs T) (h:cU (TX w B S) w w') (e:¬S a) (f:T≠95):Box w' a cs T:=by
 refine(h.2 a c.lt λb=> ?_).trans c;rcases b with b|⟨_,d,g,b⟩
 ·exact e b
 ·unfold Box at c;rw[c] at b;simp only[yy,Bw] at b;exact f b.2.1
theorem xu {κ:Type} {kT:TypeId} {φ:dP κ kT} {w w':World} {B a:Nat} {S:Nat->Prop} {l:List (κ×Int)} (f:bY φ w a l) (h:cU (TX w B S) w w') (m:¬S a):bY φ w' a l:=by
 have d:=f.lt;obtain⟨j,n,k,i,b,e,F,o⟩:=f;refine⟨j,n,k,i,b,(h.2 a d λc=> ?_).trans e,F,o⟩;rcases c with c|⟨_,g,p,c⟩
 ·exact m c
 ·rw[e] at c;cases c
theorem uw (op:Bool->Bool->Bool->Bool) (k:Nat) (s:Ap3) (x:T3) (L:Nat) (c:uC op s) (h:In3 s.b.d x) (q:L=lv3 s.b.d x) (o:L≠20) (p:21<=k+1+L):
  (uC op s/\In3 s.b.d (bH s.b.d x L false)/\21<=k+lv3 s.b.d (bH s.b.d x L false))∧
  In3 (aQ op k s (bH s.b.d x L false)).1.b.d x/\((aQ op k s (bH s.b.d x L false)).1.b.full=false->uC op (aQ op k s (bH s.b.d x L false)).1/\In3 (aQ op k s (bH s.b.d x L false)).1.b.d (bH (aQ op k s (bH s.b.d x L false)).1.b.d x L true)/\21<=k+lv3 (aQ op k s (bH s.b.d x L false)).1.b.d (bH (aQ op k s (bH s.b.d x L false)).1.b.d x L true)):=by
 subst q;have e:=c.dv;have a:lv3 s.b.d x<20:=by have:=nY e h;omega
 obtain⟨j,u,v⟩:=jC e h a false;have i:=ly op k s (bH s.b.d x (lv3 s.b.d x) false) (λ_=>⟨c,j,by omega⟩);generalize aQ op k s (bH s.b.d x (lv3 s.b.d x) false)=r1 at i⊢;obtain⟨t,e1⟩:=i.ext;have g:In3 r1.1.b.d x:=by rw[e1];exact h.app
 refine⟨⟨c,j,by omega⟩,g,λr=> ?_⟩;obtain⟨m,y⟩:=i.ok r;have f:lv3 r1.1.b.d x=lv3 s.b.d x:=by rw[e1];exact fJ h
 obtain⟨l,n,w⟩:=jC m.dv g (by rw[f];exact a) true;rw[f] at l n;exact⟨m,l,by omega⟩
theorem jQ {κ:Type} {kT:TypeId} {φ:dP κ kT} {w:World} {a b:Nat} {l:List (κ×Int)} {cs:Array Value} {T:TypeId} (f:bY φ w a l) (h:Box w b cs T):a≠b:=λe=>by
 obtain⟨i,n,j,g,c,d,F,k⟩:=f;unfold Box at h;rw[e,h] at d;cases d
theorem BT.below {w w':World} {B g b:Nat} {s:Bd} (h:BT w B g b s) (a:Below w.heap.size w w'):BT w' B g b s:=by
 obtain⟨c,⟨v,d,e⟩,j,f,i⟩:=h;exact⟨c,⟨v,d.below a,e.below a⟩,j,f.below a,i⟩
instance {w w':World} {B g gm:Nat} {s:Bd}:Zm w w' (BT w B g gm s) (BT w' B g gm s):=⟨λhb h=>BT.below h hb⟩
theorem BT.grownM {κ:Type} {kT:TypeId} {φ:dP κ kT} {l:List (κ×Int)} {w w':World} {B g b a:Nat} {s:Bd} (h:BT w B g b s) (hm:bY φ w a l) (d:w.grownBy w' (some a)) (f:g≠a) (c:b≠a):BT w' B g b s:=by
 obtain⟨i,⟨v,j,k⟩,o,m,n⟩:=h;exact⟨i,⟨v,bK j d f,jw k hm d⟩,o,m.grown d (λe=>c (by simpa using e.symm)),n⟩
theorem OT.apart {w:World} {B g a go gk:Nat} {d:Value} {s:Ap3} (h:OT w B g a go gk d s):go≠g/\go≠a/\gk≠g/\gk≠a/\go≠gk:=by
 obtain⟨v,c,_⟩:=h.b.v;obtain⟨e,hm,_⟩:=h.b.mp;exact⟨af h.o c (by decide),(jQ hm h.o).symm,jQ h.mp c,h.hB.2.2,(jQ h.mp h.o).symm⟩
theorem dagApply (op:Bool->Bool->Bool->Bool) (P:FuncId) (HV:∀W p q r,Calls Tryz.prog P #[.bool p,.bool q,.bool r] W λe w'=>e= .returned (.bool (op p q r))/\Below W.heap.size W w')
  (eg:∀(p q r:Bool) (W:World),(callFunc P #[.bool p,.bool q,.bool r]).run Tryz.prog W= .ok (.enter P #[.bool p,.bool q,.bool r]) W) (B g u go Q:Nat):∀(k:Nat) (w:World) (s:Ap3) (x:T3),OT w B g u go Q (.func (.func P) #[] #[]) s→
  (s.b.full=false->uC op s/\In3 s.b.d x/\21<=k+lv3 s.b.d x)->s.known.length+2^k<=2^22→
  Calls Tryz.prog 139 #[.pointer (some ⟨go,0,none⟩),.agg #[.int .i64 (x.f:Nat),.int .i64 (x.g:Nat),.int .i64 (x.h:Nat)]] w λe w'=>
   e= .returned (.int .i64 ((aQ op k s x).2:Nat))/\OT w' B g u go Q (.func (.func P) #[] #[]) (aQ op k s x).1/\Below B w w'/\cU (TX w B λb=>b=g\/b=u\/b=Q) w w':=by
 intro k
 induction k with
 |zero=>
  intro w s x h hp ag;cases hfull:s.b.full
  ·obtain⟨h1,h2,h3⟩:=hp hfull;have:=nY h1.dv h2;omega
  ·refine(lj w s B g u go Q x.f x.g x.h _ h hfull).mono ?_;rintro e w' ⟨rfl,h1⟩;exact⟨rfl,h1⟩
 |succ k ih=>
  intro w s x h hp ag;cases hfull:s.b.full
  case true=>
   refine(lj w s B g u go Q x.f x.g x.h _ h hfull).mono ?_;rintro e w' ⟨rfl,h1⟩;have:aQ op (k+1) s x=(s,0):=by unfold aQ;rw[yz hfull]
   rw[this];exact⟨rfl,h1⟩
  have ae:aQ op (k+1) s x=_:=aQ.eq_2 op s x k;rw[yw (by rw[hfull];decide)] at ae;obtain⟨ay,aY,ar⟩:=hp hfull;clear hp;obtain⟨F,G,H⟩:=x;simp only;have h2:=ay.dv.two;have a8:=h.o.lt;have a6:=h.hB.1;have D:=zh h.o;obtain⟨hF,hG,hH⟩:=aY;simp only at hF hG hH;obtain⟨b,o,c,X,az,au,af⟩:=h.b.row (by omega);rw[hfull] at X;have C:=zh X;have aO:=X.lt;have aj:=h.mp.lt;have ak:u<w.heap.size:=by obtain⟨lm,hm,_⟩:=h.b.mp;exact hm.lt
  have M:Hid (g<w.heap.size/\Q<w.heap.size/\u<w.heap.size):=zh ⟨aO,aj,ak⟩;clear aO aj ak;have al:Hid (go≠g/\go≠u/\Q≠g/\Q≠u/\go≠Q):=zh h.apart;have aV:=zh h.hB;obtain⟨z,j⟩:=zk2 h az;have aC:Hid (In3 s.b.d ⟨F,G,H⟩):=zh ⟨hF,hG,hH⟩;obtain⟨ao,v,a4,aa,IH⟩:=zk5 ay ae hfull ar ih;have y0:=af F hF;have y1:=af G hG;have y2:=af H hH;have HL:Hid (lv3 s.b.d ⟨F,G,H⟩=min (min (lvA s.b.d F) (lvA s.b.d G)) (lvA s.b.d H)):=zh rfl;have hd:=h.dl;obtain⟨N,hN⟩:=zv (s.b.d.length);have HN:=zh hN;rw[<-hN] at X hF hG hH hd h2 az C j;have q0:(F:Int)<(N:Int):=by omega
  have q1:(G:Int)<(N:Int):=by omega
  have q2:(H:Int)<(N:Int):=by omega
  have p0:(0:Int)<=(F:Int):=by omega
  have p1:(0:Int)<=(G:Int):=by omega
  have p2:(0:Int)<=(H:Int):=by omega
  obtain⟨L,hL⟩:=zv (lv3 s.b.d ⟨F,G,H⟩);rw[<-hL] at ae HL v aa ar;have an:=zh hL;generalize lvA s.b.d F=lF at*;generalize lvA s.b.d G=lG at*;generalize lvA s.b.d H=lH at*;clear h X az af ay ae hfull hN hL ar ih;go_enter Tryz.func139,Tryz.ntmps139;go_upto_region 1 with fail;generalize aU:w.alloc _=w1 at*;obtain⟨m,t⟩:=zB1 aU;clear aU;replace D:=zh (D.out.below m);replace C:=zh (C.out.below m);replace z:=zh (z.out.below m);replace j:=zh (j.out.below m);have aH:=za D 0 rfl;have aE:=za C 2 rfl;go_upto_region 3 with fail;clear aH aE;refine aL 36 (by kernel_rfl) (by kernel_rfl) ?_;have o0:=D.out.lat 0 _ rfl;have g0:=C.out.lat 0 _ rfl;have R:=t.out.lat 0 _ rfl;have S:=t.out.lat 1 _ rfl;have T:=t.out.lat 2 _ rfl;have r0:∀p:Lat w1,p.w.cell? ⟨b,o+F*3,none⟩=some (.int .i64 (lF:Nat)):=λp=>((m.out.trans (p.h.mono m.out.size)).cell au).trans y0;have l:∀p:Lat w1,p.w.cell? ⟨b,o+G*3,none⟩=some (.int .i64 (lG:Nat)):=λp=>((m.out.trans (p.h.mono m.out.size)).cell au).trans y1;have r2:∀p:Lat w1,p.w.cell? ⟨b,o+H*3,none⟩=some (.int .i64 (lH:Nat)):=λp=>((m.out.trans (p.h.mono m.out.size)).cell au).trans y2;simp only[yX,y9,y6,yO]
  repeat(go_big_quiet_step (fail))
  refine yN ?_;intro w2 a;clear o0 g0 R S T r0 l r2 y0 y1 y2 q0 q1 q2 p0 p1 p2;replace D:=zb D a;replace C:=zb C a;replace z:=zb z a;replace t:=zb t a;replace j:=zb j a;replace m:=zb m a;clear a;have aR:=xj lF lG lH L HL
  go_upto_if 56 with fail
  clear aR
  by_cases E:L=20
  ·have f1:((L:Int)==20)=true:=by rw[E];rfl
   have HR:Hid (aQ op (k+1) s ⟨F,G,H⟩=(s,bN (op (F==1) (G==1) (H==1)))):=zh (by rw[v.out,yz E]);have e1:((F:Int)==1)=(F==1):=by cases h:F==1<;>simp at h⊢<;>omega
   have e2:((G:Int)==1)=(G==1):=by cases h:G==1<;>simp at h⊢<;>omega
   have e3:((H:Int)==1)=(H==1):=by cases h:H==1<;>simp at h⊢<;>omega
   generalize(F==1)=b1 at*;generalize(G==1)=b2 at*;generalize(H==1)=b3 at*;clear E v HL an IH aa;go_upto_region 5 with fail;refine aJ (by kernel_rfl) (by kernel_rfl) ?_;have o1:=D.out.lat 1 _ rfl;have R:=t.out.lat 0 _ rfl;have S:=t.out.lat 1 _ rfl;have T:=t.out.lat 2 _ rfl;have CV:∀p:Lat w2,Calls Tryz.prog P #[.bool b1,.bool b2,.bool b3] p.w _:=λp=>bQ (HV p.w b1 b2 b3);have ec:=eg b1 b2 b3
   repeat(go_big_quiet_step (with_reducible exact CV _))
   refine yN ?_;intro w3 a;clear o1 R S T CV ec e1 e2 e3 f1;replace D:=zb D a;replace C:=zb C a;replace z:=zb z a;replace t:=zb t a;replace j:=zb j a;replace m:=zb m a;clear a;generalize op b1 b2 b3=q at*;cases q
   ·go_wp2_with fail;go_ret;rw[HR.out];exact⟨rfl,z,m.out.mono (by omega),(cU.refl _ _).below m⟩
   ·go_wp2_with fail;go_ret;rw[HR.out];exact⟨rfl,z,m.out.mono (by omega),(cU.refl _ _).below m⟩
  have f1:((L:Int)==20)=false:=by simp;omega
  have aA:=zh E;go_upto_region 8 with fail;clear f1;have Z:∀p:Lat w2,(Instr.lookup 212 (.map (some Q)) (.agg #[.int .i64 (F:Nat),.int .i64 (G:Nat),.int .i64 (H:Nat)]) true).run Tryz.prog p.w= .ok _ p.w:=λp=>(z.out.mp.below p.h).look2 (φ:=φT) Tryz.underlying212 (x:=⟨F,G,H⟩) ⟨by show F<=_;omega,by show G<=_;omega,by show H<=_;omega⟩;rw[sh] at Z;have o2:=D.out.lat 2 _ rfl;have R:=t.out.lat 0 _ rfl;have S:=t.out.lat 1 _ rfl;have T:=t.out.lat 2 _ rfl;refine aJ (by kernel_rfl) (by kernel_rfl) ?_
  cases hkn:jc s.known ⟨F,G,H⟩ with
  |some i=>
   simp only[hkn,AX] at Z;have HR:Hid (aQ op (k+1) s ⟨F,G,H⟩=(s,i)):=zh (by rw[v.out,yw aA.out,hkn]);clear hkn E
   repeat(go_big_quiet_step (fail))
   refine yN ?_;intro w3 a;clear o2 R S T Z;replace D:=zb D a;replace C:=zb C a;replace z:=zb z a;replace t:=zb t a;replace j:=zb j a;replace m:=zb m a;clear a;go_wp2_with fail;go_ret;rw[HR.out];exact⟨rfl,z,m.out.mono (by omega),(cU.refl _ _).below m⟩
  |none=>
   simp only[hkn,Option.map_none] at Z;rw[yw E,hkn] at v;simp only at v;clear hkn E
   repeat(go_big_quiet_step (fail))
   refine yN ?_;intro w3 a;clear o2 R S T Z;replace D:=zb D a;replace C:=zb C a;replace z:=zb z a;replace t:=zb t a;replace j:=zb j a;replace m:=zb m a;clear a;obtain⟨⟨aZ,ah,ai⟩,nb,nc⟩:=uw op k s ⟨F,G,H⟩ L ao aC an aA aa;have ad:=fy op k s (bH s.b.d ⟨F,G,H⟩ L false);obtain⟨u1,u2,u3⟩:=lz op k s (bH s.b.d ⟨F,G,H⟩ L false) z.out.dl z.out.kl;have aT:2^(k+1)=2^k+2^k:=by rw[BR];omega
   rw[aT] at ag;have ac:=λW y=>IH.out W s (bH s.b.d ⟨F,G,H⟩ L false) y;unfold bH at ac ah ai nb nc v ad u1 u2 u3;simp only at ac ah ai nb nc v ad u1 u2 u3;have CF:=fun(W:World) (y:Below w3.heap.size w3 W)=>jU W g (.slice (some ⟨b,o,none⟩) N c) (.map (some u)) false ⟨u,rfl⟩ s.b.d (C.out.below y) (j.out.below y) (by rw[<-HN.out];exact hd) F L (by rw[<-HN.out];exact hF) false;have CG:=fun(W:World) (y:Below w3.heap.size w3 W)=>jU W g (.slice (some ⟨b,o,none⟩) N c) (.map (some u)) false ⟨u,rfl⟩ s.b.d (C.out.below y) (j.out.below y) (by rw[<-HN.out];exact hd) G L (by rw[<-HN.out];exact hG) false;have CH:=fun(W:World) (y:Below w3.heap.size w3 W)=>jU W g (.slice (some ⟨b,o,none⟩) N c) (.map (some u)) false ⟨u,rfl⟩ s.b.d (C.out.below y) (j.out.below y) (by rw[<-HN.out];exact hd) H L (by rw[<-HN.out];exact hH) false;generalize cK s.b.d F L false=h1 at*;generalize cK s.b.d G L false=h2' at*;generalize cK s.b.d H L false=h3 at*;have NA:Hid _:=zh ah;have NB:Hid _:=zh nb;have NC:Hid _:=zh nc;obtain⟨KL,am,U1,U2,U3,aX⟩:=zk6 ad ag u1 u2 u3 ai;have IA:=zh ac;clear aZ ah ai nb nc ad ag u1 u2 u3 aT ac;have LF:=fun(p:Lat w3)=>bQ (CF p.w p.h);have LG:=fun(p:Lat w3)=>bQ (CG p.w p.h);have LH:=fun(p:Lat w3)=>bQ (CH p.w p.h);clear CF CG CH;go_upto_region 11 with fail;refine aL 26 (by kernel_rfl) (by kernel_rfl) ?_;have o0:=D.out.lat 0 _ rfl;have R:=t.out.lat 0 _ rfl;have S:=t.out.lat 1 _ rfl;have T:=t.out.lat 2 _ rfl;simp only[yX,y9,y6,yO]
   repeat(go_big_quiet_step (first|with_reducible exact LF _|with_reducible exact LG _|with_reducible exact LH _))
   refine yN ?_;intro w4 a;clear o0 R S T LF LG LH;replace D:=zb D a;replace C:=zb C a;replace z:=zb z a;replace t:=zb t a;replace j:=zb j a;replace m:=zb m a;clear a;go_wp2_with fail;refine(IA w4 z (λ_=>⟨ao,NA,aX⟩) (by have:=am.out;have:=Nat.one_le_two_pow (n:=k);omega)).mono ?_;rintro e w5 ⟨rfl,ax,aI,av⟩;have U:=zh ax;have BB:=zh ((m.out.mono (show B<=w.heap.size by omega)).trans aI);have KK:Hid (cU (TX w B λb=>b=g\/b=u\/b=Q) w w5):=zh (TX.trans ((cU.refl _ _).below m) av);have a9:=BB.out.size;have A:=zh (jW t av (by have:=M.out;omega) (by decide));have aF:=zh ax.o;have bb:L<=20:=by rw[an.out];exact nY ao.out.dv aC
   clear ax aI av D C z t j m IA aa;have aW:=λl=>fy op k l ⟨h1,h2',h3⟩;clear aW;generalize aQ op k s ⟨h1,h2',h3⟩=l at*;have aD:=λW y=>IH.out W l.1 ⟨cK l.1.b.d F L true,cK l.1.b.d G L true,cK l.1.b.d H L true⟩ y NC;have KM:=zh (fy op k l.1 ⟨cK l.1.b.d F L true,cK l.1.b.d G L true,cK l.1.b.d H L true⟩);obtain⟨u1,u2,u3⟩:=lz op k l.1 ⟨cK l.1.b.d F L true,cK l.1.b.d G L true,cK l.1.b.d H L true⟩ U1 U2;obtain⟨V1,V2,V3⟩:=zk3 u1 u2 u3;obtain⟨nF,nG,nH⟩:=NB.out;simp only at nF nG nH;obtain⟨b5,o5,c5,I,K, -, -⟩:=U.out.b.row (by omega);have CF:=fun(W:World) (y:Below w5.heap.size w5 W)=>jU W g (.slice (some ⟨b5,o5,none⟩) l.1.b.d.length c5) (.map (some u)) l.1.b.full ⟨u,rfl⟩ l.1.b.d (I.below y) (K.below y) U1 F L nF true;have CG:=fun(W:World) (y:Below w5.heap.size w5 W)=>jU W g (.slice (some ⟨b5,o5,none⟩) l.1.b.d.length c5) (.map (some u)) l.1.b.full ⟨u,rfl⟩ l.1.b.d (I.below y) (K.below y) U1 G L nG true;have CH:=fun(W:World) (y:Below w5.heap.size w5 W)=>jU W g (.slice (some ⟨b5,o5,none⟩) l.1.b.d.length c5) (.map (some u)) l.1.b.full ⟨u,rfl⟩ l.1.b.d (I.below y) (K.below y) U1 H L nH true;clear NC NB nF nG nH u1 u2 u3 I K;generalize cK l.1.b.d F L true=j1 at*;generalize cK l.1.b.d G L true=j2 at*;generalize cK l.1.b.d H L true=j3 at*;have IA:=zh aD;have LF:=fun(p:Lat w5)=>bQ (CF p.w p.h);have LG:=fun(p:Lat w5)=>bQ (CG p.w p.h);have LH:=fun(p:Lat w5)=>bQ (CH p.w p.h);clear CF CG CH aD;go_upto_region 12 with fail;refine aL 26 (by kernel_rfl) (by kernel_rfl) ?_;have o0:=aF.out.lat 0 _ rfl;have R:=A.out.lat 0 _ rfl;have S:=A.out.lat 1 _ rfl;have T:=A.out.lat 2 _ rfl;simp only[yX,y9,y6,yO]
   repeat(go_big_quiet_step (first|with_reducible exact LF _|with_reducible exact LG _|with_reducible exact LH _))
   refine yN ?_;intro w6 a;clear o0 R S T LF LG LH;replace A:=zb A a;replace U:=zb U a;replace BB:=zh (BB.out.trans (a.mono (by have:=M.out;omega)));replace KK:=zb KK a;clear a aF;go_wp2_with fail;refine(IA w6 U (by have:=KL.out;have:=am.out;have:=Nat.one_le_two_pow (n:=k);omega)).mono ?_;rintro e w7 ⟨rfl,aS,aK,aw⟩;have V:=zh aS;replace BB:=zh (BB.out.trans aK);replace KK:=zh (TX.trans KK aw);replace A:=zh (jW A aw (by have:=M.out;omega) (by decide));clear IA U aS aK aw;generalize aQ op k l.1 ⟨j1,j2,j3⟩=r2 at*;have aq:=zh V.out.o;have o7:=za aq 0 rfl;go_wp2_with fail;refine(vT w7 B g u r2.1.b L l.2 r2.2 V.out.b V1 (by omega) U3 V3).mono ?_;rintro e w8 ⟨rfl,aN,aM,Y⟩;clear o7;have aB:=zh aN;have a5:=BB.out.size;replace BB:=zh (BB.out.trans aM);have aG:=zh (jW aq Y (by have:=V.out.o;have:=al.out;omega) (by decide));have ap:=zh (jW A Y (by have:=M.out;omega) (by decide));have ab:=zh (xu V.out.mp Y (by have:=al.out;omega));replace KK:=zh (TX.trans KK (TX.more (S':=λb=>b=g\/b=u\/b=Q) (λb a=>by omega) Y));obtain⟨n1,n2⟩:=rW r2.1.b L l.2 r2.2 V1 U3;obtain⟨W1,W2⟩:=zk2 n1 n2;clear aN aM Y aq V A n1 n2;generalize b6 r2.1.b L l.2 r2.2=r3 at*;obtain⟨s3,i3⟩:=r3;simp only at v W1 W2 aB⊢;go_upto_region 14 with fail;refine aL 6 (by kernel_rfl) (by kernel_rfl) ?_;have o2:=aG.out.lat 2 _ rfl;have R:=ap.out.lat 0 _ rfl;have S:=ap.out.lat 1 _ rfl;have T:=ap.out.lat 2 _ rfl;simp only[yX,y9,y6,yO]
   repeat(go_big_quiet_step (fail))
   refine yN ?_;intro w9 a;clear o2 R S T;replace ab:=zb ab a;obtain⟨a3,hu,aP,J⟩:=ab.out.upd (φ:=φT) Tryz.underlying212 (x:=⟨F,G,H⟩) ⟨by show F<=_;omega,by show G<=_;omega,by show H<=_;omega⟩ (i:=(i3:Nat)) (wfN (by have:=W2.out;omega)) (by unfold maxLen knI;rw[yD];have:=KL.out;have:=KM.out;have:=am.out;have:=Nat.one_le_two_pow (n:=k);omega);have ba:(Instr.mapUpdate 212 (.map (some Q)) (.agg #[.int .i64 (F:Nat),.int .i64 (G:Nat),.int .i64 (H:Nat)]) (.int .i64 (i3:Nat))).run Tryz.prog w9= .ok () a3:=hu;go_wp2_with fail;go_ret;rw[v.out];have a7:=BB.out.size;obtain⟨k1,k2,k3⟩:=aV.out;obtain⟨v1,v2,v3,v4,v5⟩:=al.out;refine⟨rfl,⟨⟨k1,k2,k3⟩,(aB.out.below a).grownM ab J (λe=>v3 e.symm) (λe=>v4 e.symm),bK (aG.out.below a) J v5,aP,W1,λp hp=> ?_⟩, ?_, ?_⟩
   ·rcases yC.1 hp with rfl|hp
    ·exact W2
    ·exact V2 p hp
   ·exact bf (BB.out.trans (a.mono (by have:=M.out;omega))) (by have:=a.size;have:=M.out;omega) k2 J
   ·exact(KK.out.below a).grown J (λq hq=>by
     simp only[yy] at hq
     exact .inl (.inl (.inr (.inr hq.symm))))
theorem opNot (W:World) (p q r:Bool):Calls Tryz.prog 270 #[.bool p,.bool q,.bool r] W λe w'=>e= .returned (.bool (!p))/\Below W.heap.size W w':=by
 cases p<;>cases q<;>cases r
 all_goals
  go_enter Tryz.func270,Tryz.ntmps270;go_wp2_with fail;go_ret;exact⟨rfl,yx _ _⟩
theorem opAnd (W:World) (p q r:Bool):Calls Tryz.prog 76 #[.bool p,.bool q,.bool r] W λe w'=>e= .returned (.bool (p&&q))/\Below W.heap.size W w':=by
 cases p<;>cases q<;>cases r
 all_goals
  go_enter Tryz.func76,Tryz.ntmps76;go_wp2_with fail;go_ret;exact⟨rfl,yx _ _⟩
theorem opOr (W:World) (p q r:Bool):Calls Tryz.prog 268 #[.bool p,.bool q,.bool r] W λe w'=>e= .returned (.bool (p||q))/\Below W.heap.size W w':=by
 cases p<;>cases q<;>cases r
 all_goals
  go_enter Tryz.func268,Tryz.ntmps268;go_wp2_with fail;go_ret;exact⟨rfl,yx _ _⟩
theorem opXor (W:World) (p q r:Bool):Calls Tryz.prog 316 #[.bool p,.bool q,.bool r] W λe w'=>e= .returned (.bool (p !=q))/\Below W.heap.size W w':=by
 cases p<;>cases q<;>cases r
 all_goals
  go_enter Tryz.func316,Tryz.ntmps316;go_wp2_with fail;go_ret;exact⟨rfl,yx _ _⟩
theorem opChoose (W:World) (p q r:Bool):Calls Tryz.prog 271 #[.bool p,.bool q,.bool r] W λe w'=>e= .returned (.bool (p&&q|| !p&&r))/\Below W.heap.size W w':=by
 cases p<;>cases q<;>cases r
 all_goals
  go_enter Tryz.func271,Tryz.ntmps271;go_wp2_with fail;go_ret;exact⟨rfl,yx _ _⟩
theorem dagNew (w:World):Calls Tryz.prog 36 #[] w λe w'=>∃x,e= .returned (.agg #[x])/\Rs ndR w' x bT ah/\Below w.heap.size w w':=by
 go_enter Tryz.func36,Tryz.ntmps36;go_upto_region 1 with fail;generalize d:w.alloc _=w1 at*;obtain⟨f,b⟩:=zB1 d;clear d;have h:=zh b.out.lt;have c:=ac w1 (.cells #[.int .i64 20,.int .i64 0,.int .i64 0,.int .i64 20,.int .i64 1,.int .i64 1] 95);have i:=zh (Box.new w1 95 #[.int .i64 20,.int .i64 0,.int .i64 0,.int .i64 20,.int .i64 1,.int .i64 1]);replace b:=zb b c;replace f:=zb f c;have k:=b.out.lt;have x0:=za b 0 rfl;have m:=b.out.frozen 0;go_wp2_with fail;refine yQ (v:= .agg #[.slice (some ⟨w1.heap.size,0,none⟩) 2 2]) (by simp[results,Tryz.results36,go_sem,x0]) rfl ?_;have l:w.heap.size<w1.heap.size:=by have:=h.out;omega
 refine⟨_,rfl, ?_,f.out.setCell (p:=⟨w.heap.size,0,none⟩) (yq _) _⟩;have g:=i.out.setNe (p:=⟨w.heap.size,0,none⟩) (by show w.heap.size≠_;omega) (.slice (some ⟨w1.heap.size,0,none⟩) 2 2)
 exact jN (φ:=ndR) (xs:=bT) (uss:=[ndL ⟨20,0,0⟩,ndL ⟨20,1,1⟩]) g rfl (λj x a=>by
  match j,a with
  |0,a=>
   obtain rfl:(⟨20,0,0⟩:Nd)=x:=by simpa [bT] using a
   rfl
  |1,a=>
   obtain rfl:(⟨20,1,1⟩:Nd)=x:=by simpa [bT] using a
   rfl
  |j+2,a=>simp[bT] at a)
theorem eqNodes (w:World) (x y:Value) (l:List Nd) (K:Rs ndR w x l ah) (L:Rs ndR w y l ah) (M:l.length<=8192):
  Calls Tryz.prog 116 #[x,y] w λe w'=>e= .returned (.bool true)/\Below w.heap.size w w':=by
 obtain⟨A,c,rfl, -,H⟩:=K.nds;obtain⟨A2,c2,rfl, -,I⟩:=L.nds;obtain⟨C,D⟩:=zk2 H I;obtain⟨N,J⟩:=zv (l.length);rw[<-J] at C D M⊢;clear H I K L J;have m:=zh (yx w.heap.size w);have P:((N:Int) !=(N:Int))=false:=by simp
 go_enter Tryz.func116,Tryz.ntmps116;go_wp2_with fail
 go_loopw [13] (λi wr=>∃k:Nat,k<=N/\i= .int .i64 k/\Below w.heap.size w wr) (λi _=>N-(intOf i).toNat)
 case atStart=>exact⟨0,yt _,rfl,m⟩
 case round=>
  obtain⟨k,hk,rfl,n⟩:=hrel;have d:=zh n;clear n m
  by_cases q:k<N
  ·have r:(k:Int)<N:=by omega
   have X:(0:Int)<=(k:Int):=by omega
   obtain⟨b,o,rfl,f,s,t,u⟩:=C.out k q;obtain⟨g,j,rfl,a,v,z,B⟩:=D.out k q;have W:=zh s;generalize ndA l k=nd at*;obtain⟨E,F,G⟩:=nd;simp only at s t u v z B;have Q:∀p:Lat wr,p.w.cell? ⟨b,o+k*3,none⟩=some (.int .i64 (E:Nat)):=λp=>((ab d p.h).cell (p:=⟨b,o+k*3,none⟩) f).trans s;have R:∀p:Lat wr,p.w.cell? ⟨b,o+k*3+1,none⟩=some (.int .i64 (F:Nat)):=λp=>((ab d p.h).cell (p:=⟨b,o+k*3+1,none⟩) f).trans t;have S:∀p:Lat wr,p.w.cell? ⟨b,o+k*3+2,none⟩=some (.int .i64 (G:Nat)):=λp=>((ab d p.h).cell (p:=⟨b,o+k*3+2,none⟩) f).trans u;have T:∀p:Lat wr,p.w.cell? ⟨g,j+k*3,none⟩=some (.int .i64 (E:Nat)):=λp=>((ab d p.h).cell (p:=⟨g,j+k*3,none⟩) a).trans v;have U:∀p:Lat wr,p.w.cell? ⟨g,j+k*3+1,none⟩=some (.int .i64 (F:Nat)):=λp=>((ab d p.h).cell (p:=⟨g,j+k*3+1,none⟩) a).trans z;have V:∀p:Lat wr,p.w.cell? ⟨g,j+k*3+2,none⟩=some (.int .i64 (G:Nat)):=λp=>((ab d p.h).cell (p:=⟨g,j+k*3+2,none⟩) a).trans B;clear s t u v z B;go_upto_region 6 with fail;refine aJ (by kernel_rfl) (by kernel_rfl) ?_
   repeat(go_big_quiet_step (fail))
   refine yN ?_;intro w2 n;clear Q R S T U V;replace d:=zb d n;clear n;go_wp2_with fail;go_roundw
   ·exact⟨k+1,by omega,by go_num,d⟩
   ·simp[intOf];omega
  ·have r:¬(k:Int)<N:=by omega
   go_wp2_with fail;go_ret;exact⟨rfl,d⟩
theorem eu {w:World} {v:Value} {l:List Nd} {F:Nat->Prop} (h:Rs ndR w v l F) (G:Nat->Prop):Rs ndR w v l G:=by
 obtain⟨A,c,rfl,a,h⟩:=h;exact⟨A,c,rfl,a,h⟩
theorem uj (w:World) (x:Value) (l:List Nd) (s:Rs ndR w x l ah) (E:0<l.length) (J:l.length<=8192):
  Calls Tryz.prog 214 #[x] w λe w'=>∃v,e= .returned v/\OG ndR w' w.heap.size w.heap.size 95 v l/\Below w.heap.size w w':=by
 obtain⟨A,c,rfl,I,u⟩:=s.nds;obtain⟨b,o,rfl,q, -⟩:=u 0 E;obtain⟨D,H⟩:=zk2 s q;clear u;obtain⟨G,hi,g,h,i⟩:=Bb inode;obtain⟨z,k,m,n⟩:=zk4 hi g h i;clear hi g h i s;go_enter Tryz.func214,Tryz.ntmps214;have F:∀W,(binOp .eql 36 (.slice (some ⟨b,o,none⟩) l.length c) (.slice none 0 0)).run Tryz.prog W= .ok (.bool false) W:=λW=>Lib.run_eql_slice_nil W _ _ _ _ _ _ _ Tryz.underlying36;go_upto_region 3 with fail;clear F;have a:=ac w (.cells #[] 95);have j:=zh (OG.lit0 (φ:=ndR) w (B:=w.heap.size) (C:=w.heap.size) (T:=95) (by decide) (yq _) (yq _));have d:Hid (Rs ndR (w.alloc (.cells #[] 95)) (.slice (some ⟨b,o,none⟩) l.length c) l (Ty (w.alloc (.cells #[] 95)) w.heap.size ndR.ts)):=zh ((eu D _).below a);have t:=zh a;have f:=a.size;clear a;go_wp2_with(at_builtin;refine aC (φ:=ndR) (T:=95) (B:=w.heap.size) (C:=w.heap.size) (xs:=[]) (ys:=l) rfl _ _ 36 rfl G (.agg #[.int .i64 0,.int .i64 0,.int .i64 0]) 24 Tryz.underlying36 z k m n rfl rfl j (.slice (some ⟨b,o,none⟩) l.length c) rfl d ?c1 ?c2 ?c3 ?_)
 case c1=>simp only[yR];omega
 case c2=>simp only[yR];unfold maxLen;omega
 case c3=>exact f
 intro K w2 r y;have p:=zh (j.out.belowG y.out t f (yq _));clear j d t y;go_wp2_with fail;go_ret;exact⟨_,rfl,r.out,p.out⟩
end
end Go.Proofs.YtdahpdnhkflnnaaGreatDoor
