/-
  Contracts and laws for the law TopChoices, part 8 of 14; made small by a program of mine out of longer texts.
-/
import Derived.Test.YtdahpdnhkflnnaaGreatDoorZ07
namespace Go.Proofs.YtdahpdnhkflnnaaGreatDoor
set_option linter.unusedVariables false
set_option linter.unusedSimpArgs false
set_option linter.defProp false
set_option maxRecDepth 100000
set_option maxHeartbeats 64000000
section
open Go.RowKit Go.Maps
def vrV (x:Vr):Value:= .agg #[.string x.name,.int .i64 x.width,.int .i64 x.mode,.int .i64 x.value]
def wtV (x:Wt):Value:= .agg #[.int .i64 x.lo,.int .i64 x.hi,.int .i64 x.weight,.bool x.each]
theorem so (w:World) (v:Value) (ts:List Vr) (Q:Rs vrR w v ts ah) (hn:ts.length<=1000) (g:Nat) (lb:Array Value) (p:Vr->Bool) (eg:∀args W,(callFunc g args).run Tryz.prog W= .ok (.enter g args) W)
  (hp:∀W t,Below w.heap.size w W->t∈ts->Calls Tryz.prog g (#[vrV t]++lb) W λe w'=>e= .returned (.bool (p t))/\Below W.heap.size W w'):
  Calls Tryz.prog 229 #[v,.func (.func g) #[] lb] w λe w'=>e= .returned (.int .i64 (fF p ts))/\Below w.heap.size w w':=by
 obtain⟨A,c,rfl,Z,R⟩:=Q.vrs;obtain⟨y,G⟩:=zk2 R hp;have E:=zh (λk U V X=>gL (p:=p) (l:=ts) (k:=k) vr0 U V X);have F:=zh (fQ (p:=p) (l:=ts) vr0);obtain⟨N,K⟩:=zv (ts.length);have L:=zh K;rw[<-K] at Z hn y⊢;generalize fF p ts=r at*;clear R hp K Q;go_enter Tryz.func229,Tryz.ntmps229;go_wp2_with fail
 go_loopw [5,8] (λ_ i wr=>∃k:Nat,k<=N/\i= .int .i64 k/\Hid (∀j,j<k->p (ts.getD j vr0)=false)/\Below w.heap.size w wr) (λ_ i _=>N-(intOf i).toNat)
 case atStart=>exact⟨0,yt _,rfl,(λj h=>by omega),yx _ _⟩
 case round=>
  obtain⟨k,hk,rfl,f,m⟩:=hrel;have n:=zh m
  by_cases C:k<N
  ·have D:(k:Int)<N:=by omega
   have aa:(0:Int)<=(k:Int):=by omega
   have q:k<ts.length:=by rw[<-L.out];exact C
   have z:=getD_in vr0 q;obtain⟨b,o,T,d,a⟩:=y.out k C;subst T;have S:=(n.out.cell d).trans (a 0 _ rfl);have v1:=(n.out.cell d).trans (a 1 _ rfl);have v2:=(n.out.cell d).trans (a 2 _ rfl);have v3:=(n.out.cell d).trans (a 3 _ rfl);rw[yU] at S;have H:=zh (λW Y=>G.out W (ts.getD k vr0) Y z);have I:=zh (E k q f.out)
   have J:Hid (p (ts.getD k vr0)=false->∀j,j<k+1->p (ts.getD j vr0)=false):=zh λh j M=>by
    by_cases e:j=k
    ·rw[e];exact h
    ·exact f.out j (by omega)
   clear z;generalize ts.getD k vr0=x at*;unfold vrV at H;obtain⟨x1,x2,x3,x4⟩:=x;simp only at S v1 v2 v3;generalize P:p ⟨x1,x2,x3,x4⟩=qv at*;cases qv
   ·have u:=zh (J rfl);clear I J P q d a m f y E F G;go_wp2_with fail;refine(H _ n).mono ?_;rintro e w2 ⟨rfl,m⟩;have s:=zh (ab n m);clear m;go_wp2_with fail;go_roundw
    ·exact⟨k+1,by omega,by go_num,u,s⟩
    ·simp[intOf];omega
   ·have u:=zh (I rfl);clear I J P q d a m f y E F G;go_wp2_with fail;refine(H _ n).mono ?_;rintro e w2 ⟨rfl,m⟩;have s:=zh (ab n m);clear m;go_wp2_with fail;go_ret;exact⟨aS u.out.symm,s⟩
  ·have D:¬(k:Int)<N:=by omega
   have B:k=N:=by omega
   have u:=zh (F λj M=>f.out j (by rw[B,L.out];exact M));clear m f B y E G F;go_wp2_with fail;go_ret;exact⟨aS u.out.symm,n⟩
theorem su (w:World) (v:Value) (ts:List Vr) (a:Rs vrR w v ts ah) (i:ts.length<=1000) (g:Nat) (lb:Array Value) (p:Vr->Bool) (b:∀args W,(callFunc g args).run Tryz.prog W= .ok (.enter g args) W)
  (hp:∀W t,Below w.heap.size w W->t∈ts->Calls Tryz.prog g (#[vrV t]++lb) W λe w'=>e= .returned (.bool (p t))/\Below W.heap.size W w'):
  Calls Tryz.prog 157 #[v,.func (.func g) #[] lb] w λe w'=>e= .returned (.bool (ts.any p))/\Below w.heap.size w w':=by
 have f:=zh (so w v ts a i g lb p b hp);rw[<-iO];generalize fF p ts=r at*;obtain⟨A,c,rfl, -⟩:=a.vrs;generalize ts.length=tl at*;clear hp b a;go_enter Tryz.func157,Tryz.ntmps157;go_wp2_with fail;refine f.out.mono ?_;rintro e w2 ⟨rfl,d⟩;have h:=zh d;clear d;go_wp2_with fail;go_ret;exact⟨rfl,h⟩
theorem idxFuncW (w:World) (v:Value) (ts:List Wt) (Q:Rs wtR w v ts ah) (hn:ts.length<=1000) (g:Nat) (lb:Array Value) (p:Wt->Bool) (eg:∀args W,(callFunc g args).run Tryz.prog W= .ok (.enter g args) W)
  (hp:∀W t,Below w.heap.size w W->t∈ts->Calls Tryz.prog g (#[wtV t]++lb) W λe w'=>e= .returned (.bool (p t))/\Below W.heap.size W w'):
  Calls Tryz.prog 192 #[v,.func (.func g) #[] lb] w λe w'=>e= .returned (.int .i64 (fF p ts))/\Below w.heap.size w w':=by
 obtain⟨A,c,rfl,Z,R⟩:=Q.wts;obtain⟨y,G⟩:=zk2 R hp;have E:=zh (λk U V X=>gL (p:=p) (l:=ts) (k:=k) wt0 U V X);have F:=zh (fQ (p:=p) (l:=ts) wt0);obtain⟨N,K⟩:=zv (ts.length);have L:=zh K;rw[<-K] at Z hn y⊢;generalize fF p ts=r at*;clear R hp K Q;go_enter Tryz.func192,Tryz.ntmps192;go_wp2_with fail
 go_loopw [5,8] (λ_ i wr=>∃k:Nat,k<=N/\i= .int .i64 k/\Hid (∀j,j<k->p (ts.getD j wt0)=false)/\Below w.heap.size w wr) (λ_ i _=>N-(intOf i).toNat)
 case atStart=>exact⟨0,yt _,rfl,(λj h=>by omega),yx _ _⟩
 case round=>
  obtain⟨k,hk,rfl,f,m⟩:=hrel;have n:=zh m
  by_cases C:k<N
  ·have D:(k:Int)<N:=by omega
   have aa:(0:Int)<=(k:Int):=by omega
   have q:k<ts.length:=by rw[<-L.out];exact C
   have z:=getD_in wt0 q;obtain⟨b,o,T,d,a⟩:=y.out k C;subst T;have S:=(n.out.cell d).trans (a 0 _ rfl);have v1:=(n.out.cell d).trans (a 1 _ rfl);have v2:=(n.out.cell d).trans (a 2 _ rfl);have v3:=(n.out.cell d).trans (a 3 _ rfl);rw[yU] at S;have H:=zh (λW Y=>G.out W (ts.getD k wt0) Y z);have I:=zh (E k q f.out)
   have J:Hid (p (ts.getD k wt0)=false->∀j,j<k+1->p (ts.getD j wt0)=false):=zh λh j M=>by
    by_cases e:j=k
    ·rw[e];exact h
    ·exact f.out j (by omega)
   clear z;generalize ts.getD k wt0=x at*;unfold wtV at H;obtain⟨x1,x2,x3,x4⟩:=x;simp only at S v1 v2 v3;generalize P:p ⟨x1,x2,x3,x4⟩=qv at*;cases qv
   ·have u:=zh (J rfl);clear I J P q d a m f y E F G;go_wp2_with fail;refine(H _ n).mono ?_;rintro e w2 ⟨rfl,m⟩;have s:=zh (ab n m);clear m;go_wp2_with fail;go_roundw
    ·exact⟨k+1,by omega,by go_num,u,s⟩
    ·simp[intOf];omega
   ·have u:=zh (I rfl);clear I J P q d a m f y E F G;go_wp2_with fail;refine(H _ n).mono ?_;rintro e w2 ⟨rfl,m⟩;have s:=zh (ab n m);clear m;go_wp2_with fail;go_ret;exact⟨aS u.out.symm,s⟩
  ·have D:¬(k:Int)<N:=by omega
   have B:k=N:=by omega
   have u:=zh (F λj M=>f.out j (by rw[B,L.out];exact M));clear m f B y E G F;go_wp2_with fail;go_ret;exact⟨aS u.out.symm,n⟩
theorem hasFuncW (w:World) (v:Value) (ts:List Wt) (a:Rs wtR w v ts ah) (i:ts.length<=1000) (g:Nat) (lb:Array Value) (p:Wt->Bool) (b:∀args W,(callFunc g args).run Tryz.prog W= .ok (.enter g args) W)
  (hp:∀W t,Below w.heap.size w W->t∈ts->Calls Tryz.prog g (#[wtV t]++lb) W λe w'=>e= .returned (.bool (p t))/\Below W.heap.size W w'):
  Calls Tryz.prog 241 #[v,.func (.func g) #[] lb] w λe w'=>e= .returned (.bool (ts.any p))/\Below w.heap.size w w':=by
 have f:=zh (idxFuncW w v ts a i g lb p b hp);rw[<-iO];generalize fF p ts=r at*;obtain⟨A,c,rfl, -⟩:=a.wts;generalize ts.length=tl at*;clear hp b a;go_enter Tryz.func241,Tryz.ntmps241;go_wp2_with fail;refine f.out.mono ?_;rintro e w2 ⟨rfl,d⟩;have h:=zh d;clear d;go_wp2_with fail;go_ret;exact⟨rfl,h⟩
theorem idxFuncD (w:World) (v:Value) (ts:List Ds) (Y:Rs dsR w v ts ah) (hn:ts.length<=1000) (g:Nat) (lb:Array Value) (p:Ds->Bool) (eg:∀args W,(callFunc g args).run Tryz.prog W= .ok (.enter g args) W)
  (hp:∀W t (u:Value),Below w.heap.size w W->t∈ts->Rs wtR W u t.ws ah->Calls Tryz.prog g (#[.agg #[.int .i64 t.var,u]]++lb) W λe w'=>e= .returned (.bool (p t))/\Below W.heap.size W w'):
  Calls Tryz.prog 240 #[v,.func (.func g) #[] lb] w λe w'=>e= .returned (.int .i64 (fF p ts))/\Below w.heap.size w w':=by
 obtain⟨A,c,rfl,hc,Z⟩:=Y.dss;obtain⟨E,L⟩:=zk2 Z hp;have J:=zh (λk h1 h2 h3=>gL (p:=p) (l:=ts) (k:=k) ds0 h1 h2 h3);have K:=zh (fQ (p:=p) (l:=ts) ds0);obtain⟨N,S⟩:=zv (ts.length);have T:=zh S;rw[<-S] at hc hn E⊢;generalize fF p ts=r at*;clear Z hp S Y;go_enter Tryz.func240,Tryz.ntmps240;go_wp2_with fail
 go_loopw [5,8] (λ_ i wr=>∃k:Nat,k<=N/\i= .int .i64 k/\Hid (∀j,j<k->p (ts.getD j ds0)=false)/\Below w.heap.size w wr) (λ_ i _=>N-(intOf i).toNat)
 case atStart=>exact⟨0,yt _,rfl,(λj h=>by omega),yx _ _⟩
 case round=>
  obtain⟨k,hk,rfl,a,d⟩:=hrel;have q:=zh d
  by_cases H:k<N
  ·have I:(k:Int)<N:=by omega
   have aa:(0:Int)<=(k:Int):=by omega
   have m:k<ts.length:=by rw[<-T.out];exact H
   have F:=getD_in ds0 m;obtain⟨b,o,u,e2,f,B,C,n⟩:=E.out k H;subst e2;have v0:=(q.out.cell f).trans B;have v1:=(q.out.cell f).trans C;have R:=zh n;have M:=zh (λW (U:Below w.heap.size w W)=>L.out W (ts.getD k ds0) u U F (R.out.below U));have P:=zh (J k m a.out)
   have Q:Hid (p (ts.getD k ds0)=false->∀j,j<k+1->p (ts.getD j ds0)=false):=zh λh j V=>by
    by_cases e:j=k
    ·rw[e];exact h
    ·exact a.out j (by omega)
   clear F;generalize ts.getD k ds0=x at*;obtain⟨Au,cu,rfl, -⟩:=n.slice;generalize X:p x=qv at*;obtain⟨ao,z⟩:=zv (x.var);obtain⟨al,y⟩:=zv (x.ws.length);rw[<-z,<-y] at M;rw[<-z] at v0;rw[<-y] at v1;clear z y;cases qv
   ·have D:=zh (Q rfl);clear P Q X m f B C n d a E J K L;go_wp2_with fail;refine(M _ q).mono ?_;rintro e w2 ⟨rfl,d⟩;have s:=zh (ab q d);clear d;go_wp2_with fail;go_roundw
    ·exact⟨k+1,by omega,by go_num,D,s⟩
    ·simp[intOf];omega
   ·have D:=zh (P rfl);clear P Q X m f B C n d a E J K L;go_wp2_with fail;refine(M _ q).mono ?_;rintro e w2 ⟨rfl,d⟩;have s:=zh (ab q d);clear d;go_wp2_with fail;go_ret;exact⟨aS D.out.symm,s⟩
  ·have I:¬(k:Int)<N:=by omega
   have G:k=N:=by omega
   have D:=zh (K λj V=>a.out j (by rw[G,T.out];exact V));clear d a G E J L K;go_wp2_with fail;go_ret;exact⟨aS D.out.symm,q⟩
theorem hasFuncD (w:World) (v:Value) (ts:List Ds) (a:Rs dsR w v ts ah) (i:ts.length<=1000) (g:Nat) (lb:Array Value) (p:Ds->Bool) (b:∀args W,(callFunc g args).run Tryz.prog W= .ok (.enter g args) W)
  (hp:∀W t (u:Value),Below w.heap.size w W->t∈ts->Rs wtR W u t.ws ah->Calls Tryz.prog g (#[.agg #[.int .i64 t.var,u]]++lb) W λe w'=>e= .returned (.bool (p t))/\Below W.heap.size W w'):
  Calls Tryz.prog 168 #[v,.func (.func g) #[] lb] w λe w'=>e= .returned (.bool (ts.any p))/\Below w.heap.size w w':=by
 have f:=zh (idxFuncD w v ts a i g lb p b hp);rw[<-iO];generalize fF p ts=r at*;obtain⟨A,c,rfl, -⟩:=a.dss;generalize ts.length=tl at*;clear hp b a;go_enter Tryz.func168,Tryz.ntmps168;go_wp2_with fail;refine f.out.mono ?_;rintro e w2 ⟨rfl,d⟩;have h:=zh d;clear d;go_wp2_with fail;go_ret;exact⟨rfl,h⟩
theorem idxFuncE (w:World) (v:Value) (ts:List Ex) (d:Nat) (hv:Rs (exR d) w v ts ah) (hn:ts.length<=1000) (g:Nat) (lb:Array Value) (p:Ex->Bool) (eg:∀args W,(callFunc g args).run Tryz.prog W= .ok (.enter g args) W)
  (hp:∀W t (u:Value) (V:Nat),Below w.heap.size w W->t∈ts->Rs (exR V) W u t.args ah->Calls Tryz.prog g (#[exV t u]++lb) W λe w'=>e= .returned (.bool (p t))/\Below W.heap.size W w'):
  Calls Tryz.prog 219 #[v,.func (.func g) #[] lb] w λe w'=>e= .returned (.int .i64 (fF p ts))/\Below w.heap.size w w':=by
 obtain⟨A,c,rfl,hc,hx⟩:=hv.exs;obtain⟨H,R⟩:=zk2 hx hp;have P:=zh (λk h1 h2 h3=>gL (p:=p) (l:=ts) (k:=k) ex0 h1 h2 h3);have Q:=zh (fQ (p:=p) (l:=ts) ex0);obtain⟨N,X⟩:=zv (ts.length);have Y:=zh X;rw[<-X] at hc hn H⊢;generalize fF p ts=r at*;clear hx hp X hv;go_enter Tryz.func219,Tryz.ntmps219;go_wp2_with fail
 go_loopw [5,8] (λ_ i wr=>∃k:Nat,k<=N/\i= .int .i64 k/\Hid (∀j,j<k->p (ts.getD j ex0)=false)/\Below w.heap.size w wr) (λ_ i _=>N-(intOf i).toNat)
 case atStart=>exact⟨0,yt _,rfl,(λj h=>by omega),yx _ _⟩
 case round=>
  obtain⟨k,hk,rfl,m,q⟩:=hrel;have s:=zh q
  by_cases K:k<N
  ·have L:(k:Int)<N:=by omega
   have aa:(0:Int)<=(k:Int):=by omega
   have y:k<ts.length:=by rw[<-Y.out];exact K
   have I:=getD_in ex0 y;obtain⟨b,o,u,V,e2,f, -,a,z, -⟩:=H.out k K;subst e2;have v0:=(s.out.cell f).trans (a 0 _ rfl);have v1:=(s.out.cell f).trans (a 1 _ rfl);have v2:=(s.out.cell f).trans (a 2 _ rfl);have v3:=(s.out.cell f).trans (a 3 _ rfl);rw[yU] at v0;have U:=zh z;have M:=zh (λW (Z:Below w.heap.size w W)=>R.out W (ts.getD k ex0) u V Z I (U.out.below Z));have S:=zh (P k y m.out)
   have T:Hid (p (ts.getD k ex0)=false->∀j,j<k+1->p (ts.getD j ex0)=false):=zh λh j hj=>by
    by_cases e:j=k
    ·rw[e];exact h
    ·exact m.out j (by omega)
   clear I;generalize ts.getD k ex0=x at*;obtain⟨Au,cu,rfl, -⟩:=z.slice;unfold exV at M;generalize hq:p x=qv at*;obtain⟨ao,F⟩:=zv (x.op);obtain⟨an,E⟩:=zv (x.n);obtain⟨am,D⟩:=zv (x.name);obtain⟨al,C⟩:=zv (x.args.length);rw[<-F,<-E,<-D,<-C] at M;rw[<-F] at v0;rw[<-E] at v1;rw[<-D] at v2;rw[<-C] at v3;clear F E D C;cases qv
   ·have G:=zh (T rfl);clear S T hq y f a z q m H P Q R;go_wp2_with fail;refine(M _ s).mono ?_;rintro e w2 ⟨rfl,q⟩;have B:=zh (ab s q);clear q;go_wp2_with fail;go_roundw
    ·exact⟨k+1,by omega,by go_num,G,B⟩
    ·simp[intOf];omega
   ·have G:=zh (S rfl);clear S T hq y f a z q m H P Q R;go_wp2_with fail;refine(M _ s).mono ?_;rintro e w2 ⟨rfl,q⟩;have B:=zh (ab s q);clear q;go_wp2_with fail;go_ret;exact⟨aS G.out.symm,B⟩
  ·have L:¬(k:Int)<N:=by omega
   have J:k=N:=by omega
   have G:=zh (Q λj hj=>m.out j (by rw[J,Y.out];exact hj));clear q m J H P R Q;go_wp2_with fail;go_ret;exact⟨aS G.out.symm,s⟩
theorem hasFuncE (w:World) (v:Value) (ts:List Ex) (d:Nat) (a:Rs (exR d) w v ts ah) (k:ts.length<=1000) (g:Nat) (lb:Array Value) (p:Ex->Bool) (b:∀args W,(callFunc g args).run Tryz.prog W= .ok (.enter g args) W)
  (hp:∀W t (u:Value) (j:Nat),Below w.heap.size w W->t∈ts->Rs (exR j) W u t.args ah->Calls Tryz.prog g (#[exV t u]++lb) W λe w'=>e= .returned (.bool (p t))/\Below W.heap.size W w'):
  Calls Tryz.prog 142 #[v,.func (.func g) #[] lb] w λe w'=>e= .returned (.bool (ts.any p))/\Below w.heap.size w w':=by
 have h:=zh (idxFuncE w v ts d a k g lb p b hp);rw[<-iO];generalize fF p ts=r at*;obtain⟨A,c,rfl, -⟩:=a.exs;generalize ts.length=tl at*;clear hp b a;go_enter Tryz.func142,Tryz.ntmps142;go_wp2_with fail;refine h.out.mono ?_;rintro e w2 ⟨rfl,f⟩;have i:=zh f;clear f;go_wp2_with fail;go_ret;exact⟨rfl,i⟩
theorem idxFuncS (w:World) (v:Value) (ts:List ByteArray) (Q:SL w v ts) (hn:ts.length<=1000) (g:Nat) (lb:Array Value) (p:ByteArray->Bool) (eg:∀args W,(callFunc g args).run Tryz.prog W= .ok (.enter g args) W)
  (hp:∀W t,Below w.heap.size w W->t∈ts->Calls Tryz.prog g (#[.string t]++lb) W λe w'=>e= .returned (.bool (p t))/\Below W.heap.size W w'):
  Calls Tryz.prog 239 #[v,.func (.func g) #[] lb] w λe w'=>e= .returned (.int .i64 (fF p ts))/\Below w.heap.size w w':=by
 obtain⟨A,c,rfl,Y,R⟩:=Q.cellF;obtain⟨y,G⟩:=zk2 R hp;have E:=zh (λk T U V=>gL (p:=p) (l:=ts) (k:=k) ⟨#[]⟩ T U V);have F:=zh (fQ (p:=p) (l:=ts) ⟨#[]⟩);obtain⟨N,J⟩:=zv (ts.length);have L:=zh J;rw[<-J] at Y hn y⊢;generalize fF p ts=r at*;clear R hp J Q;go_enter Tryz.func239,Tryz.ntmps239;go_wp2_with fail
 go_loopw [5,8] (λ_ i wr=>∃k:Nat,k<=N/\i= .int .i64 k/\Hid (∀j,j<k->p (ts.getD j ⟨#[]⟩)=false)/\Below w.heap.size w wr) (λ_ i _=>N-(intOf i).toNat)
 case atStart=>exact⟨0,yt _,rfl,(λj h=>by omega),yx _ _⟩
 case round=>
  obtain⟨k,hk,rfl,a,d⟩:=hrel;have s:=zh d
  by_cases C:k<N
  ·have D:(k:Int)<N:=by omega
   have Z:(0:Int)<=(k:Int):=by omega
   have f:k<ts.length:=by rw[<-L.out];exact C
   have z:=getD_in ⟨#[]⟩ f;obtain⟨b,o,S,n,q⟩:=y.out k C;subst S;have v0:=(s.out.cell n).trans q;have K:=zh (λW X=>G.out W (ts.getD k ⟨#[]⟩) X z);have H:=zh (E k f a.out)
   have I:Hid (p (ts.getD k ⟨#[]⟩)=false->∀j,j<k+1->p (ts.getD j ⟨#[]⟩)=false):=zh λh j M=>by
    by_cases e:j=k
    ·rw[e];exact h
    ·exact a.out j (by omega)
   clear z;generalize ts.getD k ⟨#[]⟩=x at*;generalize P:p x=qv at*;cases qv
   ·have u:=zh (I rfl);clear H I P f n q d a y E F G;go_wp2_with fail;refine(K _ s).mono ?_;rintro e w2 ⟨rfl,d⟩;have m:=zh (ab s d);clear d;go_wp2_with fail;go_roundw
    ·exact⟨k+1,by omega,by go_num,u,m⟩
    ·simp[intOf];omega
   ·have u:=zh (H rfl);clear H I P f n q d a y E F G;go_wp2_with fail;refine(K _ s).mono ?_;rintro e w2 ⟨rfl,d⟩;have m:=zh (ab s d);clear d;go_wp2_with fail;go_ret;exact⟨aS u.out.symm,m⟩
  ·have D:¬(k:Int)<N:=by omega
   have B:k=N:=by omega
   have u:=zh (F λj M=>a.out j (by rw[B,L.out];exact M));clear d a B y E G F;go_wp2_with fail;go_ret;exact⟨aS u.out.symm,s⟩
theorem hasFuncS (w:World) (v:Value) (ts:List ByteArray) (a:SL w v ts) (i:ts.length<=1000) (g:Nat) (lb:Array Value) (p:ByteArray->Bool) (b:∀args W,(callFunc g args).run Tryz.prog W= .ok (.enter g args) W)
  (hp:∀W t,Below w.heap.size w W->t∈ts->Calls Tryz.prog g (#[.string t]++lb) W λe w'=>e= .returned (.bool (p t))/\Below W.heap.size W w'):
  Calls Tryz.prog 166 #[v,.func (.func g) #[] lb] w λe w'=>e= .returned (.bool (ts.any p))/\Below w.heap.size w w':=by
 have f:=zh (idxFuncS w v ts a i g lb p b hp);rw[<-iO];generalize fF p ts=r at*;obtain⟨A,c,rfl, -⟩:=a.cellF;generalize ts.length=tl at*;clear hp b a;go_enter Tryz.func166,Tryz.ntmps166;go_wp2_with fail;refine f.out.mono ?_;rintro e w2 ⟨rfl,d⟩;have h:=zh d;clear d;go_wp2_with fail;go_ret;exact⟨rfl,h⟩
theorem vQ (a:ByteArray) (i:Nat) (h:i<10):a++(⟨#[91]⟩:ByteArray)++(⟨(Lib.decDigits i).toArray⟩:ByteArray)++(⟨#[93]⟩:ByteArray)=bC a i:=by
 have e:Lib.decDigits i=[UInt8.ofNat (48+i)]:=by unfold Lib.decDigits;rw[dif_pos h]
 rw[e];refine mB ?_;simp[bC,ByteArray.data_append]
theorem l9 (a:ByteArray) (i:Nat):(bC a i).size=a.size+3:=by
 show(a.data++#[91,UInt8.ofNat (48+i),93]).size=_;rw[Array.size_append];rfl
theorem nV {s:ByteArray} (h:cj s=true):s.size<=19:=by
 unfold cj at h;rw[Cl] at h;rcases h with h|h
 ·have:=(b9.1 h).2.1;omega
 ·simp only[yF] at h;obtain⟨_,a,b⟩:=h;have e:=(b9.1 a).2.1;obtain⟨i,_,c⟩:=AE.1 b;have d:s=bC (cI 91 s) i:=AD c;have:=l9 (cI 91 s) i;rw[<-d] at this;omega
theorem pL (w:World) (a:ByteArray) (i:Nat) (hi:i<10) (g:a.size<=1000):Calls Tryz.prog 236 #[.string a,.int .i64 (i:Nat)] w λe w'=>e= .returned (.string (bC a i))/\w=w':=by
 rw[<-vQ a i hi]
 have h:(⟨(Lib.decDigits i).toArray⟩:ByteArray).size=1:=by
  have e:Lib.decDigits i=[UInt8.ofNat (48+i)]:=by unfold Lib.decDigits;rw[dif_pos hi]
  rw[e];rfl
 have c:=zh λW=>Tryz.strconv_Itoa_small i (by omega) W;generalize(⟨(Lib.decDigits i).toArray⟩:ByteArray)=dg at*;have j:¬9223372036854775807<a.size+1:=by omega
 have b:(a++(⟨#[91]⟩:ByteArray)).size=a.size+1:=by rw[ByteArray.size_append];rfl
 have k:¬9223372036854775807<(a++(⟨#[91]⟩:ByteArray)).size+dg.size:=by rw[b];omega
 have d:¬9223372036854775807<a.size+1+dg.size:=by omega
 have l:¬9223372036854775807<(a++(⟨#[91]⟩:ByteArray)++dg).size+1:=by rw[ByteArray.size_append,b];omega
 have f:¬9223372036854775807<a.size+1+dg.size+1:=by omega
 clear b h g hi;go_enter Tryz.func236,Tryz.ntmps236;go_wp2_with fail;refine(c _).mono ?_;rintro e w' ⟨rfl,rfl⟩;go_wp2_with fail;go_ret;exact⟨rfl,rfl⟩
theorem elIndex1 (w:World) (v:Vr) (s:ByteArray) (g:Nat) (f:Box w g #[.string s] 9):Calls Tryz.prog 237 (#[vrV v]++#[.pointer (some ⟨g,0,none⟩)]) w λe w'=>e= .returned (.bool (decide (v.name=s)))/\Below w.heap.size w w':=by
 obtain⟨b,l,m,n⟩:=v;unfold vrV;simp only;have d:=zh f;clear f
 have k:((b.toList==s.toList)=decide (b=s)):=by
  by_cases h:b=s
  ·subst h;simp
  ·rw[(kh h).1,yv h]
 generalize decide (b=s)=q at*;show Calls _ _ #[.agg #[.string b,.int .i64 l,.int .i64 m,.int .i64 n],.pointer (some ⟨g,0,none⟩)] _ _;go_enter Tryz.func237,Tryz.ntmps237;go_upto_region 1 with fail;generalize c:w.alloc _=w1 at*;obtain⟨a,j⟩:=zA1 c;clear c;replace d:=zb d a;have i:=zh a;have o:=za j 0 rfl;have p:=za d 0 rfl;clear a;go_wp2_with fail;go_ret;exact⟨rfl,i⟩
theorem qF (w:World) (v:Value) (vars:List Vr) (s:ByteArray) (h:Rs vrR w v vars ah) (l:vars.length<=1000):Calls Tryz.prog 162 #[v,.string s] w λe w'=>e= .returned (.int .i64 (cS vars s))/\Below w.heap.size w w':=by
 have k:=zm;have i:=zh λg (W:World) (a:Below w.heap.size w W) (m:Box W g #[.string s] 9)=>so W v vars (h.below a) l 237 #[.pointer (some ⟨g,0,none⟩)] (λv=>decide (v.name=s)) (λargs W=>by kernel_rfl) (λW' t j _=>elIndex1 W' t s g (m.below j));unfold cS;generalize fF (λv:Vr=>decide (v.name=s)) vars=r at*;obtain⟨A,c,rfl, -⟩:=h.vrs;generalize vars.length=n at*;clear h;go_enter Tryz.func162,Tryz.ntmps162;go_upto_region 1 with fail;generalize b:w.alloc _=w1 at*;obtain⟨d,f⟩:=zB1 b;clear b;go_wp2_with fail;refine(i _ w1 d f).mono ?_;rintro e w2 ⟨rfl,a⟩;replace f:=zb f a;replace d:=zb d a;clear a;go_wp2_with fail;go_ret;exact⟨rfl,d⟩
theorem lg (s:ByteArray) (a:ByteArray) (i:Nat):(s.toList==(bC a i).toList)=decide (s=bC a i):=by
 by_cases h:s=bC a i
 ·rw[yB h,<-h];simp
 ·rw[(kh h).1,yv h]
theorem tc {p:Nat->Bool} {k:Nat} (hk:k<8) (h:p k=true):(List.range 8).any p=true:=AE.2 ⟨k,BI.2 hk,h⟩
theorem pR {p:Nat->Bool} (h:∀j,j<8->p j=false):(List.range 8).any p=false:=by
 cases hq:(List.range 8).any p
 ·rfl
 ·obtain⟨j,b,a⟩:=AE.1 hq;rw[h j (BI.1 b)] at a;cases a
theorem elNamed (s:ByteArray) (w:World) (G:s.size<=maxLen) (h:KW w) (hm:cM w):Calls Tryz.prog 161 #[.string s] w λe w'=>e= .returned (.bool (cj s))/\Below w.heap.size w w':=by
 obtain⟨o,N⟩:=zk2 h hm;have z:=zh fun(W:World) (a:Below w.heap.size w W)=>cutAt 91 s W (by unfold maxLen at G;omega) (hm.below a);have n:=fO 91 s;have v:=kQ (b:=91) s.data.toList;rw[<-Ba] at v;have y:=zh (λw h=>kN s w G h);have F:=zh (λw h=>kN (cI 91 s) w (by unfold maxLen at*;omega) h);have l:Hid (cj s=(aN s||(eV 91 s&&(aN (cI 91 s)&&(List.range 8).any (dR s))))):=zh rfl;have u:Hid (aN (cI 91 s)=true->(cI 91 s).size<=1000):=zh λh=>by have:=(b9.1 h).2.1;omega
 have A:Hid (∀i,dR s i=decide (s=bC (cI 91 s) i)):=zh λi=>rfl;generalize cj s=r at*;generalize eV 91 s=hh at*;generalize aN s=n1 at*;generalize aN (cI 91 s)=n2 at*;generalize cI 91 s=ps at*;generalize dZ 91 s=qs at*;clear h hm n v;cases n1
 case true=>
  have d:Hid (r=true):=zh (by rw[l.out];rfl);clear l;go_enter Tryz.func161,Tryz.ntmps161;go_wp2_with fail;refine(y w o).mono ?_;rintro e w1 ⟨rfl,a⟩;have c:=zh a;clear a;go_wp2_with fail;go_ret;exact⟨bF d.out.symm,c⟩
 cases hh
 case false=>
  have d:Hid (r=false):=zh (by rw[l.out];rfl);clear l;go_enter Tryz.func161,Tryz.ntmps161;go_wp2_with fail;refine(y w o).mono ?_;rintro e w1 ⟨rfl,a⟩;have c:=zh a;clear a;go_wp2_with fail;refine(z w1 c).mono ?_;rintro e w2 ⟨rfl,a⟩;replace c:=zb c a;clear a;go_wp2_with fail;go_ret;exact⟨bF d.out.symm,c⟩
 cases n2
 case false=>
  have d:Hid (r=false):=zh (by rw[l.out];rfl);clear l;go_enter Tryz.func161,Tryz.ntmps161;go_wp2_with fail;refine(y w o).mono ?_;rintro e w1 ⟨rfl,a⟩;have c:=zh a;clear a;go_wp2_with fail;refine(z w1 c).mono ?_;rintro e w2 ⟨rfl,a⟩;replace c:=zb c a;clear a;go_wp2_with fail;refine(F w2 (o.out.below c)).mono ?_;rintro e H ⟨rfl,a⟩;replace c:=zb c a;clear a;go_wp2_with fail;go_ret;exact⟨bF d.out.symm,c⟩
 case true=>
  have d:Hid (r=(List.range 8).any (dR s)):=zh (by rw[l.out];rfl);have n:=u.out rfl;have I:=zh λW i h=>pL W ps i h n;have J:=zh λi=>lg s ps i;clear l u;go_enter Tryz.func161,Tryz.ntmps161;go_wp2_with fail;refine(y w o).mono ?_;rintro e w1 ⟨rfl,a⟩;have c:=zh a;clear a;go_wp2_with fail;refine(z w1 c).mono ?_;rintro e w2 ⟨rfl,a⟩;replace c:=zb c a;clear a;go_wp2_with fail;refine(F w2 (o.out.below c)).mono ?_;rintro e H ⟨rfl,a⟩;replace c:=zb c a;clear a;go_wp2_with fail
  go_loopw [22] (λi wr=>∃k:Nat,k<=8/\i= .int .i64 k/\wr=H/\Hid (∀j,j<k->dR s j=false)) (λi _=>8-(intOf i).toNat)
  case atStart=>exact⟨0,by decide,rfl,rfl,zh λj h=>by omega⟩
  case round=>
   obtain⟨k,hk,rfl,rfl,g⟩:=hrel
   by_cases E:k<8
   ·have x:(k:Int)<8:=by omega
    have K:=J.out k;have t:=zh (A k);have p:=zh λW=>I.out W k (by omega);have f:=zh fun(h:dR s k=true)=>tc E h
    have m:Hid (dR s k=false->∀j,j<k+1->dR s j=false):=zh λh j L=>by
     by_cases e:j=k
     ·rw[e];exact h
     ·exact g.out j (by omega)
    rw[<-t.out] at K;generalize bC ps k=en at*;generalize dR s k=q at*;clear t g;cases q
    ·have B:=zh (m rfl);clear m f;go_wp2_with fail;refine(p _).mono ?_;rintro e M ⟨rfl,rfl⟩;go_wp2_with fail;go_roundw
     ·exact⟨k+1,by omega,by go_num,by trivial,B⟩
     ·simp[intOf];omega
    ·have C:=zh (f rfl);clear m f;go_wp2_with fail;refine(p _).mono ?_;rintro e M ⟨rfl,rfl⟩;go_wp2_with fail;go_ret;exact⟨bF (by rw[d.out,C.out]),c⟩
   ·have x:¬(k:Int)<8:=by omega
    have D:k=8:=by omega
    have C:=zh (pR λj L=>g.out j (by omega));clear g D;go_wp2_with fail;go_ret;exact⟨bF (by rw[d.out,C.out]),c⟩
theorem gap_step {l:List Vr} {s:ByteArray} {k:Nat} (h:k<8):mI l s (List.range' k (8-k))=if dR s k=true then decide (cS l (bC (cI 91 s) (k-1))<0) else mI l s (List.range' (k+1) (8-(k+1))):=by
 rw[show 8-k=(8-(k+1))+1 by omega,List.range'_succ]
 rfl
theorem elGap (w:World) (v:Value) (vars:List Vr) (s:ByteArray) (L:Rs vrR w v vars ah) (U:vars.length<=1000) (V:s.size<=1000) (hm:cM w):Calls Tryz.prog 164 #[v,.string s] w λe w'=>e= .returned (.bool (fa vars s))/\Below w.heap.size w w':=by
 have N:=zh fun(W:World) (a:Below w.heap.size w W)=>cutAt 91 s W (by omega) (hm.below a);have K:=fO 91 s;have y:=kQ (b:=91) s.data.toList;rw[<-Ba] at y;have B:(cI 91 s).size<=1000:=by omega
 have P:=zh fun(W:World) (x:ByteArray) (a:Below w.heap.size w W)=>qF W v vars x (L.below a) U;have C:Hid (fa vars s=(eV 91 s&&mI vars s (List.range' 1 (8-1)))):=zh rfl;have H:=zh λk h=>gap_step (l:=vars) (s:=s) (k:=k) h;have t:Hid (∀i,dR s i=decide (s=bC (cI 91 s) i)):=zh λi=>rfl;generalize fa vars s=r at*;generalize eV 91 s=hh at*;generalize cI 91 s=ps at*;generalize dZ 91 s=qs at*;have E:=zh λW i h=>pL W ps i h B;have Q:=zh λi=>lg s ps i;obtain⟨A,c,rfl, -⟩:=L.vrs;generalize vars.length=n at*;clear hm K y L B;cases hh
 case false=>
  have g:Hid (r=false):=zh (by rw[C.out];rfl);clear C;go_enter Tryz.func164,Tryz.ntmps164;go_wp2_with fail;refine(N w (yx _ _)).mono ?_;rintro e w1 ⟨rfl,a⟩;have d:=zh a;clear a;go_wp2_with fail;go_ret;exact⟨bF g.out.symm,d⟩
 case true=>
  have g:Hid (r=mI vars s (List.range' 1 (8-1))):=zh (by rw[C.out];rfl);clear C;go_enter Tryz.func164,Tryz.ntmps164;go_wp2_with fail;refine(N w (yx _ _)).mono ?_;rintro e w1 ⟨rfl,a⟩;have d:=zh a;clear a;go_wp2_with fail
  go_loopw [8] (λi wr=>∃k:Nat,1<=k/\k<=8/\i= .int .i64 k/\Below w.heap.size w wr/\Hid (r=mI vars s (List.range' k (8-k)))) (λi _=>8-(intOf i).toNat)
  case atStart=>exact⟨1,by decide,by decide,rfl,d,g⟩
  case round=>
   obtain⟨k,T,hk,rfl,a,D⟩:=hrel;clear d g;have d:=zh a;clear a
   by_cases J:k<8
   ·have z:(k:Int)<8:=by omega
    have S:=Q.out k;have p:=zh (t k);have m:=zh λW=>E.out W k (by omega);have o:=zh λW=>E.out W (k-1) (by omega);have f:=zh (D.out.trans (H k J));have I:(k:Int)-1=((k-1:Nat):Int):=by omega
    rw[<-p.out] at S;generalize bC ps k=en at*;generalize bC ps (k-1)=ep at*;generalize dR s k=q at*;clear p D H Q t E;cases q
    ·have j:Hid (r=mI vars s (List.range' (k+1) (8-(k+1)))):=zh (by rw[f.out,yw (by simp)]);clear f o;go_wp2_with fail;refine(m _).mono ?_;rintro e M ⟨rfl,rfl⟩;go_wp2_with fail;go_roundw
     ·exact⟨k+1,by omega,by omega,by go_num,d,j⟩
     ·simp[intOf];omega
    ·have j:Hid (r=decide (cS vars ep<0)):=zh (by rw[f.out,yz rfl]);have F:=zh λW h=>P.out W ep h;clear f P;generalize cS vars ep=ip at*;go_wp2_with fail;refine(m _).mono ?_;rintro e M ⟨rfl,rfl⟩;go_wp2_with fail
     first|(rw[I])|skip
     refine(o _).mono ?_;rintro e M ⟨rfl,rfl⟩;go_wp2_with fail;refine(F _ d).mono ?_;rintro e M ⟨rfl,a⟩;have G:=zh (ab d a);clear a;go_wp2_with fail;go_ret;exact⟨bF (by rw[j.out]),G⟩
   ·have z:¬(k:Int)<8:=by omega
    have u:k=8:=by omega
    have R:Hid (r=false):=zh (by rw[D.out,u];rfl);clear D u H;go_wp2_with fail;go_ret;exact⟨bF R.out.symm,d⟩
def ErR (P:Prop) (w:World) (e:Ending) (w':World):Prop:=∃er:Int,e= .returned (.int .i64 er)/\(er=0↔P)/\Below w.heap.size w w'
theorem ErR.no {P:Prop} {w w':World} {er:Int} (h:¬P) (c:er≠0) (b:Below w.heap.size w w'):ErR P w (.returned (.int .i64 er)) w':=⟨er,rfl,⟨λa=>absurd a c,λa=>absurd a h⟩,b⟩
theorem ErR.yes {P:Prop} {w w':World} (h:P) (a:Below w.heap.size w w'):ErR P w (.returned (.int .i64 0)) w':=⟨0,rfl,⟨λ_=>h,λ_=>rfl⟩,a⟩
theorem oG (w:World) (vars:List Vr) (i:Int) (A1 A2 A3 A4 A5:Option Addr) (c1 v c2 x c3 y c4 z c5:Nat) (o:Rs vrR w (.slice A1 vars.length c1) vars ah):
  Calls Tryz.prog 85 #[.agg #[.slice A1 vars.length c1,.slice A2 v c2,.slice A3 x c3,.slice A4 y c4,.slice A5 z c5],.int .i64 i] w λe w'=>e= .returned (.bool (bL vars i))/\Below w.heap.size w w':=by
 have c:Hid (bL vars i=(decide (0<=i)&&(decide (i<vars.length)&&decide ((vars.getD i.toNat vr0).mode≠0)))):=zh rfl;generalize bL vars i=r at*;obtain⟨B,C,e1,_,d⟩:=o.vrs;obtain⟨n,h⟩:=zv (vars.length)
 by_cases g:0<=i
 case neg=>
  have f:Hid (r=false):=zh (by rw[c.out,yv g];rfl);have E:¬i≥0:=g;rw[<-h];clear c e1 d o h g;go_enter Tryz.func85,Tryz.ntmps85;go_upto_region 1 with fail;generalize a:w.alloc _=w1 at*;obtain⟨j,m⟩:=zB1 a;clear a;go_wp2_with fail;go_ret;exact⟨bF f.out.symm,j⟩
 obtain⟨k,rfl⟩:∃k:Nat,i=k:=⟨i.toNat,by omega⟩;have E:(k:Int)≥0:=g;rw[yB g,B5,y5] at c
 by_cases p:k<vars.length
 case neg=>
  have f:Hid (r=false):=zh (by rw[c.out,yv (by omega)];rfl);have F:¬(k:Int)<(n:Int):=by omega
  rw[<-h];clear c e1 d o h g p;go_enter Tryz.func85,Tryz.ntmps85;go_upto_region 1 with fail;generalize a:w.alloc _=w1 at*;obtain⟨j,m⟩:=zB1 a;clear a;have l:=za m 0 rfl;go_wp2_with fail;go_ret;exact⟨bF f.out.symm,j⟩
 have F:(k:Int)<(n:Int):=by omega
 obtain⟨t,A,u,q,b⟩:=d k p
 have D:A1=some ⟨t,A,none⟩:=by
  simp only[yA] at e1;rw[e1.1,u]
 subst D;have s:=b 2 _ rfl;rw[yB (show(k:Int)<vars.length by omega),B5] at c;generalize vars.getD k vr0=vr at*;obtain⟨I,K,md,J⟩:=vr;simp only at s c;have H:(md !=0)=r:=by rw[c.out,Bz];simp
 rw[<-h];clear c e1 d o h g p b u;go_enter Tryz.func85,Tryz.ntmps85;go_upto_region 1 with fail;have G:=(ac w (.cells #[.slice (some ⟨t,A,none⟩) n c1,.slice A2 v c2,.slice A3 x c3,.slice A4 y c4,.slice A5 z c5] 27)).cell q|>.trans s
 generalize a:w.alloc _=w1 at*;obtain⟨j,m⟩:=zB1 a;clear a;have l:=za m 0 rfl;clear s;go_wp2_with fail;go_ret;exact⟨rfl,j⟩
theorem elVars1 (w:World) (v:Vr) (vars:List Vr) (A:Option Addr) (c g:Nat) (r:Rs vrR w (.slice A vars.length c) vars ah) (p:vars.length<=1000) (j:v.name.size<=1000) (hm:cM w) (k:Box w g #[.slice A vars.length c] 22):
  Calls Tryz.prog 163 (#[vrV v]++#[.pointer (some ⟨g,0,none⟩)]) w λe w'=>e= .returned (.bool (fa vars v.name))/\Below w.heap.size w w':=by
 obtain⟨l,t,u,x⟩:=v;unfold vrV;simp only at j⊢;have m:=zh fun(W:World) (b:Below w.heap.size w W)=>elGap W _ vars l (r.below b) p j (hm.below b);generalize fa vars l=q at*;obtain⟨n,d⟩:=zv (vars.length);rw[<-d] at m k;have i:=zh k;clear k r p d j;show Calls _ _ #[.agg #[.string l,.int .i64 t,.int .i64 u,.int .i64 x],.pointer (some ⟨g,0,none⟩)] _ _;go_enter Tryz.func163,Tryz.ntmps163;go_upto_region 1 with fail;generalize f:w.alloc _=w1 at*;obtain⟨a,s⟩:=zA1 f;clear f;replace i:=zb i a;have o:=zh a;have y:=za s 0 rfl;have z:=za i 0 rfl;clear a;go_wp2_with fail;refine(m _ o).mono ?_;rintro e w2 ⟨rfl,b⟩;have h:=zh (ab o b);clear b;go_wp2_with fail;go_ret;exact⟨rfl,h⟩
theorem iU {l:List Vr} {k:Nat} (h:k<l.length):aU (l.take (k+1))=aU (l.take k)+gX (l.getD k vr0):=by
 unfold aU;rw[Am,yp h,BA,yj,yp h]
 rfl
theorem oS {l:List Vr} (h:∀v∈l,eW v):∀k,k<=l.length->0<=aU (l.take k)/\aU (l.take k)<=8*k
 |0,_=>by simp[aU]
 |k+1,hk=>by
  have ih:=oS h k (by omega);rw[iU (by omega)];have a:=(h _ (getD_in vr0 (show k<l.length by omega))).2.1;unfold gX
  split<;>omega
theorem elVars (w:World) (vars:List Vr) (A:Option Addr) (c:Nat) (X:Rs vrR w (.slice A vars.length c) vars ah) (hz:∀v∈vars,v.name.size<=maxLen) (hk:KW w) (hm:cM w):
  Calls Tryz.prog 97 #[.slice A vars.length c] w (ErR (bS vars) w):=by
 obtain⟨HV,HK,HM,HZ⟩:=zk4 X hk hm hz;obtain⟨n,hn⟩:=zv (vars.length);have G:=zh hn
 by_cases ae:vars.length<=16
 case neg=>
  have z:=zh fun(w':World) f=>ErR.no (P:=bS vars) (w:=w) (w':=w') (er:=2) (λh=>ae h.len) (by decide) f;rw[<-hn];have f1:(n:Int)>16:=by omega
  clear X hz hk hm ae hn;go_enter Tryz.func97,Tryz.ntmps97;go_upto_region 1 with fail;generalize x:w.alloc _=w1 at*;obtain⟨d,m⟩:=zB1 x;clear x;have q:=za m 0 rfl;go_wp2_with fail;go_ret;exact z _ d
 have f1:¬(n:Int)>16:=by omega
 have ao:n<=16:=by omega
 have HG:Hid (∀k,k<n->∃(b o:Nat),A=some ⟨b,o,none⟩/\b<w.heap.size/\∀i u,(vrL (vars.getD k vr0))[i]? =some u->w.cell? ⟨b,o+k*4+i,none⟩=some u):=zh λk hk=>by
  obtain⟨aB,aD,e1,_,az⟩:=X.vrs;obtain⟨bv,ov,e2,r,a⟩:=az k (by omega);simp only[yA] at e1;exact⟨bv,ov,by rw[e1.1,e2],r,a⟩
 have z:=zh fun(w':World) (er:Int) h he f=>ErR.no (P:=bS vars) (w:=w) (w':=w') (er:=er) h he f;have J:=zh fun(w':World) h f=>ErR.yes (P:=bS vars) (w:=w) (w':=w') h f;have CI:=zh fun(W:World) (s:ByteArray) (f:Below w.heap.size w W)=>qF W _ vars s (X.below f) (by omega);rw[<-hn] at CI⊢;clear X hz hk hm ae hn;go_enter Tryz.func97,Tryz.ntmps97;go_upto_region 1 with fail;generalize x:w.alloc _=w1 at*;obtain⟨d,m⟩:=zB1 x;clear x;have q:=za m 0 rfl;go_wp2_with fail;clear q
 go_loopw [13] (λi wr=>∃k:Nat,k<=n/\i= .int .i64 k/\Below w.heap.size w wr/\Box wr w.heap.size #[.slice A n c] 22/\Hid (∀j,j<k->eW (vars.getD j vr0))) (λi _=>n-(intOf i).toNat)
 case atStart=>exact⟨0,yt _,rfl,d,m,zh λj h=>by omega⟩
 case round=>
  obtain⟨k,hk,rfl,f,hx,T⟩:=hrel;clear d m w1;obtain⟨d,m⟩:=zk2 f hx;clear f hx
  by_cases R:k<n
  ·have S:(k:Int)<n:=by omega
   have k0:(0:Int)<=(k:Int):=by omega
   obtain⟨bv,ov,e2,r,a⟩:=HG.out k R;subst e2;have v0:=(d.out.cell r).trans (a 0 _ rfl);have v1:=(d.out.cell r).trans (a 1 _ rfl);have v2:=(d.out.cell r).trans (a 2 _ rfl);have v3:=(d.out.cell r).trans (a 3 _ rfl);rw[yU] at v0;have af:=getD_in vr0 (show k<vars.length by rw[<-G.out];exact R);have ad:=zh (HZ _ af);have p:=zh fun(w':World) (er:Int) (h:¬eW (vars.getD k vr0)) he f=>z.out w' er (λhV=>h (hV.ok _ af)) he f
   have C:Hid (eW (vars.getD k vr0)->∀j,j<k+1->eW (vars.getD j vr0)):=zh λh j hj=>by
    by_cases e:j=k
    ·rw[e];exact h
    ·exact T.out j (by omega)
   have l:Hid (eW (vars.getD k vr0)↔cj (vars.getD k vr0).name=true/\(1<=(vars.getD k vr0).width/\(vars.getD k vr0).width<=8)/\(0<=(vars.getD k vr0).mode/\(vars.getD k vr0).mode<=2)/\(0<=(vars.getD k vr0).value/\(vars.getD k vr0).value<2^(vars.getD k vr0).width.toNat)/\((vars.getD k vr0).mode≠0->(vars.getD k vr0).value=0)):=zh Iff.rfl;generalize eW (vars.getD k vr0)=VO at*;clear af a;generalize vars.getD k vr0=vr at*;obtain⟨nm,wd,md,vl⟩:=vr;simp only at v0 v1 v2 v3 ad l;have CN:=zh fun(W:World) (f:Below w.heap.size w W)=>elNamed nm W ad (HK.out.below f) (HM.out.below f);clear ad T z J CI;go_upto_region 6 with fail;clear v0 v1 v2 v3;generalize x:wr.alloc _=w2 at*;obtain⟨B,D⟩:=zA1 x;clear x;replace m:=zb m B;replace d:=zb d B;clear B;have K:=za D 0 rfl;generalize cj nm=nb at*;cases nb
   ·have g:Hid (¬VO):=zh λh=>by have:=(l.out.1 h).1;cases this
    go_wp2_with fail;refine(CN _ d).mono ?_;rintro e w3 ⟨rfl,f⟩;clear K;replace m:=zb m f;replace D:=zb D f;replace d:=zb d f;clear f;go_wp2_with fail;go_ret;exact p _ _ g (by decide) d
   go_wp2_with fail;refine(CN _ d).mono ?_;rintro e w3 ⟨rfl,f⟩;replace m:=zb m f;replace D:=zb D f;replace d:=zb d f;clear f;have al:=za D 1 rfl;have am:=za D 2 rfl;have aA:=za D 3 rfl;go_wp2_with fail
   by_cases a1:wd<1
   ·have g:Hid (¬VO):=zh λh=>by have:=(l.out.1 h).2.1;omega
    go_quiet (fail)
    go_wp2_with fail;go_ret;exact p _ _ g (by decide) (ay d _)
   by_cases a2:wd>8
   ·have g:Hid (¬VO):=zh λh=>by have:=(l.out.1 h).2.1;omega
    go_quiet (fail)
    go_wp2_with fail;go_ret;exact p _ _ g (by decide) (ay d _)
   obtain⟨wn,rfl⟩:∃wn:Nat,wd=wn:=⟨wd.toNat,by omega⟩;have aF:(0:Int)<=(wn:Int):=by omega
   have hw:IntKind.i64.wrap (2^wn)=2^wn:=by
    have:wn=1\/wn=2\/wn=3\/wn=4\/wn=5\/wn=6\/wn=7\/wn=8:=by omega
    rcases this with rfl|rfl|rfl|rfl|rfl|rfl|rfl|rfl<;>decide
   rw[y5] at l
   by_cases a3:md<0
   ·have g:Hid (¬VO):=zh λh=>by have:=(l.out.1 h).2.2.1;omega
    go_quiet (fail)
    go_wp2_with fail;go_ret;exact p _ _ g (by decide) (ay d _)
   by_cases a4:md>2
   ·have g:Hid (¬VO):=zh λh=>by have:=(l.out.1 h).2.2.1;omega
    go_quiet (fail)
    go_wp2_with fail;go_ret;exact p _ _ g (by decide) (ay d _)
   by_cases a5:vl<0
   ·have g:Hid (¬VO):=zh λh=>by have:=(l.out.1 h).2.2.2.1.1;omega
    go_quiet (fail)
    go_wp2_with fail;go_ret;exact p _ _ g (by decide) (ay d _)
   by_cases a6:(2:Int)^wn<=vl
   ·have g:Hid (¬VO):=zh λh=>by have:=(l.out.1 h).2.2.2.1.2;omega
    go_quiet (fail)
    go_wp2_with fail;go_ret;exact p _ _ g (by decide) (ay d _)
   by_cases a7:md=0
   ·have b7:(md !=0)=false:=by simpa using a7
    have ac:=zh (C (l.out.2 ⟨by trivial,by omega,by omega,by omega,λh=>absurd a7 h⟩));clear p C l CN
    go_quiet (fail)
    go_wp2_with fail;go_roundw
    ·exact⟨k+1,by omega,by go_num,ay d _,m.out.below (ay (yx _ _) _),ac⟩
    ·simp[intOf];omega
   have b7:(md !=0)=true:=by simpa using a7
   by_cases a8:vl=0
   ·have b8:(vl !=0)=false:=by simpa using a8
    have ac:=zh (C (l.out.2 ⟨by trivial,by omega,by omega,by omega,λ_=>a8⟩));have H8:=zh a8;clear p C l CN a8
    go_quiet (fail)
    go_wp2_with fail;go_roundw
    ·exact⟨k+1,by omega,by go_num,ay d _,m.out.below (ay (yx _ _) _),ac⟩
    ·simp[intOf];omega
   ·have b8:(vl !=0)=true:=by simpa using a8
    have g:Hid (¬VO):=zh λh=>by have:=(l.out.1 h).2.2.2.2 a7;exact a8 this
    go_quiet (fail)
    go_wp2_with fail;go_ret;exact p _ _ g (by decide) (ay d _)
  ·have S:¬(k:Int)<n:=by omega
   have Q:k=n:=by omega
   rw[Q] at T
   have U:Hid (∀v∈vars,eW v):=zh λv X=>by
    obtain⟨j,hj,rfl⟩:=yS.1 X;have:=T.out j (by rw[G.out];exact hj);rw[yj,yp hj] at this;exact this
   have V:Hid (∀k,k<=n->0<=aU (vars.take k)/\aU (vars.take k)<=8*k):=zh λk hk=>oS U k (by rw[<-G.out];exact hk);have aC:Hid (aU (vars.take 0)=0):=zh rfl;clear Q T;have q:=za m 0 rfl;go_wp2_with fail;clear q
   go_loopw [5,65] (λbt i wr=>∃k:Nat,k<=n/\i= .int .i64 k/\bt= .int .i64 (aU (vars.take k))/\Below w.heap.size w wr/\Box wr w.heap.size #[.slice A n c] 22/\Hid (∀j,j<k->cS vars (vars.getD j vr0).name=j)) (λ_ i _=>n-(intOf i).toNat)
   case atStart=>exact⟨0,yt _,rfl,rfl,d,m,zh λj h=>by omega⟩
   case round=>
    obtain⟨k,hk,rfl,rfl,f,hx,N⟩:=hrel;clear d m;obtain⟨d,m⟩:=zk2 f hx;clear f hx
    by_cases R:k<n
    ·have S:(k:Int)<n:=by omega
     have k0:(0:Int)<=(k:Int):=by omega
     obtain⟨bv,ov,e2,r,a⟩:=HG.out k R;subst e2;have v0:=(d.out.cell r).trans (a 0 _ rfl);have v1:=(d.out.cell r).trans (a 1 _ rfl);have v2:=(d.out.cell r).trans (a 2 _ rfl);have v3:=(d.out.cell r).trans (a 3 _ rfl);rw[yU] at v0;have an:k<vars.length:=by rw[<-G.out];exact R
     have p:=zh fun(w':World) (er:Int) (h:cS vars (vars.getD k vr0).name≠k) he f=>z.out w' er (λhV=>h (hV.nodup k an)) he f
     have Y:Hid (cS vars (vars.getD k vr0).name=k->∀j,j<k+1->cS vars (vars.getD j vr0).name=j):=zh λh j hj=>by
      by_cases e:j=k
      ·rw[e];exact h
      ·exact N.out j (by omega)
     have y:=zh (iU an);have aw:=V.out k hk;have E:=V.out (k+1) (by omega);rw[y.out] at E;have ag:=zh λW h=>CI.out W (vars.getD k vr0).name h;obtain⟨b1,M⟩:=zv (aU (vars.take (k+1)));have ai:=zh M;rw[<-M] at y;unfold gX at y E;clear M a N z J CI;generalize vars.getD k vr0=vr at*;generalize cS vars vr.name=ix at*;obtain⟨nm,wd,md,vl⟩:=vr;generalize aU (vars.take k)=b0 at*;simp only at v0 v1 v2 v3 y E ag;go_upto_region 15 with fail;clear v0 v1 v2 v3;generalize x:wr.alloc _=w2 at*;obtain⟨B,D⟩:=zA1 x;clear x;replace m:=zb m B;replace d:=zb d B;clear B;have K:=za D 0 rfl;have q:=za m 0 rfl;go_wp2_with fail;refine(ag _ d).mono ?_;rintro e w3 ⟨rfl,f⟩;clear K q;replace m:=zb m f;replace D:=zb D f;replace d:=zb d f;clear f
     by_cases L:ix=k
     case neg=>
      have g1:(ix !=(k:Int))=true:=by simpa using L
      go_wp2_with fail;go_ret;exact p _ _ L (by decide) d
     have g1:(ix !=(k:Int))=false:=by simpa using L
     have Z:=zh (Y L);clear p Y L;have al:=za D 1 rfl;have am:=za D 2 rfl
     by_cases F:md=0
     ·have g2:(md !=0)=false:=by simpa using F
      have I:Hid (b1=b0):=zh (by rw[y.out,yw (by omega)];omega);clear y E F;go_wp2_with fail;go_roundw
      ·exact⟨k+1,by omega,by go_num,by rw[<-ai.out,I.out],d,m,Z⟩
      ·simp[intOf];omega
     ·have g2:(md !=0)=true:=by simpa using F
      rw[yz F] at E;have I:Hid (b1=b0+wd):=zh (by rw[y.out,yz F]);have q1:b0+wd<=136:=by omega
      have q2:0<=b0+wd:=by omega
      clear y E F aw;go_wp2_with fail;go_roundw
      ·exact⟨k+1,by omega,by go_num,by rw[<-ai.out,I.out]<;>go_num,d,m,Z⟩
      ·simp[intOf];omega
    ·have S:¬(k:Int)<n:=by omega
     have Q:k=n:=by omega
     rw[Q] at N⊢;rw[show aU (vars.take n)=aU vars by rw[G.out,Ay]] at*;have aE:=zm;have ak:Hid (∀v∈vars,v.name.size<=1000):=zh λv X=>by have:=nV (U v X).1;omega
     have CF:=zh fun(W:World) (f:Below w.heap.size w W) (hx:Box W w.heap.size #[.slice A n c] 22)=>su W (.slice A n c) vars (by have:=HV.out.below f;rw[<-G.out] at this;exact this) (by rw[<-G.out];omega) 163 #[.pointer (some ⟨w.heap.size,0,none⟩)] (λv=>fa vars v.name) (λargs W=>by kernel_rfl) (λW' t hW ht=>elVars1 W' t vars A c w.heap.size (by have:=HV.out.below (ab f hW);exact this) (by rw[<-G.out];omega) (ak t ht) (HM.out.below (ab f hW)) (by have:=hx.below hW;rw[G.out] at this;exact this));have aa:Hid (vars.any (λv=>fa vars v.name)=false↔∀v∈vars,fa vars v.name=false):=zh (by simp);have ap:Hid (vars.length<=16):=zh (by rw[<-G.out];exact ao);have aj:Hid (∀i,i<vars.length->cS vars (vars.getD i vr0).name=i):=zh λi hi=>N.out i (by rw[G.out];exact hi);have au:Hid (vars.any (λv=>fa vars v.name)=false->aU vars<=20->bS vars):=zh λL h2=>⟨ap,U,aj,aa.out.1 L,h2⟩;have ar:Hid (vars.any (λv=>fa vars v.name)=true->¬bS vars):=zh λL h=>by rw[aa.out.2 h.gap] at L;cases L
     have aq:Hid (20<aU vars->¬bS vars):=zh λL h=>by have:=h.bits;omega
     have ax:=V.out n (yq _);rw[show aU (vars.take n)=aU vars by rw[G.out,Ay]] at ax;generalize vars.any (λv=>fa vars v.name)=ga at*;generalize aU vars=bt at*;clear Q N aj aa U V CI ak HG;have q:=za m 0 rfl;cases ga
     ·by_cases av:bt<=20
      ·have g1:¬bt>20:=by omega
       have HF:=zh (au rfl av);go_wp2_with fail;refine(CF _ d m).mono ?_;rintro e w4 ⟨rfl,f⟩;have H:=zh (ab d f);clear f;go_wp2_with fail;go_ret;exact J _ HF H
      ·have g1:bt>20:=by omega
       have HF:=zh (aq (by omega));go_wp2_with fail;refine(CF _ d m).mono ?_;rintro e w4 ⟨rfl,f⟩;have H:=zh (ab d f);clear f;go_wp2_with fail;go_ret;exact z _ _ HF (by decide) H
     ·have HF:=zh (ar rfl);go_wp2_with fail;refine(CF _ d m).mono ?_;rintro e w4 ⟨rfl,f⟩;have H:=zh (ab d f);clear f;go_wp2_with fail;go_ret;exact z _ _ HF (by decide) H
def exB (d:Nat):Rd Ex:={exR d with ts:=[]}
theorem exB_rs {w:World} {d:Nat} {v:Value} {l:List Ex} {F:Nat->Prop} (h:Rs (exR d) w v l F):Rs (exB d) w v l F:=h
theorem jv {w:World} {d:Nat} {v:Value} {l:List Ex} {F:Nat->Prop} (h:Rs (exB d) w v l F):Rs (exR d) w v l F:=h
theorem ld {w w':World} {d:Nat} {v:Value} {l:List Ex} (h:Rs (exR d) w v l ah) (c:Below w.heap.size w w'):Rs (exB d) w' v l (Ty w' w.heap.size []):=
 exB_rs (((mO (qE d) h).below c).mono λb a=> .inl a)
theorem mz (d:Nat):(exB d).k=4:=ei d
theorem om:(Tryz.prog.info? 79).map (λi=>(i.zero,i.size,i.bytes))=some (some (.agg #[.int .i64 0,.int .i64 0,.string ⟨#[]⟩,.slice none 0 0]),4,56):=by kernel_rfl
section
variable {P:Program} {ops:Array Oper} {rest:List Oper} {o:Oper} {a:Act} {w:World} {Q:Exit->Act->World->Prop}
theorem hO (c:o.guard=none) (s x:Operand) (t d:TypeId) (i:o.op= .call {callee:= .builtin .append,args:=#[s,x],argTypes:=#[t,d]}) (e f:Value) (j:a.eval s=e) (k:a.eval x=f) {v':Value} {w':World}
  (b:(Builtin.append_ #[t,d] o.type #[e,f]).run P w= .ok v' w') (h:wpList P ops Q rest (a.put o.dst v') w'):wpList P ops Q (o::rest) a w:=by
 refine wpList_plain c λK g=> ?_;unfold Oper.wp;simp[execOp,i,resolve,invoke,builtin,j,k,b,Result.andThen];exact g _ _ h
end
def GwR (w:World) (d:Nat) (e:Ending) (w':World):Prop:=∃v,e= .returned v/\OG (exB d) w' w.heap.size w.heap.size 79 v []/\Below w.heap.size w w'
theorem slGrowE (w:World) (d n:Nat) (z:n<=100000):Calls Tryz.prog 238 #[.slice none 0 0,.int .i64 (n:Nat)] w (GwR w d):=by
 have y:¬((n:Int)<0):=by omega
 by_cases q:n=0
 ·subst q;go_enter Tryz.func238,Tryz.ntmps238;go_wp2_with fail;go_ret;exact⟨_,rfl,OG.nil (exB d) w _ _ _ (by simp[exB]) (yq _),yx _ _⟩
 ·obtain⟨i,hi,t,s,f⟩:=Bb om;have b:(Builtin.firstCells i.size 0 (.slice none 0 0)).run Tryz.prog w.drew= .ok (([]:List Value)).toArray w.drew:=run_firstCells_none w.drew i.size 0 0 0;have a:Builtin.nextslicecap (0+n) 0*i.bytes<=281474976710656:=growslice_fits (by omega) (by rw[f];omega);have g:=λty=>Lib.run_append_grow_zeros (P:=Tryz.prog) w 23 3 ty 79 i _ .i64 .i64 Tryz.underlying23 Tryz.underlying3 hi t none 0 0 [] b n (by omega) (by rw[s];decide) (by omega) (by omega) (by rw[f];omega) a;have p:=grownCap_ge w (0+n) 0 79;have e:=grownCap_le_maxLen w (0+n) 0 79 (by unfold maxLen;omega);rw[yH] at g p e
  have o:Hid (((([]:List Value)).toArray++Builtin.zeroCells (Value.agg #[.int .i64 0,.int .i64 0,.string ⟨#[]⟩,.slice none 0 0]).cells n++Builtin.zeroCells (Value.agg #[.int .i64 0,.int .i64 0,.string ⟨#[]⟩,.slice none 0 0]).cells (grownCap w n 0 79-n)).size=grownCap w n 0 79*4):=zh (by
   have l:∀(c:Array Value) k,(Builtin.zeroCells c k).size=k*c.size:=λc k=>by simp[Builtin.zeroCells]
   rw[Array.size_append,Array.size_append,l,l];simp[Value.cells]
   omega)
  generalize((([]:List Value)).toArray++Builtin.zeroCells (Value.agg #[.int .i64 0,.int .i64 0,.string ⟨#[]⟩,.slice none 0 0]).cells n++Builtin.zeroCells (Value.agg #[.int .i64 0,.int .i64 0,.string ⟨#[]⟩,.slice none 0 0]).cells (grownCap w n 0 79-n))=cs at*;generalize grownCap w n 0 79=G at*;have v:(n:Int)>0:=by omega
  have r:G<=9223372036854775807:=by unfold maxLen at e;omega
  have m:=zh g;clear hi t s f b a q g;go_enter Tryz.func238,Tryz.ntmps238;go_upto_region 5 with fail;go_wp2_with(at_builtin;refine hO rfl _ _ 23 3 rfl (.slice none 0 0) (.int .i64 (n:Nat)) rfl rfl (m _) ?_);go_wp2_with fail;go_ret;have u:Below w.heap.size w (w.drew.alloc (.cells cs 79)):=ab (ae _) (ac _ _);refine⟨_,rfl,⟨⟨by simp[exB],yq _⟩,[],rfl,⟨by simp,.inr ⟨w.heap.size,G,cs,rfl,yq _,heap_alloc_new w.drew _,yt _,e, ?_,by simp⟩⟩,λj x h=>by simp at h⟩,u⟩;rw[mz];exact o
def ExsR (w:World) (d:Nat) (l:List Ex) (e:Ending) (w':World):Prop:=∃v,e= .returned v/\Rs (exR d) w' v l ah/\Below w.heap.size w w'
theorem wN (w:World) (d g:Nat) (H S:Value) (n A:List Ex) (p:Box w g #[H,S] 23) (R:Rs (exR d) w H n ah) (U:Rs (exR d) w S A ah) (n1:n.length<=10000) (n2:A.length<=10000):
  Calls Tryz.prog 165 #[.slice (some ⟨g,0,none⟩) 2 2] w (ExsR w d (n++A)):=by
 obtain⟨Z,hi,L,M,N⟩:=Bb om;obtain⟨HI,F⟩:=zk2 hi L;have G:=zh (show Z.size=(exB d).k by rw[mz];exact M);have I:=zh N;have J:=zh (show(Value.agg #[.int .i64 0,.int .i64 0,.string ⟨#[]⟩,.slice none 0 0]).cells.size=(exB d).k by rw[mz];rfl);obtain⟨A1,c1,rfl,V⟩:=R.slice;obtain⟨A2,c2,rfl,X⟩:=U.slice;obtain⟨HA,HS⟩:=zk2 R U;obtain⟨m1,y⟩:=zv (n.length);obtain⟨m2,z⟩:=zv (A.length);obtain⟨c,l⟩:=zk2 y z;have P:=zh fun(W:World)=>slGrowE W d (m1+m2) (by omega);unfold GwR at P;rw[<-y] at HA p n1;rw[<-z] at HS p n2;have m:=zh p;have aa:=p.lt;clear R U V X y z p hi L M N;go_enter Tryz.func165,Tryz.ntmps165;go_wp2_with fail
 go_loopw [3,11] (λs i wr=>∃k o:Nat,k<=2/\o=(if k=0 then 0 else if k=1 then m1 else m1+m2)/\i= .int .i64 k/\s= .int .i64 o/\w=wr) (λ_ i _=>2-(intOf i).toNat)
 case atStart=>exact⟨0,0,by decide,rfl,rfl,rfl,rfl⟩
 case round=>
  obtain⟨k,o,hk,Y,rfl,rfl,rfl⟩:=hrel;have x0:=za m 0 rfl;have x1:=za m 1 rfl;have x:k=0\/k=1\/k=2:=by omega
  rcases x with rfl|rfl|rfl
  ·obtain rfl:o=0:=Y;clear hk x1;have g0:¬(m1:Int)<0:=by omega
   go_wp2_with fail;go_roundw
   ·exact⟨1,m1,by decide,rfl,rfl,rfl,by trivial⟩
   ·simp[intOf]
  ·obtain rfl:o=m1:=Y;clear hk x0;have g0:¬(o:Int)+(m2:Int)<0:=by omega
   have g1:(o:Int)+(m2:Int)<=20000:=by omega
   go_wp2_with fail;go_roundw
   ·exact⟨2,o+m2,by decide,rfl,rfl,by go_num,by trivial⟩
   ·simp[intOf]
  ·obtain rfl:o=m1+m2:=Y;clear hk x0 x1;go_wp2_with fail;refine(P _).mono ?_;rintro e w2 ⟨v,rfl,h,E⟩;obtain⟨a,b⟩:=zk2 h E;have K:=zh (m.out.below E);clear h E P m;go_wp2_with fail
   go_loopw [6,27] (λr i D=>∃k:Nat,k<=2/\i= .int .i64 k/\OG (exB d) D w.heap.size w.heap.size 79 r (if k=0 then[] else if k=1 then n else n++A)/\Below w.heap.size w D/\Box D g #[.slice A1 m1 c1,.slice A2 m2 c2] 23) (λ_ i _=>2-(intOf i).toNat)
   case atStart=>exact⟨0,by decide,rfl,a,b,K⟩
   case round=>
    obtain⟨k,hk,rfl,h,E,p⟩:=hrel;clear a b K;obtain⟨a,b,m⟩:=zk3 h E p;clear h E p;have x:k=0\/k=1\/k=2:=by omega
    rcases x with rfl|rfl|rfl
    ·have x0:=za m 0 rfl;rw[yz rfl] at a;have t:=zh (ld HA b);obtain⟨A3,c3,rfl⟩:=a.out.slice;simp only[yR];clear hk;go_wp2_with(at_builtin;refine aC (φ:=exB d) (T:=79) (B:=w.heap.size) (C:=w.heap.size) (xs:=[]) (ys:=n) rfl _ _ 23 rfl Z (.agg #[.int .i64 0,.int .i64 0,.string ⟨#[]⟩,.slice none 0 0]) 56 Tryz.underlying23 HI F G I J rfl a (.slice A1 m1 c1) rfl t ?c1 ?c2 ?c3 ?_)
     case c1=>
      try simp only[yR]
      try rw[<-c.out]
      try rw[<-l.out]
      omega
     case c2=>
      try simp only[yR]
      try rw[<-c.out]
      try rw[<-l.out]
      unfold maxLen;omega
     case c3=>exact b.out.size
     intro v' w7 j f;have u:=zh (a.out.boxKept f.out m (.inl (by decide)));have q:=zh (a.out.belowG f.out b b.out.size (yq _));go_wp2_with fail;go_roundw
     ·exact⟨1,by decide,rfl,by simpa using j.out,q,u⟩
     ·simp[intOf]
    ·have x1:=za m 1 rfl;rw[yw (by decide),yz rfl] at a;have t:=zh (ld HS b);obtain⟨A3,c3,rfl⟩:=a.out.slice;rw[<-c.out] at a⊢;clear hk;go_wp2_with(at_builtin;refine aC (φ:=exB d) (T:=79) (B:=w.heap.size) (C:=w.heap.size) (xs:=n) (ys:=A) rfl _ _ 23 rfl Z (.agg #[.int .i64 0,.int .i64 0,.string ⟨#[]⟩,.slice none 0 0]) 56 Tryz.underlying23 HI F G I J rfl a (.slice A2 m2 c2) rfl t ?c1 ?c2 ?c3 ?_)
     case c1=>
      try simp only[yR]
      try rw[<-c.out]
      try rw[<-l.out]
      omega
     case c2=>
      try simp only[yR]
      try rw[<-c.out]
      try rw[<-l.out]
      unfold maxLen;omega
     case c3=>exact b.out.size
     intro v' w7 j f;have u:=zh (a.out.boxKept f.out m (.inl (by decide)));have q:=zh (a.out.belowG f.out b b.out.size (yq _));go_wp2_with fail;go_roundw
     ·exact⟨2,by decide,rfl,by simpa using j.out,q,u⟩
     ·simp[intOf]
    ·rw[yw (by decide),yw (by decide)] at a;clear hk;have Q:=zh a.out.any;obtain⟨A3,c3,rfl⟩:=a.out.slice;generalize(n++A).length=ml at*;go_wp2_with fail;go_ret;exact⟨_,rfl,jv Q,b⟩
structure ExSm (e:Ex):Prop where
 z:ExZ e
 deep:Deep KE e
 len:(aq KE e).length<=1000
theorem elExprs1 (w:World) (s:ByteArray) (vars:List Vr) (A1 A2 A3 A4 A5:Option Addr) (c1 i c2 j c3 k c4 l c5 g:Nat) (b:Rs vrR w (.slice A1 vars.length c1) vars ah) (h:vars.length<=1000)
  (c:Box w g #[.slice A1 vars.length c1,.slice A2 i c2,.slice A3 j c3,.slice A4 k c4,.slice A5 l c5] 27):
  Calls Tryz.prog 167 (#[.string s]++#[.pointer (some ⟨g,0,none⟩)]) w λe w'=>e= .returned (.bool (decide (cS vars s<0)))/\Below w.heap.size w w':=by
 have d:=zh (qF w _ vars s b h);generalize cS vars s=ix at*;generalize vars.length=n at*;have x0:=c.at_ 0 _ rfl;clear b c;show Calls _ _ #[.string s,.pointer (some ⟨g,0,none⟩)] _ _;go_enter Tryz.func167,Tryz.ntmps167;go_wp2_with fail;refine d.out.mono ?_;rintro e w2 ⟨rfl,a⟩;have f:=zh a;clear a;go_wp2_with fail;go_ret;exact⟨rfl,f⟩
theorem elExprs (w:World) (p:Pb) (A1 A2 A3 A4 A5:Option Addr) (c1 c2 c3 n4 c4 n5 c5:Nat) (hv:Rs vrR w (.slice A1 p.vars.length c1) p.vars ah) (hh:Rs (exR KE) w (.slice A2 p.hard.length c2) p.hard ah) (hs:Rs (exR KE) w (.slice A3 p.soft.length c3) p.soft ah)
  (nv:p.vars.length<=1000) (nh:p.hard.length<=1000) (ns:p.soft.length<=1000) (hz:∀e∈p.hard++p.soft,ExSm e) (hk:KW w) (hm:cM w):
  Calls Tryz.prog 99 #[.agg #[.slice A1 p.vars.length c1,.slice A2 p.hard.length c2,.slice A3 p.soft.length c3,.slice A4 n4 c4,.slice A5 n5 c5]] w (ErR (bZ p.vars (p.hard++p.soft)) w):=by
 have aM:=zm;obtain⟨HV,HK,HM,HZ⟩:=zk4 hv hk hm hz;have CC:=zh λg (W:World) (c:Below w.heap.size w W) (hx:Box W g #[.slice A2 p.hard.length c2,.slice A3 p.soft.length c3] 23)=>wN W KE g _ _ p.hard p.soft hx (hh.below c) (hs.below c) (by omega) (by omega);have C1:=zh fun(W:World) (s:ByteArray) (g:Nat) (c:Below w.heap.size w W) hx=>elExprs1 W s p.vars A1 A2 A3 A4 A5 c1 p.hard.length c2 p.soft.length c3 n4 c4 n5 c5 g (hv.below c) nv hx;have aG:(p.hard++p.soft).length<=2000:=by rw[yu];omega
 have aj:=zh fun(w':World) (er:Int) h J c=>ErR.no (P:=bZ p.vars (p.hard++p.soft)) (w:=w) (w':=w') (er:=er) h J c;have R:=zh fun(w':World) h c=>ErR.yes (P:=bZ p.vars (p.hard++p.soft)) (w:=w) (w':=w') h c;have ag:Hid (bZ p.vars (p.hard++p.soft)↔∀e∈p.hard++p.soft,iP (aw p.vars) KE e):=zh Iff.rfl;unfold ExsR at CC;generalize bZ p.vars (p.hard++p.soft)=EO at*;generalize p.hard++p.soft=L at*;obtain⟨n1,ad⟩:=zv (p.vars.length);have aL:=zh ad;rw[<-ad] at C1⊢;generalize p.hard.length=n2 at*;generalize p.soft.length=n3 at*;clear hv hh hs hz hk hm ad;go_enter Tryz.func99,Tryz.ntmps99;go_upto_region 1 with fail;generalize I:w.alloc _=w1 at*;obtain⟨f,r⟩:=zB1 I;clear I;have Z:=ac w1 (.cells #[.slice A2 n2 c2,.slice A3 n3 c3] 23);have XB:=zh (Box.new w1 23 #[.slice A2 n2 c2,.slice A3 n3 c3]);have ar:=zh (r.out.below Z);have d:=zh (ab f Z);have au:=za r 1 rfl;have av:=za r 2 rfl;go_wp2_with fail;clear au av;refine(CC _ _ d XB).mono ?_;rintro e w2 ⟨v,rfl,hr,c⟩;replace r:=zh (ar.out.below c);replace f:=zh (ab d c);clear ar d XB Z c CC;obtain⟨AL,cL,rfl,aH,aE⟩:=hr.exs;have M:=zh aE;obtain⟨m,hm⟩:=zv (L.length);have ai:=zh hm;rw[<-hm] at aH M aG⊢;clear hr aE hm;go_wp2_with fail
 go_loopw [13] (λi wr=>∃k:Nat,k<=m/\i= .int .i64 k/\Below w2.heap.size w2 wr/\Below w.heap.size w wr/\Box wr w.heap.size #[.slice A1 n1 c1,.slice A2 n2 c2,.slice A3 n3 c3,.slice A4 n4 c4,.slice A5 n5 c5] 27/\Hid (∀j,j<k->iP (aw p.vars) KE (L.getD j ex0))) (λi _=>m-(intOf i).toNat)
 case atStart=>exact⟨0,yt _,rfl,yx _ _,f,r,zh λj h=>by omega⟩
 case round=>
  obtain⟨k,hk,rfl,ay,c,hx,Q⟩:=hrel;clear f r;obtain⟨d,f,r⟩:=zk3 ay c hx;clear c ay hx
  by_cases aA:k<m
  ·have aB:(k:Int)<m:=by omega
   have k0:(0:Int)<=(k:Int):=by omega
   obtain⟨b,o,u,d',e2,N,hd,l,aD, -⟩:=M.out k aA;subst e2;obtain rfl:d'=29:=by unfold KE at hd;omega
   have v0:=(d.out.cell N).trans (l 0 _ rfl);have v1:=(d.out.cell N).trans (l 1 _ rfl);have v2:=(d.out.cell N).trans (l 2 _ rfl);have v3:=(d.out.cell N).trans (l 3 _ rfl);rw[yU] at v0;have aa:=getD_in ex0 (show k<L.length by rw[<-ai.out];exact aA);have x:=HZ.out _ aa;have H:=aD.below d;have S:=zh fun(w':World) (er:Int) (h:¬iP (aw p.vars) KE (L.getD k ex0)) J c=>aj.out w' er (λhV=>h (ag.out.1 hV _ aa)) J c
   have ak:Hid (iP (aw p.vars) KE (L.getD k ex0)->∀j,j<k+1->iP (aw p.vars) KE (L.getD j ex0)):=zh λh j hj=>by
    by_cases e:j=k
    ·rw[e];exact h
    ·exact Q.out j (by omega)
   clear aa l Q aj R aD;generalize L.getD k ex0=a at*;obtain⟨Ap,cp,rfl,aI⟩:=H.slice;have CV:=zh fun(W:World) (c:Below wr.heap.size wr W)=>mV W a 29 Ap cp x.z (HK.out.below (ab f c)) (HM.out.below (ab f c)) (H.below c) (by decide) x.len;have CA:=zh fun(W:World) (c:Below wr.heap.size wr W)=>lf W a 29 Ap cp x.z (H.below c) x.len;have CN:=zh fun(W:World) (c:Below wr.heap.size wr W)=>mW W a 29 Ap cp x.z (H.below c) x.len;have af:=iL eX (aq (29+1) a) []
   have aC:(df eX (aq (29+1) a)).length<=1000:=by
    rw[yR,yH] at af;exact yK af x.len
   have ae:=iL gW (aq (29+1) a) []
   have aK:(df gW (aq (29+1) a)).length<=1000:=by
    rw[yR,yH] at ae;exact yK ae x.len
   have K:Hid (iP (aw p.vars) KE a↔gM (29+1) a=0/\df gW (aq (29+1) a)=[]/\(df eX (aq (29+1) a)).any (λs=>decide (cS p.vars s<0))=false):=zh (by
    unfold iP KE;refine and_congr_right λ_=>and_congr_right λ_=> ?_;simp only[List.any_eq_false,yY];refine forall_congr' λs=>imp_congr_right λ_=> ?_;rw[jA]
    exact Classical.not_not.symm)
   unfold NmR at CA CN;unfold exV at CV CA CN;generalize iP (aw p.vars) KE a=AO at*;generalize gM (29+1) a=er at*;generalize df gW (aq (29+1) a)=na at*;generalize df eX (aq (29+1) a)=nv at*;obtain⟨ao,Y⟩:=zv (a.op);obtain⟨an,X⟩:=zv (a.n);obtain⟨am,V⟩:=zv (a.name);obtain⟨al,T⟩:=zv (a.args.length);rw[<-Y,<-X,<-V,<-T] at CV CA CN;rw[<-Y] at v0;rw[<-X] at v1;rw[<-V] at v2;rw[<-T] at v3;clear Y X V T aI H x af ae M;go_upto_region 4 with fail;clear v0 v1 v2 v3;have ax:=zh (yx wr.heap.size wr);have F:=ax;clear ax;generalize I:wr.alloc _=w3 at*;obtain⟨G,q⟩:=zA1 I;clear I;replace r:=zb r G;replace d:=zb d G;replace F:=zb F G;replace f:=zb f G;clear G;have y:=za q 0 rfl;have A:=za q 1 rfl;have B:=za q 2 rfl;have C:=za q 3 rfl;go_wp2_with fail;refine(CV w3 F).mono ?_;rintro e w4 ⟨rfl,c⟩;replace d:=zb d c;replace F:=zb F c;clear y A B C;replace r:=zb r c;replace q:=zb q c;replace f:=zb f c;clear c
   by_cases J:er=0
   case neg=>
    have g1:(er !=0)=true:=by simpa using J
    have D:Hid (¬AO):=zh λh=>J (K.out.1 h).1;go_wp2_with fail;go_ret;exact S _ _ D J f
   subst J;have y:=za q 0 rfl;have A:=za q 1 rfl;have B:=za q 2 rfl;have C:=za q 3 rfl;go_wp2_with fail;refine(CA w4 F).mono ?_;rintro e w5 ⟨va,rfl,E,c⟩;obtain⟨U,uc,rfl,aJ, -⟩:=E.cellF;replace d:=zb d c;replace F:=zb F c;clear E;clear y A B C;replace r:=zb r c;replace q:=zb q c;replace f:=zb f c;clear c
   by_cases ha:na=[]
   case neg=>
    have g1:(na.length:Int)>0:=by
     have:na.length≠0:=λh=>ha (yV h);omega
    have D:Hid (¬AO):=zh λh=>ha (K.out.1 h).2.1;generalize na.length=nal at*;go_wp2_with fail;go_ret;exact S _ _ D (by decide) f
   subst ha;simp only[yR] at aJ⊢;have y:=za q 0 rfl;have A:=za q 1 rfl;have B:=za q 2 rfl;have C:=za q 3 rfl;go_wp2_with fail;refine(CN w5 F).mono ?_;rintro e w6 ⟨vn,rfl,E,c⟩;have ap:=zh E;obtain⟨U2,aN,rfl, -, -⟩:=E.cellF;replace d:=zb d c;replace F:=zb F c;clear E;clear y A B C;replace r:=zb r c;replace q:=zb q c;replace f:=zb f c;clear c;have CF:=zh (hasFuncS w6 _ nv ap aC 167 #[.pointer (some ⟨w.heap.size,0,none⟩)] (λs=>decide (cS p.vars s<0)) (λargs W=>by kernel_rfl) (λW t hW _=>C1.out W t w.heap.size (ab f hW) (r.out.below hW)));generalize nv.any (λs=>decide (cS p.vars s<0))=bad at*;generalize nv.length=nvl at*;clear ap;cases bad
   ·have D:Hid AO:=zh (K.out.2 ⟨by trivial,by trivial,by trivial⟩);have aF:=zh (ak D);go_wp2_with fail;refine CF.out.mono ?_;rintro e w7 ⟨rfl,c⟩;replace d:=zb d c;replace r:=zb r c;replace q:=zb q c;replace f:=zb f c;clear c;go_wp2_with fail;go_roundw
    ·exact⟨k+1,by omega,by go_num,d,f,r,aF⟩
    ·simp[intOf];omega
   ·have D:Hid (¬AO):=zh λh=>by have:=(K.out.1 h).2.2;cases this
    go_wp2_with fail;refine CF.out.mono ?_;rintro e w7 ⟨rfl,c⟩;replace f:=zb f c;clear c;go_wp2_with fail;go_ret;exact S _ _ D (by decide) f
  ·have aB:¬(k:Int)<m:=by omega
   have az:k=m:=by omega
   have HF:Hid EO:=zh (ag.out.2 λe J=>by
    obtain⟨j,hj,rfl⟩:=yS.1 J;have:=Q.out j (by rw[az,ai.out];exact hj);rw[yj,yp hj] at this
    exact this)
   clear Q az M;go_wp2_with fail;go_ret;exact R _ HF f
theorem ud (w:World) (x:Wt):Calls Tryz.prog 242 #[wtV x] w λe w'=>e= .returned (.bool (!dS x))/\Below w.heap.size w w':=by
 have i:Hid ((!dS x)=(decide (x.lo<0)||(decide (x.lo>x.hi)||(decide (x.hi>65535)||(decide (x.weight<0)||decide (x.weight>1000)))))):=zh (by unfold dS;rw[Bool.not_not]);generalize(!dS x)=r at*;obtain⟨lo,hi,wt,n⟩:=x;unfold wtV;simp only at i⊢
 have l:(lo<0/\r=true)\/(¬lo<0/\lo>hi/\r=true)\/(¬lo<0/\¬lo>hi/\hi>65535/\r=true)\/(¬lo<0/\¬lo>hi/\¬hi>65535/\wt<0/\r=true)\/(¬lo<0/\¬lo>hi/\¬hi>65535/\¬wt<0/\wt>1000/\r=true)\/(¬lo<0/\¬lo>hi/\¬hi>65535/\¬wt<0/\¬wt>1000/\r=false):=by
  rw[i.out]
  by_cases a:lo<0
  ·exact .inl ⟨a,by rw[yB a];rfl⟩
  by_cases b:lo>hi
  ·exact .inr (.inl ⟨a,b,by rw[yv a,yB b];rfl⟩)
  by_cases c:hi>65535
  ·exact .inr (.inr (.inl ⟨a,b,c,by rw[yv a,yv b,yB c];rfl⟩))
  by_cases d:wt<0
  ·exact .inr (.inr (.inr (.inl ⟨a,b,c,d,by rw[yv a,yv b,yv c,yB d];rfl⟩)))
  by_cases g:wt>1000
  ·exact .inr (.inr (.inr (.inr (.inl ⟨a,b,c,d,g,by rw[yv a,yv b,yv c,yv d,yB g];rfl⟩))))
  ·exact .inr (.inr (.inr (.inr (.inr ⟨a,b,c,d,g,by rw[yv a,yv b,yv c,yv d,yv g];rfl⟩))))
 clear i;rcases l with⟨a,f⟩|⟨a,b,f⟩|⟨a,b,c,f⟩|⟨a,b,c,d,f⟩|⟨a,b,c,d,g,f⟩|⟨a,b,c,d,g,f⟩
 all_goals
  have j:=zh f;clear f;go_enter Tryz.func242,Tryz.ntmps242;go_upto_region 1 with fail;generalize h:w.alloc _=w1 at*;obtain⟨m,k⟩:=zB1 h;clear h;have x0:=za k 0 rfl;have o:=za k 1 rfl;have p:=za k 2 rfl;go_wp2_with fail;go_ret;exact⟨bF j.out.symm,m⟩
theorem xU (w:World) (v:Value) (ws:List Wt) (a:Rs wtR w v ws ah) (d:ws.length<=1000):Calls Tryz.prog 170 #[v] w λe w'=>e= .returned (.bool (ws.all dS))/\Below w.heap.size w w':=by
 have f:=zh (hasFuncW w v ws a d 242 #[] (λx=> !dS x) (λargs W=>by kernel_rfl) (λW t _ _=>ud W t));have h:Hid (ws.all dS= !ws.any (λx=> !dS x)):=zh (by rw[List.all_eq_not_any_not]);generalize ws.all dS=r at*;generalize ws.any (λx=> !dS x)=q at*;obtain⟨A,c,rfl, -⟩:=a.wts;generalize ws.length=n at*;clear a d;go_enter Tryz.func170,Tryz.ntmps170;go_wp2_with fail;refine f.out.mono ?_;rintro e w2 ⟨rfl,b⟩;have g:=zh b;clear b;go_wp2_with fail;go_ret;exact⟨bF h.out.symm,g⟩
theorem elDists1 (w:World) (x:Int) (u k:Value) (y:Int) (A:Option Addr) (n c:Nat) (j:u= .slice A n c) (g:Nat) (f:Box w g #[.int .i64 y,k] 126):Calls Tryz.prog 169 (#[.agg #[.int .i64 x,u]]++#[.pointer (some ⟨g,0,none⟩)]) w λe w'=>e= .returned (.bool (decide (x=y)))/\Below w.heap.size w w':=by
 subst j;have d:=zh f;clear f;have m:(x==y)=decide (x=y):=by rw[Bz];simp
 generalize decide (x=y)=q at*;show Calls _ _ #[.agg #[.int .i64 x,.slice A n c],.pointer (some ⟨g,0,none⟩)] _ _;go_enter Tryz.func169,Tryz.ntmps169;go_upto_region 1 with fail;generalize b:w.alloc _=w1 at*;obtain⟨a,i⟩:=zA1 b;clear b;replace d:=zb d a;have h:=zh a;clear a;have x0:=za i 0 rfl;have l:=za d 0 rfl;go_wp2_with fail;go_ret;exact⟨rfl,h⟩
theorem elDists (w:World) (vars:List Vr) (a:List Ds) (A1 A2 A3 A4 A5:Option Addr) (c1 n2 c2 n3 c3 c4 n5 c5:Nat) (hv:Rs vrR w (.slice A1 vars.length c1) vars ah) (hd:Rs dsR w (.slice A4 a.length c4) a ah) (nd:a.length<=1000) (nw:∀x∈a,x.ws.length<=1000):
  Calls Tryz.prog 101 #[.agg #[.slice A1 vars.length c1,.slice A2 n2 c2,.slice A3 n3 c3,.slice A4 a.length c4,.slice A5 n5 c5]] w (ErR (cy vars a) w):=by
 have ar:=zm;have HD:=zh hd;have N:=zh fun(w':World) (er:Int) h he c=>ErR.no (P:=cy vars a) (w:=w) (w':=w') (er:=er) h he c;have E:=zh fun(w':World) h c=>ErR.yes (P:=cy vars a) (w:=w) (w':=w') h c;obtain⟨G,H⟩:=zv (λi=>bL vars (a.getD i ds0).var=true/\(∀j,j<i->(a.getD j ds0).var≠(a.getD i ds0).var)/\(a.getD i ds0).ws.length<=16/\∀x∈(a.getD i ds0).ws,dS x=true:Nat->Prop);have al:=zh H;have L:Hid (cy vars a↔∀i,i<a.length->G i):=zh (by rw[H];exact Iff.rfl);have CR:=zh fun(W:World) (i:Int) (c:Below w.heap.size w W)=>oG W vars i A1 A2 A3 A4 A5 c1 n2 c2 n3 c3 a.length c4 n5 c5 (hv.below c);have aj:=zh nw;generalize cy vars a=DO at*;obtain⟨m,hm⟩:=zv (a.length);have M:=zh hm
 have HX:Hid (∀k,k<m->∃b o u,A4=some ⟨b,o,none⟩/\b<w.heap.size/\w.cell? ⟨b,o+k*2,none⟩=some (.int .i64 (a.getD k ds0).var)/\w.cell? ⟨b,o+k*2+1,none⟩=some u/\Rs wtR w u (a.getD k ds0).ws ah):=zh λk hk=>by
  obtain⟨A',c',e1,_,ap⟩:=hd.dss;obtain⟨b,o,p,e2,C,h0,h1,h2⟩:=ap k (by omega);simp only[yA] at e1;exact⟨b,o,p,by rw[e1.1,e2],C,h0,h1,h2⟩
 have aq:m<=c4:=by
  obtain⟨A',c',e1,h,_⟩:=hd.dss;simp only[yA] at e1;omega
 have I:c4<=9223372036854775807\/True:= .inr trivial;generalize vars.length=nv at*;rw[<-hm] at CR HD nd⊢;clear hv hd hm H nw I;go_enter Tryz.func101,Tryz.ntmps101;go_upto_region 1 with fail;generalize s:w.alloc _=w1 at*;obtain⟨d,f⟩:=zB1 s;clear s;have l:=za f 3 rfl;go_wp2_with fail;clear l
 go_loopw [8] (λi wr=>∃k:Nat,k<=m/\i= .int .i64 k/\Below w.heap.size w wr/\Box wr w.heap.size #[.slice A1 nv c1,.slice A2 n2 c2,.slice A3 n3 c3,.slice A4 m c4,.slice A5 n5 c5] 27/\Hid (∀j,j<k->G j)) (λi _=>m-(intOf i).toNat)
 case atStart=>exact⟨0,yt _,rfl,d,f,zh λj h=>by omega⟩
 case round=>
  obtain⟨k,hk,rfl,c,K,D⟩:=hrel;clear d f w1;obtain⟨d,f⟩:=zk2 c K;clear c K
  by_cases J:k<m
  ·have ad:(k:Int)<m:=by omega
   have k0:(0:Int)<=(k:Int):=by omega
   have k1:(k:Int)<=(c4:Int):=by omega
   have k2:k<=c4:=by omega
   obtain⟨b,o,u,e2,C,Y,Z,af⟩:=HX.out k J;subst e2;have v0:=(d.out.cell C).trans Y;have v1:=(d.out.cell C).trans Z;have F:=zh (af.below d);have ab:=getD_in ds0 (show k<a.length by rw[<-M.out];exact J);have ae:=aj.out _ ab;have z:=zh fun(w':World) (er:Int) (h:¬G k) he c=>N.out w' er (λhV=>h (L.out.1 hV k (by rw[<-M.out];exact J))) he c
   have Q:Hid (G k->∀j,j<k+1->G j):=zh λh j hj=>by
    by_cases e:j=k
    ·rw[e];exact h
    ·exact D.out j (by omega)
   have am:=zh (HD.out.takeA k hk);have an:Hid ((a.take k).length=k):=zh (by rw[yM,<-M.out];omega)
   have q:Hid (G k↔bL vars (a.getD k ds0).var=true/\(a.take k).any (λx=>decide (x.var=(a.getD k ds0).var))=false/\(a.getD k ds0).ws.length<=16/\(a.getD k ds0).ws.all dS=true):=zh (by
    rw[al.out];refine and_congr_right λ_=>and_congr ?_ (and_congr_right λ_=>by rw[Bj]);simp only[List.any_eq_false,yY];constructor
    ·intro h x K;obtain⟨j,hj,rfl⟩:=yS.1 K;rw[yM] at hj;have:=h j (by omega);rw[List.getElem_take];rw[yj,yp (show j<a.length by omega)] at this;exact this
    ·intro h j hj;have ao:j<a.length:=by rw[<-M.out];omega
     rw[yj,yp ao];refine h _ (yS.2 ⟨j,by rw[yM];omega, ?_⟩)
     rw[List.getElem_take];rfl)
   clear ab Y Z af D N E;obtain⟨Au,cu,rfl, -⟩:=F.out.slice;generalize a.getD k ds0=dk at*;obtain⟨y,ws⟩:=dk;simp only at v0 v1 F q ae;have ai:=zh λW h=>CR.out W y h;have CW:=zh fun(W:World) (c:Below wr.heap.size wr W)=>xU W _ ws (F.out.below c) ae
   have CF:=zh fun(W:World) (g:Nat) (c:Below w.heap.size w W) (K:Box W g #[.int .i64 y,.slice Au ws.length cu] 126)=>hasFuncD W (.slice (some ⟨b,o,none⟩) k c4) (a.take k) (am.out.below c) (by rw[an.out];omega) 169 #[.pointer (some ⟨g,0,none⟩)] (λx=>decide (x.var=y)) (λargs W=>by kernel_rfl) (λW' t u hW _ hu=>by
    obtain⟨At,ct,rfl, -⟩:=hu.slice
    exact elDists1 W' t.var _ _ y At _ ct rfl g (K.below hW))
   generalize bL vars y=rv at*;generalize(a.take k).any (λx=>decide (x.var=y))=dup at*;generalize ws.all dS=wok at*;generalize ws.length=wl at*;generalize G k=AO at*;go_upto_region 4 with fail;clear v0 v1;have A:=zh (yx wr.heap.size wr);generalize s:wr.alloc _=w3 at*;obtain⟨B,v⟩:=zA1 s;clear s;replace f:=zb f B;replace A:=zb A B;replace d:=zb d B;clear B;generalize aa:wr.heap.size=ga at*;have R:=za v 0 rfl;have r:=za v 1 rfl;have S:=za f 0 rfl;have T:=za f 1 rfl;have U:=za f 2 rfl;have l:=za f 3 rfl;have V:=za f 4 rfl;go_wp2_with fail;refine(ai w3 d).mono ?_;rintro e w4 ⟨rfl,c⟩;replace A:=zh (Below.trans A (c.mono (by rw[<-aa];exact A.out.size)));clear R r S T U l V;replace f:=zb f c;replace v:=zb v c;replace d:=zb d c;clear c;cases rv
   ·have n:Hid (¬AO):=zh λh=>by have:=(q.out.1 h).1;cases this
    go_wp2_with fail;go_ret;exact z _ _ n (by decide) d
   have ag:=zh (CF w4 ga d v);have l:=za f 3 rfl;go_wp2_with fail;refine ag.out.mono ?_;rintro e w5 ⟨rfl,c⟩;replace A:=zh (Below.trans A (c.mono (by rw[<-aa];exact A.out.size)));clear l;replace f:=zb f c;replace v:=zb v c;replace d:=zb d c;clear c;cases dup
   case true=>
    have n:Hid (¬AO):=zh λh=>by have:=(q.out.1 h).2.1;cases this
    go_wp2_with fail;go_ret;exact z _ _ n (by decide) d
   have r:=za v 1 rfl
   by_cases X:wl<=16
   case neg=>
    have g1:(wl:Int)>16:=by omega
    have n:Hid (¬AO):=zh λh=>X (q.out.1 h).2.2.1;go_wp2_with fail;go_ret;exact z _ _ n (by decide) d
   have g1:¬(wl:Int)>16:=by omega
   go_wp2_with fail;refine(CW w5 A).mono ?_;rintro e w6 ⟨rfl,c⟩;clear r;replace f:=zb f c;replace v:=zb v c;replace d:=zb d c;clear c;cases wok
   ·have n:Hid (¬AO):=zh λh=>by have:=(q.out.1 h).2.2.2;cases this
    go_wp2_with fail;go_ret;exact z _ _ n (by decide) d
   ·have ak:=zh (Q (q.out.2 ⟨by trivial,by trivial,X,by trivial⟩));go_wp2_with fail;go_roundw
    ·exact⟨k+1,by omega,by go_num,d,f,ak⟩
    ·simp[intOf];omega
  ·have ad:¬(k:Int)<m:=by omega
   have ac:k=m:=by omega
   have HF:Hid DO:=zh (L.out.2 λi hi=>D.out i (by rw[ac,M.out];exact hi));clear D ac HX;go_wp2_with fail;go_ret;exact E _ HF d
def bA (l:List Bool):Array Value:=(l.map Value.bool).toArray
theorem qT (l:List Bool) (k:Nat) (v:Bool):(bA l).setIfInBounds k (.bool v)=bA (l.set k v):=by
 unfold bA;rw[Bf,List.map_set]
theorem is {l:List Bool} {k:Nat} {q:Bool} (h:l[k]? =some q):(bA l)[k]? =some (.bool q):=by
 simp[bA,h]
theorem vp (n:Nat):madeCells (Value.bool false).cells (n*1)=bA (List.replicate n false):=by
 apply Array.ext
 ·simp[madeCells,bA]
 ·intro i a b;simp[madeCells,bA,Value.cells,Nat.mod_one]
theorem infoB:(Tryz.prog.info? 4).map (λi=>(i.zero,i.size,i.bytes))=some (some (.bool false),1,1):=by kernel_rfl
theorem nE (n:Nat) (e:n<=1000) (W:World):(Instr.makeSlice 43 (.int .i64 (n:Int)) (.int .i64 (n:Int))).run Tryz.prog W= .ok (.slice (some ⟨W.heap.size,0,none⟩) n n) (W.alloc (.cells (bA (List.replicate n false)) 4)):=by
 obtain⟨i,hi,d,c,b⟩:=Bb infoB;have a:=run_make (P:=Tryz.prog) W 43 4 i (.bool false) Tryz.underlying43 hi d .i64 .i64 n n (by omega) (by omega) (by rw[b];omega) (by omega);rw[c] at a;simp only[y5] at a;rw[vp] at a;exact a
def ia (n:Nat) (F:List Int):List Bool:=(List.range n).map λi:Nat=>decide ((i:Int)∈F)
theorem wR (n:Nat):ia n []=List.replicate n false:=by
 unfold ia;apply BP
 ·simp
 ·intro i a b;simp
theorem jt {n:Nat} {F:List Int} {k:Nat} (h:k<n):(ia n F)[k]? =some (decide ((k:Int)∈F)):=by
 simp[ia,yW,Be h]
theorem wQ {n:Nat} {F:List Int} {k:Nat} (h:k<n):(ia n F).set k true=ia n (F++[(k:Int)]):=by
 apply List.ext_getElem?;intro i
 by_cases hi:i<n
 ·rw[jt hi]
  by_cases e:k=i
  ·subst e;rw[AR (by simpa [ia] using hi)];simp
  ·rw[AU e,jt hi];congr 1;rw[Bz];simp only[yY,AQ,yC,yI,AH];exact⟨.inl,λh=>h.resolve_right (by omega)⟩
 ·have a:(ia n F).length=n:=by simp[ia]
  have b:(ia n (F++[(k:Int)])).length=n:=by simp[ia]
  rw[AK (by rw[As,a];omega),AK (by rw[b];omega)]
theorem qk {l:List Vr} {i:Int} (h:bL l i=true):∃k:Nat,i=k/\k<l.length:=by
 unfold bL at h;simp only[yF,yY] at h;exact⟨i.toNat,by omega,by omega⟩
structure GrP (l:List Vr) (gs:List (List Int)) (F:List Int):Prop where
 some_:∀x∈gs,x≠[]
 ran:∀i∈F,bL l i=true
 nodup:F.Nodup
theorem kY {gs:List (List Int)} {j q:Nat} (a:j<gs.length) (b:q<(gs.getD j []).length):∃r,gs.flatten=(gs.take j).flatten++(gs.getD j []).take q++(gs.getD j []).getD q 0::r:=by
 have e1:gs=gs.take j++gs.getD j []::gs.drop (j+1):=by
  conv=>lhs;rw[<-List.take_append_drop j gs,Aq a]
  rw[yj,yp a];rfl
 have c:gs.getD j []=(gs.getD j []).take q++(gs.getD j []).getD q 0::(gs.getD j []).drop (q+1):=by
  conv=>lhs;rw[<-List.take_append_drop q (gs.getD j []),Aq b]
  rw[yj (l:=gs.getD j []),yp b];rfl
 refine⟨(gs.getD j []).drop (q+1)++(gs.drop (j+1)).flatten, ?_⟩
 conv=>lhs;rw[e1]
 rw[List.flatten_append,Ce]
 conv=>lhs;rw[c]
 simp[yZ]
theorem elGroups (w:World) (vars:List Vr) (gs:List (List Int)) (A1 A2 A3 A4 A5:Option Addr) (c1 n2 c2 n3 c3 n4 c4 c5:Nat) (hv:Rs vrR w (.slice A1 vars.length c1) vars ah) (hg:Rs ilR w (.slice A5 gs.length c5) gs ah) (nv:vars.length<=1000) (ng:gs.length<=1000) (nr:∀x∈gs,x.length<=1000):
  Calls Tryz.prog 103 #[.agg #[.slice A1 vars.length c1,.slice A2 n2 c2,.slice A3 n3 c3,.slice A4 n4 c4,.slice A5 gs.length c5]] w (ErR (aZ vars gs) w):=by
 have HG:=zh hg;have S:=zh fun(w':World) (er:Int) h he r=>ErR.no (P:=aZ vars gs) (w:=w) (w':=w') (er:=er) h he r;have an:=zh fun(w':World) h r=>ErR.yes (P:=aZ vars gs) (w:=w) (w':=w') h r;have Q:Hid (aZ vars gs->(∀x∈gs,x≠[])/\(∀i∈gs.flatten,bL vars i=true)/\gs.flatten.Nodup/\∀i:Nat,bL vars i=true->(i:Int)∈gs.flatten):=zh λh=>⟨h.some_,h.ran,h.nodup,h.all⟩;have aa:Hid (GrP vars gs gs.flatten->(∀i:Nat,bL vars i=true->(i:Int)∈gs.flatten)->aZ vars gs):=zh λh h2=>⟨h.some_,h.ran,h.nodup,h2⟩;have CR:=zh fun(W:World) (i:Int) (r:Below w.heap.size w W)=>oG W vars i A1 A2 A3 A4 A5 c1 n2 c2 n3 c3 n4 c4 gs.length c5 (hv.below r);have aD:=zh nr;generalize aZ vars gs=GO at*;obtain⟨n,hn⟩:=zv (vars.length);obtain⟨m,hm⟩:=zv (gs.length);obtain⟨HN,HM⟩:=zk2 hn hm;have MK:=nE n (by omega);rw[<-wR] at MK;rw[<-hn] at CR nv⊢;rw[<-hm] at HG CR ng⊢;clear hv hg hn hm nr;go_enter Tryz.func103,Tryz.ntmps103;go_upto_region 1 with fail;generalize N:w.alloc _=w1 at*;obtain⟨l,d⟩:=zB1 N;clear N;have aE:=zh d.out.lt;have g:=za d 0 rfl;have aG:=MK w1;clear MK;go_upto_region 2 with fail;clear aG;clear g;generalize N:w1.alloc _=w2 at*;obtain⟨ac,y⟩:=zA1 N;clear N;replace d:=zb d ac;replace l:=zb l ac;clear ac;have aM:w.heap.size<w1.heap.size:=aE.out;generalize w1.heap.size=gr at*;have s:=za d 4 rfl;go_wp2_with fail;clear s
 go_loopw [16] (λi wr=>∃j:Nat,j<=m/\i= .int .i64 j/\Below w.heap.size w wr/\Box wr w.heap.size #[.slice A1 n c1,.slice A2 n2 c2,.slice A3 n3 c3,.slice A4 n4 c4,.slice A5 m c5] 27/\Box wr gr (bA (ia n (gs.take j).flatten)) 4/\Hid (GrP vars (gs.take j) (gs.take j).flatten)) (λi _=>m-(intOf i).toNat)
 case atStart=>exact⟨0,yt _,rfl,l,d,y,zh ⟨λx h=>by simp at h,λi h=>by simp at h,by simp⟩⟩
 case round=>
  obtain⟨j,hj,rfl,r,G,M,K⟩:=hrel;clear l d y w2;obtain⟨l,d,y⟩:=zk3 r G M;clear r G M
  by_cases aq:j<m
  ·have ar:(j:Int)<m:=by omega
   have j0:(0:Int)<=(j:Int):=by omega
   have I:j<gs.length:=by rw[<-HM.out];exact aq
   obtain⟨A',c',e1,_,az⟩:=HG.out.ils;obtain⟨b,o,u,e2,ao,hu,aI, -⟩:=az j (by rw[<-HM.out];exact aq)
   have e3:A5=some ⟨b,o,none⟩:=by
    simp only[yA] at e1;rw[e1.1,e2]
   subst e3;have ad:=getD_in [] I;have ai:=zh (aD (gs.getD j []) ad);have ay:=(l.out.cell ao).trans hu;have ae:=zh λq (h:q<(gs.getD j []).length)=>kY I h;have aj:Hid (gs.getD j []=[]->¬GO):=zh λh hG=>(Q hG).1 _ ad h
   have ak:Hid ((gs.take (j+1)).flatten=(gs.take j).flatten++gs.getD j []):=zh (by
    rw[Am,yp I,List.flatten_append,yj,yp I];simp)
   have al:Hid (gs.take (j+1)=gs.take j++[gs.getD j []]):=zh (by
    rw[Am,yp I,yj,yp I];rfl)
   clear e1 e2 az ao hu ad;generalize gs.getD j []=row at*;obtain⟨Ar,cr,rfl,aH,ax⟩:=aI;have aF:=zh ax;obtain⟨rl,X⟩:=zv (row.length);have U:=zh X;have aL:rl<=1000:=by rw[X];exact ai
   rw[<-X] at ay aH;clear ax X
   by_cases h0:rl=0
   ·have g0:((rl:Int)==0)=true:=by simpa using(by omega:(rl:Int)=0)
    have D:=zh (aj (yV (by rw[<-U.out];exact h0)));clear h0 ae aj ak al;go_wp2_with fail;go_ret;exact S _ _ D (by decide) l
   have g0:((rl:Int)==0)=false:=by simpa using(by omega:¬(rl:Int)=0)
   have aC:Hid (row≠[]):=zh λh=>h0 (by rw[U.out,h];rfl);clear h0;go_wp2_with fail;clear ay
   go_loopw [25] (λi wr=>∃q:Nat,q<=rl/\i= .int .i64 q/\Below w.heap.size w wr/\Box wr w.heap.size #[.slice A1 n c1,.slice A2 n2 c2,.slice A3 n3 c3,.slice A4 n4 c4,.slice (some ⟨b,o,none⟩) m c5] 27/\Box wr gr (bA (ia n ((gs.take j).flatten++row.take q))) 4/\Hid (GrP vars (gs.take j) ((gs.take j).flatten++row.take q))) (λi _=>rl-(intOf i).toNat)
   case atStart=>exact⟨0,yt _,rfl,l,d,by rw[y9,AT];exact y,by rw[y9,AT];exact K⟩
   case round=>
    obtain⟨q,hq,rfl,r,G,M,t⟩:=hrel;clear l d y K;obtain⟨l,d,y⟩:=zk3 r G M;clear r G M
    by_cases aJ:q<rl
    ·have av:(q:Int)<(rl:Int):=by omega
     have q0:(0:Int)<=(q:Int):=by omega
     have V:q<row.length:=by rw[<-U.out];exact aJ
     obtain⟨a1,rfl,ap,aw⟩:=aF.out (by omega);have y0:wr.cell? (a1.add q)=some (.int .i64 (row.getD q 0)):=by rw[l.out.cell (by rw[aP];exact ap)];exact aw q V
     obtain⟨rest,E⟩:=ae.out q V
     have am:Hid (row.take (q+1)=row.take q++[row.getD q 0]):=zh (by
      rw[Am,yp V,yj,yp V];rfl)
     have R:Hid (bL vars (row.getD q 0)=false->¬GO):=zh λh hG=>by
      have:=(Q hG).2.1 (row.getD q 0) (by rw[E];simp);rw[h] at this;cases this
     have ag:Hid (row.getD q 0∈(gs.take j).flatten++row.take q->¬GO):=zh λh hG=>by
      have:=(Q hG).2.2.1;rw[E,List.nodup_append] at this;exact this.2.2 _ h _ (by simp) rfl
     have ab:Hid (bL vars (row.getD q 0)=true->∃k:Nat,row.getD q 0=k/\k<n):=zh λh=>by rw[HN.out];exact qk h
     have C:=zh λW h=>CR.out W (row.getD q 0) h
     have Z:Hid (bL vars (row.getD q 0)=true->row.getD q 0∉(gs.take j).flatten++row.take q->GrP vars (gs.take j) ((gs.take j).flatten++row.take (q+1))):=zh λh1 h2=>by
      rw[am.out,<-yZ];refine⟨t.out.some_,λi hi=> ?_, ?_⟩
      ·rcases AQ.1 hi with hi|hi
       ·exact t.out.ran i hi
       ·rw[AW.1 hi];exact h1
      ·rw[List.nodup_append];refine⟨t.out.nodup,by simp,λa ha c hc e=> ?_⟩;rw[AW.1 hc] at e;exact h2 (e▸ha)
     clear E t ap aw;generalize row.getD q 0=v at*;generalize hF:(gs.take j).flatten++row.take q=F at*;have HF:=zh hF;clear hF;cases hrv:bL vars v
     ·rw[hrv] at C R;have D:=zh (R rfl);clear R ag ab Z hrv;have g:=za d 0 rfl;have z:=za d 1 rfl;have A:=za d 2 rfl;have B:=za d 3 rfl;have s:=za d 4 rfl;go_wp2_with fail;refine(C _ l).mono ?_;rintro e w4 ⟨rfl,r⟩;clear g z A B s;replace d:=zb d r;replace y:=zb y r;replace l:=zb l r;clear r;go_wp2_with fail;go_ret;exact S _ _ D (by decide) l
     rw[hrv] at C;obtain⟨k,rfl,L⟩:=ab.out hrv;have af:=zh (Z hrv);clear Z hrv R ab;have kn:(k:Int)<(n:Int):=by omega
     have k0:(0:Int)<=(k:Int):=by omega
     have g:=za d 0 rfl;have z:=za d 1 rfl;have A:=za d 2 rfl;have B:=za d 3 rfl;have s:=za d 4 rfl;go_wp2_with fail;refine(C _ l).mono ?_;rintro e w4 ⟨rfl,r⟩;clear g z A B s;replace d:=zb d r;replace y:=zb y r;replace l:=zb l r;clear r;have Y:=y.out.at_ k _ (is (jt L))
     by_cases f:(k:Int)∈F
     ·rw[yB f] at Y;have D:=zh (ag f);clear f;go_wp2_with fail;go_ret;exact S _ _ D (by decide) l
     ·rw[yv f] at Y;have aA:=zh (af f);have z1:=y.out.frozen k;have z2:=y.out.lt;clear f af;go_wp2_with fail;go_roundw
      ·have e5:(gs.take j).flatten++row.take (q+1)=F++[(k:Int)]:=by rw[am.out,<-yZ,HF.out]
       refine⟨q+1,by omega,by go_num,l.out.setCell (p:=⟨gr,k,none⟩) (by show w.heap.size<=gr;omega) _,d.out.setNe (p:=⟨gr,k,none⟩) (by show gr≠_;omega) _, ?_,aA⟩;have h5:=y.out.set_ k (.bool true);rw[qT,wQ L,<-e5] at h5;exact h5
      ·simp[intOf];omega
    ·have av:¬(q:Int)<(rl:Int):=by omega
     have au:q=rl:=by omega
     have e6:row.take q=row:=by rw[au,U.out,Ay]
     rw[e6,<-ak.out] at y t
     have aB:Hid (GrP vars (gs.take (j+1)) (gs.take (j+1)).flatten):=zh ⟨λx G=>by
      rw[al.out] at G;rcases AQ.1 G with G|G
      ·exact t.out.some_ x G
      ·rw[AW.1 G];exact aC,t.out.ran,t.out.nodup⟩
     clear e6 au t;go_wp2_with fail;go_roundw
     ·exact⟨j+1,by omega,by go_num,l,d,y,aB⟩
     ·simp[intOf];omega
  ·have ar:¬(j:Int)<m:=by omega
   have e7:gs.take j=gs:=Ai (by rw[<-HM.out];omega);rw[e7] at y K;clear e7;have g:=za d 0 rfl;go_wp2_with fail;clear g
   go_loopw [47] (λi wr=>∃k:Nat,k<=n/\i= .int .i64 k/\Below w.heap.size w wr/\Box wr w.heap.size #[.slice A1 n c1,.slice A2 n2 c2,.slice A3 n3 c3,.slice A4 n4 c4,.slice A5 m c5] 27/\Box wr gr (bA (ia n gs.flatten)) 4/\Hid (∀i:Nat,i<k->bL vars i=true->(i:Int)∈gs.flatten)) (λi _=>n-(intOf i).toNat)
   case atStart=>exact⟨0,yt _,rfl,l,d,y,zh λi h=>by omega⟩
   case round=>
    obtain⟨k,hk,rfl,r,G,M,H⟩:=hrel;clear l d y;obtain⟨l,d,y⟩:=zk3 r G M;clear r G M
    by_cases L:k<n
    ·have kn:(k:Int)<(n:Int):=by omega
     have k0:(0:Int)<=(k:Int):=by omega
     have C:=zh λW h=>CR.out W (k:Nat) h;have T:Hid (bL vars (k:Nat)=true->(k:Int)∉gs.flatten->¬GO):=zh λh1 h2 hG=>h2 ((Q hG).2.2.2 k h1)
     have J:Hid ((bL vars (k:Nat)=true->(k:Int)∈gs.flatten)->∀i:Nat,i<k+1->bL vars i=true->(i:Int)∈gs.flatten):=zh λh i hi M=>by
      by_cases e:i=k
      ·subst e;exact h M
      ·exact H.out i (by omega) M
     clear H aa;generalize bL vars (k:Nat)=rv at*;have Y:=y.out.at_ k _ (is (jt L));cases rv
     ·have HA:=zh (J λh=>by cases h);clear J T Y;have g:=za d 0 rfl;have z:=za d 1 rfl;have A:=za d 2 rfl;have B:=za d 3 rfl;have s:=za d 4 rfl;go_wp2_with fail;refine(C _ l).mono ?_;rintro e w4 ⟨rfl,r⟩;clear g z A B s;replace d:=zb d r;replace y:=zb y r;replace l:=zb l r;clear r;go_wp2_with fail;go_roundw
      ·exact⟨k+1,by omega,by go_num,l,d,y,HA⟩
      ·simp[intOf];omega
     clear Y;have g:=za d 0 rfl;have z:=za d 1 rfl;have A:=za d 2 rfl;have B:=za d 3 rfl;have s:=za d 4 rfl;go_wp2_with fail;refine(C _ l).mono ?_;rintro e w4 ⟨rfl,r⟩;clear g z A B s;replace d:=zb d r;replace y:=zb y r;replace l:=zb l r;clear r;have Y:=y.out.at_ k _ (is (jt L))
     by_cases f:(k:Int)∈gs.flatten
     ·rw[yB f] at Y;have HA:=zh (J λ_=>f);clear J T f;go_wp2_with fail;go_roundw
      ·exact⟨k+1,by omega,by go_num,l,d,y,HA⟩
      ·simp[intOf];omega
     ·rw[yv f] at Y;have D:=zh (T (by trivial) f);clear J T f;go_wp2_with fail;go_ret;exact S _ _ D (by decide) l
    ·have aK:¬(k:Int)<(n:Int):=by omega
     have HF:Hid GO:=zh (aa K.out λi hi=>H.out i (by
      obtain⟨k',e,h⟩:=qk hi;have:i=k':=by omega
      rw[<-HN.out] at h
      omega) hi)
     clear H K aa;go_wp2_with fail;go_ret;exact an _ HF l
def fcV (f:Nat×Array Value):Value:= .func (.func f.1) #[] f.2
theorem elChecks (w:World) (g:Nat) (b:List (Nat×Array Value)) (P:Nat->Prop) (J:Box w g (b.map fcV).toArray 173) (N:b.length<=1000)
  (I:∀k f,b[k]? =some f->(∀args W,(callFunc f.1 args).run Tryz.prog W= .ok (.enter f.1 args) W)/\∀W,Below w.heap.size w W->Calls Tryz.prog f.1 f.2 W (ErR (P k) W)):
  Calls Tryz.prog 95 #[.slice (some ⟨g,0,none⟩) b.length b.length] w (ErR (∀k,k<b.length->P k) w):=by
 obtain⟨G,D⟩:=zk2 J I;obtain⟨n,p⟩:=zv (b.length);have K:=zh p;have r:=zh fun(w':World) (er:Int) h l c=>ErR.no (P:=∀k,k<b.length->P k) (w:=w) (w':=w') (er:=er) h l c;have d:=zh fun(w':World) h c=>ErR.yes (P:=∀k,k<b.length->P k) (w:=w) (w':=w') h c;have u:Hid (∀k,k<n->(∀k,k<b.length->P k)->P k):=zh λk hk h=>h k (by omega);have t:Hid ((∀k,k<n->P k)->∀k,k<b.length->P k):=zh λh k hk=>h k (by omega);generalize(∀k,k<b.length->P k)=A at*;rw[<-p] at N⊢;clear J I p;go_enter Tryz.func95,Tryz.ntmps95;go_wp2_with fail
 go_loopw [8] (λi wr=>∃k:Nat,k<=n/\i= .int .i64 k/\Below w.heap.size w wr/\Hid (∀j,j<k->P j)) (λi _=>n-(intOf i).toNat)
 case atStart=>exact⟨0,yt _,rfl,yx _ _,zh λj h=>by omega⟩
 case round=>
  obtain⟨k,hk,rfl,c,a⟩:=hrel;have o:=zh c;clear c
  by_cases y:k<n
  ·have z:(k:Int)<n:=by omega
   have T:(0:Int)<=(k:Int):=by omega
   have v:k<b.length:=by rw[<-K.out];exact y
   obtain⟨L,H⟩:=D.out k _ (yp v);have x0:=(G.out.below o).at_ k (fcV b[k]) (by simp[yW,yp v]);have B:=zh (H wr o);have E:=zh fun(w':World) (er:Int) (h:¬P k) l c=>r.out w' er (λM=>h (u k y M)) l c
   have s:Hid (P k->∀j,j<k+1->P j):=zh λh j S=>by
    by_cases e:j=k
    ·rw[e];exact h
    ·exact a.out j (by omega)
   generalize b[k]=f at*;obtain⟨gf,Q⟩:=f;unfold fcV at x0;simp only at x0 L B;unfold ErR at B;clear H a r d t u G D;go_wp2_with fail;refine B.out.mono ?_;rintro e w2 ⟨er,rfl,m,c⟩;have q:=zh m;replace o:=zb o c;clear m c B x0
   by_cases l:er=0
   ·subst l;have C:=zh (s (q.out.1 rfl));go_wp2_with fail;go_roundw
    ·exact⟨k+1,by omega,by go_num,o,C⟩
    ·simp[intOf];omega
   ·have R:(er !=0)=true:=by simpa using l
    have F:=zh λh=>l (q.out.2 h);go_wp2_with fail;go_ret;exact E _ _ F l o
  ·have z:¬(k:Int)<n:=by omega
   have x:k=n:=by omega
   rw[x] at a;have C:=zh (t a.out);clear x a G D;go_wp2_with fail;go_ret;exact d _ C o
structure PSm (p:Pb):Prop where
 nv:p.vars.length<=1000
 nz:∀v∈p.vars,v.name.size<=maxLen
 nh:p.hard.length<=1000
 ns:p.soft.length<=1000
 ex:∀e∈p.hard++p.soft,ExSm e
 nd:p.dists.length<=1000
 nw:∀x∈p.dists,x.ws.length<=1000
 ng:p.groups.length<=1000
 nr:∀x∈p.groups,x.length<=1000
structure PIn (w:World) (p:Pb) (A1 A2 A3 A4 A5:Option Addr) (c1 c2 c3 c4 c5:Nat):Prop where
 v:Rs vrR w (.slice A1 p.vars.length c1) p.vars ah
 h:Rs (exR KE) w (.slice A2 p.hard.length c2) p.hard ah
 s:Rs (exR KE) w (.slice A3 p.soft.length c3) p.soft ah
 d:Rs dsR w (.slice A4 p.dists.length c4) p.dists ah
 g:Rs ilR w (.slice A5 p.groups.length c5) p.groups ah
theorem PIn.below {w w':World} {p:Pb} {A1 A2 A3 A4 A5:Option Addr} {c1 c2 c3 c4 c5:Nat} (h:PIn w p A1 A2 A3 A4 A5 c1 c2 c3 c4 c5) (a:Below w.heap.size w w'):PIn w' p A1 A2 A3 A4 A5 c1 c2 c3 c4 c5:=
 ⟨h.v.below a,h.h.below a,h.s.below a,h.d.below a,h.g.below a⟩
instance {w w':World} {p:Pb} {A1 A2 A3 A4 A5:Option Addr} {c1 c2 c3 c4 c5:Nat}:Zm w w' (PIn w p A1 A2 A3 A4 A5 c1 c2 c3 c4 c5) (PIn w' p A1 A2 A3 A4 A5 c1 c2 c3 c4 c5):=⟨λhb h=>PIn.below h hb⟩
def pbV (p:Pb) (A1 A2 A3 A4 A5:Option Addr) (c1 c2 c3 c4 c5:Nat):Value:= .agg #[.slice A1 p.vars.length c1,.slice A2 p.hard.length c2,.slice A3 p.soft.length c3,.slice A4 p.dists.length c4,.slice A5 p.groups.length c5]
def pbC (p:Pb) (A1 A2 A3 A4 A5:Option Addr) (c1 c2 c3 c4 c5:Nat):Array Value:=#[.slice A1 p.vars.length c1,.slice A2 p.hard.length c2,.slice A3 p.soft.length c3,.slice A4 p.dists.length c4,.slice A5 p.groups.length c5]
section
variable {w:World} {p:Pb} {A1 A2 A3 A4 A5:Option Addr} {c1 c2 c3 c4 c5 g:Nat}
theorem elValid1 (hp:PIn w p A1 A2 A3 A4 A5 c1 c2 c3 c4 c5) (i:PSm p) (hk:KW w) (hm:cM w) (b:Box w g (pbC p A1 A2 A3 A4 A5 c1 c2 c3 c4 c5) 27):Calls Tryz.prog 96 #[.pointer (some ⟨g,0,none⟩)] w (ErR (bS p.vars) w):=by
 have c:=zh fun(W:World) (h:Below w.heap.size w W)=>elVars W p.vars A1 c1 (hp.v.below h) i.nz (hk.below h) (hm.below h);unfold pbC at b;have l:=zh fun(e:Ending) (w':World) (h:ErR (bS p.vars) w e w')=>h;generalize(bS p.vars)=Q at*;unfold ErR at c;generalize p.vars.length=n1 at*;generalize p.hard.length=n2 at*;generalize p.soft.length=n3 at*;generalize p.dists.length=n4 at*;generalize p.groups.length=n5 at*;have a:=zh b;clear b hp i hk hm;go_enter Tryz.func96,Tryz.ntmps96;have x0:=za a 0 rfl;have m:=za a 1 rfl;have n:=za a 2 rfl;have o:=za a 3 rfl;have q:=za a 4 rfl;go_wp2_with fail;refine(c w (yx _ _)).mono ?_;rintro e w2 ⟨er,rfl,d,f⟩;obtain⟨j,k⟩:=zk2 d f;clear d f;go_wp2_with fail;go_ret;exact⟨er,rfl,j,k⟩
theorem elValid2 (hp:PIn w p A1 A2 A3 A4 A5 c1 c2 c3 c4 c5) (b:PSm p) (hk:KW w) (hm:cM w) (c:Box w g (pbC p A1 A2 A3 A4 A5 c1 c2 c3 c4 c5) 27):Calls Tryz.prog 98 #[.pointer (some ⟨g,0,none⟩)] w (ErR (bZ p.vars (p.hard++p.soft)) w):=by
 have d:=zh fun(W:World) (h:Below w.heap.size w W)=>elExprs W p A1 A2 A3 A4 A5 c1 c2 c3 p.dists.length c4 p.groups.length c5 (hp.v.below h) (hp.h.below h) (hp.s.below h) b.nv b.nh b.ns b.ex (hk.below h) (hm.below h);unfold pbC at c;have l:=zh fun(e:Ending) (w':World) (h:ErR (bZ p.vars (p.hard++p.soft)) w e w')=>h;generalize(bZ p.vars (p.hard++p.soft))=Q at*;unfold ErR at d;generalize p.vars.length=n1 at*;generalize p.hard.length=n2 at*;generalize p.soft.length=n3 at*;generalize p.dists.length=n4 at*;generalize p.groups.length=n5 at*;have a:=zh c;clear c hp b hk hm;go_enter Tryz.func98,Tryz.ntmps98;have x0:=za a 0 rfl;have m:=za a 1 rfl;have n:=za a 2 rfl;have o:=za a 3 rfl;have q:=za a 4 rfl;go_wp2_with fail;refine(d w (yx _ _)).mono ?_;rintro e w2 ⟨er,rfl,f,i⟩;obtain⟨j,k⟩:=zk2 f i;clear f i;go_wp2_with fail;go_ret;exact⟨er,rfl,j,k⟩
theorem elValid3 (hp:PIn w p A1 A2 A3 A4 A5 c1 c2 c3 c4 c5) (b:PSm p) (hk:KW w) (hm:cM w) (c:Box w g (pbC p A1 A2 A3 A4 A5 c1 c2 c3 c4 c5) 27):Calls Tryz.prog 100 #[.pointer (some ⟨g,0,none⟩)] w (ErR (cy p.vars p.dists) w):=by
 have f:=zh fun(W:World) (h:Below w.heap.size w W)=>elDists W p.vars p.dists A1 A2 A3 A4 A5 c1 p.hard.length c2 p.soft.length c3 c4 p.groups.length c5 (hp.v.below h) (hp.d.below h) b.nd b.nw;unfold pbC at c;have m:=zh fun(e:Ending) (w':World) (h:ErR (cy p.vars p.dists) w e w')=>h;generalize(cy p.vars p.dists)=Q at*;unfold ErR at f;generalize p.vars.length=n1 at*;generalize p.hard.length=n2 at*;generalize p.soft.length=n3 at*;generalize p.dists.length=n4 at*;generalize p.groups.length=n5 at*;have a:=zh c;clear c hp b hk hm;go_enter Tryz.func100,Tryz.ntmps100;have x0:=za a 0 rfl;have n:=za a 1 rfl;have o:=za a 2 rfl;have q:=za a 3 rfl;have r:=za a 4 rfl;go_wp2_with fail;refine(f w (yx _ _)).mono ?_;rintro e w2 ⟨er,rfl,i,j⟩;obtain⟨k,l⟩:=zk2 i j;clear i j;go_wp2_with fail;go_ret;exact⟨er,rfl,k,l⟩
theorem elValid4 (hp:PIn w p A1 A2 A3 A4 A5 c1 c2 c3 c4 c5) (b:PSm p) (hk:KW w) (hm:cM w) (c:Box w g (pbC p A1 A2 A3 A4 A5 c1 c2 c3 c4 c5) 27):Calls Tryz.prog 102 #[.pointer (some ⟨g,0,none⟩)] w (ErR (aZ p.vars p.groups) w):=by
 have d:=zh fun(W:World) (h:Below w.heap.size w W)=>elGroups W p.vars p.groups A1 A2 A3 A4 A5 c1 p.hard.length c2 p.soft.length c3 p.dists.length c4 c5 (hp.v.below h) (hp.g.below h) b.nv b.ng b.nr;unfold pbC at c;have l:=zh fun(e:Ending) (w':World) (h:ErR (aZ p.vars p.groups) w e w')=>h;generalize(aZ p.vars p.groups)=Q at*;unfold ErR at d;generalize p.vars.length=n1 at*;generalize p.hard.length=n2 at*;generalize p.soft.length=n3 at*;generalize p.dists.length=n4 at*;generalize p.groups.length=n5 at*;have a:=zh c;clear c hp b hk hm;go_enter Tryz.func102,Tryz.ntmps102;have x0:=za a 0 rfl;have m:=za a 1 rfl;have n:=za a 2 rfl;have o:=za a 3 rfl;have q:=za a 4 rfl;go_wp2_with fail;refine(d w (yx _ _)).mono ?_;rintro e w2 ⟨er,rfl,f,i⟩;obtain⟨j,k⟩:=zk2 f i;clear f i;go_wp2_with fail;go_ret;exact⟨er,rfl,j,k⟩
theorem pv_iff:(∀k,k<4->(match k with |0=>bS p.vars|1=>bZ p.vars (p.hard++p.soft)|2=>cy p.vars p.dists|_=>aZ p.vars p.groups))↔PV p:=by
 constructor
 ·intro h;exact⟨h 0 (by decide),h 1 (by decide),h 2 (by decide),h 3 (by decide)⟩
 ·rintro⟨h1,h2,h3,h4⟩ k hk
  match k,hk with
  |0,_=>exact h1
  |1,_=>exact h2
  |2,_=>exact h3
  |3,_=>exact h4
theorem elValid (hp:PIn w p A1 A2 A3 A4 A5 c1 c2 c3 c4 c5) (j:PSm p) (hk:KW w) (hm:cM w):Calls Tryz.prog 48 #[pbV p A1 A2 A3 A4 A5 c1 c2 c3 c4 c5] w (ErR (PV p) w):=by
 have y:=zm
 have m:=zh fun(W:World) (g gp:Nat) (a:Below w.heap.size w W) (c:Box W gp (pbC p A1 A2 A3 A4 A5 c1 c2 c3 c4 c5) 27) (z:Box W g #[.func (.func 96) #[] #[.pointer (some ⟨gp,0,none⟩)],.func (.func 98) #[] #[.pointer (some ⟨gp,0,none⟩)],.func (.func 100) #[] #[.pointer (some ⟨gp,0,none⟩)],.func (.func 102) #[] #[.pointer (some ⟨gp,0,none⟩)]] 173)=>
  elChecks W g [(96,#[.pointer (some ⟨gp,0,none⟩)]),(98,#[.pointer (some ⟨gp,0,none⟩)]),(100,#[.pointer (some ⟨gp,0,none⟩)]),(102,#[.pointer (some ⟨gp,0,none⟩)])]
   (λk=>match k with |0=>bS p.vars|1=>bZ p.vars (p.hard++p.soft)|2=>cy p.vars p.dists|_=>aZ p.vars p.groups) z (show 4<=1000 by decide) (λk f b=>by
   match k,b with
   |0,b=>
    obtain rfl:=Az b;exact⟨λargs W=>by kernel_rfl,λW' h=>elValid1 (hp.below (ab a h)) j (hk.below (ab a h)) (hm.below (ab a h)) (c.below h)⟩
   |1,b=>
    obtain rfl:=Az b;exact⟨λargs W=>by kernel_rfl,λW' h=>elValid2 (hp.below (ab a h)) j (hk.below (ab a h)) (hm.below (ab a h)) (c.below h)⟩
   |2,b=>
    obtain rfl:=Az b;exact⟨λargs W=>by kernel_rfl,λW' h=>elValid3 (hp.below (ab a h)) j (hk.below (ab a h)) (hm.below (ab a h)) (c.below h)⟩
   |3,b=>
    obtain rfl:=Az b;exact⟨λargs W=>by kernel_rfl,λW' h=>elValid4 (hp.below (ab a h)) j (hk.below (ab a h)) (hm.below (ab a h)) (c.below h)⟩
   |k+4,b=>simp at b)
 have n:=zh (pv_iff (p:=p));simp only[yr,yR,yH,Nat.reduceAdd] at m;generalize(∀k,k<4->(match k with |0=>bS p.vars|1=>bZ p.vars (p.hard++p.soft)|2=>cy p.vars p.dists|_=>aZ p.vars p.groups))=PA at*;generalize PV p=PX at*;unfold ErR at m;unfold pbC at m;unfold pbV;generalize p.vars.length=n1 at*;generalize p.hard.length=n2 at*;generalize p.soft.length=n3 at*;generalize p.dists.length=n4 at*;generalize p.groups.length=n5 at*;clear hp j hk hm;go_enter Tryz.func48,Tryz.ntmps48;go_upto_region 1 with fail;generalize l:w.alloc _=w1 at*;obtain⟨u,x⟩:=zB1 l;clear l;have d:=ac w1 (.cells #[.func (.func 96) #[] #[.pointer (some ⟨w.heap.size,0,none⟩)],.func (.func 98) #[] #[.pointer (some ⟨w.heap.size,0,none⟩)],.func (.func 100) #[] #[.pointer (some ⟨w.heap.size,0,none⟩)],.func (.func 102) #[] #[.pointer (some ⟨w.heap.size,0,none⟩)]] 173);have v:=zh (Box.new w1 173 #[.func (.func 96) #[] #[.pointer (some ⟨w.heap.size,0,none⟩)],.func (.func 98) #[] #[.pointer (some ⟨w.heap.size,0,none⟩)],.func (.func 100) #[] #[.pointer (some ⟨w.heap.size,0,none⟩)],.func (.func 102) #[] #[.pointer (some ⟨w.heap.size,0,none⟩)]]);have o:=zh (x.out.below d);have i:=zh (ab u d);clear d;go_wp2_with fail;refine(m _ _ _ i o v).mono ?_;rintro e w2 ⟨er,rfl,q,r⟩;have s:=zh q;have t:=zh (ab i r);clear q r;go_wp2_with fail;go_ret;exact⟨er,rfl,s.out.trans n,t⟩
end
def dY (l:List Vr):Nat->List Int
 |0=>[]
 |k+1=>if bL l (k:Nat)=true then dY l k++[(k:Int)] else dY l k
theorem gh (l:List Vr):∀k,(dY l k).length<=k
 |0=>yq _
 |k+1=>by
  have:=gh l k;unfold dY
  split
  ·rw[yu,y7];omega
  ·omega
theorem fZ (l:List Vr):∀k,∀i∈dY l k,∃j:Nat,i=j/\j<k/\bL l i=true
 |0,i,h=>by cases h
 |k+1,i,h=>by
  unfold dY at h
  split at h
  ·rename_i hr;rcases AQ.1 h with h|h
   ·obtain⟨j,e,b,a⟩:=fZ l k i h;exact⟨j,e,by omega,a⟩
   ·rw[AW.1 h];exact⟨k,rfl,by omega,hr⟩
  ·obtain⟨j,e,b,a⟩:=fZ l k i h;exact⟨j,e,by omega,a⟩
theorem eF {l:List Vr} {k:Nat} (h:k<l.length):bL l (k:Nat)=decide ((l.getD k vr0).mode≠0):=by
 unfold bL;rw[yB (show(0:Int)<=(k:Int) by omega),yB (show(k:Int)<l.length by omega),y5];rfl
def fU (l:List Vr) (r:List Int):Int:=r.foldl (λn i=>n+(l.getD i.toNat vr0).width) 0
theorem pY (l:List Vr):∀k,k<=l.length->fU l (dY l k)=aU (l.take k)
 |0,_=>rfl
 |k+1,h=>by
  rw[iU (by omega)];have ih:=pY l k (by omega);have hm:=eF (l:=l) (k:=k) (by omega);unfold dY gX;rw[hm]
  by_cases a:(l.getD k vr0).mode≠0
  ·rw[yB a,yz rfl,yz a];unfold fU at ih⊢;rw[BA,ih];rfl
  ·rw[yv a,yw (by simp),yw a,ih,Int.add_zero]
section
variable {w:World} {p:Pb} {A1 A2 A3 A4 A5:Option Addr} {c1 c2 c3 c4 c5:Nat}
theorem evC (hp:PIn w p A1 A2 A3 A4 A5 c1 c2 c3 c4 c5) (b:PSm p) (hk:KW w) (hm:cM w) (c:PV p):EvC w (pbV p A1 A2 A3 A4 A5 c1 c2 c3 c4 c5):=λW a=>
 (elValid (hp.below a) b (hk.below a) (hm.below a)).mono λe w' ⟨er,h1,h2,h3⟩=>⟨by rw[h1,h2.2 c],h3⟩
def IlR (w:World) (l:List Int) (e:Ending) (w':World):Prop:=∃v,e= .returned v/\IL w' v l/\Below w.heap.size w w'
theorem xV (hp:PIn w p A1 A2 A3 A4 A5 c1 c2 c3 c4 c5) (hs:PSm p) (hE:EvC w (pbV p A1 A2 A3 A4 A5 c1 c2 c3 c4 c5)):Calls Tryz.prog 43 #[pbV p A1 A2 A3 A4 A5 c1 c2 c3 c4 c5] w (IlR w (dY p.vars p.vars.length)):=by
 obtain⟨i0,hi,E,G,H⟩:=Bb jz;obtain⟨HI,S,U,V,CV⟩:=zk5 hi E G H hE;have CR:=zh fun(W:World) (i:Int) (h:Below w.heap.size w W)=>oG W p.vars i A1 A2 A3 A4 A5 c1 p.hard.length c2 p.soft.length c3 p.dists.length c4 p.groups.length c5 (hp.v.below h);obtain⟨T,y⟩:=zv (dY p.vars);have P:Hid (T 0=[]):=zh (by rw[y];rfl);have R:Hid (∀k:Nat,T (k+1)=if bL p.vars (k:Nat)=true then T k++[(k:Int)] else T k):=zh λk=>by rw[y];rfl
 have Q:Hid (∀k,(T k).length<=k):=zh λk=>by rw[y];exact gh _ k
 rw[<-y];have ab:=hs.nv;unfold pbV at CV⊢;generalize p.vars.length=n1 at*;generalize p.hard.length=n2 at*;generalize p.soft.length=n3 at*;generalize p.dists.length=n4 at*;generalize p.groups.length=n5 at*;clear hp hs hE y hi E G H;go_enter Tryz.func43,Tryz.ntmps43;go_upto_region 1 with fail;generalize I:w.alloc _=w1 at*;obtain⟨d,b⟩:=zB1 I;clear I;have c:=za b 0 rfl;have f:=za b 1 rfl;have g:=za b 2 rfl;have j:=za b 3 rfl;have l:=za b 4 rfl;go_wp2_with fail;refine(CV w1 d).mono ?_;rintro e w2 ⟨rfl,m⟩;clear c f g j l;replace b:=zb b m;replace d:=zb d m;clear m;have c:=za b 0 rfl;go_wp2_with fail;clear c;have s:=zh (OG.nil dB w2 w.heap.size 0 3 (by decide) (yt _))
 go_loopw [3,11] (λsl i wr=>∃k:Nat,k<=n1/\i= .int .i64 k/\OG dB wr w.heap.size 0 3 sl (T k)/\Box wr w.heap.size #[.slice A1 n1 c1,.slice A2 n2 c2,.slice A3 n3 c3,.slice A4 n4 c4,.slice A5 n5 c5] 27/\Below w.heap.size w wr) (λ_ i _=>n1-(intOf i).toNat)
 case atStart=>exact⟨0,yt _,rfl,by rw[P.out];exact s,b,d⟩
 case round=>
  obtain⟨k,hk,rfl,D,hx,m⟩:=hrel;clear d b s;obtain⟨d,b,a⟩:=zk3 m hx D;clear m hx D;obtain⟨A6,c6,rfl⟩:=a.out.slice
  by_cases aa:k<n1
  ·have A:(k:Int)<n1:=by omega
   have k0:(0:Int)<=(k:Int):=by omega
   have K:=zh λW h=>CR.out W (k:Nat) h;have t:=zh (R k);have Z:=Q.out k;generalize bL p.vars (k:Nat)=rv at*;obtain⟨tl,o⟩:=zv ((T k).length);have u:=zh o;rw[<-o] at a Z⊢;clear o;have c:=za b 0 rfl;have f:=za b 1 rfl;have g:=za b 2 rfl;have j:=za b 3 rfl;have l:=za b 4 rfl;go_wp2_with fail;refine(K _ d).mono ?_;rintro e J ⟨rfl,m⟩;replace a:=zb a m;clear c f g j l;replace b:=zb b m;replace d:=zb d m;clear m;cases rv
   ·have r:Hid (T (k+1)=T k):=zh (by rw[t.out,yw (by simp)]);go_wp2_with fail;go_roundw
    ·exact⟨k+1,by omega,by go_num,by rw[r.out];exact a,b,d⟩
    ·simp[intOf];omega
   ·have r:Hid (T (k+1)=T k++[(k:Int)]):=zh (by rw[t.out,yz rfl]);have q:=ac J (.cells #[.int .i64 (k:Nat)] 3);have N:=zh (Rs.one (φ:=dB) (w:=J) (F:=Ty (J.alloc (.cells #[.int .i64 (k:Nat)] 3)) 0 dB.ts) (x:=(k:Int)) (us:=[.int .i64 (k:Nat)]) rfl 3);replace a:=zb a q;replace b:=zb b q;replace d:=zb d q;clear q;go_wp2_with(at_builtin;refine aC (φ:=dB) (T:=3) (B:=w.heap.size) (C:=0) (xs:=T k) (ys:=[(k:Int)]) rfl _ _ 32 rfl i0 (.int .i64 0) 8 Tryz.underlying32 HI S U V rfl rfl a (.slice (some ⟨J.heap.size,0,none⟩) 1 1) rfl N ?c1 ?c2 ?c3 ?_)
    case c1=>simp only[yr,yR];rw[<-u.out];omega
    case c2=>simp only[yr,yR];rw[<-u.out];unfold maxLen;omega
    case c3=>exact d.out.size
    intro v' w7 n z;have X:=zh (a.out.boxKept z.out b (.inl (by decide)));have L:=zh (a.out.belowG z.out d d.out.size (yq _));rw[<-r.out] at n;obtain⟨A7,c7,rfl⟩:=n.out.slice;go_wp2_with fail;go_roundw
    ·exact⟨k+1,by omega,by go_num,n.out,X,L⟩
    ·simp[intOf];omega
  ·have A:¬(k:Int)<n1:=by omega
   have Y:k=n1:=by omega
   rw[Y] at a⊢;have M:=zh a.out.il;generalize(T n1).length=tl at*;clear a;go_wp2_with fail;go_ret;exact⟨_,rfl,M,d⟩
theorem ue (hp:PIn w p A1 A2 A3 A4 A5 c1 c2 c3 c4 c5) (hs:PSm p) (hE:EvC w (pbV p A1 A2 A3 A4 A5 c1 c2 c3 c4 c5)) (hv:bS p.vars):Calls Tryz.prog 13 #[pbV p A1 A2 A3 A4 A5 c1 c2 c3 c4 c5] w λe w'=>e= .returned (.int .i64 (aU p.vars))/\Below w.heap.size w w':=by
 have L:=zh fun(W:World) (h:Below w.heap.size w W)=>xV (hp.below h) hs (λW' h'=>hE W' (ab h h'));unfold IlR at L;have HV:=zh hp.v;have g:=zh (fZ p.vars p.vars.length);have Z:=gh p.vars p.vars.length;have Y:=hs.nv;have u:=zh λv h=>(hv.ok v h).2.1;have HW:Hid (fU p.vars ((dY p.vars p.vars.length).take (dY p.vars p.vars.length).length)=aU p.vars):=zh (by rw[Ay,pY _ _ (yq _),Ay])
 have l:Hid (∀k,k<(dY p.vars p.vars.length).length->fU p.vars ((dY p.vars p.vars.length).take (k+1))=fU p.vars ((dY p.vars p.vars.length).take k)+(p.vars.getD ((dY p.vars p.vars.length).getD k 0).toNat vr0).width):=zh λk hk=>by
  unfold fU;exact lY hk
 generalize dY p.vars p.vars.length=R at*;obtain⟨n1,o⟩:=zv (p.vars.length);have HN:=zh o;obtain⟨m,hm⟩:=zv (R.length);have M:=zh hm;have ad:m<=1000:=by omega
 rw[<-hm] at HW l
 have t:Hid (∀k,k<=m->0<=fU p.vars (R.take k)/\fU p.vars (R.take k)<=8*k):=zh λk=>by
  induction k with
  |zero=>intro _;exact⟨Int.le_refl _,Int.le_refl _⟩
  |succ k ih=>
   intro hk;have h1:=ih (by omega);rw[l.out k (by omega)];obtain⟨j,e,V,_⟩:=g.out _ (getD_in 0 (show k<R.length by rw[<-M.out];omega));have h2:=u.out _ (getD_in vr0 (show(R.getD k 0).toNat<p.vars.length by rw[e];simpa using V));omega
 unfold pbV at L⊢;rw[<-o] at L HV Y g⊢;generalize p.hard.length=n2 at*;generalize p.soft.length=n3 at*;generalize p.dists.length=n4 at*;generalize p.groups.length=n5 at*;generalize aU p.vars=B at*;clear hp hs hE hv o hm Z u;go_enter Tryz.func13,Tryz.ntmps13;go_upto_region 1 with fail;generalize K:w.alloc _=w1 at*;obtain⟨r,d⟩:=zB1 K;clear K;have x:=za d 0 rfl;have y:=za d 1 rfl;have z:=za d 2 rfl;have A:=za d 3 rfl;have C:=za d 4 rfl;go_wp2_with fail;refine(L w1 r).mono ?_;rintro e w2 ⟨v,rfl,U,Q⟩;replace d:=zb d Q;replace r:=zb r Q;clear Q;obtain⟨A6,c6,rfl,T,E⟩:=U;have f:=zh E;rw[<-M.out] at f T⊢;clear E;have P:Hid (fU p.vars (R.take 0)=0):=zh rfl;clear x y z A C;go_wp2_with fail
 go_loopw [3,9] (λs i wr=>∃k:Nat,k<=m/\i= .int .i64 k/\s= .int .i64 (fU p.vars (R.take k))/\w2=wr) (λ_ i _=>m-(intOf i).toNat)
 case atStart=>exact⟨0,yt _,rfl,by rw[P.out],rfl⟩
 case round=>
  obtain⟨k,hk,rfl,rfl,rfl⟩:=hrel
  by_cases n:k<m
  ·have H:(k:Int)<m:=by omega
   have k0:(0:Int)<=(k:Int):=by omega
   obtain⟨a1,rfl,X,I⟩:=f.out (by omega);have y0:=I k n;have F:=getD_in 0 (show k<R.length by rw[<-M.out];exact n);obtain⟨j,e,V, -⟩:=g.out _ F;have a:=zh (l k n);have S:=t.out k hk;have b:=t.out (k+1) (by omega);rw[a.out] at b;obtain⟨aa,ac,e1,_,J⟩:=HV.out.vrs;obtain⟨bv,ov,e2,D,c⟩:=J j (by rw[<-HN.out];exact V)
   have e3:A1=some ⟨bv,ov,none⟩:=by
    simp only[yA] at e1;rw[e1.1,e2]
   subst e3;have v1:=(r.out.cell D).trans (c 1 _ rfl);rw[e] at y0 a b;rw[y5] at a b;generalize p.vars.getD j vr0=vr at*;obtain⟨nm,wd,md,vl⟩:=vr;simp only at v1 a b;have j0:(0:Int)<=(j:Int):=by omega
   have j1:(j:Int)<(n1:Int):=by omega
   obtain⟨s1,q⟩:=zv (fU p.vars (R.take (k+1)));have N:=zh q;rw[<-q] at a;generalize fU p.vars (R.take k)=s0 at*;have q1:s0+wd<=9000:=by omega
   have q2:0<=s0+wd:=by omega
   clear q e1 e2 J D c X I F e S b;have x0:=za d 0 rfl;go_wp2_with fail;go_roundw
   ·exact⟨k+1,by omega,by go_num,by rw[<-N.out,a.out]<;>go_num,by trivial⟩
   ·simp[intOf];omega
  ·have H:¬(k:Int)<m:=by omega
   have G:k=m:=by omega
   rw[G,HW.out];clear f G;go_wp2_with fail;go_ret;exact⟨rfl,r⟩
end
def eK (l:List Vr) (a:List Nat) (k:Nat):List Sg:=(List.range k).map λi=>((l.getD i vr0).name,a.getD i 0)
theorem iQ (l:List Vr) (a:List Nat) (k:Nat):(eK l a k).length=k:=by simp[eK]
theorem xS (l:List Vr) (a:List Nat) (k:Nat):eK l a (k+1)=eK l a k++[((l.getD k vr0).name,a.getD k 0)]:=by
 unfold eK;rw[List.range_succ,Bx];rfl
theorem isig:(Tryz.prog.info? 170).map (λi=>(i.zero,i.size,i.bytes))=some (some (.agg #[.string ⟨#[]⟩,.int .i64 0]),2,24):=by kernel_rfl
def SEn (ga b o k:Nat) (c:ByteArray) (d e f:Int) (a:Nat) (W:World):Prop:=Box W ga #[.string c,.int .i64 d,.int .i64 e,.int .i64 f] 98/\W.cell? ⟨b,o+k,none⟩=some (.int .i64 (a:Nat))
def EnR (w:World) (l:List Sg) (e:Ending) (w':World):Prop:=∃v,e= .returned v/\OG sgR w' w.heap.size 0 170 v l/\Below w.heap.size w w'
theorem elEnv {w:World} {p:Pb} {A1 A2 A3 A4 A5:Option Addr} {c1 c2 c3 c4 c5:Nat} (hp:PIn w p A1 A2 A3 A4 A5 c1 c2 c3 c4 c5) (hs:PSm p) (a:List Nat) (va:Value) (ha:IL w va (nI a)) (hl:a.length=p.vars.length):
  Calls Tryz.prog 92 #[pbV p A1 A2 A3 A4 A5 c1 c2 c3 c4 c5,va] w (EnR w (eK p.vars a p.vars.length)):=by
 obtain⟨i0,hi,af,ag,ah⟩:=Bb isig;obtain⟨HI,ak,al,am⟩:=zk4 hi af ag ah;have HV:=zh hp.v;have ao:=hs.nv;have Q:=zh (xS p.vars a);have H:=zh (iQ p.vars a);have P:Hid (eK p.vars a 0=[]):=zh rfl;obtain⟨T,hT⟩:=zv (eK p.vars a);rw[<-hT] at Q H P⊢
 have u:Hid (∀k,k<p.vars.length->∃b o c,va= .slice (some ⟨b,o,none⟩) p.vars.length c/\b<w.heap.size/\w.cell? ⟨b,o+k,none⟩=some (.int .i64 (a.getD k 0:Nat))):=zh λk hk=>by
  rcases ha.form with⟨A,c,rfl,hq⟩|⟨b,o,c,rfl,hc, -,E,Y⟩
  ·have h1:(nI a).length=0:=by rw[hq];rfl
   rw[aF] at h1;omega
  ·rw[aF] at Y⊢;exact⟨b,o,c,by rw[hl],E,by rw[Y k (by omega),eO]⟩
 obtain⟨Aa,ca,J, -, -⟩:=ha;rw[aF,hl] at J;obtain⟨n1,I⟩:=zv (p.vars.length);have HN:=zh I;unfold pbV;rw[<-I] at HV u J ao⊢;subst J;generalize p.hard.length=n2 at*;generalize p.soft.length=n3 at*;generalize p.dists.length=n4 at*;generalize p.groups.length=n5 at*;have g0:((n1:Int) !=(n1:Int))=false:=by simp
 clear hp hs hl I hT hi af ag ah;go_enter Tryz.func92,Tryz.ntmps92;go_upto_region 1 with fail;generalize t:w.alloc _=w1 at*;obtain⟨g,XP⟩:=zB1 t;clear t;have U:=za XP 0 rfl;go_wp2_with fail;clear U;have L:=zh (OG.nil sgR w1 w.heap.size 0 170 (by decide) (yt _));clear XP
 go_loopw [5,17] (λsl i wr=>∃k:Nat,k<=n1/\i= .int .i64 k/\OG sgR wr w.heap.size 0 170 sl (T k)/\Below w.heap.size w wr) (λ_ i _=>n1-(intOf i).toNat)
 case atStart=>exact⟨0,yt _,rfl,by rw[P.out];exact L,g⟩
 case round=>
  obtain⟨k,hk,rfl,aa,hb⟩:=hrel;clear g L w1;obtain⟨g,d⟩:=zk2 hb aa;clear hb aa;obtain⟨A6,c6,rfl⟩:=d.out.slice;rw[H.out] at d⊢
  by_cases E:k<n1
  ·have Z:(k:Int)<n1:=by omega
   have k0:(0:Int)<=(k:Int):=by omega
   obtain⟨ap,aq,e1,_,ad⟩:=HV.out.vrs;obtain⟨bv,ov,e2,n,h⟩:=ad k (by rw[<-HN.out];exact E)
   have e3:A1=some ⟨bv,ov,none⟩:=by
    simp only[yA] at e1;rw[e1.1,e2]
   subst e3;have v0:=(g.out.cell n).trans (h 0 _ rfl);have v1:=(g.out.cell n).trans (h 1 _ rfl);have v2:=(g.out.cell n).trans (h 2 _ rfl);have v3:=(g.out.cell n).trans (h 3 _ rfl);rw[yU] at v0;obtain⟨b,o,c',e4,j,V⟩:=u.out k E;obtain⟨rfl,rfl⟩:Aa=some ⟨b,o,none⟩/\ca=c':=by simpa using e4
   have ai:=zh ((g.out.cell j).trans V);have N:=zh (Q k);have K:=zh (H k);generalize p.vars.getD k vr0=vr at*;obtain⟨m,x2,x3,x4⟩:=vr;simp only at v0 v1 v2 v3 N;generalize a.getD k 0=l at*;have r:=j;clear e1 e2 e4 ad n h V HV u j;go_upto_region 7 with fail;clear v0 v1 v2 v3;replace d:=zh (d.out.below (ac wr (.cells #[.string m,.int .i64 x2,.int .i64 x3,.int .i64 x4] 98)));have f:Hid ((wr.alloc (.cells #[.string m,.int .i64 x2,.int .i64 x3,.int .i64 x4] 98)).cell? ⟨b,o+k,none⟩=some (.int .i64 (l:Nat))):=zh (((ac wr (.cells #[.string m,.int .i64 x2,.int .i64 x3,.int .i64 x4] 98)).cell (yE r g.out.size)).trans ai);generalize t:wr.alloc _=w3 at*;obtain⟨X,y⟩:=zA1 t;clear t;replace g:=zb g X;clear X;generalize wr.heap.size=ga at*;refine Ab (S:=SEn ga b o k m x2 x3 x4 l) (by kernel_rfl) ⟨y,f⟩ (λhS=> ?_);replace d:=zh (d.out.below (ae (w0:=w3) (w3.drawn+1)));replace y:=zh (y.out.below (ae (w0:=w3) (w3.drawn+1)));replace f:Hid (w3.drew.cell? ⟨b,o+k,none⟩=some (.int .i64 (l:Nat))):=f;replace g:=zh (ab g (ae (w0:=w3) (w3.drawn+1)));change Hid (OG sgR w3.drew _ _ _ _ _) at d;change Hid (Box w3.drew _ _ _) at y;change Hid (Below _ _ w3.drew) at g;generalize w3.drew=w4 at*;refine zt 0 (.slice A6 k c6) rfl (Or.inl ⟨by rfl,λW z=>by go_simp⟩) ?_;simp only[zp];refine zt 1 (.pointer (some ⟨ga,0,none⟩)) rfl (Or.inl ⟨by rfl,λW z=>by go_simp⟩) ?_;simp only[zp];refine zt 2 (.string m) rfl (Or.inl ⟨by rfl,λW z=>by have q:=z.1.at_ 0 _ rfl;go_simp⟩) ?_;simp only[zp];refine zt 3 (.slice (some ⟨b,o,none⟩) n1 ca) rfl (Or.inl ⟨by rfl,λW z=>by go_simp⟩) ?_;simp only[zp];refine zt 4 (.int .i64 (k:Nat)) rfl (Or.inl ⟨by rfl,λW z=>by go_simp⟩) ?_;simp only[zp];refine zt 5 (.pointer (some ⟨b,o+k,none⟩)) rfl (Or.inl ⟨by rfl,λW z=>by go_simp⟩) ?_;simp only[zp];refine zt 6 (.int .i64 (l:Nat)) rfl (Or.inl ⟨by rfl,λW z=>by have q:=z.2;go_simp⟩) ?_;simp only[zp];refine zt 7 (.agg #[.string m,.int .i64 (l:Nat)]) rfl (Or.inl ⟨by rfl,λW z=>by go_simp⟩) ?_;simp only[zp];clear hS;refine aB (i:=8) (by kernel_rfl) rfl ?_;go_wp2_with fail;have j:=ac w4 (.cells #[.string m,.int .i64 (l:Nat)] 170);have M:=zh (Rs.one (φ:=sgR) (w:=w4) (F:=Ty (w4.alloc (.cells #[.string m,.int .i64 (l:Nat)] 170)) 0 sgR.ts) (x:=(m,l)) (us:=[.string m,.int .i64 (l:Nat)]) rfl 170);replace d:=zb d j;replace y:=zb y j;replace f:Hid ((w4.alloc (.cells #[.string m,.int .i64 (l:Nat)] 170)).cell? ⟨b,o+k,none⟩=some (.int .i64 (l:Nat))):=zh ((j.cell (yE r g.out.size)).trans f);replace g:=zb g j;refine⟨rfl,⟨y,f⟩, ?_⟩;refine aB (i:=9) (by kernel_rfl) rfl ?_;refine aC (φ:=sgR) (T:=170) (B:=w.heap.size) (C:=0) (xs:=T k) (ys:=[(m,l)]) rfl _ _ 167 rfl i0 (.agg #[.string ⟨#[]⟩,.int .i64 0]) 24 Tryz.underlying167 HI ak al am rfl rfl d (.slice (some ⟨w4.heap.size,0,none⟩) 1 1) rfl M ?c1 ?c2 ?c3 ?_
   case c1=>simp only[yr,yR];rw[K.out];omega
   case c2=>simp only[yr,yR];rw[K.out];unfold maxLen;omega
   case c3=>exact g.out.size
   intro v' w7 s D
   have G:Hid (w7.cell? ⟨b,o+k,none⟩=some (.int .i64 (l:Nat))):=zh (by
    rw[<-f.out]
    exact World.cell?_of_block (a:=⟨b,o+k,none⟩) (D.out.block b (yE r g.out.size) λe=>by have:=d.out.blk b e.symm;omega))
   have R:=zh (d.out.boxKept D.out y (.inl (by decide)));have aj:=zh (d.out.belowG D.out g g.out.size (yq _));rw[<-N.out] at s;obtain⟨A7,c7,rfl⟩:=s.out.slice;refine(show noQ _ _ _ _ from⟨rfl,⟨R,G⟩, ?_⟩);clear D d g y M j f;simp only[zp];refine aB (i:=10) (by kernel_rfl) rfl ?_;go_wp2_with fail;refine⟨rfl,⟨R,G⟩,AN (by kernel_rfl) ?_ _⟩;go_wp2_with fail;go_roundw
   ·exact⟨k+1,by omega,by go_num,s.out,aj⟩
   ·simp[intOf];omega
  ·have Z:¬(k:Int)<n1:=by omega
   have an:k=n1:=by omega
   rw[an] at d⊢;clear HV u;go_wp2_with fail;go_ret;exact⟨_,rfl,d,g⟩
section
open Go.RowKit
instance {w w':World} {P Q:Prop} [Zm w w' P Q]:Zm w w' (Hid P) (Hid Q):=⟨λhb h=>Zm.mv (P:=P) hb h⟩
end
end
end Go.Proofs.YtdahpdnhkflnnaaGreatDoor
