/-
  Contracts and laws for the law TopChoices, part 7 of 14; made small by a program of mine out of longer texts.
-/
import Derived.Test.YtdahpdnhkflnnaaGreatDoorZ06
namespace Go.Proofs.YtdahpdnhkflnnaaGreatDoor
set_option linter.unusedVariables false
set_option linter.unusedSimpArgs false
set_option linter.defProp false
set_option maxRecDepth 100000
set_option maxHeartbeats 64000000
section
open Go.RowKit Go.Maps
theorem exNode (w:World) (e:Ex) (A:Option Addr) (c:Nat) (z:ExZ e) (hk:KW w) (hm:cM w):Calls Tryz.prog 198 #[exV e (.slice A e.args.length c)] w λr w'=>r= .returned (.int .i64 (aT e))/\Below w.heap.size w w':=by
 have p:=zh λW=>ub W e A c z.len;have H:=zh λW o s=>exIsVar e.name W z.name o s;have y:=zh λW o=>kN e.name W z.name o;obtain⟨t,I⟩:=zk2 hk hm
 have l:Hid (aT e=if e.op<1\/25<e.op then 1 else if(e.op=1/\(e.n<0\/65535<e.n))\/(e.op≠1/\e.n≠0) then 1 else if(¬(e.op=2\/e.op=3\/e.op=24)/\e.name.size≠0)\/lR e.op e.args.length=false then 1
  else if(e.op=2/\lI e.name=false)\/((e.op=3\/e.op=24)/\aN e.name=false) then 7 else 0):=zh rfl
 have q:=(et e.name).1;generalize aT e=r at*;generalize lI e.name=vb at*;generalize aN e.name=nb at*;generalize lR e.op e.args.length=ob at*;unfold exV at p⊢;generalize e.args.length=m at*;generalize e.op=op at*;generalize e.n=n at*;generalize e.name=em at*;clear z hk hm
 by_cases J:op<1
 ·have j:Hid (r=1):=zh (by rw[l.out];exact yz (.inl J));clear l;have C:(op==2)=false:=by simpa using(by omega:¬op=2)
  have D:(op==3)=false:=by simpa using(by omega:¬op=3)
  have E:(op==24)=false:=by simpa using(by omega:¬op=24)
  go_enter Tryz.func198,Tryz.ntmps198;go_upto_region 1 with fail;generalize h:w.alloc _=w1 at*;obtain⟨i,a⟩:=zB1 h;clear h;have b:=za a 0 rfl;have d:=za a 1 rfl;have f:=za a 2 rfl;have g:=za a 3 rfl;go_wp2_with fail;go_ret;exact⟨aS j.out.symm,i⟩
 by_cases K:op>25
 ·have j:Hid (r=1):=zh (by rw[l.out];exact yz (.inr K));clear l;have C:(op==2)=false:=by simpa using(by omega:¬op=2)
  have D:(op==3)=false:=by simpa using(by omega:¬op=3)
  have E:(op==24)=false:=by simpa using(by omega:¬op=24)
  go_enter Tryz.func198,Tryz.ntmps198;go_upto_region 1 with fail;generalize h:w.alloc _=w1 at*;obtain⟨i,a⟩:=zB1 h;clear h;have b:=za a 0 rfl;have d:=za a 1 rfl;have f:=za a 2 rfl;have g:=za a 3 rfl;go_wp2_with fail;go_ret;exact⟨aS j.out.symm,i⟩
 rw[yw (by omega)] at l
 by_cases o:op=1
 ·subst o
  by_cases c1:n<0
  ·have j:Hid (r=1):=zh (by rw[l.out];exact yz (.inl ⟨rfl,.inl c1⟩));clear l;go_enter Tryz.func198,Tryz.ntmps198;go_upto_region 1 with fail;generalize h:w.alloc _=w1 at*;obtain⟨i,a⟩:=zB1 h;clear h;have b:=za a 0 rfl;have d:=za a 1 rfl;have f:=za a 2 rfl;have g:=za a 3 rfl;go_wp2_with fail;go_ret;exact⟨aS j.out.symm,i⟩
  by_cases c2:n>65535
  ·have j:Hid (r=1):=zh (by rw[l.out];exact yz (.inl ⟨rfl,.inr c2⟩));clear l;go_enter Tryz.func198,Tryz.ntmps198;go_upto_region 1 with fail;generalize h:w.alloc _=w1 at*;obtain⟨i,a⟩:=zB1 h;clear h;have b:=za a 0 rfl;have d:=za a 1 rfl;have f:=za a 2 rfl;have g:=za a 3 rfl;go_wp2_with fail;go_ret;exact⟨aS j.out.symm,i⟩
  rw[yw (by omega)] at l
  by_cases c3:em.size=0
  ·rw[yB c3] at q;cases ob
   ·have j:Hid (r=1):=zh (by rw[l.out];exact yz (.inr rfl));clear l;go_enter Tryz.func198,Tryz.ntmps198;go_upto_region 1 with fail;generalize h:w.alloc _=w1 at*;obtain⟨i,a⟩:=zB1 h;clear h;have b:=za a 0 rfl;have d:=za a 1 rfl;have f:=za a 2 rfl;have g:=za a 3 rfl;go_wp2_with fail;refine(p w1).mono ?_;rintro e w2 ⟨rfl,k⟩;clear b d f g;replace a:=zb a k;replace i:=zb i k;clear k;have b:=za a 0 rfl;have d:=za a 1 rfl;have f:=za a 2 rfl;have g:=za a 3 rfl;go_wp2_with fail;go_ret;exact⟨aS j.out.symm,i⟩
   ·have j:Hid (r=0):=zh (by rw[l.out];rw[yw (by simp[c3]),yw (by simp)]);clear l;go_enter Tryz.func198,Tryz.ntmps198;go_upto_region 1 with fail;generalize h:w.alloc _=w1 at*;obtain⟨i,a⟩:=zB1 h;clear h;have b:=za a 0 rfl;have d:=za a 1 rfl;have f:=za a 2 rfl;have g:=za a 3 rfl;go_wp2_with fail;refine(p w1).mono ?_;rintro e w2 ⟨rfl,k⟩;clear b d f g;replace a:=zb a k;replace i:=zb i k;clear k;have b:=za a 0 rfl;have d:=za a 1 rfl;have f:=za a 2 rfl;have g:=za a 3 rfl;go_wp2_with fail;go_ret;exact⟨aS j.out.symm,i⟩
  ·rw[yv c3] at q;have j:Hid (r=1):=zh (by rw[l.out];exact yz (.inl ⟨by decide,c3⟩));clear l;go_enter Tryz.func198,Tryz.ntmps198;go_upto_region 1 with fail;generalize h:w.alloc _=w1 at*;obtain⟨i,a⟩:=zB1 h;clear h;have b:=za a 0 rfl;have d:=za a 1 rfl;have f:=za a 2 rfl;have g:=za a 3 rfl;go_wp2_with fail;go_ret;exact⟨aS j.out.symm,i⟩
 have F:(op==1)=false:=by simpa using o
 have G:(op !=1)=true:=by simpa using o
 by_cases c1:n=0
 case neg=>
  have B:Hid (r=1):=zh (by rw[l.out];exact yz (.inr ⟨o,c1⟩));clear l;have l:=B;have L:(n !=0)=true:=by simpa using c1
  clear o
  by_cases s:op=2
  ·subst s;have j:=l;clear l;go_enter Tryz.func198,Tryz.ntmps198;go_upto_region 1 with fail;generalize h:w.alloc _=w1 at*;obtain⟨i,a⟩:=zB1 h;clear h;have b:=za a 0 rfl;have d:=za a 1 rfl;have f:=za a 2 rfl;have g:=za a 3 rfl;go_wp2_with fail;go_ret;exact⟨aS j.out.symm,i⟩
  by_cases u:op=3
  ·subst u;have j:=l;clear l;go_enter Tryz.func198,Tryz.ntmps198;go_upto_region 1 with fail;generalize h:w.alloc _=w1 at*;obtain⟨i,a⟩:=zB1 h;clear h;have b:=za a 0 rfl;have d:=za a 1 rfl;have f:=za a 2 rfl;have g:=za a 3 rfl;go_wp2_with fail;go_ret;exact⟨aS j.out.symm,i⟩
  by_cases v:op=24
  ·subst v;have j:=l;clear l;go_enter Tryz.func198,Tryz.ntmps198;go_upto_region 1 with fail;generalize h:w.alloc _=w1 at*;obtain⟨i,a⟩:=zB1 h;clear h;have b:=za a 0 rfl;have d:=za a 1 rfl;have f:=za a 2 rfl;have g:=za a 3 rfl;go_wp2_with fail;go_ret;exact⟨aS j.out.symm,i⟩
  have C:(op==2)=false:=by simpa using s
  have D:(op==3)=false:=by simpa using u
  have E:(op==24)=false:=by simpa using v
  have j:=l;clear l;go_enter Tryz.func198,Tryz.ntmps198;go_upto_region 1 with fail;generalize h:w.alloc _=w1 at*;obtain⟨i,a⟩:=zB1 h;clear h;have b:=za a 0 rfl;have d:=za a 1 rfl;have f:=za a 2 rfl;have g:=za a 3 rfl;go_wp2_with fail;go_ret;exact⟨aS j.out.symm,i⟩
 case pos=>
  have L:(n !=0)=false:=by simpa using c1
  rw[yw (by omega)] at l;clear c1
  by_cases s:op=2
  ·subst s;clear F G o;cases ob
   ·have j:Hid (r=1):=zh (by rw[l.out];exact yz (.inr rfl));clear l;go_enter Tryz.func198,Tryz.ntmps198;go_upto_region 1 with fail;generalize h:w.alloc _=w1 at*;obtain⟨i,a⟩:=zB1 h;clear h;have b:=za a 0 rfl;have d:=za a 1 rfl;have f:=za a 2 rfl;have g:=za a 3 rfl;go_wp2_with fail;refine(p w1).mono ?_;rintro e w2 ⟨rfl,k⟩;clear b d f g;replace a:=zb a k;replace i:=zb i k;clear k;have b:=za a 0 rfl;have d:=za a 1 rfl;have f:=za a 2 rfl;have g:=za a 3 rfl;go_wp2_with fail;go_ret;exact⟨aS j.out.symm,i⟩
   ·rw[yw (by simp)] at l;cases vb
    ·have j:Hid (r=7):=zh (by rw[l.out];exact yz (by simp));clear l;go_enter Tryz.func198,Tryz.ntmps198;go_upto_region 1 with fail;generalize h:w.alloc _=w1 at*;obtain⟨i,a⟩:=zB1 h;clear h;have b:=za a 0 rfl;have d:=za a 1 rfl;have f:=za a 2 rfl;have g:=za a 3 rfl;go_wp2_with fail;refine(p w1).mono ?_;rintro e w2 ⟨rfl,k⟩;clear b d f g;replace a:=zb a k;replace i:=zb i k;clear k;have b:=za a 0 rfl;have d:=za a 1 rfl;have f:=za a 2 rfl;have g:=za a 3 rfl;go_wp2_with fail;refine(H w2 (t.out.below i) (I.out.below i)).mono ?_;rintro e x ⟨rfl,k⟩;clear b d f g;replace a:=zb a k;replace i:=zb i k;clear k;have b:=za a 0 rfl;have d:=za a 1 rfl;have f:=za a 2 rfl;have g:=za a 3 rfl;go_wp2_with fail;go_ret;exact⟨aS j.out.symm,i⟩
    ·have j:Hid (r=0):=zh (by rw[l.out];exact yw (by simp));clear l;go_enter Tryz.func198,Tryz.ntmps198;go_upto_region 1 with fail;generalize h:w.alloc _=w1 at*;obtain⟨i,a⟩:=zB1 h;clear h;have b:=za a 0 rfl;have d:=za a 1 rfl;have f:=za a 2 rfl;have g:=za a 3 rfl;go_wp2_with fail;refine(p w1).mono ?_;rintro e w2 ⟨rfl,k⟩;clear b d f g;replace a:=zb a k;replace i:=zb i k;clear k;have b:=za a 0 rfl;have d:=za a 1 rfl;have f:=za a 2 rfl;have g:=za a 3 rfl;go_wp2_with fail;refine(H w2 (t.out.below i) (I.out.below i)).mono ?_;rintro e x ⟨rfl,k⟩;clear b d f g;replace a:=zb a k;replace i:=zb i k;clear k;have b:=za a 0 rfl;have d:=za a 1 rfl;have f:=za a 2 rfl;have g:=za a 3 rfl;go_wp2_with fail;go_ret;exact⟨aS j.out.symm,i⟩
  by_cases u:op=3
  ·subst u;clear F G o;cases ob
   ·have j:Hid (r=1):=zh (by rw[l.out];exact yz (.inr rfl));clear l;go_enter Tryz.func198,Tryz.ntmps198;go_upto_region 1 with fail;generalize h:w.alloc _=w1 at*;obtain⟨i,a⟩:=zB1 h;clear h;have b:=za a 0 rfl;have d:=za a 1 rfl;have f:=za a 2 rfl;have g:=za a 3 rfl;go_wp2_with fail;refine(p w1).mono ?_;rintro e w2 ⟨rfl,k⟩;clear b d f g;replace a:=zb a k;replace i:=zb i k;clear k;have b:=za a 0 rfl;have d:=za a 1 rfl;have f:=za a 2 rfl;have g:=za a 3 rfl;go_wp2_with fail;go_ret;exact⟨aS j.out.symm,i⟩
   ·rw[yw (by simp)] at l;cases nb
    ·have j:Hid (r=7):=zh (by rw[l.out];exact yz (by simp));clear l;go_enter Tryz.func198,Tryz.ntmps198;go_upto_region 1 with fail;generalize h:w.alloc _=w1 at*;obtain⟨i,a⟩:=zB1 h;clear h;have b:=za a 0 rfl;have d:=za a 1 rfl;have f:=za a 2 rfl;have g:=za a 3 rfl;go_wp2_with fail;refine(p w1).mono ?_;rintro e w2 ⟨rfl,k⟩;clear b d f g;replace a:=zb a k;replace i:=zb i k;clear k;have b:=za a 0 rfl;have d:=za a 1 rfl;have f:=za a 2 rfl;have g:=za a 3 rfl;go_wp2_with fail;refine(y w2 (t.out.below i)).mono ?_;rintro e x ⟨rfl,k⟩;clear b d f g;replace a:=zb a k;replace i:=zb i k;clear k;have b:=za a 0 rfl;have d:=za a 1 rfl;have f:=za a 2 rfl;have g:=za a 3 rfl;go_wp2_with fail;go_ret;exact⟨aS j.out.symm,i⟩
    ·have j:Hid (r=0):=zh (by rw[l.out];exact yw (by simp));clear l;go_enter Tryz.func198,Tryz.ntmps198;go_upto_region 1 with fail;generalize h:w.alloc _=w1 at*;obtain⟨i,a⟩:=zB1 h;clear h;have b:=za a 0 rfl;have d:=za a 1 rfl;have f:=za a 2 rfl;have g:=za a 3 rfl;go_wp2_with fail;refine(p w1).mono ?_;rintro e w2 ⟨rfl,k⟩;clear b d f g;replace a:=zb a k;replace i:=zb i k;clear k;have b:=za a 0 rfl;have d:=za a 1 rfl;have f:=za a 2 rfl;have g:=za a 3 rfl;go_wp2_with fail;refine(y w2 (t.out.below i)).mono ?_;rintro e x ⟨rfl,k⟩;clear b d f g;replace a:=zb a k;replace i:=zb i k;clear k;have b:=za a 0 rfl;have d:=za a 1 rfl;have f:=za a 2 rfl;have g:=za a 3 rfl;go_wp2_with fail;go_ret;exact⟨aS j.out.symm,i⟩
  by_cases v:op=24
  ·subst v;clear F G o;cases ob
   ·have j:Hid (r=1):=zh (by rw[l.out];exact yz (.inr rfl));clear l;go_enter Tryz.func198,Tryz.ntmps198;go_upto_region 1 with fail;generalize h:w.alloc _=w1 at*;obtain⟨i,a⟩:=zB1 h;clear h;have b:=za a 0 rfl;have d:=za a 1 rfl;have f:=za a 2 rfl;have g:=za a 3 rfl;go_wp2_with fail;refine(p w1).mono ?_;rintro e w2 ⟨rfl,k⟩;clear b d f g;replace a:=zb a k;replace i:=zb i k;clear k;have b:=za a 0 rfl;have d:=za a 1 rfl;have f:=za a 2 rfl;have g:=za a 3 rfl;go_wp2_with fail;go_ret;exact⟨aS j.out.symm,i⟩
   ·rw[yw (by simp)] at l;cases nb
    ·have j:Hid (r=7):=zh (by rw[l.out];exact yz (by simp));clear l;go_enter Tryz.func198,Tryz.ntmps198;go_upto_region 1 with fail;generalize h:w.alloc _=w1 at*;obtain⟨i,a⟩:=zB1 h;clear h;have b:=za a 0 rfl;have d:=za a 1 rfl;have f:=za a 2 rfl;have g:=za a 3 rfl;go_wp2_with fail;refine(p w1).mono ?_;rintro e w2 ⟨rfl,k⟩;clear b d f g;replace a:=zb a k;replace i:=zb i k;clear k;have b:=za a 0 rfl;have d:=za a 1 rfl;have f:=za a 2 rfl;have g:=za a 3 rfl;go_wp2_with fail;refine(y w2 (t.out.below i)).mono ?_;rintro e x ⟨rfl,k⟩;clear b d f g;replace a:=zb a k;replace i:=zb i k;clear k;have b:=za a 0 rfl;have d:=za a 1 rfl;have f:=za a 2 rfl;have g:=za a 3 rfl;go_wp2_with fail;go_ret;exact⟨aS j.out.symm,i⟩
    ·have j:Hid (r=0):=zh (by rw[l.out];exact yw (by simp));clear l;go_enter Tryz.func198,Tryz.ntmps198;go_upto_region 1 with fail;generalize h:w.alloc _=w1 at*;obtain⟨i,a⟩:=zB1 h;clear h;have b:=za a 0 rfl;have d:=za a 1 rfl;have f:=za a 2 rfl;have g:=za a 3 rfl;go_wp2_with fail;refine(p w1).mono ?_;rintro e w2 ⟨rfl,k⟩;clear b d f g;replace a:=zb a k;replace i:=zb i k;clear k;have b:=za a 0 rfl;have d:=za a 1 rfl;have f:=za a 2 rfl;have g:=za a 3 rfl;go_wp2_with fail;refine(y w2 (t.out.below i)).mono ?_;rintro e x ⟨rfl,k⟩;clear b d f g;replace a:=zb a k;replace i:=zb i k;clear k;have b:=za a 0 rfl;have d:=za a 1 rfl;have f:=za a 2 rfl;have g:=za a 3 rfl;go_wp2_with fail;go_ret;exact⟨aS j.out.symm,i⟩
  have C:(op==2)=false:=by simpa using s
  have D:(op==3)=false:=by simpa using u
  have E:(op==24)=false:=by simpa using v
  by_cases c3:em.size=0
  ·rw[yB c3] at q;cases ob
   ·have j:Hid (r=1):=zh (by rw[l.out];exact yz (.inr rfl));clear l;clear o;go_enter Tryz.func198,Tryz.ntmps198;go_upto_region 1 with fail;generalize h:w.alloc _=w1 at*;obtain⟨i,a⟩:=zB1 h;clear h;have b:=za a 0 rfl;have d:=za a 1 rfl;have f:=za a 2 rfl;have g:=za a 3 rfl;go_wp2_with fail;refine(p w1).mono ?_;rintro e w2 ⟨rfl,k⟩;clear b d f g;replace a:=zb a k;replace i:=zb i k;clear k;have b:=za a 0 rfl;have d:=za a 1 rfl;have f:=za a 2 rfl;have g:=za a 3 rfl;go_wp2_with fail;go_ret;exact⟨aS j.out.symm,i⟩
   ·have j:Hid (r=0):=zh (by rw[l.out];rw[yw (by simp[c3]),yw (by omega)]);clear l;clear o;go_enter Tryz.func198,Tryz.ntmps198;go_upto_region 1 with fail;generalize h:w.alloc _=w1 at*;obtain⟨i,a⟩:=zB1 h;clear h;have b:=za a 0 rfl;have d:=za a 1 rfl;have f:=za a 2 rfl;have g:=za a 3 rfl;go_wp2_with fail;refine(p w1).mono ?_;rintro e w2 ⟨rfl,k⟩;clear b d f g;replace a:=zb a k;replace i:=zb i k;clear k;have b:=za a 0 rfl;have d:=za a 1 rfl;have f:=za a 2 rfl;have g:=za a 3 rfl;go_wp2_with fail;go_ret;exact⟨aS j.out.symm,i⟩
  ·rw[yv c3] at q;have j:Hid (r=1):=zh (by rw[l.out];exact yz (.inl ⟨by omega,c3⟩));clear l;clear o;go_enter Tryz.func198,Tryz.ntmps198;go_upto_region 1 with fail;generalize h:w.alloc _=w1 at*;obtain⟨i,a⟩:=zB1 h;clear h;have b:=za a 0 rfl;have d:=za a 1 rfl;have f:=za a 2 rfl;have g:=za a 3 rfl;go_wp2_with fail;go_ret;exact⟨aS j.out.symm,i⟩
theorem max_two (a b m:Nat) (h:m=max a b) (ts:Array TypeId) (t:TypeId) (W:World):(Builtin.max_ ts t #[.int .i64 (a:Nat),.int .i64 (b:Nat)]).run Tryz.prog W= .ok (.int .i64 (m:Nat)) W:=by
 have e:(Builtin.max_ ts t #[.int .i64 (a:Nat),.int .i64 (b:Nat)]).run Tryz.prog W= .ok (.int .i64 (if(a:Int)<b then(b:Int) else a)) W:=by
  simp[Builtin.max_,Builtin.max2]
 rw[e];congr 2;subst h
 split<;>omega
def ICnt (w0:World) (g:Nat) (n:Nat) (W:World):Prop:=Below w0.heap.size w0 W/\Box W g #[.int .i64 (n:Nat)] 3/\w0.heap.size<=g
theorem visCnt (w0:World) (g:Nat):pT fCnt (ICnt w0 g) (λn m=>n+m<=1000) [3] w0 267 #[.pointer (some ⟨g,0,none⟩)] where
 h79:=by decide
 h191:=by decide
 below:=λ_ _ h=>h.1
 later:=λ_ _ _ h f=>⟨ab h.1 f,h.2.1.below f,h.2.2⟩
 room:=λs m e h=>by show s+1+m<=1000;omega
 enter:=λargs W=>by kernel_rfl
 call:=λs m W e x d t u y q=>by
  obtain⟨k,l,o⟩:=u;obtain⟨j,i⟩:=zk2 k l;obtain⟨A,c,rfl,w⟩:=q.slice;unfold exV;generalize e.args.length=n at*;generalize e.op=op at*;generalize e.n=en at*;generalize e.name=em at*;have z:(s:Int)<=1000:=by omega
  clear k l q y w t;go_enter Tryz.func267,Tryz.ntmps267;go_upto_region 1 with fail;have a:=ac W (.cells #[.int .i64 op,.int .i64 en,.string em,.slice A n c] 79);replace i:=zb i a;replace j:=zb j a;have r:=zh (cR.of_below [3] a);clear a;generalize W.alloc (.cells #[.int .i64 op,.int .i64 en,.string em,.slice A n c] 79)=w1 at*;have x0:=za i 0 rfl;have B:=i.out.frozen 0;have C:=i.out.lt;go_wp2_with fail;go_ret;refine⟨rfl,⟨j.out.setCell (p:=⟨g,0,none⟩) o _, ?_,o⟩,r.out.trans ⟨by simp[World.setCell],λb cs T f v=>f.setNe (p:=⟨g,0,none⟩) (λe=>v ?_) _⟩⟩
  ·have:=i.out.set_ 0 (.int .i64 (s+1));exact this
  ·have e:g=b:=e;subst e;have h:=i.out;unfold Box at h f;rw[h] at f;simp only[yy,Bw] at f;simp[f.2.1.symm]
theorem exSize (w:World) (e:Ex) (d:Nat) (A:Option Addr) (c:Nat) (s:ExZ e) (p:Rs (exR d) w (.slice A e.args.length c) e.args ah) (y:(aq (d+1) e).length<=1000):
  Calls Tryz.prog 200 #[exV e (.slice A e.args.length c)] w λr w'=>r= .returned (.int .i64 ((aq (d+1) e).length:Nat))/\Below w.heap.size w w':=by
 have x:=zm;have k:=zh λg (W:World) (v:ICnt w g 0 W)=>ua (visCnt w g) d 0 W e A c (by simpa using y) v s p;rw[vD] at k;simp only[yH] at k;generalize(aq (d+1) e).length=N at*;unfold exV at k⊢;generalize e.args.length=n at*;generalize e.op=op at*;generalize e.n=en at*;generalize e.name=em at*;clear p s;go_enter Tryz.func200,Tryz.ntmps200;go_upto_region 2 with fail;generalize i:w.alloc _=zw1 at*;generalize j:zw1.alloc _=w1 at*;obtain⟨t,l,u⟩:=zB2 i j;clear i j;have a:=za l 0 rfl;have b:=za l 1 rfl;have f:=za l 2 rfl;have h:=za l 3 rfl;go_wp2_with fail;refine(k (w.heap.size+1) w1 ⟨t,u,by omega⟩).mono ?_;rintro r w2 ⟨rfl,⟨o,q, -⟩, -⟩;have x0:=q.at_ 0 _ rfl;have m:=zh o;clear o q;clear a b f h;go_wp2_with fail;go_ret;exact⟨rfl,m⟩
theorem xq {f:Ex->Nat} {l:List Ex} {k:Nat} (h:k<l.length):kK f (l.take (k+1))=max (kK f (l.take k)) (f (l.getD k ex0)):=by
 unfold kK;rw[Am,yp h,BA,yj,yp h]
 rfl
def DpC (d:Nat):Prop:=∀w e A c,ExZ e->Rs (exR d) w (.slice A e.args.length c) e.args ah->d<=1000->Calls Tryz.prog 199 #[exV e (.slice A e.args.length c)] w λr w'=>r= .returned (.int .i64 (dh (d+1) e:Nat))/\Below w.heap.size w w'
theorem sL (d:Nat) (IH:∀W,d=W+1->DpC W):DpC d:=by
 intro w e A c hz hr hd;obtain⟨t,HZ⟩:=zk2 IH hz;obtain⟨A',c',e1,hc,hx⟩:=hr.exs;obtain⟨rfl, -,rfl⟩:A=A'/\e.args.length=e.args.length/\c=c':=by simpa using e1
 have V:=zh hx;obtain⟨R,Z⟩:=zv (dh (d+1) e);have G:Hid (R=kK (dh d) (e.args.take e.args.length)+1):=zh (by rw[Z,Ay];rfl);rw[<-Z];obtain⟨n,X⟩:=zv (e.args.length);have HN:=zh X;rw[<-X] at hc V G;unfold exV;rw[<-X];have u:Hid (∀k,kK (dh d) (e.args.take k)<=d):=zh λk=>vd λa _=>mX d a;generalize e.op=eo at*;generalize e.n=en at*;generalize e.name=em at*;have ae:n<=9223372036854775807:=by have:=hz.len;unfold maxLen at this;omega
 clear IH hz hr hx Z X e1;go_enter Tryz.func199,Tryz.ntmps199;go_upto_region 1 with fail;generalize m:w.alloc _=w1 at*;obtain⟨h,q⟩:=zB1 m;clear m;have j:=za q 3 rfl;go_wp2_with fail;clear j;clear q
 go_loopw [3,9] (λmx i wr=>∃k:Nat,k<=n/\i= .int .i64 k/\mx= .int .i64 (kK (dh d) (e.args.take k):Nat)/\Below w.heap.size w wr) (λ_ i _=>n-(intOf i).toNat)
 case atStart=>exact⟨0,yt _,rfl,rfl,h⟩
 case round=>
  obtain⟨k,hk,rfl,rfl,D⟩:=hrel;clear h w1;have h:=zh D;clear D
  by_cases S:k<n
  ·have T:(k:Int)<n:=by omega
   have k0:(0:Int)<=(k:Int):=by omega
   have P:k<e.args.length:=by rw[<-HN.out];exact S
   obtain⟨b,o,p,W,e2,s,N,g,C, -⟩:=V.out k S;subst e2;have v0:=(h.out.cell s).trans (g 0 _ rfl);have v1:=(h.out.cell s).trans (g 1 _ rfl);have v2:=(h.out.cell s).trans (g 2 _ rfl);have v3:=(h.out.cell s).trans (g 3 _ rfl);rw[yU] at v0;have F:=zh (xq (f:=dh d) P);have I:=zh (HZ.out.args _ (getD_in ex0 P));have H:=zh C;have E:=zh (t W N);have B:=u.out k;have ab:=u.out (k+1);obtain⟨m1,l⟩:=zv (kK (dh d) (e.args.take (k+1)));have Y:=zh l;rw[<-l] at F ab;clear l;generalize e.args.getD k ex0=a at*;obtain⟨Ap,cp,rfl,aa⟩:=C.slice;clear g C;have U:=zh fun(W':World) (h1:Below w.heap.size w W')=>E.out W' a _ _ I (H.out.below h1) (by omega);unfold exV at U;rw[<-N] at U;generalize dh d a=da at*;generalize kK (dh d) (e.args.take k)=m0 at*;obtain⟨ao,z⟩:=zv (a.op);obtain⟨an,y⟩:=zv (a.n);obtain⟨am,x⟩:=zv (a.name);obtain⟨al,v⟩:=zv (a.args.length);rw[<-z,<-y,<-x,<-v] at U;rw[<-z] at v0;rw[<-y] at v1;rw[<-x] at v2;rw[<-v] at v3;have ad:=max_two m0 da m1 F;clear z y x v E I H aa t V HZ;go_upto_region 5 with fail;clear v0 v1 v2 v3;generalize m:wr.alloc _=w3 at*;obtain⟨M,q⟩:=zA1 m;clear m;replace h:=zb h M;clear M;have J:=za q 0 rfl;have K:=za q 1 rfl;have L:=za q 2 rfl;have j:=za q 3 rfl;go_wp2_with fail;refine(U w3 h).mono ?_;rintro r w4 ⟨rfl,D⟩;clear J K L j;replace q:=zb q D;replace h:=zb h D;clear D;go_wp2_with fail;go_roundw
   ·exact⟨k+1,by omega,by go_num,by rw[<-Y.out],h⟩
   ·simp[intOf];omega
  ·have T:¬(k:Int)<n:=by omega
   have Q:k=n:=by omega
   have B:=u.out k;rw[Q] at B⊢;generalize kK (dh d) (e.args.take n)=m0 at*;have ac:(m0:Int)<=1000:=by omega
   clear Q B V t;go_wp2_with fail;go_ret;exact⟨aS (by rw[G.out];omega),h⟩
theorem vP:∀d,DpC d
 |0=>sL 0 λd' h=>by omega
 |d+1=>sL (d+1) λd' h=>by
  obtain rfl:d=d':=by omega
  exact vP d
theorem jy {W:World} {g:Nat} {cs:Array Value} {T:TypeId} {ts:List TypeId} (c:Box W g cs T) (f:T∈ts) (i:Nat) (u:Value):cR ts W (W.setCell ⟨g,i,none⟩ u):=
 ⟨by simp[World.setCell],λb d T' a h=>a.setNe (p:=⟨g,i,none⟩) (λe=>h (by
  have e:g=b:=e;subst e;unfold Box at c a;rw[c] at a;simp only[yy,Bw] at a
  rw[<-a.2.1];exact f)) _⟩
def IChk (w0:World) (g:Nat) (n:Int) (W:World):Prop:=Below w0.heap.size w0 W/\Box W g #[.int .i64 n] 29/\w0.heap.size<=g
theorem visChk (w0:World) (g:Nat) (hk:KW w0) (hm:cM w0):pT fChk (IChk w0 g) (λ_ _=>True) [29] w0 197 #[.pointer (some ⟨g,0,none⟩)] where
 h79:=by decide
 h191:=by decide
 below:=λ_ _ h=>h.1
 later:=λ_ _ _ h f=>⟨ab h.1 f,h.2.1.below f,h.2.2⟩
 room:=λs m e h=>trivial
 enter:=λargs W=>by kernel_rfl
 call:=λs m W e x d E F D C=>by
  obtain⟨y,z,B⟩:=F;obtain⟨i,a⟩:=zk2 y z;obtain⟨A,c,rfl,G⟩:=C.slice;have o:=zh fun(W':World) (h:Below w0.heap.size w0 W')=>exNode W' e A c D (hk.below h) (hm.below h);show Calls _ _ _ _ λr W'=>r= .returned (.bool (decide (aT e=0)))/\IChk w0 g (aT e) W'/\_;generalize aT e=er at*;unfold exV at o⊢;generalize e.args.length=n at*;generalize e.op=op at*;generalize e.n=en at*;generalize e.name=em at*;clear y z C D G E hk hm;go_enter Tryz.func197,Tryz.ntmps197;go_upto_region 1 with fail;generalize l:W.alloc _=w1 at*;obtain⟨b,j⟩:=zA1 l;clear l;replace a:=zb a b;replace i:=zb i b;have q:=zh (cR.of_below [29] b);clear b;generalize W.heap.size=ga at*;have t:=za j 0 rfl;have u:=za j 1 rfl;have v:=za j 2 rfl;have w:=za j 3 rfl;go_wp2_with fail;clear t u v w;refine(o w1 i).mono ?_;rintro r w2 ⟨rfl,f⟩;replace a:=zb a f;replace i:=zb i f;replace q:=zb q f;clear f o j;have x0:=za a 0 rfl;have H:=a.out.frozen 0;have I:=a.out.lt;have k:=zh (a.out.set_ 0 (.int .i64 er));have J:=za k 0 rfl;go_wp2_with fail;go_ret;refine⟨bF (by rw[Bz];simp),⟨i.out.setCell (p:=⟨g,0,none⟩) B _,k,B⟩,q.out.trans (jy a (by simp) 0 _)⟩
theorem mV (w:World) (e:Ex) (d:Nat) (A:Option Addr) (c:Nat) (E:ExZ e) (hk:KW w) (hm:cM w) (D:Rs (exR d) w (.slice A e.args.length c) e.args ah) (M:d<=1000) (S:(aq (d+1) e).length<=1000):
  Calls Tryz.prog 120 #[exV e (.slice A e.args.length c)] w λr w'=>r= .returned (.int .i64 (gM (d+1) e))/\Below w.heap.size w w':=by
 have Q:=zm;have y:=zh λg (W:World) (L:IChk w g 0 W)=>ua (visChk w g hk hm) d 0 W e A c trivial L E D;rw[vE _ _ (nM d e)] at y;have x:=zh fun(W:World) (h:Below w.heap.size w W)=>vP d W e A c E (D.below h) M;have G:=zh fun(W:World) (h:Below w.heap.size w W)=>exSize W e d A c E (D.below h) S;have z:Hid (gM (d+1) e=if aY aT (aq (d+1) e)=0 then(if 24<dh (d+1) e\/400<(aq (d+1) e).length then 2 else 0) else aY aT (aq (d+1) e)):=zh rfl;have P:=mX (d+1) e;generalize gM (d+1) e=R at*;generalize dh (d+1) e=B at*;generalize aY aT (aq (d+1) e)=fe at*;generalize(aq (d+1) e).length=N at*;unfold exV at y x G⊢;generalize e.args.length=n at*;generalize e.op=op at*;generalize e.n=en at*;generalize e.name=em at*;clear D E hk hm;go_enter Tryz.func120,Tryz.ntmps120;go_upto_region 2 with fail;generalize u:w.alloc _=zw1 at*;generalize v:zw1.alloc _=w1 at*;obtain⟨l,a,p⟩:=zB2 u v;clear u v;have f:=za a 0 rfl;have i:=za a 1 rfl;have j:=za a 2 rfl;have k:=za a 3 rfl;go_wp2_with fail;refine(y (w.heap.size+1) w1 ⟨l,p,by omega⟩).mono ?_;rintro r w2 ⟨rfl,⟨b,J, -⟩,t⟩;replace l:=zh b;replace p:=zh J;replace a:=zh (t.2 _ _ _ a (by decide));clear b J y t;clear f i j k;have f:=za a 0 rfl;have i:=za a 1 rfl;have j:=za a 2 rfl;have k:=za a 3 rfl;have m:=za p 0 rfl
 by_cases C:fe=0
 case neg=>
  have I:(fe==0)=false:=by simpa using C
  have o:Hid (R=fe):=zh (by rw[z.out,yw C]);clear z C;go_wp2_with fail;go_ret;exact⟨aS o.out.symm,l⟩
 subst C;have o:Hid (R=if 24<B\/400<N then 2 else 0):=zh (by rw[z.out,yz rfl]);clear z
 by_cases s:24<B
 case pos=>
  have I:(B:Int)>24:=by omega
  have q:Hid (R=2):=zh (by rw[o.out,yz (.inl s)]);clear o s;go_wp2_with fail;refine(x w2 l).mono ?_;rintro r F ⟨rfl,b⟩;clear f i j k m;replace a:=zb a b;replace p:=zb p b;replace l:=zb l b;clear b;go_wp2_with fail;go_ret;exact⟨aS q.out.symm,l⟩
 have I:¬(B:Int)>24:=by omega
 by_cases H:400<N
 case pos=>
  have K:(N:Int)>400:=by omega
  have q:Hid (R=2):=zh (by rw[o.out,yz (.inr H)]);clear o s H;go_wp2_with fail;refine(x w2 l).mono ?_;rintro r F ⟨rfl,b⟩;replace a:=zb a b;replace p:=zb p b;replace l:=zb l b;clear b;have f:=za a 0 rfl;have i:=za a 1 rfl;have j:=za a 2 rfl;have k:=za a 3 rfl;have m:=za p 0 rfl;go_wp2_with fail;refine(G F l).mono ?_;rintro r T ⟨rfl,b⟩;clear f i j k m;replace a:=zb a b;replace p:=zb p b;replace l:=zb l b;clear b;go_wp2_with fail;go_ret;exact⟨aS q.out.symm,l⟩
 have K:¬(N:Int)>400:=by omega
 have q:Hid (R=0):=zh (by rw[o.out,yw (by omega)]);clear o s H;go_wp2_with fail;refine(x w2 l).mono ?_;rintro r F ⟨rfl,b⟩;replace a:=zb a b;replace p:=zb p b;replace l:=zb l b;clear b;have f:=za a 0 rfl;have i:=za a 1 rfl;have j:=za a 2 rfl;have k:=za a 3 rfl;have m:=za p 0 rfl;go_wp2_with fail;refine(G F l).mono ?_;rintro r T ⟨rfl,b⟩;clear f i j k m;replace a:=zb a b;replace p:=zb p b;replace l:=zb l b;clear b;have f:=za a 0 rfl;have i:=za a 1 rfl;have j:=za a 2 rfl;have k:=za a 3 rfl;have m:=za p 0 rfl;go_wp2_with fail;go_ret;exact⟨aS q.out.symm,l⟩
theorem ri (w:World) (v:Value) (l:List Int) (x:Int) (h:IL w v l) (f:l.length<=9223372036854775807):
  Calls Tryz.prog 293 #[v,.int .i64 x] w λe w'=>e= .returned (.bool (l.contains x))/\w=w':=by
 rcases h.form with⟨A,c,rfl,rfl⟩|⟨b,o,c,rfl,g,i,d,a⟩
 ·exact(Tryz.slices_Contains_int_empty A c x w).mono λe w' ⟨he,hw⟩=>⟨he,hw.symm⟩
 ·refine(Tryz.slices_Contains_int b o l.length c l x w (yq _) f a).mono λe w' ⟨he,hw⟩=>⟨?_,hw.symm⟩;rw[he,Ay]
def INms (w0:World) (a go:Nat) (b:Value) (c:List ByteArray) (W:World):Prop:=
 Below w0.heap.size w0 W/\Box W a #[b] 32/\w0.heap.size<=go/\∃v,Box W go #[v] 188/\OG jn W w0.heap.size 0 9 v c
theorem oa {α:Type} {φ:Rd α} {w w':World} {B C:Nat} {T:TypeId} {v:Value} {xs:List α} {ts:List TypeId} (h:OG φ w B C T v xs) (a:w.grownBy w' v.ownBlock) (c:T∈ts):cR ts w w':=
 ⟨a.size,λb cs T' d f=>h.boxKept a d (.inl λe=>f (e▸c))⟩
theorem visNms (w0:World) (z go:Nat) (o:Value) (a:List Int) (G:IL w0 o a) (hl:a.length<=1000):
  pT (fNms λop=>a.contains op) (INms w0 z go o) (λout m=>out.length+m<=1000) [188,9] w0 292 #[.pointer (some ⟨z,0,none⟩),.pointer (some ⟨go,0,none⟩)] where
 h79:=by decide
 h191:=by decide
 below:=λ_ _ h=>h.1
 later:=λ_ _ _ ⟨h1,h2,J,v,h4,S⟩ hb=>⟨ab h1 hb,h2.below hb,J,v,h4.below hb,S.below hb⟩
 room:=λs m e h=>by
  show(if _ then _ else _:List ByteArray).length+m<=1000
  split
  ·rw[yu,y7];omega
  ·omega
 enter:=λargs W=>by kernel_rfl
 call:=λout m W e x d hG hI hz hr=>by
  obtain⟨i0,hi,U,V,X⟩:=Bb istr;obtain⟨HI,ae,ag,ah⟩:=zk4 hi U V X;obtain⟨h1,h2,J,v,h4,S⟩:=hI;obtain⟨q,y,u,f⟩:=zk4 h1 h2 h4 S;obtain⟨A,c,rfl,hc⟩:=hr.slice;have Z:=zh fun(W':World) (h:Below w0.heap.size w0 W')=>ri W' o a e.op (G.below h) (by omega);have CS:=zh fun(W':World) (h:OG jn W' w0.heap.size 0 9 v out)=>nu W' v out e.name h.any.sl (by omega);have H:Hid (fNms (λop=>a.contains op) out e=(if a.contains e.op=true/\e.name∉out then out++[e.name] else out,true)):=zh rfl;have K:=zh (Lib.containsS_iff out e.name);obtain⟨F,hF⟩:=zv (fNms (λop=>a.contains op) out e);rw[<-hF] at H⊢;generalize a.contains e.op=qo at*;unfold exV;generalize e.args.length=n at*;generalize e.op=op at*;generalize e.n=en at*;generalize e.name=em at*;obtain⟨A1,c1,rfl⟩:=S.slice;obtain⟨ol,I⟩:=zv (out.length);have M:=zh I;have ak:ol<=1000:=by omega
  rw[<-I] at u f CS;obtain⟨A0,c0,aj,ai, -⟩:=G;subst aj;obtain⟨al,E⟩:=zv (a.length);rw[<-E] at y Z⊢;generalize Lib.containsS out em=qs at*;clear h1 h2 h4 S hr hz hc hG hF I E ai hl hi U V X;go_enter Tryz.func292,Tryz.ntmps292;go_upto_region 1 with fail;generalize Y:W.alloc _=w1 at*;obtain⟨i,XA⟩:=zA1 Y;clear Y;replace u:=zb u i;replace y:=zb y i;replace f:=zb f i;replace q:=zb q i;have HK:=zh (cR.of_below [188,9] i);clear i;generalize W.heap.size=ga at*;have ap:=za y 0 rfl;have ao:=za u 0 rfl;have am:=za XA 0 rfl;have an:=za XA 2 rfl;cases qo
  ·have k:Hid (F=(out,true)):=zh (by rw[H.out,yw (by simp)]);clear H;go_wp2_with fail;refine(Z w1 q).mono ?_;rintro r w2 ⟨rfl,rfl⟩;go_wp2_with fail;go_ret;rw[k.out];exact⟨rfl,⟨q,y,J,_,u,f⟩,HK⟩
  cases qs
  case true=>
   have k:Hid (F=(out,true)):=zh (by rw[H.out,yw (λh=>h.2 (K.out.1 rfl))]);clear H;go_wp2_with fail;refine(Z w1 q).mono ?_;rintro r w2 ⟨rfl,rfl⟩;go_wp2_with fail;refine(CS w1 f).mono ?_;rintro r w2 ⟨rfl,rfl⟩;go_wp2_with fail;go_ret;rw[k.out];exact⟨rfl,⟨q,y,J,_,u,f⟩,HK⟩
  case false=>
   have k:Hid (F=(out++[em],true)):=zh (by rw[H.out,yz ⟨rfl,λh=>by have:=K.out.2 h;cases this⟩]);clear H;go_wp2_with fail;refine(Z w1 q).mono ?_;rintro r w2 ⟨rfl,rfl⟩;go_wp2_with fail;refine(CS w1 f).mono ?_;rintro r w2 ⟨rfl,rfl⟩;go_upto_region 2 with fail;have j:=ac w1 (.cells #[.string em] 9);have N:=zh (Rs.one (φ:=jn) (w:=w1) (F:=Ty (w1.alloc (.cells #[.string em] 9)) 0 jn.ts) (us:=[.string em]) rfl 9);have b:=zh (f.out.below j);have P:=zh (u.out.below j);have Q:=zh (y.out.below j);have t:=zh (ab q j);have L:=zh (HK.out.below j);go_wp2_with(at_builtin;refine aC (φ:=jn) (T:=9) (B:=w0.heap.size) (C:=0) (xs:=out) (ys:=[em]) rfl _ _ 188 rfl i0 (.string ⟨#[]⟩) 16 Tryz.underlying188 HI ae ag ah rfl rfl b (.slice (some ⟨w1.heap.size,0,none⟩) 1 1) rfl N ?c1 ?c2 ?c3 ?_)
   case c1=>simp only[yr,yR];rw[<-M.out];omega
   case c2=>simp only[yr,yR];rw[<-M.out];unfold maxLen;omega
   case c3=>exact t.out.size
   intro v' w7 D l;have g:=zh (b.out.boxKept l.out P (.inl (by decide)));have R:=zh (b.out.boxKept l.out Q (.inl (by decide)));have aa:=zh (b.out.belowG l.out t t.out.size (yq _));have ad:=zh (L.out.trans (oa b l.out (by simp)));clear P Q t L b N j u y q HK f l;obtain⟨A7,c7,rfl⟩:=D.out.slice;generalize(out++[em]).length=l7 at*;have x0:=za g 0 rfl;have x1:=g.out.frozen 0;have x2:=g.out.lt;go_wp2_with fail;go_ret;rw[k.out];exact⟨rfl,⟨aa.out.setCell (p:=⟨go,0,none⟩) J _,R.out.setNe (p:=⟨go,0,none⟩) (af g R (by decide)) _,J,_,g.out.set_ 0 _,D.out.setBox g (by decide) (yt _) (by decide) 0 _⟩,ad.out.trans (jy g (by simp) 0 _)⟩
theorem il_lit (w:World) (l:List Int):IL (w.alloc (.cells (l.map (Value.int .i64)).toArray 3)) (.slice (some ⟨w.heap.size,0,none⟩) l.length l.length) l:=
 ⟨_,_,rfl,yq _,λ_=>⟨_,rfl,by simp,λj a=>by
  rw[fA,yH,cell_of_row _ _ _ _ _ (0,0) (heap_alloc_new w _)]
  simp[yj,yp a]⟩⟩
def NmR (w:World) (l:List ByteArray) (e:Ending) (w':World):Prop:=∃v,e= .returned v/\SL w' v l/\Below w.heap.size w w'
theorem exNms (w:World) (e:Ex) (d:Nat) (A:Option Addr) (c:Nat) (b:Value) (a:List Int) (g:IL w b a) (C:a.length<=1000) (F:ExZ e) (D:Rs (exR d) w (.slice A e.args.length c) e.args ah) (L:(aq (d+1) e).length<=1000):
  Calls Tryz.prog 228 #[exV e (.slice A e.args.length c),b] w (NmR w (df (λop=>a.contains op) (aq (d+1) e))):=by
 have K:=zm;have i:=zh λgops go (W:World) (J:INms w gops go b [] W)=>ua (visNms w gops go b a g C) d [] W e A c (by simpa using L) J F D;rw[vC] at i;have z:Hid (df (λop=>a.contains op) (aq (d+1) e)=nT (λop=>a.contains op) [] (aq (d+1) e)):=zh rfl;generalize df (λop=>a.contains op) (aq (d+1) e)=R at*;rw[<-z.out] at i;simp only at i;obtain⟨N,Q,rfl,x, -⟩:=g;obtain⟨M,f⟩:=zv (a.length);rw[<-f] at i⊢;unfold exV at i⊢;generalize e.args.length=n at*;generalize e.op=op at*;generalize e.n=en at*;generalize e.name=em at*;clear D F x C f z;go_enter Tryz.func228,Tryz.ntmps228;go_upto_region 2 with fail;generalize p:w.alloc _=zw1 at*;generalize q:zw1.alloc _=zw2 at*;generalize s:zw2.alloc _=w1 at*;obtain⟨G,t,I,H⟩:=zB3 p q s;clear p q s;have j:=za t 0 rfl;have k:=za t 1 rfl;have l:=za t 2 rfl;have m:=za t 3 rfl;go_wp2_with fail;refine(i (w.heap.size+1) (w.heap.size+1+1) w1 ⟨G,I,by omega,_,H,OG.nil jn w1 w.heap.size 0 _ (by decide) (yt _)⟩).mono ?_;rintro r w2 ⟨rfl,⟨B, -, -,v,E,h⟩, -⟩;have x0:=E.at_ 0 _ rfl;have u:=zh B;have y:=zh h.any.sl;obtain⟨P,S,rfl⟩:=h.slice;obtain⟨T,o⟩:=zv (R.length);rw[<-o] at x0 y;clear B E h o;clear j k l m;go_wp2_with fail;go_ret;exact⟨_,rfl,y,u⟩
theorem mW (w:World) (e:Ex) (d:Nat) (A:Option Addr) (c:Nat) (x:ExZ e) (u:Rs (exR d) w (.slice A e.args.length c) e.args ah) (B:(aq (d+1) e).length<=1000):
  Calls Tryz.prog 156 #[exV e (.slice A e.args.length c)] w (NmR w (df eX (aq (d+1) e))):=by
 have m:=ac w (.cells #[.int .i64 e.op,.int .i64 e.n,.string e.name,.slice A e.args.length c] 79);have j:=zh fun(W:World) (i:Below w.heap.size w W) (v:Value) (h:IL W v [2])=>exNms W e d A c v [2] h (by decide) x (u.below i) B;rw[show(λop:Int=>([2]:List Int).contains op)=eX by funext op;unfold eX;rw[Bz];simp] at j;generalize df eX (aq (d+1) e)=R at*;unfold exV at j⊢;generalize e.args.length=n at*;generalize e.op=op at*;generalize e.n=en at*;generalize e.name=em at*;clear u x m;go_enter Tryz.func156,Tryz.ntmps156;go_upto_region 1 with fail;generalize f:w.alloc _=w1 at*;obtain⟨y,g⟩:=zB1 f;clear f;have o:=ac w1 (.cells #[.int .i64 2] 3);have l:=zh (il_lit w1 [2]);have a:=zh (ab y o);have p:=za g 0 rfl;have q:=za g 1 rfl;have s:=za g 2 rfl;have t:=za g 3 rfl;go_wp2_with fail;refine(j _ a _ l).mono ?_;rintro r w2 ⟨v,rfl,b,i⟩;have z:=zh b;have k:=zh (ab a i);clear b i;go_wp2_with fail;go_ret;exact⟨_,rfl,z,k⟩
theorem lf (w:World) (e:Ex) (d:Nat) (A:Option Addr) (c:Nat) (u:ExZ e) (t:Rs (exR d) w (.slice A e.args.length c) e.args ah) (z:(aq (d+1) e).length<=1000):
  Calls Tryz.prog 155 #[exV e (.slice A e.args.length c)] w (NmR w (df gW (aq (d+1) e))):=by
 have j:=zh fun(W:World) (i:Below w.heap.size w W) (v:Value) (h:IL W v [3,24])=>exNms W e d A c v [3,24] h (by decide) u (t.below i) z;rw[show(λop:Int=>([3,24]:List Int).contains op)=gW by funext op;unfold gW;rw[Bz];simp] at j;generalize df gW (aq (d+1) e)=R at*;unfold exV at j⊢;generalize e.args.length=n at*;generalize e.op=op at*;generalize e.n=en at*;generalize e.name=em at*;clear t u;go_enter Tryz.func155,Tryz.ntmps155;go_upto_region 1 with fail;generalize f:w.alloc _=w1 at*;obtain⟨x,g⟩:=zB1 f;clear f;have m:=ac w1 (.cells #[.int .i64 3,.int .i64 24] 3);have l:=zh (il_lit w1 [3,24]);have a:=zh (ab x m);have o:=za g 0 rfl;have p:=za g 1 rfl;have q:=za g 2 rfl;have s:=za g 3 rfl;go_wp2_with fail;refine(j _ a _ l).mono ?_;rintro r w2 ⟨v,rfl,b,i⟩;have y:=zh b;have k:=zh (ab a i);clear b i;go_wp2_with fail;go_ret;exact⟨_,rfl,y,k⟩
theorem th (a:Nat) (h:a<65536):IntKind.u16.wrap (a:Int)=(a:Nat):=by
 simp only[IntKind.wrap,IntKind.bits,IntKind.signed];simp;omega
theorem p7 (a:Nat):IntKind.u16.wrap (a:Int)=((a%65536:Nat):Int):=by
 simp only[IntKind.wrap,IntKind.bits,IntKind.signed];simp
theorem and_mask (a:Nat) (h:a<65536):bits .and .i64 (a:Int) 65535=(a:Nat):=by
 have b:(65535:Int)=((65535:Nat):Int):=rfl;rw[b,ic _ _ (by omega) (by omega)];congr 1;have:a&&&(2^16-1)=a%2^16:=Nat.and_two_pow_sub_one_eq_mod a 16;rw[show(65535:Nat)=2^16-1 by decide,this];exact Bi h
theorem xor_max (a:Nat) (h:a<65536):bits .xor .u16 IntKind.u16.max (a:Int)=((65535-a:Nat):Int):=by
 have e:bits .xor .u16 IntKind.u16.max (a:Int)=IntKind.u16.wrap ((BitVec.ofInt 16 65535^^^BitVec.ofInt 16 (a:Int)).toNat:Int):=rfl;have e1:(BitVec.ofInt 16 65535)=BitVec.allOnes 16:=by decide
 have b:(BitVec.ofInt 16 (a:Int)).toNat=a:=by
  rw[BitVec.ofInt_natCast,BitVec.toNat_ofNat];exact Bi h
 rw[e,e1,BitVec.allOnes_xor,BitVec.toNat_not,b];exact th _ (by omega)
theorem ig (w:World) (a:Nat) (b:a<65536):Calls Tryz.prog 304 #[.int .i64 (a:Nat)] w λe w'=>e= .returned (.int .u16 (a:Nat))/\w=w':=by
 go_enter Tryz.func304,Tryz.ntmps304;go_wp2_with fail;go_ret;exact⟨aS (by rw[and_mask a b];exact th a b),rfl⟩
theorem jL (w:World) (a:Nat) (b:a<65536):Calls Tryz.prog 330 #[.int .u16 (a:Nat)] w λe w'=>e= .returned (.int .i64 (a:Nat))/\w=w':=by
 go_enter Tryz.func330,Tryz.ntmps330;go_wp2_with fail;go_ret
 first|exact⟨rfl,rfl⟩|exact⟨aS (by simp[IntKind.wrap,IntKind.bits,IntKind.signed];omega),rfl⟩
theorem wordAdd0 (w:World) (a b:Nat):Calls Tryz.prog 332 #[.int .u16 (a:Nat),.int .u16 (b:Nat)] w λe w'=>e= .returned (.int .u16 ((a+b)%65536:Nat))/\w=w':=by
 go_enter Tryz.func332,Tryz.ntmps332;go_wp2_with fail;go_ret;exact⟨aS (p7 (a+b)),rfl⟩
theorem wordSub0 (w:World) (a b:Nat) (c:b<65536):Calls Tryz.prog 350 #[.int .u16 (a:Nat),.int .u16 (b:Nat)] w λe w'=>e= .returned (.int .u16 ((a+(65536-b))%65536:Nat))/\w=w':=by
 go_enter Tryz.func350,Tryz.ntmps350;go_wp2_with fail;go_ret;exact⟨aS (by simp only[IntKind.wrap,IntKind.bits,IntKind.signed];simp;omega),rfl⟩
theorem wordMul0 (w:World) (a b:Nat):Calls Tryz.prog 351 #[.int .u16 (a:Nat),.int .u16 (b:Nat)] w λe w'=>e= .returned (.int .u16 ((a*b)%65536:Nat))/\w=w':=by
 go_enter Tryz.func351,Tryz.ntmps351;go_wp2_with fail;go_ret;exact⟨aS (by rw[<-p7 (a*b)];norm_cast),rfl⟩
theorem wordNeg0 (w:World) (a:Nat) (b:a<65536):Calls Tryz.prog 349 #[.int .u16 (a:Nat)] w λe w'=>e= .returned (.int .u16 ((65536-a)%65536:Nat))/\w=w':=by
 go_enter Tryz.func349,Tryz.ntmps349;go_wp2_with fail;go_ret;exact⟨aS (by simp only[IntKind.wrap,IntKind.bits,IntKind.signed];simp;omega),rfl⟩
theorem wordInv0 (w:World) (a:Nat) (b:a<65536):Calls Tryz.prog 348 #[.int .u16 (a:Nat)] w λe w'=>e= .returned (.int .u16 (65535-a:Nat))/\w=w':=by
 go_enter Tryz.func348,Tryz.ntmps348;have c:¬IntKind.u16.signed=true:=by decide
 go_wp2_with fail
 all_goals first|(rename_i h;exact absurd h c)|skip
 go_ret;exact⟨aS (xor_max a b),rfl⟩
theorem wordShl0 (w:World) (a b:Nat) (c:b<16):Calls Tryz.prog 353 #[.int .u16 (a:Nat),.int .i64 (b:Nat)] w λe w'=>e= .returned (.int .u16 ((a*2^b)%65536:Nat))/\w=w':=by
 go_enter Tryz.func353,Tryz.ntmps353;go_wp2_with fail;go_ret;exact⟨aS (by rw[<-p7 (a*2^b)];norm_cast),rfl⟩
theorem wordShr0 (w:World) (a b:Nat) (c:b<16):Calls Tryz.prog 354 #[.int .u16 (a:Nat),.int .i64 (b:Nat)] w λe w'=>e= .returned (.int .u16 ((a/2^b):Nat))/\w=w':=by
 go_enter Tryz.func354,Tryz.ntmps354;go_wp2_with fail;go_ret;exact⟨aS (by norm_cast),rfl⟩
theorem pX (w:World) (g:Nat) (first:Array Value) (b r:Nat) (h:b<65536) (i:r<65536) (j:∀args W,(callFunc g args).run Tryz.prog W= .ok (.enter g args) W)
  (f:∀W,Calls Tryz.prog g (first++#[.int .u16 (b:Nat)]) W λe w'=>e= .returned (.int .u16 (r:Nat))/\W=w'):
  Calls Tryz.prog 331 #[.func (.func g) first #[],.int .i64 (b:Nat)] w λe w'=>e= .returned (.int .i64 (r:Nat))/\w=w':=by
 have a:=zh λW=>ig W b h;have c:=zh f;have d:=zh λW=>jL W r i;go_enter Tryz.func331,Tryz.ntmps331;go_wp2_with fail;refine(a _).mono ?_;rintro e w' ⟨rfl,rfl⟩;go_wp2_with fail;refine(c _).mono ?_;rintro e w' ⟨rfl,rfl⟩;go_wp2_with fail;refine(d _).mono ?_;rintro e w' ⟨rfl,rfl⟩;go_wp2_with fail;go_ret;exact⟨rfl,rfl⟩
theorem uE (w:World) (g:Nat) (first:Array Value) (r:Nat) (d:r<65536) (f:∀args W,(callFunc g args).run Tryz.prog W= .ok (.enter g args) W)
  (c:∀W,Calls Tryz.prog g first W λe w'=>e= .returned (.int .u16 (r:Nat))/\W=w'):
  Calls Tryz.prog 347 #[.func (.func g) first #[]] w λe w'=>e= .returned (.int .i64 (r:Nat))/\w=w':=by
 have a:=zh c;have b:=zh λW=>jL W r d;go_enter Tryz.func347,Tryz.ntmps347;go_wp2_with fail;refine(a _).mono ?_;rintro e w' ⟨rfl,rfl⟩;go_wp2_with fail;refine(b _).mono ?_;rintro e w' ⟨rfl,rfl⟩;go_wp2_with fail;go_ret;exact⟨rfl,rfl⟩
theorem pc (w:World) (g:Nat) (first:Array Value) (b r:Nat) (l:b<65536) (i:r<65536) (j:∀args W,(callFunc g args).run Tryz.prog W= .ok (.enter g args) W)
  (a:b<16->∀W,Calls Tryz.prog g (first++#[.int .i64 (b:Nat)]) W λe w'=>e= .returned (.int .u16 (r:Nat))/\W=w'):
  Calls Tryz.prog 352 #[.func (.func g) first #[],.int .i64 (b:Nat)] w λe w'=>e= .returned (.int .i64 (if b<16 then r else 0:Nat))/\w=w':=by
 have d:=zh λW=>jL W r i;have k:¬(b:Int)<0:=by omega
 by_cases h:b<16
 ·have c:=zh (a h);have f:¬(b:Int)≥16:=by omega
  rw[yz h];clear h a;go_enter Tryz.func352,Tryz.ntmps352;go_wp2_with fail;refine(c _).mono ?_;rintro e w' ⟨rfl,rfl⟩;go_wp2_with fail;refine(d _).mono ?_;rintro e w' ⟨rfl,rfl⟩;go_wp2_with fail;go_ret;exact⟨rfl,rfl⟩
 ·have f:(b:Int)≥16:=by omega
  rw[yw h];clear h a;go_enter Tryz.func352,Tryz.ntmps352;go_wp2_with fail;go_ret;exact⟨rfl,rfl⟩
theorem wordAdd (w:World) (a b:Nat) (f:a<65536) (g:b<65536):Calls Tryz.prog 296 #[.int .i64 (a:Nat),.int .i64 (b:Nat)] w λe w'=>e= .returned (.int .i64 ((a+b)%65536:Nat))/\w=w':=by
 have h:=zm;have c:=zh λW=>ig W a f;have d:=zh λW=>pX W 332 #[.int .u16 (a:Nat)] b _ g (Cf _ (by decide)) (λargs W=>by kernel_rfl) (λW=>wordAdd0 W a b);go_enter Tryz.func296,Tryz.ntmps296;go_wp2_with fail;refine(c _).mono ?_;rintro e w' ⟨rfl,rfl⟩;go_wp2_with fail;refine(d _).mono ?_;rintro e w' ⟨rfl,rfl⟩;go_wp2_with fail;go_ret;exact⟨rfl,rfl⟩
theorem wordSub (w:World) (a b:Nat) (g:a<65536) (c:b<65536):Calls Tryz.prog 336 #[.int .i64 (a:Nat),.int .i64 (b:Nat)] w λe w'=>e= .returned (.int .i64 ((a+(65536-b))%65536:Nat))/\w=w':=by
 have h:=zm;have d:=zh λW=>ig W a g;have f:=zh λW=>pX W 350 #[.int .u16 (a:Nat)] b _ c (Cf _ (by decide)) (λargs W=>by kernel_rfl) (λW=>wordSub0 W a b c);go_enter Tryz.func336,Tryz.ntmps336;go_wp2_with fail;refine(d _).mono ?_;rintro e w' ⟨rfl,rfl⟩;go_wp2_with fail;refine(f _).mono ?_;rintro e w' ⟨rfl,rfl⟩;go_wp2_with fail;go_ret;exact⟨rfl,rfl⟩
theorem wordMul (w:World) (a b:Nat) (f:a<65536) (g:b<65536):Calls Tryz.prog 337 #[.int .i64 (a:Nat),.int .i64 (b:Nat)] w λe w'=>e= .returned (.int .i64 ((a*b)%65536:Nat))/\w=w':=by
 have h:=zm;have c:=zh λW=>ig W a f;have d:=zh λW=>pX W 351 #[.int .u16 (a:Nat)] b _ g (Cf _ (by decide)) (λargs W=>by kernel_rfl) (λW=>wordMul0 W a b);go_enter Tryz.func337,Tryz.ntmps337;go_wp2_with fail;refine(c _).mono ?_;rintro e w' ⟨rfl,rfl⟩;go_wp2_with fail;refine(d _).mono ?_;rintro e w' ⟨rfl,rfl⟩;go_wp2_with fail;go_ret;exact⟨rfl,rfl⟩
theorem wordShl (w:World) (a b:Nat) (f:a<65536) (g:b<65536):Calls Tryz.prog 338 #[.int .i64 (a:Nat),.int .i64 (b:Nat)] w λe w'=>e= .returned (.int .i64 (if b<16 then(a*2^b)%65536 else 0:Nat))/\w=w':=by
 have i:=zm;have c:=zh λW=>ig W a f;have d:=zh λW=>pc W 353 #[.int .u16 (a:Nat)] b _ g (Cf _ (by decide)) (λargs W=>by kernel_rfl) (λh W=>wordShl0 W a b h);generalize(if b<16 then(a*2^b)%65536 else 0)=r at*;go_enter Tryz.func338,Tryz.ntmps338;go_wp2_with fail;refine(c _).mono ?_;rintro e w' ⟨rfl,rfl⟩;go_wp2_with fail;refine(d _).mono ?_;rintro e w' ⟨rfl,rfl⟩;go_wp2_with fail;go_ret;exact⟨rfl,rfl⟩
theorem wordShr (w:World) (a b:Nat) (c:a<65536) (g:b<65536):Calls Tryz.prog 339 #[.int .i64 (a:Nat),.int .i64 (b:Nat)] w λe w'=>e= .returned (.int .i64 (if b<16 then a/2^b else 0:Nat))/\w=w':=by
 have i:=zm;have d:=zh λW=>ig W a c;have f:=zh λW=>pc W 354 #[.int .u16 (a:Nat)] b _ g (Nat.lt_of_le_of_lt (Nat.div_le_self _ _) c) (λargs W=>by kernel_rfl) (λh W=>wordShr0 W a b h);generalize(if b<16 then a/2^b else 0)=r at*;go_enter Tryz.func339,Tryz.ntmps339;go_wp2_with fail;refine(d _).mono ?_;rintro e w' ⟨rfl,rfl⟩;go_wp2_with fail;refine(f _).mono ?_;rintro e w' ⟨rfl,rfl⟩;go_wp2_with fail;go_ret;exact⟨rfl,rfl⟩
theorem wordNeg (w:World) (a:Nat) (b:a<65536):Calls Tryz.prog 335 #[.int .i64 (a:Nat)] w λe w'=>e= .returned (.int .i64 ((65536-a)%65536:Nat))/\w=w':=by
 have f:=zm;have c:=zh λW=>ig W a b;have d:=zh λW=>uE W 349 #[.int .u16 (a:Nat)] _ (Cf _ (by decide)) (λargs W=>by kernel_rfl) (λW=>wordNeg0 W a b);go_enter Tryz.func335,Tryz.ntmps335;go_wp2_with fail;refine(c _).mono ?_;rintro e w' ⟨rfl,rfl⟩;go_wp2_with fail;refine(d _).mono ?_;rintro e w' ⟨rfl,rfl⟩;go_wp2_with fail;go_ret;exact⟨rfl,rfl⟩
theorem wordInv (w:World) (a:Nat) (b:a<65536):Calls Tryz.prog 334 #[.int .i64 (a:Nat)] w λe w'=>e= .returned (.int .i64 (65535-a:Nat))/\w=w':=by
 have f:=zm;have c:=zh λW=>ig W a b;have d:=zh λW=>uE W 348 #[.int .u16 (a:Nat)] _ (by omega) (λargs W=>by kernel_rfl) (λW=>wordInv0 W a b);go_enter Tryz.func334,Tryz.ntmps334;go_wp2_with fail;refine(c _).mono ?_;rintro e w' ⟨rfl,rfl⟩;go_wp2_with fail;refine(d _).mono ?_;rintro e w' ⟨rfl,rfl⟩;go_wp2_with fail;go_ret;exact⟨rfl,rfl⟩
theorem wordWrap (w:World) (a:Nat) (b:a<65536):Calls Tryz.prog 295 #[.int .i64 (a:Nat)] w λe w'=>e= .returned (.int .i64 (a:Nat))/\w=w':=by
 have f:=zm;have c:=zh λW=>ig W a b;have d:=zh λW=>jL W a b;go_enter Tryz.func295,Tryz.ntmps295;go_wp2_with fail;refine(c _).mono ?_;rintro e w' ⟨rfl,rfl⟩;go_wp2_with fail;refine(d _).mono ?_;rintro e w' ⟨rfl,rfl⟩;go_wp2_with fail;go_ret;exact⟨rfl,rfl⟩
theorem ones8:∀n:Fin 256,Lib.onesCount n.val=((List.range 8).map λk=>tN (n.val.testBit k)).sum:=by decide+kernel
theorem tE (x:Nat) (h:x<65536):mG x=Lib.onesCount (x/256)+Lib.onesCount (x%256):=by
 have c:=ones8 ⟨x/256,by omega⟩;have d:=ones8 ⟨x%256,by omega⟩;simp only at c d
 have e1:∀k,(x/256).testBit k=x.testBit (8+k):=λk=>by
  have:=Nat.testBit_div_two_pow (n:=8) x k;rw[show(256:Nat)=2^8 by decide,this,Nat.add_comm]
 have a:∀k,k<8->(x%256).testBit k=x.testBit k:=λk hk=>by
  rw[show(256:Nat)=2^8 by decide,Nat.testBit_mod_two_pow];simp[hk]
 rw[c,d];unfold mG;have b:List.range 16=[0,1,2,3,4,5,6,7,8,9,10,11,12,13,14,15]:=by decide
 have e:List.range 8=[0,1,2,3,4,5,6,7]:=by decide
 rw[b,e];simp only[Cm,List.map_nil,List.sum_cons,List.sum_nil,e1,a 0 (by decide),a 1 (by decide),a 2 (by decide),a 3 (by decide),a 4 (by decide),a 5 (by decide),a 6 (by decide),a 7 (by decide),Nat.reduceAdd];omega
theorem foldPop:(⟨(List.append (List.append ([0,1,1,2,1,2,2,3,1,2,2,3,2,3,3,4,1,2,2,3,2,3,3,4,2,3,3,4,3,4,4,5,1,2,2,3,2,3,3,4,2,3,3,4,3,4,4,5,2,3,3,4,3,4,4,5,3,4,4,5,4,5,5,6]:List UInt8) [1,2,2,3,2,3,3,4,2,3,3,4,3,4,4,5,2,3,3,4,3,4,4,5,3,4,4,5,4,5,5,6,2,3,3,4,3,4,4,5,3,4,4,5,4,5,5,6,3,4,4,5,4,5,5,6,4,5,5,6,5,6,6,7]) (List.append [1,2,2,3,2,3,3,4,2,3,3,4,3,4,4,5,2,3,3,4,3,4,4,5,3,4,4,5,4,5,5,6,2,3,3,4,3,4,4,5,3,4,4,5,4,5,5,6,3,4,4,5,4,5,5,6,4,5,5,6,5,6,6,7] [2,3,3,4,3,4,4,5,3,4,4,5,4,5,5,6,3,4,4,5,4,5,5,6,4,5,5,6,5,6,6,7,3,4,4,5,4,5,5,6,4,5,5,6,5,6,6,7,4,5,5,6,5,6,6,7,5,6,6,7,6,7,7,8])).toArray⟩:ByteArray)=Lib.pop8tab:=by rfl
theorem uq (w:World) (x:Nat) (h:x<65536):Calls Tryz.prog 303 #[.int .u16 (x:Nat)] w λe w'=>e= .returned (.int .i64 (mG x:Nat))/\Below w.heap.size w w':=by
 rw[tE x h];go_enter Tryz.func303,Tryz.ntmps303;simp only[foldPop]
 have k:bits .and .u16 (x:Int) 255=(x:Int)%256:=by
  have c:(BitVec.ofInt 16 (x:Int)).toNat=x:=by
   rw[BitVec.ofInt_natCast,BitVec.toNat_ofNat];exact Bi h
  have d:(BitVec.ofInt 16 (255:Int)).toNat=255:=by decide
  show IntKind.u16.wrap ((BitVec.ofInt 16 (x:Int)&&&BitVec.ofInt 16 255).toNat:Int)=_;rw[BitVec.toNat_and,c,d,show(255:Nat)=2^8-1 by decide,Nat.and_two_pow_sub_one_eq_mod,th _ (by have:=Cf x (show 0<2^8 by decide);omega)]
  rfl
 have i:(0:Int)<=(x:Int)/256:=by omega
 have j:(x:Int)/256<=255:=by omega
 have l:Lib.pop8 ((x:Int)/256)=(Lib.onesCount (x/256):Nat):=Lib.pop8_eq ⟨x/256,by omega⟩;have m:Lib.pop8 ((x:Int)%256)=(Lib.onesCount (x%256):Nat):=Lib.pop8_eq ⟨x%256,by omega⟩;have f:=Lib.onesCount_le8 ⟨x/256,by omega⟩;have g:=Lib.onesCount_le8 ⟨x%256,by omega⟩;simp only at f g;generalize Lib.onesCount (x/256)=a at*;generalize Lib.onesCount (x%256)=b at*;go_wp2_with fail
 go_quiet (fail)
 go_wp2_with fail;go_ret;exact⟨aS (by push_cast;rfl),ay (yx _ _) _⟩
theorem wordOnes (w:World) (a:Nat) (b:a<65536):Calls Tryz.prog 247 #[.int .i64 (a:Nat)] w λe w'=>e= .returned (.int .i64 (mG a:Nat))/\Below w.heap.size w w':=by
 have d:=zh λW=>ig W a b;have f:=zh λW=>uq W a b;go_enter Tryz.func247,Tryz.ntmps247;go_wp2_with fail;refine(d _).mono ?_;rintro e w' ⟨rfl,rfl⟩;go_wp2_with fail;refine(f _).mono ?_;rintro e w' ⟨rfl,c⟩;have g:=zh c;clear c;go_wp2_with fail;go_ret;exact⟨rfl,g⟩
theorem tU (a b:Nat) (c:a<65536) (d:b<65536):bits .or .i64 (a:Int) (b:Int)=((a|||b:Nat):Int):=by
 have e:a|||b<2^16:=Nat.or_lt_two_pow (by omega) (by omega)
 show IntKind.i64.wrap ((BitVec.ofInt 64 (a:Int)|||BitVec.ofInt 64 (b:Int)).toNat:Int)=_;rw[BitVec.toNat_or,fP a (by omega),fP b (by omega),IntKind.wrap_i64];omega
theorem sq (a b:Nat) (c:a<65536) (d:b<65536):bits .xor .i64 (a:Int) (b:Int)=((a^^^b:Nat):Int):=by
 have e:a^^^b<2^16:=Nat.xor_lt_two_pow (by omega) (by omega);show IntKind.i64.wrap ((BitVec.ofInt 64 (a:Int)^^^BitVec.ofInt 64 (b:Int)).toNat:Int)=_;rw[BitVec.toNat_xor,fP a (by omega),fP b (by omega),IntKind.wrap_i64];omega
theorem eQ (w:World) (q:Bool):Calls Tryz.prog 333 #[.bool q] w λe w'=>e= .returned (.int .i64 (tN q:Nat))/\w=w':=by
 cases q
 all_goals
  go_enter Tryz.func333,Tryz.ntmps333;go_wp2_with fail;go_ret;exact⟨rfl,rfl⟩
theorem exSingle (w:World) (op:Int) (a:Nat) (b:a<65536) (f:op=4\/op=5\/op=6\/op=25):Calls Tryz.prog 297 #[.int .i64 op,.int .i64 (a:Nat)] w λe w'=>e= .returned (.int .i64 (op1 op a:Nat))/\Below w.heap.size w w':=by
 rcases f with rfl|rfl|rfl|rfl
 ·show Calls _ _ _ _ λe w'=>e= .returned (.int .i64 (tN (decide (a=0)):Nat))/\_;have g:((a:Int)==0)=decide (a=0):=by rw[Bz];simp<;>omega
  have C:=zh λW=>eQ W (decide (a=0));generalize decide (a=0)=q at*;go_enter Tryz.func297,Tryz.ntmps297;go_wp2_with fail;refine(C _).mono ?_;rintro e w' ⟨rfl,rfl⟩;go_wp2_with fail;go_ret;exact⟨rfl,yx _ _⟩
 ·have C:=zh λW=>wordInv W a b;show Calls _ _ _ _ λe w'=>e= .returned (.int .i64 (65535-a:Nat))/\_;generalize 65535-a=r at*;go_enter Tryz.func297,Tryz.ntmps297;go_wp2_with fail;refine(C _).mono ?_;rintro e w' ⟨rfl,rfl⟩;go_wp2_with fail;go_ret;exact⟨rfl,yx _ _⟩
 ·have C:=zh λW=>wordNeg W a b;show Calls _ _ _ _ λe w'=>e= .returned (.int .i64 ((65536-a)%65536:Nat))/\_;generalize(65536-a)%65536=r at*;go_enter Tryz.func297,Tryz.ntmps297;go_wp2_with fail;refine(C _).mono ?_;rintro e w' ⟨rfl,rfl⟩;go_wp2_with fail;go_ret;exact⟨rfl,yx _ _⟩
 ·have C:=zh λW=>wordOnes W a b;show Calls _ _ _ _ λe w'=>e= .returned (.int .i64 (mG a:Nat))/\_;generalize mG a=r at*;go_enter Tryz.func297,Tryz.ntmps297;go_wp2_with fail;refine(C _).mono ?_;rintro e w' ⟨rfl,c⟩;have d:=zh c;clear c;go_wp2_with fail;go_ret;exact⟨rfl,d⟩
theorem exDouble (w:World) (op:Int) (a b:Nat) (h:a<65536) (i:b<65536) (n:7<=op/\op<=21):Calls Tryz.prog 298 #[.int .i64 op,.int .i64 (a:Nat),.int .i64 (b:Nat)] w λe w'=>e= .returned (.int .i64 (op2 op a b:Nat))/\Below w.heap.size w w':=by
 have l:op=7\/op=8\/op=9\/op=10\/op=11\/op=12\/op=13\/op=14\/op=15\/op=16\/op=17\/op=18\/op=19\/op=20\/op=21:=by omega
 clear n;rcases l with rfl|rfl|rfl|rfl|rfl|rfl|rfl|rfl|rfl|rfl|rfl|rfl|rfl|rfl|rfl
 ·have C:=zh λW=>wordAdd W a b h i;show Calls _ _ _ _ λe w'=>e= .returned (.int .i64 ((a+b)%65536:Nat))/\_;generalize(a+b)%65536=r at*;go_enter Tryz.func298,Tryz.ntmps298;go_wp2_with fail;refine(C _).mono ?_;rintro e w' ⟨rfl,rfl⟩;go_wp2_with fail;go_ret;exact⟨rfl,yx _ _⟩
 ·have C:=zh λW=>wordSub W a b h i;show Calls _ _ _ _ λe w'=>e= .returned (.int .i64 ((a+(65536-b))%65536:Nat))/\_;generalize(a+(65536-b))%65536=r at*;go_enter Tryz.func298,Tryz.ntmps298;go_wp2_with fail;refine(C _).mono ?_;rintro e w' ⟨rfl,rfl⟩;go_wp2_with fail;go_ret;exact⟨rfl,yx _ _⟩
 ·have C:=zh λW=>wordMul W a b h i;show Calls _ _ _ _ λe w'=>e= .returned (.int .i64 ((a*b)%65536:Nat))/\_;generalize(a*b)%65536=r at*;go_enter Tryz.func298,Tryz.ntmps298;go_wp2_with fail;refine(C _).mono ?_;rintro e w' ⟨rfl,rfl⟩;go_wp2_with fail;go_ret;exact⟨rfl,yx _ _⟩
 ·show Calls _ _ _ _ λe w'=>e= .returned (.int .i64 (a&&&b:Nat))/\_;have m:=ic a b (by omega) (by omega);generalize a&&&b=r at*;go_enter Tryz.func298,Tryz.ntmps298;go_wp2_with fail;go_ret;exact⟨rfl,yx _ _⟩
 ·show Calls _ _ _ _ λe w'=>e= .returned (.int .i64 (a|||b:Nat))/\_;have m:=tU a b h i;generalize a|||b=r at*
  go_enter Tryz.func298,Tryz.ntmps298;go_wp2_with fail;go_ret;exact⟨rfl,yx _ _⟩
 ·show Calls _ _ _ _ λe w'=>e= .returned (.int .i64 (a^^^b:Nat))/\_;have m:=sq a b h i;generalize a^^^b=r at*;go_enter Tryz.func298,Tryz.ntmps298;go_wp2_with fail;go_ret;exact⟨rfl,yx _ _⟩
 ·have C:=zh λW=>wordShl W a b h i;show Calls _ _ _ _ λe w'=>e= .returned (.int .i64 (if b<16 then(a*2^b)%65536 else 0:Nat))/\_;generalize(if b<16 then(a*2^b)%65536 else 0)=r at*;go_enter Tryz.func298,Tryz.ntmps298;go_wp2_with fail;refine(C _).mono ?_;rintro e w' ⟨rfl,rfl⟩;go_wp2_with fail;go_ret;exact⟨rfl,yx _ _⟩
 ·have C:=zh λW=>wordShr W a b h i;show Calls _ _ _ _ λe w'=>e= .returned (.int .i64 (if b<16 then a/2^b else 0:Nat))/\_;generalize(if b<16 then a/2^b else 0)=r at*;go_enter Tryz.func298,Tryz.ntmps298;go_wp2_with fail;refine(C _).mono ?_;rintro e w' ⟨rfl,rfl⟩;go_wp2_with fail;go_ret;exact⟨rfl,yx _ _⟩
 ·show Calls _ _ _ _ λe w'=>e= .returned (.int .i64 (tN (decide (a=b)):Nat))/\_;have o:((a:Int)==(b:Int))=decide (a=b):=by rw[Bz];simp<;>omega
  have C:=zh λW=>eQ W (decide (a=b));generalize(decide (a=b))=q at*;go_enter Tryz.func298,Tryz.ntmps298;go_wp2_with fail;refine(C _).mono ?_;rintro e w' ⟨rfl,rfl⟩;go_wp2_with fail;go_ret;exact⟨rfl,yx _ _⟩
 ·show Calls _ _ _ _ λe w'=>e= .returned (.int .i64 (tN (!decide (a=b)):Nat))/\_;have o:((a:Int) !=(b:Int))= !decide (a=b):=by rw[Bz];simp<;>omega
  have C:=zh λW=>eQ W (!decide (a=b));generalize(!decide (a=b))=q at*;go_enter Tryz.func298,Tryz.ntmps298;go_wp2_with fail;refine(C _).mono ?_;rintro e w' ⟨rfl,rfl⟩;go_wp2_with fail;go_ret;exact⟨rfl,yx _ _⟩
 ·show Calls _ _ _ _ λe w'=>e= .returned (.int .i64 (tN (decide (a<b)):Nat))/\_;have C:=zh λW=>eQ W (decide (a<b));go_enter Tryz.func298,Tryz.ntmps298;go_wp2_with fail;refine(C _).mono ?_;rintro e w' ⟨rfl,rfl⟩;go_wp2_with fail;go_ret;exact⟨rfl,yx _ _⟩
 ·show Calls _ _ _ _ λe w'=>e= .returned (.int .i64 (tN (!decide (b<a)):Nat))/\_;rw[show(!decide (b<a))=decide (a<=b) by rw[Bz];simp<;>omega];have C:=zh λW=>eQ W (decide (a<=b));go_enter Tryz.func298,Tryz.ntmps298;go_wp2_with fail;refine(C _).mono ?_;rintro e w' ⟨rfl,rfl⟩;go_wp2_with fail;go_ret;exact⟨rfl,yx _ _⟩
 ·show Calls _ _ _ _ λe w'=>e= .returned (.int .i64 (tN (decide (a≠0)&&decide (b≠0)):Nat))/\_;have g:=zh λW=>eQ W true;have j:=zh λW=>eQ W false
  by_cases c:a=0
  ·have f:((a:Int) !=0)=false:=by simpa using c
   rw[show(decide (a≠0)&&decide (b≠0))=false by simp[c]];clear c;go_enter Tryz.func298,Tryz.ntmps298;go_wp2_with fail;refine(j _).mono ?_;rintro e w' ⟨rfl,rfl⟩;go_wp2_with fail;go_ret;exact⟨rfl,yx _ _⟩
  ·by_cases d:b=0
   ·have f:((a:Int) !=0)=true:=by simpa using c
    have k:((b:Int) !=0)=false:=by simpa using d
    rw[show(decide (a≠0)&&decide (b≠0))=false by simp[c,d]];clear c d;go_enter Tryz.func298,Tryz.ntmps298;go_wp2_with fail;refine(j _).mono ?_;rintro e w' ⟨rfl,rfl⟩;go_wp2_with fail;go_ret;exact⟨rfl,yx _ _⟩
   ·have f:((a:Int) !=0)=true:=by simpa using c
    have k:((b:Int) !=0)=true:=by simpa using d
    rw[show(decide (a≠0)&&decide (b≠0))=true by simp[c,d]];clear c d;go_enter Tryz.func298,Tryz.ntmps298;go_wp2_with fail;refine(g _).mono ?_;rintro e w' ⟨rfl,rfl⟩;go_wp2_with fail;go_ret;exact⟨rfl,yx _ _⟩
 ·show Calls _ _ _ _ λe w'=>e= .returned (.int .i64 (tN (decide (a≠0)||decide (b≠0)):Nat))/\_;have g:=zh λW=>eQ W true;have j:=zh λW=>eQ W false
  by_cases c:a=0
  ·by_cases d:b=0
   ·have f:((a:Int) !=0)=false:=by simpa using c
    have k:((b:Int) !=0)=false:=by simpa using d
    rw[show(decide (a≠0)||decide (b≠0))=false by simp[c,d]];clear c d;go_enter Tryz.func298,Tryz.ntmps298;go_wp2_with fail;refine(j _).mono ?_;rintro e w' ⟨rfl,rfl⟩;go_wp2_with fail;go_ret;exact⟨rfl,yx _ _⟩
   ·have f:((a:Int) !=0)=false:=by simpa using c
    have k:((b:Int) !=0)=true:=by simpa using d
    rw[show(decide (a≠0)||decide (b≠0))=true by simp[c,d]];clear c d;go_enter Tryz.func298,Tryz.ntmps298;go_wp2_with fail;refine(g _).mono ?_;rintro e w' ⟨rfl,rfl⟩;go_wp2_with fail;go_ret;exact⟨rfl,yx _ _⟩
  ·have f:((a:Int) !=0)=true:=by simpa using c
   rw[show(decide (a≠0)||decide (b≠0))=true by simp[c]];clear c;go_enter Tryz.func298,Tryz.ntmps298;go_wp2_with fail;refine(g _).mono ?_;rintro e w' ⟨rfl,rfl⟩;go_wp2_with fail;go_ret;exact⟨rfl,yx _ _⟩
 ·show Calls _ _ _ _ λe w'=>e= .returned (.int .i64 (tN (!decide (a≠0)||decide (b≠0)):Nat))/\_;have g:=zh λW=>eQ W true;have j:=zh λW=>eQ W false
  by_cases c:a=0
  ·have f:((a:Int)==0)=true:=by simpa using c
   rw[show(!decide (a≠0)||decide (b≠0))=true by simp[c]];clear c;go_enter Tryz.func298,Tryz.ntmps298;go_wp2_with fail;refine(g _).mono ?_;rintro e w' ⟨rfl,rfl⟩;go_wp2_with fail;go_ret;exact⟨rfl,yx _ _⟩
  ·by_cases d:b=0
   ·have f:((a:Int)==0)=false:=by simpa using c
    have k:((b:Int) !=0)=false:=by simpa using d
    rw[show(!decide (a≠0)||decide (b≠0))=false by simp[c,d]];clear c d;go_enter Tryz.func298,Tryz.ntmps298;go_wp2_with fail;refine(j _).mono ?_;rintro e w' ⟨rfl,rfl⟩;go_wp2_with fail;go_ret;exact⟨rfl,yx _ _⟩
   ·have f:((a:Int)==0)=false:=by simpa using c
    have k:((b:Int) !=0)=true:=by simpa using d
    rw[show(!decide (a≠0)||decide (b≠0))=true by simp[c,d]];clear c d;go_enter Tryz.func298,Tryz.ntmps298;go_wp2_with fail;refine(g _).mono ?_;rintro e w' ⟨rfl,rfl⟩;go_wp2_with fail;go_ret;exact⟨rfl,yx _ _⟩
def nI (l:List Nat):List Int:=l.map λn:Nat=>(n:Int)
theorem aF (l:List Nat):(nI l).length=l.length:=by simp[nI]
theorem eO (l:List Nat) (j:Nat):(nI l).getD j 0=((l.getD j 0:Nat):Int):=by
 unfold nI;rw[yj,yj,yW];cases l[j]? <;>rfl
theorem ins_step {x:Nat} {l:List Nat} {i:Nat} (h:i+1<l.length):mH x (l.drop i)=((decide (l.getD i 0<=x)&&decide (x<=l.getD (i+1) 0))||mH x (l.drop (i+2))):=by
 rw[Aq (by omega),Aq h,yj,yj,yp (by omega),yp h]
 rfl
theorem ins_end {x:Nat} {l:List Nat} {i:Nat} (h:¬i+1<l.length):mH x (l.drop i)=false:=by
 have c:(l.drop i).length<=1:=by rw[AY];omega
 match hq:l.drop i,c with
 |[],_=>rfl
 |[a],_=>rfl
 |a::b::r,c=>simp at c
theorem xP (w:World) (op:Int) (l:List Nat) (v:Value) (C:IL w v (nI l)) (F:∀x∈l,x<65536) (d:eY op l.length=true) (N:op≠1) (P:op≠2):
  Calls Tryz.prog 233 #[.int .i64 op,v] w λe w'=>e= .returned (.int .i64 (opT op l:Nat))/\Below w.heap.size w w':=by
 have U:(op=22/\l.length=3)\/(op=23/\3<=l.length/\l.length<=33)\/((op=4\/op=5\/op=6\/op=25)/\l.length=1)\/((7<=op/\op<=21)/\l.length=2):=by
  unfold eY at d;rw[yw (by omega)] at d
  by_cases c1:op=4\/op=5\/op=6\/op=25
  ·rw[yz c1] at d;exact .inr (.inr (.inl ⟨c1,by simpa using d⟩))
  ·rw[yw c1] at d
   by_cases c2:op=22
   ·rw[yz c2] at d;exact .inl ⟨c2,by simpa using d⟩
   ·rw[yw c2] at d
    by_cases c3:op=23
    ·rw[yz c3] at d;simp only[yF,yY] at d;exact .inr (.inl ⟨c3,d.1.2,d.2⟩)
    ·rw[yw c3] at d;simp only[yF,yY] at d;exact .inr (.inr (.inr ⟨d.1,d.2⟩))
 clear d N P;rcases U with⟨rfl,Q⟩|⟨rfl,Q,S⟩|⟨d,N⟩|⟨d,P⟩
 ·match l,Q with
  |[x,y,z],_=>
   rcases C.form with⟨A,c,rfl,G⟩|⟨b,o,c,rfl,B, -,f,a⟩
   ·cases G
   have q:=a 0 (by simp[nI]);have c1:=a 1 (by simp[nI]);have c2:=a 2 (by simp[nI]);rw[yU] at q;change w.cell? _=some (.int .i64 (x:Nat)) at q;change w.cell? _=some (.int .i64 (y:Nat)) at c1;change w.cell? _=some (.int .i64 (z:Nat)) at c2;show Calls _ _ #[_,.slice _ 3 c] _ λe w'=>e= .returned (.int .i64 ((if x≠0 then y else z:Nat)))/\_;clear a B F C f
   by_cases J:x=0
   ·have f1:((x:Int) !=0)=false:=by simpa using J
    rw[yw (by omega)];clear J;go_enter Tryz.func233,Tryz.ntmps233;go_wp2_with fail;go_ret;exact⟨rfl,yx _ _⟩
   ·have f1:((x:Int) !=0)=true:=by simpa using J
    rw[yz J];clear J;go_enter Tryz.func233,Tryz.ntmps233;go_wp2_with fail;go_ret;exact⟨rfl,yx _ _⟩
 ·have H:Hid (opT 23 l=tN (mH (l.getD 0 0) (l.drop 1))):=zh (by
   unfold opT
   rw[yw (by decide),yz rfl,List.drop_one])
  rcases C.form with⟨A,c,rfl,G⟩|⟨b,o,c,rfl,B, -,f,a⟩
  ·have:(nI l).length=0:=by rw[G];rfl
   rw[aF] at this;omega
  rw[aF] at a B⊢
  have D:Hid (∀j,j<l.length->∀W,Below w.heap.size w W->W.cell? ⟨b,o+j,none⟩=some (.int .i64 (l.getD j 0:Nat))):=zh λj X W T=>by
   rw[T.cell f,a j X,eO]
  have L:=zh λi (h:i+1<l.length)=>ins_step (x:=l.getD 0 0) h;have K:=zh λi (h:¬i+1<l.length)=>ins_end (x:=l.getD 0 0) h;have q:=D.out 0 (by omega) w (yx _ _);rw[yU] at q;have E:Hid (∀W,Below w.heap.size w W->W.cell? ⟨b,o,none⟩=some (.int .i64 (l.getD 0 0:Nat))):=zh λW T=>by have:=D.out 0 (by omega) W T;rwa [yU] at this
  generalize l.getD 0 0=x at*;generalize opT 23 l=R at*;obtain⟨m,hm⟩:=zv (l.length);rw[<-hm] at Q S B D L K⊢;clear C a F hm q;go_enter Tryz.func233,Tryz.ntmps233;go_wp2_with fail
  go_loopw [5] (λi wr=>∃j:Nat,j<=40/\i= .int .i64 j/\R=tN (mH x (l.drop j))/\Below w.heap.size w wr) (λi _=>40-(intOf i).toNat)
  case atStart=>exact⟨1,by decide,rfl,H,yx _ _⟩
  case round=>
   obtain⟨j,X,rfl,Y,u⟩:=hrel;obtain⟨r,t⟩:=zk2 u Y;clear H u Y
   by_cases s:j+1<m
   ·have M:(j:Int)+1<(m:Int):=by omega
    have V:(0:Int)<=(j:Int):=by omega
    have g3:(j:Int)<(m:Int):=by omega
    have g4:(0:Int)<=(j:Int)+1:=by omega
    have g5:(0:Int)<(m:Int):=by omega
    have k:=zh (t.out.trans (AA tN (L j s)));have d0:=λn=>E.out (wr.drewN n) (ay r n);have d1:=λn=>D.out j (by omega) (wr.drewN n) (ay r n);have d2:=λn=>D.out (j+1) s (wr.drewN n) (ay r n);generalize l.getD j 0=lo at*;generalize l.getD (j+1) 0=hi at*;clear L K t D E
    by_cases Z:lo<=x
    ·have e1:(lo:Int)<=(x:Int):=by omega
     by_cases k2:x<=hi
     ·have e2:(x:Int)<=(hi:Int):=by omega
      have g:Hid (R=1):=zh (by rw[k.out,yB Z,yB k2];rfl);clear k;go_wp2_with fail
      go_quiet (fail)
      go_wp2_with fail;go_ret;exact⟨aS (by rw[g.out];rfl),ay r _⟩
     ·have e2:¬(x:Int)<=(hi:Int):=by omega
      have g:Hid (R=tN (mH x (l.drop (j+2)))):=zh (by rw[k.out,yv k2,Bool.and_false,B7]);clear k;go_wp2_with fail
      go_quiet (fail)
      go_wp2_with fail;go_roundw
      ·exact⟨j+2,by omega,by go_num,g,ay r _⟩
      ·simp[intOf];omega
    ·have e1:¬(lo:Int)<=(x:Int):=by omega
     have g:Hid (R=tN (mH x (l.drop (j+2)))):=zh (by rw[k.out,yv Z,Bool.false_and,B7]);clear k;go_wp2_with fail
     go_quiet (fail)
     go_wp2_with fail;go_roundw
     ·exact⟨j+2,by omega,by go_num,g,ay r _⟩
     ·simp[intOf];omega
   ·have M:¬(j:Int)+1<(m:Int):=by omega
    have g:Hid (R=0):=zh (by rw[t.out,K.out j s];rfl);clear L K t D E;go_wp2_with fail;go_ret;exact⟨aS (by rw[g.out];rfl),r⟩
 ·match l,N with
  |[x],_=>
   rcases C.form with⟨A,c,rfl,G⟩|⟨b,o,c,rfl,B, -,f,a⟩
   ·cases G
   have q:=a 0 (by simp[nI]);rw[yU] at q;change w.cell? _=some (.int .i64 (x:Nat)) at q;have I:=zh λW=>exSingle W op x (F x (by simp)) d
   have H:Hid (opT op [x]=op1 op x):=zh (by
    unfold opT
    rw[yw (by omega),yw (by omega),yz (show[x].length=1 from rfl)];rfl)
   show Calls _ _ #[_,.slice _ 1 c] _ _;generalize opT op [x]=R at*;rw[<-H.out] at I;have M:(op==22)=false:=by simpa using(by omega:¬op=22)
   have V:(op==23)=false:=by simpa using(by omega:¬op=23)
   clear a B F C f d;go_enter Tryz.func233,Tryz.ntmps233;go_wp2_with fail;refine(I _).mono ?_;rintro e w' ⟨rfl,u⟩;have r:=zh u;clear u;go_wp2_with fail;go_ret;exact⟨rfl,r⟩
 ·match l,P with
  |[x,y],_=>
   rcases C.form with⟨A,c,rfl,G⟩|⟨b,o,c,rfl,B, -,f,a⟩
   ·cases G
   have q:=a 0 (by simp[nI]);have c1:=a 1 (by simp[nI]);rw[yU] at q;change w.cell? _=some (.int .i64 (x:Nat)) at q;change w.cell? _=some (.int .i64 (y:Nat)) at c1;have l0:∀p:Lat w,p.w.cell? ⟨b,o,none⟩=some (.int .i64 (x:Nat)):=λp=>(p.h.cell f).trans q;have l1:∀p:Lat w,p.w.cell? ⟨b,o+1,none⟩=some (.int .i64 (y:Nat)):=λp=>(p.h.cell f).trans c1;have I:=zh λW=>exDouble W op x y (F x (by simp)) (F y (by simp)) d
   have H:Hid (opT op [x,y]=op2 op x y):=zh (by
    unfold opT
    rw[yw (by omega),yw (by omega),yw (by simp)];rfl)
   show Calls _ _ #[_,.slice _ 2 c] _ _;generalize opT op [x,y]=R at*;rw[<-H.out] at I;have M:(op==22)=false:=by simpa using(by omega:¬op=22)
   have V:(op==23)=false:=by simpa using(by omega:¬op=23)
   clear a B F C f d q c1;go_enter Tryz.func233,Tryz.ntmps233;go_wp2_with fail;refine aJ (by kernel_rfl) (by kernel_rfl) ?_
   repeat(go_big_quiet_step (with_reducible exact bQ (I.out _)))
   refine yN ?_;intro w2 u;have r:=zh u;clear u l0 l1;go_wp2_with fail;go_ret;exact⟨rfl,r⟩
abbrev Sg:=ByteArray×Nat
def sg0:Sg:=(⟨#[]⟩,0)
def sgL (x:Sg):List Value:=[.string x.1,.int .i64 (x.2:Nat)]
def sgR:Rd Sg where
 k:=2
 ts:=[]
 pos:=by decide
 R:=λw us x F=>us=sgL x
 len:=λh=>by rw[h];rfl
 one:=λh u a=>by
  rw[h] at a;unfold sgL at a;simp only[yC,yI,AH] at a;rcases a with rfl|rfl<;>rfl
 mono:=λh _=>h
 same:=λh _ _=>h
theorem Rs.sgs {w:World} {v:Value} {F:Nat->Prop} {l:List Sg} (h:Rs sgR w v l F):∃(A:Option Addr) (c:Nat),v= .slice A l.length c/\l.length<=c/\∀k,k<l.length->∃b o,A=some ⟨b,o,none⟩/\b<w.heap.size/\w.cell? ⟨b,o+k*2,none⟩=some (.string (l.getD k sg0).1)/\w.cell? ⟨b,o+k*2+1,none⟩=some (.int .i64 ((l.getD k sg0).2:Nat)):=by
 obtain⟨A,c,rfl,i,h⟩:=h;refine⟨A,c,rfl,i,λk hk=> ?_⟩;obtain⟨b,o,rfl,g,h⟩:=h (by omega);obtain⟨us,d,f⟩:=h k _ (yp hk);have a:us=sgL l[k]:=f;subst a;have e:l.getD k sg0=l[k]:=by rw[yj,yp hk];rfl
 rw[e];exact⟨b,o,rfl,g,d 0 (by decide),d 1 (by decide)⟩
def eI:List Sg->ByteArray->Option Nat
 |[],_=>none
 |x::l,s=>if x.1=s then some x.2 else eI l s
theorem l6 {s:ByteArray}:∀(l:List Sg) (k:Nat),(∀j,j<k->(l.getD j sg0).1≠s)->k<=l.length->eI l s=eI (l.drop k) s
 |l,0,_,_=>rfl
 |[],k+1,_,h=>by simp at h
 |x::l,k+1,h,hk=>by
  have a:=h 0 (by omega);have e:eI (x::l) s=if x.1=s then some x.2 else eI l s:=rfl
  rw[e,yw (by simpa using a),l6 l k (λj b=>h (j+1) (by omega)) (by simpa using hk)]
  rfl
theorem find_hit {s:ByteArray} {l:List Sg} {k:Nat} (a:∀j,j<k->(l.getD j sg0).1≠s) (hk:k<l.length) (h:(l.getD k sg0).1=s):eI l s=some (l.getD k sg0).2:=by
 rw[l6 l k a (by omega),Aq hk];rw[yj,yp hk] at h⊢;simp only[AV] at h⊢;show(if _ then _ else _)=_;rw[yz h]
theorem xM {s:ByteArray} {l:List Sg} (a:∀j,j<l.length->(l.getD j sg0).1≠s):eI l s=none:=by
 rw[l6 l l.length a (yq _),List.drop_length];rfl
theorem exFind (w:World) (a:List Sg) (v:Value) (s:ByteArray) (V:Rs sgR w v a ah) (hl:a.length<=1000) (z:∀x∈a,x.2<65536):
  Calls Tryz.prog 230 #[.agg #[v],.string s] w λe w'=>e= .returned (.tuple #[.int .i64 ((eI a s).getD 0:Nat),.bool (eI a s).isSome])/\Below w.heap.size w w':=by
 obtain⟨A,c,rfl,hc,X⟩:=V.sgs;have D:=zh X;have H:=zh λk h1 h2 h3=>find_hit (s:=s) (l:=a) (k:=k) h1 h2 h3;have I:=zh (xM (s:=s) (l:=a));have K:=zh z;obtain⟨n,L⟩:=zv (a.length);have M:=zh L;rw[<-L] at hc hl D⊢;generalize eI a s=R at*;clear V X z L;go_enter Tryz.func230,Tryz.ntmps230;go_upto_region 1 with fail;generalize f:w.alloc _=w1 at*;obtain⟨g,S⟩:=zB1 f;clear f;have m:=za S 0 rfl;go_wp2_with fail;clear m;clear S
 go_loopw [11] (λi wr=>∃k:Nat,k<=n/\i= .int .i64 k/\Hid (∀j,j<k->(a.getD j sg0).1≠s)/\Below w.heap.size w wr) (λi _=>n-(intOf i).toNat)
 case atStart=>exact⟨0,yt _,rfl,zh (λj h=>by omega),g⟩
 case round=>
  obtain⟨k,hk,rfl,d,T⟩:=hrel;clear g w1;have g:=zh T;clear T
  by_cases u:k<n
  ·have y:(k:Int)<n:=by omega
   have k0:(0:Int)<=(k:Int):=by omega
   have r:k<a.length:=by rw[<-M.out];exact u
   obtain⟨b,o,e2,q,F,G⟩:=D.out k u;subst e2;replace F:=(g.out.cell q).trans F;replace G:=(g.out.cell q).trans G;have B:=zh (H k d.out r)
   have C:Hid ((a.getD k sg0).1≠s->∀j,j<k+1->(a.getD j sg0).1≠s):=zh λh j U=>by
    by_cases e:j=k
    ·rw[e];exact h
    ·exact d.out j (by omega)
   have z:=K.out _ (getD_in sg0 r);generalize a.getD k sg0=x at*;obtain⟨nm,vl⟩:=x;simp only at F G B C z;clear D H I K d;go_upto_region 4 with fail;clear F G;generalize f:wr.alloc _=w3 at*;obtain⟨p,N⟩:=zA1 f;clear f;replace g:=zb g p;clear p;have P:=za N 0 rfl;have Q:=za N 1 rfl
   by_cases E:nm=s
   ·subst E;have J:=zh (B rfl);have Y:=zh λW=>wordWrap W vl z;clear B C;go_wp2_with fail;refine(Y _).mono ?_;rintro e w' ⟨rfl,rfl⟩;go_wp2_with fail;go_ret2;rw[J.out];exact⟨rfl,g⟩
   ·have Z:=zh (C E);have hq:=(kh E).1;clear B C E;go_wp2_with fail;go_roundw
    ·exact⟨k+1,by omega,by go_num,Z,g⟩
    ·simp[intOf];omega
  ·have y:¬(k:Int)<n:=by omega
   have t:k=n:=by omega
   have J:=zh (I λj U=>d.out j (by rw[t,M.out];exact U));clear I H D K d t;go_wp2_with fail;go_ret2;rw[J.out];exact⟨rfl,g⟩
theorem ite_lt {c:Prop} [Decidable c] {a b n:Nat} (d:a<n) (e:b<n):(if c then a else b)<n:=by split<;>assumption
theorem op1_lt {op:Int} {a:Nat} (h:a<65536):op1 op a<65536:=by
 unfold op1;have b:=tN_lt (decide (a=0));have c:=uU a
 split
 ·exact b
 ·split
  ·omega
  ·split
   ·omega
   ·exact c
theorem op2_lt {op:Int} {a b:Nat} (d:a<65536) (i:b<65536):op2 op a b<65536:=by
 have e:a&&&b<2^16:=Nat.and_lt_two_pow _ (by omega);have f:a|||b<2^16:=Nat.or_lt_two_pow (by omega) (by omega)
 have g:a^^^b<2^16:=Nat.xor_lt_two_pow (by omega) (by omega);have h:a/2^b<65536:=Nat.lt_of_le_of_lt (Nat.div_le_self _ _) d;have c:=tN_lt;unfold op2
 repeat' (apply ite_lt)
 all_goals first|exact c _|omega
theorem opT_lt {op:Int} {l:List Nat} (b:∀x∈l,x<65536):opT op l<65536:=by
 have a:∀k,l.getD k 0<65536:=λk=>by
  rw[yj]
  cases h:l[k]? with
  |none=>decide
  |some x=>exact b x (List.mem_of_getElem? h)
 unfold opT
 split
 ·split
  ·exact a 1
  ·exact a 2
 ·split
  ·exact tN_lt _
  ·split
   ·exact op1_lt (a 0)
   ·exact op2_lt (a 0) (a 1)
theorem sM (σ:ByteArray->Nat) (k:Nat) (e:Ex):evT σ (k+1) e=if e.op=1 then e.n.toNat else if e.op=2 then σ e.name else opT e.op (e.args.map (evT σ k)):=by cases e;rfl
theorem rU {b:ByteArray->Bool} {k:Nat} {e:Ex} (h:okE b (k+1) e=true):eY e.op e.args.length=true/\(e.op=1\/e.n=0)/\0<=e.n/\e.n<=65535/\(e.op=2->b e.name=true)/\∀a∈e.args,okE b k a=true:=by
 cases e;exact lS h
theorem evT_lt {σ:ByteArray->Nat} (c:∀s,σ s<65536) {b:ByteArray->Bool}:∀(k:Nat) (e:Ex),okE b k e=true->evT σ k e<65536
 |0,_,h=>by cases h
 |k+1,e,h=>by
  obtain⟨_,_,i,j,_,d⟩:=rU h;rw[sM]
  split
  ·omega
  ·split
   ·exact c _
   ·refine opT_lt λx g=> ?_;obtain⟨a,f,rfl⟩:=AP.1 g;exact evT_lt c k a (d a f)
theorem opOk_len {op:Int} {m:Nat} (h:eY op m=true):m<=33/\1<=op/\op<=25/\op≠3/\op≠24:=by
 unfold eY at h
 repeat' split at h
 all_goals(simp only[yF,yY] at h;omega)
def sgV (a:List Sg) (s:ByteArray):Nat:=(eI a s).getD 0
theorem sgV_lt {a:List Sg} (b:∀y∈a,y.2<65536) (s:ByteArray):sgV a s<65536:=by
 unfold sgV
 induction a with
 |nil=>exact(by decide:0<65536)
 |cons x l ih=>
  show(if x.1=s then some x.2 else eI l s).getD 0<65536
  split
  ·exact b x (by simp)
  ·exact ih λy c=>b y (yT _ c)
def VlC (k:Nat):Prop:=∀(w:World) (a:List Sg) (b:ByteArray->Bool) (e:Ex) (c:Nat) (v x:Value),Rs sgR w v a ah->a.length<=1000->(∀y∈a,y.2<65536)->okE b k e=true->Rs (exR c) w x e.args ah→
 Calls Tryz.prog 160 #[.agg #[v],exV e x] w λr w'=>r= .returned (.int .i64 (evT (sgV a) k e:Nat))/\Below w.heap.size w w'
theorem ZY (l:List Nat) (a:Nat):nI l++[(a:Int)]=nI (l++[a]):=by simp[nI]
theorem exValue1 (k:Nat) (IH:VlC k):VlC (k+1):=by
 intro w d ar e dd v x hv af N aM hr;obtain⟨i0,hi,aT,aU,aV⟩:=Bb jz;obtain⟨HI,a1,a2,a3⟩:=zk4 hi aT aU aV;obtain⟨ai,bd,be,bf,a7,aj⟩:=rU aM;obtain⟨aI,bb,a8,aN,ak⟩:=opOk_len ai;obtain⟨Q,J,P,U⟩:=zk4 IH hv N aj;obtain⟨V,c0,a9,aP, -⟩:=hv.sgs;subst a9;obtain⟨A,c,rfl,hc,hx⟩:=hr.exs;have HX:=zh hx;have X:Hid (evT (sgV d) (k+1) e=if e.op=1 then e.n.toNat else if e.op=2 then sgV d e.name else opT e.op (e.args.map (evT (sgV d) k))):=zh (sM _ _ _);have CF:=zh fun(W:World) (h:Below w.heap.size w W)=>exFind W d _ e.name (hv.below h) af N;have ay:Hid ((eI d e.name).getD 0=sgV d e.name):=zh rfl
 have CO:=zh fun(W:World) (vl:Value) (h:IL W vl (nI (e.args.map (evT (sgV d) k)))) (K:e.op≠1) (h2:e.op≠2)=>xP W e.op _ vl h (λy hy=>by
  obtain⟨a,ha,rfl⟩:=AP.1 hy
  exact evT_lt (sgV_lt N) k a (aj a ha)) (by rw[yD];exact ai) K h2
 generalize evT (sgV d) (k+1) e=R at*;obtain⟨n,hn⟩:=zv (e.args.length);have HN:=zh hn;have Y:Hid (nI (e.args.map (evT (sgV d) k))=nI ((e.args.take n).map (evT (sgV d) k))):=zh (by rw[hn,Ay]);rw[<-hn] at aI hc HX;unfold exV;rw[<-hn];obtain⟨el,G⟩:=zv (d.length);rw[<-G] at CF af aP J⊢;have aY:=zh G;generalize e.op=op at*;generalize e.n=en at*;generalize e.name=em at*;clear IH hv N hr hx hn aM ai a7 aj hi aT aU aV G aP;go_enter Tryz.func160,Tryz.ntmps160;go_upto_region 1 with fail;generalize I:w.alloc _=zw1 at*;generalize aW:zw1.alloc _=w1 at*;obtain⟨g,u,m⟩:=zB2 I aW;clear I aW;have aG:=za m 3 rfl;go_wp2_with fail;clear aG;have av:=zh (OG.nil dB w1 w.heap.size 0 3 (by decide) (yt _))
 go_loopw [5,15] (λsl i wr=>∃j:Nat,j<=n/\i= .int .i64 j/\OG dB wr w.heap.size 0 3 sl (nI ((e.args.take j).map (evT (sgV d) k)))/\Box wr w.heap.size #[.slice V el c0] 234/\Box wr (w.heap.size+1) #[.int .i64 op,.int .i64 en,.string em,.slice A n c] 79/\Below w.heap.size w wr) (λ_ i _=>n-(intOf i).toNat)
 case atStart=>exact⟨0,yt _,rfl,av,u,m,g⟩
 case round=>
  obtain⟨j,hj,rfl,aL,aR,aQ,s⟩:=hrel;clear g u m av w1;obtain⟨g,u,m,f⟩:=zk4 s aR aQ aL;clear s aR aQ aL
  by_cases aJ:j<n
  ·have aK:(j:Int)<n:=by omega
   have j0:(0:Int)<=(j:Int):=by omega
   have ah:j<e.args.length:=by rw[<-HN.out];exact aJ
   obtain⟨b,o,p,d',e2,M,bc,l,ap, -⟩:=HX.out j aJ;subst e2;have v0:=(g.out.cell M).trans (l 0 _ rfl);have v1:=(g.out.cell M).trans (l 1 _ rfl);have v2:=(g.out.cell M).trans (l 2 _ rfl);have v3:=(g.out.cell M).trans (l 3 _ rfl);rw[yU] at v0
   have a0:Hid (nI ((e.args.take j).map (evT (sgV d) k))++[((evT (sgV d) k (e.args.getD j ex0):Nat):Int)]=nI ((e.args.take (j+1)).map (evT (sgV d) k))):=zh (by
    rw[ZY,Am,yp ah,Bx,yj,yp ah];rfl)
   have ax:=zh ap;have aw:=zh (U _ (getD_in ex0 ah));have S:Hid ((nI ((e.args.take j).map (evT (sgV d) k))).length=j):=zh (by rw[aF,yD,yM];omega);generalize e.args.getD j ex0=a at*;obtain⟨Ap,cp,rfl,a6⟩:=ap.slice;clear l ap;have CD:=zh fun(W':World) (K:Below w.heap.size w W')=>Q.out W' d ar a d' _ _ (J.out.below K) (by rw[<-aY.out];exact af) P aw (ax.out.below K);unfold exV at CD;generalize evT (sgV d) k a=r at*;generalize nI ((e.args.take j).map (evT (sgV d) k))=done at*;obtain⟨ao,ae⟩:=zv (a.op);obtain⟨an,ad⟩:=zv (a.n);obtain⟨am,ab⟩:=zv (a.name);obtain⟨al,aa⟩:=zv (a.args.length);rw[<-ae,<-ad,<-ab,<-aa] at CD;rw[<-ae] at v0;rw[<-ad] at v1;rw[<-ab] at v2;rw[<-aa] at v3;clear ae ad ab aa aw ax a6 Q HX J P U CF CO X ay Y;obtain⟨A1,c1,aO⟩:=f.out.slice;rw[S.out] at aO;subst aO;go_upto_region 5 with fail;clear v0 v1 v2 v3;replace f:=zh (f.out.below (ac wr (.cells #[.int .i64 ao,.int .i64 an,.string am,.slice Ap al cp] 79)));generalize I:wr.alloc _=w3 at*;obtain⟨L,Z⟩:=zA1 I;clear I;replace u:=zb u L;replace m:=zb m L;replace g:=zb g L;clear L;have az:=za Z 0 rfl;have aA:=za Z 1 rfl;have aB:=za Z 2 rfl;have aD:=za Z 3 rfl;have D:=za u 0 rfl;go_wp2_with fail;refine(CD w3 g).mono ?_;rintro q w4 ⟨rfl,s⟩;replace f:=zb f s;clear az aA aB aD D;replace u:=zb u s;replace m:=zb m s;replace Z:=zb Z s;replace g:=zb g s;clear s;have E:=ac w4 (.cells #[.int .i64 (r:Nat)] 3);have aZ:=zh (Rs.one (φ:=dB) (w:=w4) (F:=Ty (w4.alloc (.cells #[.int .i64 (r:Nat)] 3)) 0 dB.ts) (x:=(r:Int)) (us:=[.int .i64 (r:Nat)]) rfl 3);replace f:=zb f E;replace u:=zb u E;replace m:=zb m E;replace g:=zb g E;clear E Z;go_wp2_with(at_builtin;refine aC (φ:=dB) (T:=3) (B:=w.heap.size) (C:=0) (xs:=done) (ys:=[(r:Int)]) rfl _ _ 32 rfl i0 (.int .i64 0) 8 Tryz.underlying32 HI a1 a2 a3 rfl rfl f (.slice (some ⟨w4.heap.size,0,none⟩) 1 1) rfl aZ ?c1 ?c2 ?c3 ?_)
   case c1=>simp only[yr,yR];rw[S.out];omega
   case c2=>simp only[yr,yR];rw[S.out];unfold maxLen;omega
   case c3=>exact g.out.size
   intro v' w7 H ag;have a5:=zh (f.out.boxKept ag.out u (.inl (by decide)));have a4:=zh (f.out.boxKept ag.out m (.inl (by decide)));have aX:=zh (f.out.belowG ag.out g g.out.size (yq _));rw[a0.out] at H;obtain⟨A7,c7,rfl⟩:=H.out.slice;go_wp2_with fail;go_roundw
   ·exact⟨j+1,by omega,by go_num,H.out,a5,a4,aX⟩
   ·simp[intOf];omega
  ·have aK:¬(j:Int)<n:=by omega
   have aH:j=n:=by omega
   rw[aH,<-Y.out] at f;have au:=zh f.out.il;clear Y HX Q J P U;obtain⟨A1,c1,rfl⟩:=f.out.slice;generalize e.args.map (evT (sgV d) k)=vals at*;obtain⟨vn,aq⟩:=zv ((nI vals).length);rw[<-aq] at au;simp only[<-aq];clear f aq aH
   by_cases K:op=1
   ·subst K;have z:Hid (R=en.toNat):=zh (by rw[X.out,yz rfl]);clear X;have t:=za m 0 rfl;have ba:=za m 1 rfl;go_wp2_with fail;go_ret;exact⟨aS (by rw[z.out];omega),g⟩
   by_cases h2:op=2
   ·subst h2;have z:Hid (R=sgV d em):=zh (by rw[X.out,yw (by decide),yz rfl]);clear X;rw[ay.out] at CF;generalize sgV d em=q at*;have t:=za m 0 rfl;have aE:=za m 2 rfl;have D:=za u 0 rfl;go_wp2_with fail;refine(CF _ g).mono ?_;rintro r w4 ⟨rfl,s⟩;clear t aE D;replace g:=zb g s;clear s;go_wp2_with fail;go_ret;exact⟨aS (by rw[z.out]),g⟩
   ·have z:Hid (R=opT op vals):=zh (by rw[X.out,yw K,yw h2]);have g1:(op==1)=false:=by simpa using K
    have g2:(op==2)=false:=by simpa using h2
    have g3:(op==3)=false:=by simpa using aN
    have g4:(op==24)=false:=by simpa using ak
    have CP:=zh λW h=>CO.out W (.slice A1 vn c1) h K h2;generalize opT op vals=q at*;clear X CO;have t:=za m 0 rfl;go_wp2_with fail;refine(CP _ au).mono ?_;rintro r w4 ⟨rfl,s⟩;clear t;replace g:=zb g s;clear s;go_wp2_with fail;go_ret;exact⟨aS (by rw[z.out]),g⟩
theorem vN:∀k,VlC k
 |0=>λw b a e c v x _ _ _ h=>by cases h
 |k+1=>exValue1 k (vN k)
theorem SL.cellF {w:World} {v:Value} {l:List ByteArray} (h:SL w v l):∃(A:Option Addr) (c:Nat),v= .slice A l.length c/\l.length<=c/\∀k,k<l.length->∃b o,A=some ⟨b,o,none⟩/\b<w.heap.size/\w.cell? ⟨b,o+k,none⟩=some (.string (l.getD k ⟨#[]⟩)):=by
 rcases h.form with⟨A,c,rfl,rfl⟩|⟨b,o,c,rfl,e,f,d,a⟩
 ·exact⟨A,c,rfl,yt _,λk hk=>by simp at hk⟩
 ·exact⟨_,c,rfl,e,λk hk=>⟨b,o,rfl,d,a k hk⟩⟩
theorem exKnown (w:World) (j:List Sg) (v:Value) (e:Ex) (d:Nat) (A:Option Addr) (c:Nat) (hv:Rs sgR w v j ah) (hl:j.length<=1000) (L:∀x∈j,x.2<65536) (hz:ExZ e) (hr:Rs (exR d) w (.slice A e.args.length c) e.args ah) (Q:(aq (d+1) e).length<=1000)
  (hA:df gW (aq (d+1) e)=[]) (hN:∀s∈df eX (aq (d+1) e),(eI j s).isSome=true):
  Calls Tryz.prog 159 #[.agg #[v],exV e (.slice A e.args.length c)] w λr w'=>r= .returned (.bool true)/\Below w.heap.size w w':=by
 have Z:=zh fun(W:World) (h:Below w.heap.size w W)=>mW W e d A c hz (hr.below h) Q;have Y:=zh fun(W:World) (h:Below w.heap.size w W)=>lf W e d A c hz (hr.below h) Q;rw[hA] at Y;have CF:=zh fun(W:World) (s:ByteArray) (h:Below w.heap.size w W) (Q:s∈df eX (aq (d+1) e))=>exFind W j v s (hv.below h) hl L;have HF:Hid (∀s,s∈df eX (aq (d+1) e)->(eI j s).isSome=true):=zh hN;have F:=iL eX (aq (d+1) e) [];rw[yR,yH] at F;have P:(df eX (aq (d+1) e)).length<=1000:=yK F Q;generalize df eX (aq (d+1) e)=ns at*;obtain⟨V,c0,rfl, -, -⟩:=hv.sgs;generalize j.length=el at*;unfold exV at Z Y⊢;unfold NmR at Z Y;generalize e.args.length=n at*;generalize e.op=op at*;generalize e.n=en at*;generalize e.name=em at*;clear hv L hr hz hA hN Q F;go_enter Tryz.func159,Tryz.ntmps159;go_upto_region 1 with fail;generalize T:w.alloc _=zw1 at*;generalize X:zw1.alloc _=w1 at*;obtain⟨g,p,f⟩:=zB2 T X;clear T X;have t:=za f 0 rfl;have y:=za f 1 rfl;have z:=za f 2 rfl;have B:=za f 3 rfl;go_wp2_with fail;refine(Z w1 g).mono ?_;rintro r w2 ⟨u,rfl,C,a⟩;obtain⟨U,uc,rfl,ab,K⟩:=C.cellF;have D:=zh K;obtain⟨m,hm⟩:=zv (ns.length);have HM:=zh hm;rw[<-hm] at ab D P⊢;clear C K hm;clear t y z B;replace p:=zb p a;replace f:=zb f a;replace g:=zb g a;clear a;go_wp2_with fail
 go_loopw [16] (λi wr=>∃k:Nat,k<=m/\i= .int .i64 k/\Below w2.heap.size w2 wr/\Box wr w.heap.size #[.slice V el c0] 234/\Box wr (w.heap.size+1) #[.int .i64 op,.int .i64 en,.string em,.slice A n c] 79/\Below w.heap.size w wr) (λi _=>m-(intOf i).toNat)
 case atStart=>exact⟨0,yt _,rfl,yx _ _,p,f,g⟩
 case round=>
  obtain⟨k,hk,rfl,J,S,R,a⟩:=hrel;clear g p f;obtain⟨g,q,p,f⟩:=zk4 a J S R;clear a J S R
  by_cases M:k<m
  ·have N:(k:Int)<m:=by omega
   have k0:(0:Int)<=(k:Int):=by omega
   obtain⟨b,o,e2,aa,y0⟩:=D.out k M;subst e2;replace y0:=(q.out.cell aa).trans y0;have E:=zh (getD_in (l:=ns) ⟨#[]⟩ (k:=k) (by rw[<-HM.out];exact M));generalize ns.getD k ⟨#[]⟩=s at*;have G:=zh λW h=>CF.out W s h E;have H:=zh (HF s E);rw[H.out] at G;generalize(eI j s).getD 0=fv at*;clear D H E;have I:=za p 0 rfl;go_wp2_with fail;refine(G wr g).mono ?_;rintro r w4 ⟨rfl,a⟩;replace q:=zb q a;clear I;replace p:=zb p a;replace f:=zb f a;replace g:=zb g a;clear a;go_wp2_with fail;go_roundw
   ·exact⟨k+1,by omega,by go_num,q,p,f,g⟩
   ·simp[intOf];omega
  ·have N:¬(k:Int)<m:=by omega
   clear D q;have t:=za f 0 rfl;have y:=za f 1 rfl;have z:=za f 2 rfl;have B:=za f 3 rfl;go_wp2_with fail;refine(Y wr g).mono ?_;rintro r w4 ⟨u,rfl,C,a⟩;obtain⟨U2,ad,rfl,ac, -⟩:=C.cellF;clear C;simp only[yR];clear t y z B;replace p:=zb p a;replace f:=zb f a;replace g:=zb g a;clear a;go_wp2_with fail
   go_loopw [32] (λi wr=>i= .int .i64 0/\Below w.heap.size w wr) (λi _=>0)
   case atStart=>exact⟨rfl,g⟩
   case round=>
    obtain⟨rfl,a⟩:=hrel;clear g p f;have g:=zh a;clear a;go_wp2_with fail;go_ret;exact⟨rfl,g⟩
theorem exEval (w:World) (a:List Sg) (v:Value) (e:Ex) (d:Nat) (A:Option Addr) (c:Nat) (m:ByteArray->Bool) (B:Rs sgR w v a ah) (D:a.length<=1000) (q:∀x∈a,x.2<65536) (F:ExZ e) (hk:KW w) (hm:cM w) (z:Rs (exR d) w (.slice A e.args.length c) e.args ah) (L:d<=1000) (E:(aq (d+1) e).length<=1000)
  (I:gM (d+1) e=0) (J:df gW (aq (d+1) e)=[]) (K:∀s∈df eX (aq (d+1) e),(eI a s).isSome=true) (t:okE m dep e=true):
  Calls Tryz.prog 94 #[exV e (.slice A e.args.length c),v] w λr w'=>r= .returned (.tuple #[.int .i64 (evT (sgV a) dep e:Nat),.int .i64 0])/\Below w.heap.size w w':=by
 have C:=zh fun(W:World) (h:Below w.heap.size w W)=>mV W e d A c F (hk.below h) (hm.below h) (z.below h) L E;rw[I] at C;have G:=zh fun(W:World) (h:Below w.heap.size w W)=>exKnown W a v e d A c (B.below h) D q F (z.below h) E J K;have H:=zh fun(W:World) (h:Below w.heap.size w W)=>vN dep W a m e d v (.slice A e.args.length c) (B.below h) D q t (z.below h);generalize evT (sgV a) dep e=R at*;obtain⟨V,N,rfl, -, -⟩:=B.sgs;generalize a.length=el at*;unfold exV at C G H⊢;generalize e.args.length=n at*;generalize e.op=op at*;generalize e.n=en at*;generalize e.name=em at*;clear B q z F J K E I t hk hm D;go_enter Tryz.func94,Tryz.ntmps94;go_upto_region 2 with fail;generalize u:w.alloc _=zw1 at*;generalize y:zw1.alloc _=w1 at*;obtain⟨o,b,p⟩:=zB2 u y;clear u y;have f:=za b 0 rfl;have g:=za b 1 rfl;have i:=za b 2 rfl;have j:=za b 3 rfl;go_wp2_with fail;refine(C w1 o).mono ?_;rintro r w2 ⟨rfl,k⟩;clear f g i j;replace b:=zb b k;replace p:=zb p k;replace o:=zb o k;clear k;have f:=za b 0 rfl;have g:=za b 1 rfl;have i:=za b 2 rfl;have j:=za b 3 rfl;have l:=za p 0 rfl;go_wp2_with fail;refine(G w2 o).mono ?_;rintro r M ⟨rfl,k⟩;clear f g i j l;replace b:=zb b k;replace p:=zb p k;replace o:=zb o k;clear k;have f:=za b 0 rfl;have g:=za b 1 rfl;have i:=za b 2 rfl;have j:=za b 3 rfl;have l:=za p 0 rfl;go_wp2_with fail;refine(H M o).mono ?_;rintro r P ⟨rfl,k⟩;clear f g i j l;replace b:=zb b k;replace p:=zb p k;replace o:=zb o k;clear k;go_wp2_with fail;go_ret2;exact⟨rfl,o⟩
theorem blUses (w:World) (P:Nat) (l:List (ByteArray×Int)) (e:Ex) (d:Nat) (A:Option Addr) (c:Nat) (G:bY φS w P l) (N:ExZ e) (L:Rs (exR d) w (.slice A e.args.length c) e.args ah) (B:(aq (d+1) e).length<=1000)
  (Q:df gW (aq (d+1) e)=[]) (R:∀s∈df eX (aq (d+1) e),s.size<=maxLen/\∃i,cq l s=some i):
  Calls Tryz.prog 121 #[.map (some P),exV e (.slice A e.args.length c)] w λr w'=>r= .returned (.int .i64 0)/\Below w.heap.size w w':=by
 have K:=zh fun(W:World) (h:Below w.heap.size w W)=>mW W e d A c N (L.below h) B;have J:=zh fun(W:World) (h:Below w.heap.size w W)=>lf W e d A c N (L.below h) B;rw[Q] at J
 have T:Hid (∀s,s∈df eX (aq (d+1) e)->∃i,∀W,Below w.heap.size w W->(Instr.lookup 110 (.map (some P)) (.string s) true).run Tryz.prog W= .ok (.tuple #[.int .i64 i,.bool true]) W):=zh λs B=>by
  obtain⟨Y,i,Z⟩:=R s B;refine⟨i,λW hW=> ?_⟩;have:=(G.below hW).look2 (mT:=110) Tryz.underlying110 (x:=s) Y;rw[Z] at this;exact this
 have y:=iL eX (aq (d+1) e) [];rw[yR,yH] at y;have H:(df eX (aq (d+1) e)).length<=1000:=yK y B;generalize df eX (aq (d+1) e)=ns at*;unfold exV at K J⊢;unfold NmR at K J;generalize e.args.length=n at*;generalize e.op=op at*;generalize e.n=en at*;generalize e.name=em at*;clear G L N Q R B y;go_enter Tryz.func121,Tryz.ntmps121;go_upto_region 1 with fail;generalize I:w.alloc _=w1 at*;obtain⟨v,a⟩:=zB1 I;clear I;have f:=za a 0 rfl;have g:=za a 1 rfl;have j:=za a 2 rfl;have p:=za a 3 rfl;go_wp2_with fail;refine(J w1 v).mono ?_;rintro r w2 ⟨u,rfl,q,z⟩;obtain⟨U2,ab,rfl,S, -⟩:=q.cellF;clear q;simp only[yR];clear f g j p;replace a:=zb a z;replace v:=zb v z;clear z;have f:=za a 0 rfl;have g:=za a 1 rfl;have j:=za a 2 rfl;have p:=za a 3 rfl;go_wp2_with fail;refine(K w2 v).mono ?_;rintro r w3 ⟨u,rfl,q,z⟩;obtain⟨U,uc,rfl,M,D⟩:=q.cellF;have t:=zh D;obtain⟨m,hm⟩:=zv (ns.length);have V:=zh hm;rw[<-hm] at M t H⊢;clear q D hm;clear f g j p;replace v:=zb v z;clear z;clear a;go_wp2_with fail
 go_loopw [16] (λi wr=>∃k:Nat,k<=m/\i= .int .i64 k/\wr=w3) (λi _=>m-(intOf i).toNat)
 case atStart=>exact⟨0,yt _,rfl,rfl⟩
 case round=>
  obtain⟨k,hk,rfl,rfl⟩:=hrel
  by_cases E:k<m
  ·have F:(k:Int)<m:=by omega
   have k0:(0:Int)<=(k:Int):=by omega
   obtain⟨b,o,X,aa,y0⟩:=t.out k E;subst X;have C:=zh (getD_in (l:=ns) ⟨#[]⟩ (k:=k) (by rw[<-V.out];exact E));generalize ns.getD k ⟨#[]⟩=s at*;obtain⟨i,hi⟩:=T.out s C;have lk:=hi wr v;clear t C hi;go_wp2_with fail;go_roundw
   ·exact⟨k+1,by omega,by go_num,by trivial⟩
   ·simp[intOf];omega
  ·have F:¬(k:Int)<m:=by omega
   clear t;go_wp2_with fail;go_ret;exact⟨rfl,v⟩
def lT (vars:List Vr):Nat->List (ByteArray×Int)
 |0=>[]
 |k+1=>((vars.getD k vr0).name,(k:Int))::lT vars k
theorem sa (vars:List Vr):∀k,(lT vars k).length=k
 |0=>rfl
 |k+1=>by show(lT vars k).length+1=k+1;rw[sa vars k]
theorem jR {vars:List Vr} {i:Nat}:∀(k:Nat),(∀a b,a<k->b<k->(vars.getD a vr0).name=(vars.getD b vr0).name->a=b)->i<k->cq (lT vars k) (vars.getD i vr0).name=some (i:Int)
 |0,_,h=>by omega
 |k+1,hn,h=>by
  show cq (((vars.getD k vr0).name,(k:Int))::lT vars k) _=_;rw[c8]
  by_cases e:(vars.getD k vr0).name=(vars.getD i vr0).name
  ·obtain rfl:k=i:=hn k i (by omega) h e;rw[yz e]
  ·rw[yw e];have:i≠k:=λh=>e (by rw[h]);exact jR k (λa b c d=>hn a b (by omega) (by omega)) (by omega)
def pH (j:Nat) (D:List Nat) (B:Nat):FOp:=⟨j,D,λv=>∃b,v= .map (some b),λv w=>∃b,v= .map (some b)/\bY φS w b []/\B<=b⟩
theorem gMapI_st (j:Nat) (D:List Nat) (B:Nat):∀u w w',(pH j D B).Φ u w->Below w.heap.size w w'->(pH j D B).Φ u w':=λu w w' ⟨b,e,h,hB⟩ hb=>⟨b,e,h.below hb,hB⟩
theorem gMapI_kn (j:Nat) (D:List Nat) (B:Nat):(∀u w,(pH j D B).Φ u w->(pH j D B).S u)/\∃u,(pH j D B).S u:=⟨λu w ⟨b,e,_⟩=>⟨b,e⟩,_,0,rfl⟩
theorem sC {P:Program} {K:Kit} {w0:World} {γ:Nat->Value} {j:Nat} {o:Oper} {a:Act} (c:o.guard=none) (d:∀w,(execOp a.eval o).run P w= .ok (.value (.map (some w.heap.size))) (w.alloc (.map #[] 0)))
  (h:∀w g,w0.heap.size<=g->bY φS w g []->K.Φ j (.map (some g)) w):jh P K w0 γ j o a:=by
 refine⟨c,λw b e=> ?_⟩;rw[d];exact⟨h _ _ b.size (bY.new φS w),ac _ _⟩
end
section
open Go.RowKit
def bC (a:ByteArray) (i:Nat):ByteArray:=⟨a.data++#[91,UInt8.ofNat (48+i),93]⟩
def dR (s:ByteArray) (i:Nat):Bool:=decide (s=bC (cI 91 s) i)
def cj (s:ByteArray):Bool:=aN s||(eV 91 s&&(aN (cI 91 s)&&(List.range 8).any (dR s)))
def cS (l:List Vr) (s:ByteArray):Int:=fF (λv=>decide (v.name=s)) l
def mI (l:List Vr) (s:ByteArray):List Nat->Bool
 |[]=>false
 |i::r=>if dR s i=true then decide (cS l (bC (cI 91 s) (i-1))<0) else mI l s r
def fa (l:List Vr) (s:ByteArray):Bool:=eV 91 s&&mI l s (List.range' 1 7)
def eW (v:Vr):Prop:=cj v.name=true/\(1<=v.width/\v.width<=8)/\(0<=v.mode/\v.mode<=2)/\(0<=v.value/\v.value<2^v.width.toNat)/\(v.mode≠0->v.value=0)
def gX (v:Vr):Int:=if v.mode≠0 then v.width else 0
def aU (l:List Vr):Int:=l.foldl (λn v=>n+gX v) 0
structure bS (l:List Vr):Prop where
 len:l.length<=16
 ok:∀v∈l,eW v
 nodup:∀i,i<l.length->cS l (l.getD i vr0).name=i
 gap:∀v∈l,fa l v.name=false
 bits:aU l<=20
def aw (l:List Vr):List ByteArray:=l.map (·.name)
def KE:Nat:=30
def bZ (l:List Vr) (x:List Ex):Prop:=∀e∈x,iP (aw l) KE e
def bL (l:List Vr) (i:Int):Bool:=decide (0<=i)&&(decide (i<l.length)&&decide ((l.getD i.toNat vr0).mode≠0))
def dS (x:Wt):Bool:= !(decide (x.lo<0)||(decide (x.lo>x.hi)||(decide (x.hi>65535)||(decide (x.weight<0)||decide (x.weight>1000)))))
def cy (l:List Vr) (d:List Ds):Prop:=∀i,i<d.length->bL l (d.getD i ds0).var=true/\(∀j,j<i->(d.getD j ds0).var≠(d.getD i ds0).var)/\(d.getD i ds0).ws.length<=16/\∀x∈(d.getD i ds0).ws,dS x=true
structure aZ (l:List Vr) (g:List (List Int)):Prop where
 some_:∀x∈g,x≠[]
 ran:∀i∈g.flatten,bL l i=true
 nodup:g.flatten.Nodup
 all:∀i:Nat,bL l i=true->(i:Int)∈g.flatten
structure PV (p:Pb):Prop where
 vars:bS p.vars
 exprs:bZ p.vars (p.hard++p.soft)
 dists:cy p.vars p.dists
 groups:aZ p.vars p.groups
theorem jA {l:List Vr} {s:ByteArray}:cS l s<0↔s∉aw l:=by
 have h:=iO (λv:Vr=>decide (v.name=s)) l;unfold cS aw;rw[AP];constructor
 ·rintro b ⟨v,a,e⟩;rw[yv (by omega)] at h;have:l.any (λv:Vr=>decide (v.name=s))=true:=AE.2 ⟨v,a,by simpa using e⟩;rw[<-h] at this;cases this
 ·intro b;refine Bh λc=>b ?_;rw[yB (by omega)] at h;obtain⟨v,a,e⟩:=AE.1 h.symm;exact⟨v,a,by simpa using e⟩
end
section
open Go.RowKit Go.Maps
def nmV (vars:List Vr) (a:List Int) (s:ByteArray):Vl:=match cq (lT vars vars.length) s with
 |some i=>vlAt vars a i.toNat
 |none=> .val 0
structure StP (p:Pb):Prop where
 vl:p.vars.length<=16
 nm:∀v∈p.vars,v.name.size<=maxLen
 nd:∀a b,a<p.vars.length->b<p.vars.length->(p.vars.getD a vr0).name=(p.vars.getD b vr0).name->a=b
 gl:p.groups.length<=1000
 gm:∀g∈p.groups,g.length<=1000/\∀v∈g,0<=v/\v<p.vars.length
 wd:∀x∈p.vars,0<=x.width/\x.width<=65536
 vo:∀i,i<p.vars.length->((p.vars.getD i vr0).mode=0->0<=(p.vars.getD i vr0).value/\(p.vars.getD i vr0).value<65536)/\((p.vars.getD i vr0).mode≠0->1<=(p.vars.getD i vr0).width/\(p.vars.getD i vr0).width<=8/\0<=(cC p).getD i 0/\(cC p).getD i 0+(p.vars.getD i vr0).width<=20)
theorem ko {w:World} {g:Nat} {l:List Int} (h:Box w g (iA l) 3) (n:Nat) (b:l.length=n):IL w (.slice (some ⟨g,0,none⟩) n n) l:=by
 subst b;refine⟨_,_,rfl,yq _,λ_=>⟨_,rfl,h.lt,λj a=> ?_⟩⟩;rw[fA,yH,h.cell,du a]
theorem blStart (w:World) (p:Pb) (hp:StP p) (d:List Nd) (hd:DV d) (U A1 A2 A3 A4 A5:Option Addr) (nd V c1 Q c2 R c3 S c4 c5:Nat) (L:Rs ndR w (.slice U nd V) d ah) (aM:NR w (.slice U nd V))
  (J:Rs vrR w (.slice A1 p.vars.length c1) p.vars ah) (G:Rs ilR w (.slice A5 p.groups.length c5) p.groups ah) (hE:EvC w (.agg #[.slice A1 p.vars.length c1,.slice A2 Q c2,.slice A3 R c3,.slice A4 S c4,.slice A5 p.groups.length c5]))
  (hk:KW w) (hm:cM w) (e:Ex) (dd:Nat) (Ap:Option Addr) (cp:Nat) (P:ExZ e) (hr:Rs (exR dd) w (.slice Ap e.args.length cp) e.args ah) (aD:dd<=1000) (N:(aq (dd+1) e).length<=1000) (he:iP (aw p.vars) (dd+1) e):
  Calls Tryz.prog 70 #[.agg #[.slice U nd V],.agg #[.slice A1 p.vars.length c1,.slice A2 Q c2,.slice A3 R c3,.slice A4 S c4,.slice A5 p.groups.length c5],exV e (.slice Ap e.args.length cp)] w (SRes d p.vars (cC p) (nmV p.vars (cC p)) (aw p.vars) w):=by
 have a7:nd=d.length:=by
  obtain⟨A',c',e1, -⟩:=L.slice;simp only[yA] at e1;exact e1.2.1
 subst a7;have C1:=zh fun(W:World) (h:Below w.heap.size w W)=>li W _ d hd (L.below h);have C3:=zh fun(W:World) (h:Below w.heap.size w W)=>mV W e dd Ap cp P (hk.below h) (hm.below h) (hr.below h) aD N;rw[he.1] at C3;have C2:=zh hE;have C4:=zh fun(W:World) (h:Below w.heap.size w W)=>sX W p A1 A2 A3 A4 A5 Q c1 c2 R c3 S c4 c5 (J.below h) (G.below h) (λW' a3=>hE W' (ab h a3)) (by have:=hp.vl;omega) hp.gl hp.gm hp.wd
 have C5:=zh fun(W:World) (h:Below w.heap.size w W) (y:Nat) (a6:bY φS W y (lT p.vars p.vars.length))=>blUses W y _ e dd Ap cp a6 P (hr.below h) N he.2.1 (λs N=>by
  obtain⟨v,J,rfl⟩:=AP.1 (he.2.2 s N);obtain⟨i,hi,rfl⟩:=yS.1 J;have e1:p.vars[i]=p.vars.getD i vr0:=by rw[yj,yp hi];rfl
  rw[e1]
  exact⟨by rw[<-e1];exact hp.nm _ J,_,jR _ hp.nd hi⟩)
 obtain⟨HP,HD,HV,ag,aj⟩:=zk5 hp hd J L aM;obtain⟨n,hn⟩:=zv (p.vars.length);obtain⟨m,aK⟩:=zv (p.groups.length);have HN:=zh hn;have bb:n<=16:=by rw[hn];exact hp.vl
 have aW:Hid ((cC p).length=n):=zh (by rw[se,hn]);unfold LvRes at C4;rw[<-hn,<-aK] at C2 C4⊢;rw[<-hn] at HV C5;obtain⟨dl,aa⟩:=zv (d.length);have Y:=zh aa;rw[<-aa] at C1 ag aj⊢;unfold exV at C3 C5⊢;generalize e.args.length=al at*;generalize e.op=op at*;generalize e.n=en at*;generalize e.name=em at*;have M:=@run_makeMap Tryz.prog;clear hp hd L aM J G hE hk hm P hr aD N he hn aK aa;go_enter Tryz.func70,Tryz.ntmps70;go_upto_region 1 with fail;generalize I:w.alloc _=zw1 at*;generalize aR:zw1.alloc _=zw2 at*;generalize aS:zw2.alloc _=w1 at*;obtain⟨f,K,q,j⟩:=zB3 I aR aS;clear I aR aS;have an:=za K 0 rfl;go_wp2_with fail;refine(C1 w1 f).mono ?_;rintro r w2 ⟨rfl,a⟩;clear an;replace K:=zb K a;replace q:=zb q a;replace j:=zb j a;replace f:=zb f a;clear a;have E:=za q 0 rfl;have av:=za q 1 rfl;have ax:=za q 2 rfl;have ay:=za q 3 rfl;have az:=za q 4 rfl;go_wp2_with fail;refine(C2 w2 f).mono ?_;rintro r w3 ⟨rfl,a⟩;clear E av ax ay az;replace K:=zb K a;replace q:=zb q a;replace j:=zb j a;replace f:=zb f a;clear a;have ao:=za j 0 rfl;have ap:=za j 1 rfl;have ar:=za j 2 rfl;have au:=za j 3 rfl;go_wp2_with fail;refine(C3 w3 f).mono ?_;rintro r w4 ⟨rfl,a⟩;clear ao ap ar au;replace K:=zb K a;replace q:=zb q a;replace j:=zb j a;replace f:=zb f a;clear a;clear C1 C2 C3;go_wp2_with fail;have Z:=zh f.out.size;obtain⟨B0,aC⟩:=zv (w.heap.size);have X:=zh aC;clear aC;refine br 5 (Kit.of [mw 3 [] B0 n n (iA (cC p)) 3,pH 4 [] B0]) (by kernel_rfl) (by kernel_rfl) (λγ=>by kernel_rfl) (by kernel_rfl) (Kit.of_stable ?_) (Kit.of_known ?_) ?_
 ·intro z P;simp only[yC,yI,AH] at P;rcases P with rfl|rfl
  ·apply ox
  ·apply gMapI_st
 ·intro z P;simp only[yC,yI,AH] at P;rcases P with rfl|rfl
  ·apply oy
  ·apply gMapI_kn
 intro γ ae C hC a8;obtain⟨gl,e3⟩:∃g,γ 3= .slice (some ⟨g,0,none⟩) n n:=ae 3 rfl;obtain⟨y,e4⟩:∃b,γ 4= .map (some b):=ae 4 rfl;have l0:=K.out.latC (C:=C) 0 _ rfl;have p0:=q.out.latC (C:=C) 0 _ rfl;have p1:=q.out.latC (C:=C) 1 _ rfl;have p2:=q.out.latC (C:=C) 2 _ rfl;have p3:=q.out.latC (C:=C) 3 _ rfl;have p4:=q.out.latC (C:=C) 4 _ rfl;simp only[yX,y9,y6,yO]
 iterate 3 (refine aE rfl ?_;go_big_quiet_step (fail);refine yN ?_)
 refine bG rfl (bc (args:=#[.agg #[.slice A1 n c1,.slice A2 Q c2,.slice A3 R c3,.slice A4 S c4,.slice A5 m c5]]) rfl _ _ _ (cB Tryz.func77 (by kernel_rfl) (by kernel_rfl)) rfl (by simp[Act.eval]) (λw' a hf=>(C4 w' (ab f a)).mono λe w2 ⟨g,he,G,hx,hb2⟩=>⟨_,he,⟨g,rfl,hx,by rw[X.out];exact yK Z (yK a.size G)⟩,hb2⟩)) ?_;simp only[yH,Nat.reduceAdd,e3];go_simp;refine bG rfl (sC rfl (λw=>by kernel_rfl) (λw' g G hx=>⟨g,rfl,hx,by rw[X.out];exact yK Z G⟩)) ?_;simp only[yH,Nat.reduceAdd,e4];go_simp;intro T a hF;have R3:∃g,γ 3= .slice (some ⟨g,0,none⟩) n n/\Box T g (iA (cC p)) 3/\B0<=g:=hF 3 (by decide) rfl;have R4:∃b,γ 4= .map (some b)/\bY φS T b []/\B0<=b:=hF 4 (by decide) rfl;rw[e3] at R3;rw[e4] at R4;obtain⟨bg,aA,t,a4⟩:=R3;obtain⟨ba,aB,c,a9⟩:=R4;have B:=c.lt;have aY:Hid (w.heap.size<=ba):=zh (by rw[<-X.out];exact a9);have A:=t.lt;have D:=yK f.out.size a.size;simp only[yA,yy,B8,B9,Value.map.injEq] at aA aB;subst aA aB;replace t:=zh t;replace c:=zh c;replace q:=zb q a;replace j:=zb j a;replace f:=zb f a;clear a;clear l0 p0 p1 p2 p3 p4 hF ae hC a8 e3 e4 C4 K M Z;go_upto_region 4 with fail;have u:=zh (fi (W:=T) (g:=T.heap.size) 149 #[.slice U dl V,.slice A1 n c1,.slice A2 Q c2,.slice A3 R c3,.slice A4 S c4,.slice A5 m c5,.slice (some ⟨gl,0,none⟩) n n,.map (some y)] rfl);have l:=ac T (.cells #[.slice U dl V,.slice A1 n c1,.slice A2 Q c2,.slice A3 R c3,.slice A4 S c4,.slice A5 m c5,.slice (some ⟨gl,0,none⟩) n n,.map (some y)] 149);replace t:=zb t l;replace c:=zb c l;have aF:=t.out.lt;have am:=zh (show y<T.heap.size from B);replace q:=zb q l;replace j:=zb j l;replace f:=zb f l;clear l;generalize T.alloc (.cells #[.slice U dl V,.slice A1 n c1,.slice A2 Q c2,.slice A3 R c3,.slice A4 S c4,.slice A5 m c5,.slice (some ⟨gl,0,none⟩) n n,.map (some y)] 149)=w6 at*;obtain⟨g,G⟩:=zv (T.heap.size);rw[<-G] at u am⊢;have aV:Hid (w.heap.size<=g):=zh (by rw[G];exact D);have aU:Hid (gl<g):=zh (by rw[G];exact A);clear G aF B D A T;have E:=za q 0 rfl;go_wp2_with fail;clear E
 go_loopw [34] (λi wr=>∃k:Nat,k<=n/\i= .int .i64 k/\Below w.heap.size w wr/\Box wr (w.heap.size+1+1) #[.int .i64 op,.int .i64 en,.string em,.slice Ap al cp] 79/\Box wr g #[.slice U dl V,.slice A1 n c1,.slice A2 Q c2,.slice A3 R c3,.slice A4 S c4,.slice A5 m c5,.slice (some ⟨gl,0,none⟩) n n,.map (some y)] 149/\Box wr gl (iA (cC p)) 3/\bY φS wr y (lT p.vars k)) (λi _=>n-(intOf i).toNat)
 case atStart=>exact⟨0,yt _,rfl,f,j,u,t,c⟩
 case round=>
  obtain⟨k,hk,rfl,a,aO,aP,aQ,M⟩:=hrel;clear f j u t c q w6;obtain⟨f,j,u,t,c⟩:=zk5 a aO aP aQ M;clear a aO aP aQ M
  by_cases aH:k<n
  ·have aI:(k:Int)<n:=by omega
   have k0:(0:Int)<=(k:Int):=by omega
   obtain⟨bd,be,e1,_,aN⟩:=HV.out.vrs;obtain⟨bv,ov,e2,F,o⟩:=aN k (by rw[<-HN.out];exact aH)
   have e3:A1=some ⟨bv,ov,none⟩:=by
    simp only[yA] at e1;rw[e1.1,e2]
   subst e3;have v0:=(f.out.cell F).trans (o 0 _ rfl);have v1:=(f.out.cell F).trans (o 1 _ rfl);have v2:=(f.out.cell F).trans (o 2 _ rfl);have v3:=(f.out.cell F).trans (o 3 _ rfl);rw[yU] at v0;have ai:Hid (lT p.vars (k+1)=((p.vars.getD k vr0).name,(k:Int))::lT p.vars k):=zh rfl;have ak:=zh (HP.out.nm _ (getD_in vr0 (show k<p.vars.length by rw[<-HN.out];exact aH)));generalize p.vars.getD k vr0=vr at*;obtain⟨nm,wd,md,vl⟩:=vr;simp only at v0 v1 v2 v3 ai ak;clear e1 e2 aN F o;go_upto_region 7 with fail;clear v0 v1 v2 v3;generalize I:wr.alloc _=w7 at*;obtain⟨l,XA⟩:=zA1 I;clear I;replace j:=zb j l;replace u:=zb u l;replace t:=zb t l;replace c:=zb c l;replace f:=zb f l;clear l;refine aL 7 (by kernel_rfl) (by kernel_rfl) ?_;have a0:=XA.out.lat 0 _ rfl;have g7:=u.out.lat 7 _ rfl;simp only[yX,y9,y6,yO]
   repeat(go_big_quiet_step (fail))
   refine yN ?_;intro w8 a;clear a0 g7;replace j:=zb j a;replace u:=zb u a;replace t:=zb t a;replace c:=zb c a;replace XA:=zb XA a;replace f:=zb f a;clear a;obtain⟨w9,hu,ad,H⟩:=c.out.upd (mT:=110) Tryz.underlying110 (x:=nm) ak (i:=(k:Nat)) (wfN (by omega)) (by rw[sa];unfold maxLen;omega);have bh:(Instr.mapUpdate 110 (.map (some y)) (.string nm) (.int .i64 (k:Nat))).run Tryz.prog w8= .ok () w9:=hu;rw[<-ai.out] at ad;have aX:=zh ad;have aZ:=zh (bK j H (jQ c j).symm);have a1:=zh (bK u H (jQ c u).symm);have a2:=zh (bK t H (jQ c t).symm);have aT:=zh (bf f f.out.size aY H);clear XA j u t c f ad H hu;go_wp2_with fail;go_roundw
   ·exact⟨k+1,by omega,by go_num,aT,aZ,a1,a2,aX⟩
   ·simp[intOf];omega
  ·have aI:¬(k:Int)<n:=by omega
   have aG:k=n:=by omega
   rw[aG] at c;have af:=zh fun(W:World) (h:Below w.heap.size w W) (h2:bY φS W y (lT p.vars n))=>C5.out W h y h2;clear C5 aG;go_wp2_with fail;refine aJ (by kernel_rfl) (by kernel_rfl) ?_;have g7:=u.out.lat 7 _ rfl;have e0:=j.out.lat 0 _ rfl;have e1:=j.out.lat 1 _ rfl;have e2:=j.out.lat 2 _ rfl;have e3:=j.out.lat 3 _ rfl
   repeat(go_big_quiet_step (first|with_reducible exact bQ (af.out _ (ab f.out (Lat.h _)) (c.out.below (Lat.h _)))))
   refine yN ?_;intro w2 a;clear g7 e0 e1 e2 e3 af;replace u:=zb u a;replace t:=zb t a;replace c:=zb c a;replace f:=zb f a;clear a;go_wp2_with fail;go_ret2;have a5:=aV.out;have a4:=aU.out;have bi:=am.out;refine⟨g,⟨.slice A1 n c1,.slice A2 Q c2,.slice A3 R c3,.slice A4 S c4,.slice A5 m c5,.slice (some ⟨gl,0,none⟩) n n,.map (some y)⟩,a5,u.out.lt,f,⟨⟨U,V,by rw[<-Y.out];exact u,by rw[<-Y.out];exact ag.out.below f,by rw[<-Y.out];exact aj.out.below f⟩,HD⟩,⟨?_, ?_, ?_, ?_, ?_, ?_, ?_⟩,rfl⟩
   ·intro W hW;rw[HN.out];rw[HN.out] at HV;exact iz HV (yK f.out.size hW.size) (λ_ b a _=>(hW.block b (yE a f.out.size) (by simp only[ne_eq,yy];omega)).trans (f.out.block b a)) (λb a _=>(hW.block b (yE a f.out.size) (by simp only[ne_eq,yy];omega)).trans (f.out.block b a))
   ·intro W hW;exact ko (bK t hW (by omega)) n aW
   ·refine⟨y,rfl,λW hW=>⟨lT p.vars n,c.out.grown hW (by simp only[ne_eq,yy];omega),λs N=> ?_⟩⟩;obtain⟨v,J,rfl⟩:=AP.1 N;obtain⟨i,hi,rfl⟩:=yS.1 J;have e1:p.vars[i]=p.vars.getD i vr0:=by rw[yj,yp hi];rfl
    have e2:=jR (vars:=p.vars) p.vars.length HP.out.nd hi;rw[e1];refine⟨i,by rw[HN.out];exact e2,hi, ?_⟩;unfold nmV;rw[e2]
    rfl
   ·intro s N;obtain⟨v,J,rfl⟩:=AP.1 N;exact HP.out.nm v J
   ·exact HP.out.vl
   ·exact se p
   ·exact HP.out.vo
def Deep:Nat->Ex->Prop
 |0,_=>False
 |k+1,e=>∀a∈e.args,Deep k a
theorem Deep.up:∀{k:Nat} {e:Ex},Deep k e->Deep (k+1) e
 |0,e,h=>h.elim
 |k+1,e,h=>λa b=>(h a b).up
theorem Deep.le {k a:Nat} {e:Ex} (h:Deep k e) (hk:k<=a):Deep a e:=by
 obtain⟨j,rfl⟩:=Ch hk
 induction j with
 |zero=>exact h
 |succ j ih=>exact(ih (by omega)).up
theorem sK {w:World} {F:Nat->Prop}:∀{d k:Nat} {us:List Value} {e:Ex},(exR d).R w us e F->Deep k e->(exR k).R w us e F
 |0,_,_,_,h,_=>h.elim
 |d+1,0,_,_,_,h=>h.elim
 |d+1,k+1,us,e,⟨v,h1,h2,h3⟩,h=>⟨v,h1,h2.weak (by rw[ei,ei]) (λus x b a=>sK a (h x b)),h3⟩
theorem Rs.deep {w:World} {F:Nat->Prop} {d k:Nat} {v:Value} {l:List Ex} (h:Rs (exR d) w v l F) (hk:∀a∈l,Deep k a):Rs (exR k) w v l F:=
 h.weak (by rw[ei,ei]) λus x c b=>sK b (hk x c)
structure jK (names:List ByteArray) (e:Ex):Prop where
 z:ExZ e
 deep:Deep KE e
 ok:iP names KE e
 len:(aq KE e).length<=1000
theorem jK.okE {a:List ByteArray} {e:Ex} (h:jK a e):okE (λs=>decide (s∈a)) dep e=true:=exOk_okE h.ok (by decide)
theorem blAll (w:World) (p:Pb) (hp:StP p) (A1 A2 A3 A4 A5 Al:Option Addr) (c1 i c2 j c3 k c4 c5 cl:Nat) (G:Rs vrR w (.slice A1 p.vars.length c1) p.vars ah) (D:Rs ilR w (.slice A5 p.groups.length c5) p.groups ah)
  (y:EvC w (.agg #[.slice A1 p.vars.length c1,.slice A2 i c2,.slice A3 j c3,.slice A4 k c4,.slice A5 p.groups.length c5])) (hk:KW w) (hm:cM w) (l:List Ex) (t:Nat) (F:Rs (exR t) w (.slice Al l.length cl) l ah) (E:l.length<=1000) (s:∀e∈l,jK (aw p.vars) e):
  Calls Tryz.prog 10 #[.agg #[.slice A1 p.vars.length c1,.slice A2 i c2,.slice A3 j c3,.slice A4 k c4,.slice A5 p.groups.length c5],.slice Al l.length cl] w (mD w bT (dC (nmV p.vars (cC p)) l 1 bT)):=by
 refine blAllOf w (nmV p.vars (cC p)) l t A1 A2 A3 A4 A5 Al _ c1 i c2 j c3 k c4 _ c5 cl ?_ F E;intro W h d A n c B v x e C J m K q u;obtain⟨H,I,e1, -⟩:=u.slice;simp only[yA] at e1;obtain⟨rfl,rfl,rfl⟩:=e1;have f:=s e C;have g:Rs (exR 29) W (.slice m e.args.length q) e.args ah:=u.deep (f.deep:∀a∈e.args,Deep 29 a)
 exact yf W d p.vars (cC p) (nmV p.vars (cC p)) (aw p.vars) dep 29 e A A1 A2 A3 A4 A5 m n c _ c1 i c2 j c3 k c4 _ c5 q
  (λW' b=>blStart W' p hp d B A A1 A2 A3 A4 A5 n c c1 i c2 j c3 k c4 c5 (v.below b) (x.below b) (G.below (ab h b)) (D.below (ab h b)) (λo r=>y o (ab (ab h b) r)) (hk.below (ab h b)) (hm.below (ab h b)) e 29 m q f.z (g.below b) (by decide) f.len f.ok)
  f.okE g
end
end Go.Proofs.YtdahpdnhkflnnaaGreatDoor
