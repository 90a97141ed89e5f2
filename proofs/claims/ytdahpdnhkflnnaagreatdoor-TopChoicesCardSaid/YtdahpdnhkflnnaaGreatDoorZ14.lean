/-
  Contracts and laws for the law TopChoices, part 14 of 14; made small by a program of mine out of longer texts.
-/
import Derived.Test.YtdahpdnhkflnnaaGreatDoorZ13
namespace Go.Proofs.YtdahpdnhkflnnaaGreatDoor
set_option linter.unusedVariables false
set_option linter.unusedSimpArgs false
set_option linter.defProp false
set_option maxRecDepth 100000
set_option maxHeartbeats 64000000
set_option linter.unusedSectionVars false
section
open Go.RowKit Go.Maps
theorem lwVar (w:World) (s:ByteArray):Calls Tryz.prog 65 #[.string s] w λe w'=>e= .returned (.agg #[.int .i64 2,.int .i64 0,.string s,.slice none 0 0])/\Below w.heap.size w w':=by
 go_enter Tryz.func65,Tryz.ntmps65;go_upto_region 1 with fail;generalize h:w.alloc _=w1 at*;obtain⟨m,a⟩:=zB1 h;clear h;have b:=za a 0 rfl;have c:=za a 1 rfl;have d:=za a 2 rfl;have f:=za a 3 rfl;have g:=a.out.lt;have i:=a.out.frozen 0;have j:=a.out.frozen 1;have k:=a.out.frozen 2;have l:=a.out.frozen 3;go_wp2_with fail;refine yQ (v:= .agg #[.int .i64 2,.int .i64 0,.string s,.slice none 0 0]) (by simp[results,Tryz.results65,go_sem,b,c,d,f,g]) rfl ?_;exact⟨rfl,(((m.out.setCell (p:=⟨w.heap.size,0,none⟩) (yq _) _).setCell (p:=⟨w.heap.size,1,none⟩) (yq _) _).setCell (p:=⟨w.heap.size,2,none⟩) (yq _) _).setCell (p:=⟨w.heap.size,3,none⟩) (yq _) _⟩
def TwoR (w:World) (op:Int) (cs:Array Value) (e:Ending) (w':World):Prop:=∃g,e= .returned (.agg #[.int .i64 op,.int .i64 0,.string ⟨#[]⟩,.slice (some ⟨g,0,none⟩) 2 2])/\w.heap.size<=g/\Box w' g cs 79/\Below w.heap.size w w'
theorem lwTwo (w:World) (op:Int) (s t:ByteArray):Calls Tryz.prog 64 #[.int .i64 op,.agg #[.int .i64 2,.int .i64 0,.string s,.slice none 0 0],.agg #[.int .i64 2,.int .i64 0,.string t,.slice none 0 0]] w (TwoR w op #[.int .i64 2,.int .i64 0,.string s,.slice none 0 0,.int .i64 2,.int .i64 0,.string t,.slice none 0 0]):=by
 go_enter Tryz.func64,Tryz.ntmps64;go_upto_region 1 with fail;generalize h:w.alloc _=zw1 at*;generalize i:zw1.alloc _=zw2 at*;generalize j:zw2.alloc _=w1 at*;obtain⟨m,k,l,a⟩:=zB3 h i j;clear h i j;have b:=ac w1 (.cells #[.int .i64 2,.int .i64 0,.string s,.slice none 0 0,.int .i64 2,.int .i64 0,.string t,.slice none 0 0] 79);have F:=zh (Box.new w1 79 #[.int .i64 2,.int .i64 0,.string s,.slice none 0 0,.int .i64 2,.int .i64 0,.string t,.slice none 0 0]);have E:=zh a.out.lt;have u:=za k 0 rfl;have x:=za k 1 rfl;have y:=za k 2 rfl;have z:=za k 3 rfl;have A:=za l 0 rfl;have B:=za l 1 rfl;have C:=za l 2 rfl;have D:=za l 3 rfl;replace a:=zb a b;replace m:=zb m b;clear b;have c:=za a 0 rfl;have d:=za a 1 rfl;have e:=za a 2 rfl;have f:=za a 3 rfl;have g:=a.out.lt;have n:=a.out.frozen 0;have o:=a.out.frozen 1;have q:=a.out.frozen 2;have r:=a.out.frozen 3;go_wp2_with fail;refine yQ (v:= .agg #[.int .i64 op,.int .i64 0,.string ⟨#[]⟩,.slice (some ⟨w1.heap.size,0,none⟩) 2 2]) (by simp[results,Tryz.results64,go_sem,c,d,e,f,g]) rfl ?_;have G:w.heap.size+1+1<w1.heap.size:=E.out
 exact⟨_,rfl,by omega,(((F.out.setNe (p:=⟨w.heap.size+1+1,0,none⟩) (by show w.heap.size+1+1≠_;omega) _).setNe (p:=⟨w.heap.size+1+1,1,none⟩) (by show w.heap.size+1+1≠_;omega) _).setNe (p:=⟨w.heap.size+1+1,2,none⟩) (by show w.heap.size+1+1≠_;omega) _).setNe (p:=⟨w.heap.size+1+1,3,none⟩) (by show w.heap.size+1+1≠_;omega) _,
  (((m.out.setCell (p:=⟨w.heap.size+1+1,0,none⟩) (by show w.heap.size<=w.heap.size+1+1;omega) _).setCell (p:=⟨w.heap.size+1+1,1,none⟩) (by show w.heap.size<=w.heap.size+1+1;omega) _).setCell (p:=⟨w.heap.size+1+1,2,none⟩) (by show w.heap.size<=w.heap.size+1+1;omega) _).setCell (p:=⟨w.heap.size+1+1,3,none⟩) (by show w.heap.size<=w.heap.size+1+1;omega) _⟩
def LsR (w:World) (e:Ending) (w':World):Prop:=∃(A1 A2 A5:Option Addr) (c1 c2 c5:Nat),e= .returned (pbV pbL A1 A2 none none A5 c1 c2 0 0 c5)/\PRd 3 w' pbL A1 A2 none none A5 c1 c2 0 0 c5/\Below w.heap.size w w'
theorem ls_read {w:World} {d b e c f:Nat} (h:Box w d #[.string ⟨#[97]⟩,.int .i64 2,.int .i64 1,.int .i64 0,.string ⟨#[98]⟩,.int .i64 2,.int .i64 1,.int .i64 0] 98)
  (i:Box w b #[.int .i64 2,.int .i64 0,.string ⟨#[97]⟩,.slice none 0 0,.int .i64 2,.int .i64 0,.string ⟨#[98]⟩,.slice none 0 0] 79)
  (k:Box w e #[.int .i64 17,.int .i64 0,.string ⟨#[]⟩,.slice (some ⟨b,0,none⟩) 2 2] 79)
  (g:Box w c #[.int .i64 0,.int .i64 1] 3) (l:Box w f #[.slice (some ⟨c,0,none⟩) 2 2] 32):
  PRd 3 w pbL (some ⟨d,0,none⟩) (some ⟨e,0,none⟩) none none (some ⟨f,0,none⟩) 2 1 0 0 1:=by
 have m:Rs (exR 2) w (.slice (some ⟨b,0,none⟩) 2 2) [exA,xR] ah:=jN (φ:=exR 2) (xs:=[exA,xR]) (uss:=[exL (.slice none 0 0) exA,exL (.slice none 0 0) xR]) i rfl λj x a=>by
  match j,a with
  |0,a=>
   obtain rfl:exA=x:=by simpa using a
   exact⟨_,rfl,Rs.nil _ _ _,km _ _⟩
  |1,a=>
   obtain rfl:xR=x:=by simpa using a
   exact⟨_,rfl,Rs.nil _ _ _,km _ _⟩
  |j+2,a=>simp at a
 refine⟨?_, ?_,Rs.nil _ _ _,Rs.nil _ _ _, ?_⟩
 ·exact jN (φ:=vrR) (xs:=[vrA,vrB]) (uss:=[vrL vrA,vrL vrB]) h rfl λj x a=>by
   match j,a with
   |0,a=>
    obtain rfl:vrA=x:=by simpa using a
    rfl
   |1,a=>
    obtain rfl:vrB=x:=by simpa using a
    rfl
   |j+2,a=>simp at a
 ·exact uM (φ:=exR 3) (x:=ku) (us:=exL (.slice (some ⟨b,0,none⟩) 2 2) ku) k ⟨_,rfl,m,km _ _⟩
 ·refine uM (φ:=ilR) (x:=[0,1]) (us:=[.slice (some ⟨c,0,none⟩) 2 2]) l ⟨_,rfl,⟨_,_,rfl,yq _,λ_=>⟨_,rfl,g.lt,λj a=> ?_⟩⟩,km _ _⟩;rw[fA,yH,g.cell]
  match j,a with
  |0,_=>rfl
  |1,_=>rfl
theorem iT {w:World} {b g:Nat} {cs:Array Value} {T:TypeId} {c d e f i:Value} (a:g≠b) (h:Box w b cs T):Box (((((w.setCell ⟨g,0,none⟩ c).setCell ⟨g,1,none⟩ d).setCell ⟨g,2,none⟩ e).setCell ⟨g,3,none⟩ f).setCell ⟨g,4,none⟩ i) b cs T:=
 ((((h.setNe (p:=⟨g,0,none⟩) a _).setNe (p:=⟨g,1,none⟩) a _).setNe (p:=⟨g,2,none⟩) a _).setNe (p:=⟨g,3,none⟩) a _).setNe (p:=⟨g,4,none⟩) a _
theorem lwLess (w:World):Calls Tryz.prog 29 #[] w (LsR w):=by
 have D:=zh fun(W:World) (s:ByteArray)=>lwVar W s;have C:=zh fun(W:World)=>lwTwo W 17 ⟨#[97]⟩ ⟨#[98]⟩;unfold TwoR at C;go_enter Tryz.func29,Tryz.ntmps29;go_upto_region 1 with fail;generalize h:w.alloc _=w1 at*;obtain⟨d,a⟩:=zB1 h;clear h;have H:=zh a.out.lt;go_upto_region 2 with fail;generalize h:w1.alloc _=w2 at*;obtain⟨y,f⟩:=zA1 h;clear h;replace a:=zb a y;replace d:=zb d y;clear y;go_wp2_with fail;refine(D w2 ⟨#[97]⟩).mono ?_;rintro e M ⟨rfl,c⟩;replace a:=zb a c;replace f:=zb f c;replace d:=zb d c;clear c;go_wp2_with fail;refine(D M ⟨#[98]⟩).mono ?_;rintro e N ⟨rfl,c⟩;replace a:=zb a c;replace f:=zb f c;replace d:=zb d c;clear c;go_wp2_with fail;refine(C N).mono ?_;rintro e b ⟨g,rfl,L,B,c⟩;have E:=zh (show w1.heap.size<g by have:=f.out.lt;omega);replace a:=zb a c;replace f:=zb f c;replace d:=zb d c;clear c;have G:=zh B;clear B D C L;have A:=ac b (.cells #[.int .i64 17,.int .i64 0,.string ⟨#[]⟩,.slice (some ⟨g,0,none⟩) 2 2] 79);have z:=ac (b.alloc (.cells #[.int .i64 17,.int .i64 0,.string ⟨#[]⟩,.slice (some ⟨g,0,none⟩) 2 2] 79)) (.cells #[.int .i64 0,.int .i64 1] 3);have x:=ac ((b.alloc (.cells #[.int .i64 17,.int .i64 0,.string ⟨#[]⟩,.slice (some ⟨g,0,none⟩) 2 2] 79)).alloc (.cells #[.int .i64 0,.int .i64 1] 3)) (.cells #[.slice (some ⟨b.heap.size+1,0,none⟩) 2 2] 32);have J:=zh ((((fi (W:=b) (g:=b.heap.size) 79 #[.int .i64 17,.int .i64 0,.string ⟨#[]⟩,.slice (some ⟨g,0,none⟩) 2 2] (by simp)).below z).below x));have K:=zh (((fi (W:=b.alloc (.cells #[.int .i64 17,.int .i64 0,.string ⟨#[]⟩,.slice (some ⟨g,0,none⟩) 2 2] 79)) (g:=b.heap.size+1) 3 #[.int .i64 0,.int .i64 1] (by simp)).below x));have I:=zh (fi (W:=(b.alloc (.cells #[.int .i64 17,.int .i64 0,.string ⟨#[]⟩,.slice (some ⟨g,0,none⟩) 2 2] 79)).alloc (.cells #[.int .i64 0,.int .i64 1] 3)) (g:=b.heap.size+1+1) 32 #[.slice (some ⟨b.heap.size+1,0,none⟩) 2 2] (by simp));have F:=zh (show w1.heap.size<b.heap.size by have:=f.out.lt;omega);replace a:=zh (((a.out.below A).below z).below x);replace f:=zh (((f.out.below A).below z).below x);replace G:=zh (((G.out.below A).below z).below x);replace d:=zh (ab (ab (ab d A) z) x);clear A z x;have i:=za a 0 rfl;have j:=za a 1 rfl;have k:=za a 2 rfl;have l:=za a 3 rfl;have m:=za a 4 rfl;have n:=a.out.lt;have o:=a.out.frozen 0;have q:=a.out.frozen 1;have r:=a.out.frozen 2;have t:=a.out.frozen 3;have u:=a.out.frozen 4;go_wp2_with fail;refine yQ (v:= .agg #[.slice (some ⟨w1.heap.size,0,none⟩) 2 2,.slice (some ⟨b.heap.size,0,none⟩) 1 1,.slice none 0 0,.slice none 0 0,.slice (some ⟨b.heap.size+1+1,0,none⟩) 1 1]) (by simp[results,Tryz.results29,go_sem,i,j,k,l,m,n]) rfl ?_;clear i j k l m n o q r t u;generalize((b.alloc (.cells #[.int .i64 17,.int .i64 0,.string ⟨#[]⟩,.slice (some ⟨g,0,none⟩) 2 2] 79)).alloc (.cells #[.int .i64 0,.int .i64 1] 3)).alloc (.cells #[.slice (some ⟨b.heap.size+1,0,none⟩) 2 2] 32)=w6 at*;have P:=H.out;have Q:=E.out;have R:=F.out
 exact⟨_,_,_,_,_,_,rfl,ls_read (iT (by omega) f) (iT (by omega) G) (iT (by omega) J) (iT (by omega) K) (iT (by omega) I),
  ((((d.out.setCell (p:=⟨w.heap.size,0,none⟩) (yq _) _).setCell (p:=⟨w.heap.size,1,none⟩) (yq _) _).setCell (p:=⟨w.heap.size,2,none⟩) (yq _) _).setCell (p:=⟨w.heap.size,3,none⟩) (yq _) _).setCell (p:=⟨w.heap.size,4,none⟩) (yq _) _⟩
def LsV (w:World) (P:Value):Prop:=∃(A1 A2 A5:Option Addr) (c1 c2 c5:Nat),P=pbV pbL A1 A2 none none A5 c1 c2 0 0 c5/\PRd 3 w pbL A1 A2 none none A5 c1 c2 0 0 c5
theorem tr_some {w w':World} {d a:List Nd} {r:Option (Nat×List Nd)} {e:Ending} {t:Nat} (g:r=some (t,a)) (h:mD w d r e w'):∃x,e= .returned (.tuple #[.agg #[x],.int .i64 (t:Nat),.int .i64 0])/\Rs ndR w' x a ah/\Below w.heap.size w w':=by
 subst g;obtain⟨f,x,b,c, -⟩:=h;exact⟨x,b,c,f⟩
section
variable {w:World} {P:Value} (h:LsV w P) (hk:KW w) (hm:cM w)
include h hk hm
theorem lsRules:Calls Tryz.prog 9 #[P] w λe w'=>∃A cl,e= .returned (.tuple #[.slice A 1 cl,.int .i64 0])/\Rs (exR KE) w' (.slice A 1 cl) [ku] ah/\Below w.heap.size w w':=by
 obtain⟨A1,A2,A5,c1,c2,c5,rfl,h⟩:=h;refine(qh (h.pin dU) dU hk hm fD rfl (by rw[iI];decide) (by decide)).mono ?_;rintro e w' ⟨d,⟨b, -⟩|⟨-,v,rfl,a⟩⟩
 ·rw[rQ] at b;cases b
 ·rw[po] at a;obtain⟨A,c,rfl, -⟩:=a.slice;exact⟨A,c,rfl,a,d⟩
theorem lsAll {A:Option Addr} {cl:Nat} (b:Rs (exR KE) w (.slice A 1 cl) [ku] ah) {t:Nat} {d:List Nd} (a:dC (nmV pbL.vars (cC pbL)) (aA pbL) 1 bT=some (t,d)):
  Calls Tryz.prog 10 #[P,.slice A 1 cl] w λe w'=>∃B c,e= .returned (.tuple #[.agg #[.slice B d.length c],.int .i64 (t:Nat),.int .i64 0])/\Rs ndR w' (.slice B d.length c) d ah/\Below w.heap.size w w':=by
 obtain⟨A1,A2,A5,c1,c2,c5,rfl,h⟩:=h;refine(blAll w pbL (kC fD dU rfl kG) A1 A2 none none A5 A c1 _ c2 _ 0 _ 0 c5 cl h.v h.g (evC (h.pin dU) dU hk hm fD) hk hm [ku] KE b (by decide) (λe i=>nJ dU fD e (AZ _ i))).mono ?_;intro e w' j;rw[po] at a;obtain⟨x,rfl,b,f⟩:=tr_some a j;obtain⟨B,c,rfl, -⟩:=b.slice;exact⟨B,c,rfl,b,f⟩
theorem lsSols:Calls Tryz.prog 11 #[P] w λe w'=>e= .returned (.tuple #[.int .i64 6,.int .i64 0])/\Below w.heap.size w w':=by
 obtain⟨A1,A2,A5,c1,c2,c5,rfl,h⟩:=h;obtain⟨t,d,a⟩:=uW;refine(mq (h.pin dU) dU hk hm fD (kC fD dU rfl kG) rfl (by rw[iI];decide) (by decide) (nJ dU fD) 4 (by decide+kernel) (by decide) (λt d k=> ?_)).mono ?_
 ·obtain⟨b, -⟩:=eE fD dU rfl kG k;have g:=b.lim
  rwa [iI] at g
 ·rintro e w' ⟨i,⟨b, -⟩|⟨-,c,rfl,j⟩⟩
  ·rw[rQ] at b;cases b
  ·obtain⟨-, -,f, -⟩:=eE fD dU rfl kG a;rw[iI,nO] at f;rw[j t d a,f];exact⟨rfl,i⟩
theorem lsFirst {A:Option Addr} {cl:Nat} (k:Rs (exR KE) w (.slice A 1 cl) [ku] ah):
  Calls Tryz.prog 31 #[P,.slice A 1 cl,.int .i64 100] w λe w'=>∃b o c,e= .returned (.tuple #[.slice (some ⟨b,o,none⟩) 2 c,.int .i64 0])/\b<w'.heap.size/\w'.cell? ⟨b,o,none⟩=some (.int .i64 0)/\w'.cell? ⟨b,o+1,none⟩=some (.int .i64 1)/\Below w.heap.size w w':=by
 obtain⟨A1,A2,A5,c1,c2,c5,rfl,h⟩:=h;refine(uK (h.pin dU) dU hk hm fD [ku] A cl k (by decide) (λe j=>nJ dU fD e (AZ _ j)) 100 (by decide+kernel) (by decide)).mono ?_;rintro e w' ⟨i,d⟩;have l:de (aw pbL.vars) (az pbL.vars) [ku]=[[0,1],[0,2],[0,3],[1,2],[1,3],[2,3]]:=nO;rw[l] at d;obtain⟨v,rfl,f⟩:=d;rcases f.form with⟨A,c,rfl,d⟩|⟨b,o,c,rfl,m, -,g,a⟩
 ·cases d
 ·exact⟨b,o,c,rfl,g,a 0 (by decide),a 1 (by decide),i⟩
end
theorem lwSolved (w:World) (hk:KW w) (hm:cM w):Calls Tryz.prog 8 #[] w λe w'=>e= .returned (.bool true)/\Below w.heap.size w w':=by
 obtain⟨t,d,s⟩:=uW;obtain⟨m,C,n, -⟩:=eE fD dU rfl kG s;rw[iI,nO] at n;have p:=m.lim;rw[iI] at p;have u:Hid (∀W,Calls Tryz.prog 29 #[] W λe w'=>∃P,e= .returned P/\LsV w' P/\Below W.heap.size W w'):=zh λW=>(lwLess W).mono λe w' ⟨A1,A2,A5,c1,c2,c5,he,r,a⟩=>⟨_,he,⟨A1,A2,A5,c1,c2,c5,rfl,r⟩,a⟩;have I:=zh fun(W:World) (P:Value) (h:LsV W P) (a:Below w.heap.size w W)=>lsRules h (hk.below a) (hm.below a);have F:=zh fun(W:World) (P:Value) (h:LsV W P) (a:Below w.heap.size w W) (A:Option Addr) (cl:Nat) (r:Rs (exR KE) W (.slice A 1 cl) [ku] ah)=>lsAll h (hk.below a) (hm.below a) r s;have J:=zh fun(W:World) (P:Value) (h:LsV W P) (a:Below w.heap.size w W)=>lsSols h (hk.below a) (hm.below a);have H:=zh fun(W:World) (P:Value) (h:LsV W P) (a:Below w.heap.size w W) (A:Option Addr) (cl:Nat) (r:Rs (exR KE) W (.slice A 1 cl) [ku] ah)=>lsFirst h (hk.below a) (hm.below a) r
 have G:Hid (∀W B c,Rs ndR W (.slice B d.length c) d ah->Calls Tryz.prog 30 #[.agg #[.slice B d.length c],.int .i64 (t:Nat),.int .i64 4] W λe w'=>e= .returned (.tuple #[.int .i64 6,.int .i64 0])/\Below W.heap.size W w'):=zh λW B c h=>by
  have:=vW W B c 4 t d h m.dv p (by decide) C;rw[n] at this;exact this
 have L:=zh fun(W:World) (B:Option Addr) (c:Nat) (h:Rs ndR W (.slice B d.length c) d ah)=>li W _ d m.dv h;have T:=m.dv.top;clear hk hm s m C n p;generalize d.length=N at*;go_enter Tryz.func8,Tryz.ntmps8;have f:=zh (yx w.heap.size w);go_wp2_with fail;refine(u w).mono ?_;rintro e w1 ⟨M,rfl,g,a⟩;replace f:=zb f a;have v:=zh g;clear g a;go_wp2_with fail;refine(I w1 M v f).mono ?_;rintro e w2 ⟨A,cl,rfl,r,a⟩;replace f:=zb f a;have i:=zh r;clear r a v I;go_wp2_with fail;refine(u w2).mono ?_;rintro e X ⟨Q,rfl,g,a⟩;replace f:=zb f a;replace i:=zb i a;have x:=zh g;clear g a;go_wp2_with fail;refine(F X Q x f A cl i).mono ?_;rintro e Y ⟨B,c,rfl,K,a⟩;replace f:=zb f a;replace i:=zb i a;have j:=zh K;clear K a x F;go_upto_region 3 with fail;generalize D:Y.alloc _=w5 at*;obtain⟨q,k⟩:=zA1 D;clear D;replace i:=zb i q;replace j:=zb j q;replace f:=zb f q;clear q;have l:=za k 0 rfl;go_wp2_with fail;refine(G w5 B c j).mono ?_;rintro e Z ⟨rfl,a⟩;clear l;replace i:=zb i a;replace j:=zb j a;replace k:=zb k a;replace f:=zb f a;clear a;clear G;go_wp2_with fail;refine(u Z).mono ?_;rintro e w7 ⟨R,rfl,g,a⟩;replace i:=zb i a;replace j:=zb j a;replace k:=zb k a;replace f:=zb f a;clear a;have y:=zh g;clear g;go_wp2_with fail;refine(J w7 R y f).mono ?_;rintro e w8 ⟨rfl,a⟩;replace i:=zb i a;replace j:=zb j a;replace k:=zb k a;replace f:=zb f a;clear a;clear J y;go_wp2_with fail;refine(u w8).mono ?_;rintro e w9 ⟨S,rfl,g,a⟩;replace i:=zb i a;replace j:=zb j a;replace k:=zb k a;replace f:=zb f a;clear a;have z:=zh g;clear g u;go_wp2_with fail;refine(H w9 S z f A cl i).mono ?_;rintro e E ⟨b,o,cf,rfl,U,y0,y1,a⟩;replace i:=zb i a;replace j:=zb j a;replace k:=zb k a;replace f:=zb f a;clear a;clear H z;clear i;have l:=za k 0 rfl;go_wp2_with fail;clear y0 y1;refine(L E B c j).mono ?_;rintro e V ⟨rfl,a⟩;clear l;replace j:=zb j a;replace k:=zb k a;replace f:=zb f a;clear a;go_wp2_with fail;go_ret;exact⟨rfl,f⟩
structure GtP (p:Pb) (g:List Int):Prop where
 sm:PSm p
 sp:pb p
 pv:PV p
 d0:p.dists=[]
 hg:p.groups=[g]
 asc:ji g
 b8:kd p<=8
section
variable {p:Pb} {g:List Int} (h:GtP p g)
include h
theorem GtP.nb:aU p.vars=(aD (az p.vars):Nat):=(lE h.pv.vars.ok).symm
theorem GtP.wb:aD (az p.vars)<=8:=by
 have b:=h.nb;have a:=h.b8;unfold kd at a;rw[yz h.pv] at a;omega
theorem GtP.n0:0<p.vars.length:=by
 have b:=h.pv.groups.some_ g (by rw[h.hg];simp)
 match g,b with
 |i::r,_=>
  have a:=h.pv.groups.ran i (by rw[h.hg];simp);unfold bL at a;simp only[yF,yY] at a;omega
theorem GtP.len:p.hard.length+p.soft.length<=1000:=by have:=h.sp.nh;have:=h.sp.ns;omega
theorem GtP.st:StP p:=kC h.pv h.sm h.hg h.asc
theorem GtP.asg:(aK (az p.vars)).length<=256:=by
 rw[qU];exact yK (AC (by decide) h.wb) (by decide)
theorem GtP.fit:mE p.vars (l5 p.vars):=by
 refine⟨by unfold l5;rw[yD],λi hi=> ?_⟩
 have e:(l5 p.vars).getD i 0=if(p.vars.getD i vr0).mode=0 then(p.vars.getD i vr0).value.toNat else 0:=by
  unfold l5;rw[yj,yW,yj,yp hi];rfl
 obtain⟨-,b, -,⟨c,d⟩, -⟩:=h.pv.vars.ok _ (getD_in vr0 hi);rw[e];refine⟨λa=>by rw[yz a];omega, ?_⟩;have f:((2^(p.vars.getD i vr0).width.toNat:Nat):Int)=2^(p.vars.getD i vr0).width.toNat:=by simp
 have g:=Nat.two_pow_pos (p.vars.getD i vr0).width.toNat
 split<;>omega
theorem GtP.solsLe:(dA p).length<=256:=by
 unfold dA;rw[fl];exact yK (List.length_filter_le _ _) h.asg
end
section
variable {w:World} {p:Pb} {g:List Int} {A1 A2 A3 A4 A5:Option Addr} {c1 c2 c3 c4 c5:Nat} (h:GtP p g) (hp:PIn w p A1 A2 A3 A4 A5 c1 c2 c3 c4 c5) (hk:KW w) (hm:cM w)
include h hp hk hm
theorem tpRules:Calls Tryz.prog 9 #[pbV p A1 A2 A3 A4 A5 c1 c2 c3 c4 c5] w (RlR w p):=qh hp h.sm hk hm h.pv h.d0 (by have:=h.wb;omega) h.len
theorem tpRu:∀e∈aA p,jK (aw p.vars) e:=λe a=>nJ h.sm h.pv e ((dL p).1 e a)
theorem tpRl:(aA p).length<=1000:=yK (dL p).2 h.len
theorem tpAll {Al:Option Addr} {cl:Nat} (a:Rs (exR KE) w (.slice Al (aA p).length cl) (aA p) ah):Calls Tryz.prog 10 #[pbV p A1 A2 A3 A4 A5 c1 c2 c3 c4 c5,.slice Al (aA p).length cl] w (mD w bT (dC (nmV p.vars (cC p)) (aA p) 1 bT)):=
 blAll w p h.st A1 A2 A3 A4 A5 Al c1 _ c2 _ c3 _ c4 c5 cl hp.v hp.g (evC hp h.sm hk hm h.pv) hk hm (aA p) KE a (tpRl h hp hk hm) (tpRu h hp hk hm)
theorem tpSols (b:cF p p.hard=true):Calls Tryz.prog 11 #[pbV p A1 A2 A3 A4 A5 c1 c2 c3 c4 c5] w λe w'=>∃c:Int,e= .returned (.tuple #[.int .i64 c,.int .i64 0])/\(∀t d,dC (nmV p.vars (cC p)) (aA p) 1 bT=some (t,d)->c=((dA p).length:Nat))/\Below w.heap.size w w':=by
 refine(mq hp h.sm hk hm h.pv h.st h.d0 (by have:=h.wb;omega) h.len (nJ h.sm h.pv) (aD (az p.vars)) h.nb (by have:=h.wb;omega) (λt d a=>(eE h.pv h.sm h.hg h.asc a).1.lim)).mono ?_;rintro e w' ⟨g,⟨f, -⟩|⟨-,c,rfl,i⟩⟩
 ·rw[b] at f;cases f
 ·exact⟨c,rfl,λt d a=>by rw[i t d a,(eE h.pv h.sm h.hg h.asc a).2.2.1],g⟩
theorem tpBits:Calls Tryz.prog 13 #[pbV p A1 A2 A3 A4 A5 c1 c2 c3 c4 c5] w λe w'=>e= .returned (.int .i64 (aD (az p.vars):Nat))/\Below w.heap.size w w':=by
 have:=ue hp h.sm (evC hp h.sm hk hm h.pv) h.pv.vars;rw[h.nb] at this;exact this
theorem tpNth {t:Nat} {d:List Nd} (i:dC (nmV p.vars (cC p)) (aA p) 1 bT=some (t,d)) {B:Option Addr} {c:Nat} (g:Rs ndR w (.slice B d.length c) d ah) {k:Nat} (hk:k<(dA p).length):
  Calls Tryz.prog 12 #[.agg #[.slice B d.length c],.int .i64 (t:Nat),.int .i64 (aD (az p.vars):Nat),.int .i64 (k:Nat)] w λe w'=>∃v,e= .returned (.tuple #[v,.int .i64 0])/\BL w' v (ja d (aD (az p.vars)) (aD (az p.vars)) 0 t k)/\Below w.heap.size w w':=by
 obtain⟨a,b,f, -⟩:=eE h.pv h.sm h.hg h.asc i;exact ctNth w B c _ t k d g a.dv a.lim (by have:=h.wb;omega) b (by rw[f];exact hk)
theorem tpFit:Calls Tryz.prog 15 #[pbV p A1 A2 A3 A4 A5 c1 c2 c3 c4 c5,.slice none 0 0] w (IlR w (nI (l5 p.vars))):=by
 refine(lwFit hp h.sm h.pv.vars).mono ?_;rintro e w' ⟨v,rfl,a,b⟩;rw[fitN_T h.pv.vars.ok] at a;exact⟨v,rfl,a.il,b⟩
theorem tpChoose {t:Nat} {d:List Nd} (f:dC (nmV p.vars (cC p)) (aA p) 1 bT=some (t,d)) (b:cF p p.hard=true) {va:Value} (j:IL w va (nI (l5 p.vars))) {k:Nat} (a:k<(dA p).length):
  Calls Tryz.prog 14 #[pbV p A1 A2 A3 A4 A5 c1 c2 c3 c4 c5,.int .i64 0,va,.int .i64 (k:Nat)] w λe w'=>∃v,e= .returned (.tuple #[v,.int .i64 0])/\IL w' v (nI ((dA p).getD k []))/\Below w.heap.size w w':=by
 obtain⟨g,l,m,c,i⟩:=eE h.pv h.sm h.hg h.asc f;have:=rF hp h.sm hk hm h.pv h.d0 (by have:=h.wb;omega) h.len (nJ h.sm h.pv) h.hg h.asc (l5 p.vars) va j h.fit t d f b g.lim k (by rw[c];exact a) (by rw[c];have:=h.solsLe;unfold dF;omega);rw[(i k a).2] at this;exact this
theorem tpAllS {Al:Option Addr} {cl:Nat} (a:Rs (exR KE) w (.slice Al (aA p).length cl) (aA p) ah):Calls Tryz.prog 16 #[pbV p A1 A2 A3 A4 A5 c1 c2 c3 c4 c5,.slice Al (aA p).length cl,.int .i64 ((dA p).length:Nat),.int .i64 1024] w (AllR w (dA p)):=
 scAll hp h.sm hk hm h.pv (aA p) Al cl a (tpRl h hp hk hm) (tpRu h hp hk hm) (dA p).length 1024 (by have:=h.asg;omega) (by decide) (yq _) (by have:=h.solsLe;omega)
theorem tpBits2 {t:Nat} {d:List Nd} (e:dC (nmV p.vars (cC p)) (aA p) 1 bT=some (t,d)) {k:Nat} (a:k<(dA p).length) {vb:Value} (c:BL w vb (ja d (aD (az p.vars)) (aD (az p.vars)) 0 t k)):
  Calls Tryz.prog 18 #[pbV p A1 A2 A3 A4 A5 c1 c2 c3 c4 c5,vb] w (IlR w (nI ((dA p).getD k []))):=by
 obtain⟨-, -, -, -,b⟩:=eE h.pv h.sm h.hg h.asc e;have:=lwBits hp h.sm h.pv.vars vb _ c (qq _ _ _ _ _ _) h.n0;rw[(b k a).1] at this;exact this
theorem tpSolN (c:cF p p.hard=true):0<(dA p).length/\(dA p).length<=256/\∀k,k<(dA p).length->((dA p).getD k []).length<=100000:=by
 refine⟨tw c,h.solsLe,λk b=> ?_⟩;have a:=getD_in [] b;unfold dA at a;rw[fl] at a;have d:=(pZ h.pv.vars.ok (List.mem_filter.1 a).1).1;have:=h.pv.vars.len;unfold dA;rw[fl];omega
end
section
open Go.RowKit
instance {w w':World} {v:Value} {l:List Int}:Zm w w' (IL w v l) (IL w' v l):=⟨λhb h=>IL.below h hb⟩
end
end
section
open Go.RowKit Go.WideShapes Go.ChangeShapes Go.Deep
theorem rS {H:Type} {enc:TypeId×Value->H} {P:Program} {w:World} {base:Nat} {spare:Nat->Bool} {held:Bool} {r:Reach} {z:Nat} {t:TypeId} {a:Array Field} {v:Value} {d:DataW H} {p:List MemPlace} (u:P.underlying t=some (.struct a)) (e:oneCellFields P a=true) (q:P.cellsOf t=a.size)
  (D:Value.okWide P w r z t v) (h:DataW.Trod enc P w base spare held t v d p):
  ∃(cs:List Value) (ys:List (DataW H×List MemPlace)) (n:Nat),v= .agg cs.toArray/\d= .agg (ys.map (·.1))/\p=ys.flatMap (·.2)/\cs.length=a.size/\ys.length=a.size∧
   ∀(j:Nat) (f:Field),a[j]? =some f->∃c y,cs[j]? =some c/\ys[j]? =some y/\DataW.trod enc P w base spare held n f.type [c]=some y:=by
 obtain⟨cs,rfl,g⟩:=okWide_struct u D;obtain⟨o,A⟩:=h;obtain⟨ys,n,_,m,_,b,B⟩:=DataW.trod_struct u A;simp only[B4] at m;refine⟨cs.toList,ys,n,by simp,m.1,m.2,by rw[Array.length_toList,g,q],b,λj f k=> ?_⟩;obtain⟨C,hk⟩:=hone_of e j f k;have l:j<a.size:=(Bu.1 k).1;have s:j<cs.toList.length:=by rw[Array.length_toList,g,q];exact l
 have i:=B j f k;rw[C,hk] at i
 have e1:((Value.agg cs).cells.toList.drop j).take 1=[cs.toList[j]]:=by
  show(cs.toList.drop j).take 1=_;rw[Aq s];rfl
 rw[e1] at i;have x:ys[j]? =some (ys[j]'(by omega)):=yp (by omega);exact⟨_,_,yp s,x,i.trans x⟩
section
variable {H:Type} {enc:TypeId×Value->H} {w:World} {base:Nat} {spare:Nat->Bool} {held:Bool}
theorem tT {d:Nat} {c:Value} {x:DataW H×List MemPlace} (h:DataW.trod enc Tryz.prog w base spare held d 32 [c]=some x):
  ∃zs,IL w c zs/\zs.length<=maxLen/\∀y∈zs,I64 y:=by
 rcases ChangeShapes.open_ints Tryz.underlying32 Tryz.underlying3 (by kernel_rfl) h with⟨e,_⟩|⟨a,len,cap,ss,e,_,m,l,f,_,b,g⟩
 ·obtain rfl:c= .slice none 0 0:=by simpa using e
  exact⟨[],IL.nil w,by simp,λy i=>by cases i⟩
 ·obtain rfl:c= .slice (some a) len cap:=by simpa using e
  have n:len<=ss.length:=by rw[f];split<;>omega
  have k:(ss.take len).length=len:=by rw[yM];omega
  refine⟨ss.take len,⟨some a,cap,by rw[k],by omega,λhp=>⟨a,rfl, ?_,λj o=> ?_⟩⟩,by rw[k];omega,λy i=> ?_⟩
  ·have:=b 0 (by omega);have:=BG _ _ this
   rwa [aP] at this
  ·rw[b j (by omega)];simp only[yj];rw[Bc (by omega)]
  ·exact bounds_i64 (g y (List.mem_of_mem_take i))
theorem l8 {e:TypeId} {a:Array Field} {n:Nat} {us:List Value} {z:DataW H×List MemPlace} (k:Tryz.prog.underlying e=some (.struct a)) (b:oneCellFields Tryz.prog a=true) (s:us.length=a.size) (h:DataW.trod enc Tryz.prog w base spare held n e us=some z):
  ∃m,∀(j:Nat) (f:Field),a[j]? =some f->∃c y,us[j]? =some c/\DataW.trod enc Tryz.prog w base spare held m f.type [c]=some y:=by
 obtain⟨ys,m,_,t,_,r,l⟩:=DataW.trod_struct k h;refine⟨m,λj f g=> ?_⟩;obtain⟨p,hk⟩:=hone_of b j f g;have o:j<a.size:=(Bu.1 g).1;have i:j<us.length:=by omega
 have d:=l j f g;rw[p,hk] at d;have e1:(us.drop j).take 1=[us[j]]:=by rw[Aq i];rfl
 rw[e1] at d;have q:ys[j]? =some (ys[j]'(by omega)):=yp (by omega);exact⟨_,_,yp i,d.trans q⟩
theorem ti {n:Nat} {us:List Value} {z:DataW H×List MemPlace} (d:us.length=4) (h:DataW.trod enc Tryz.prog w base spare held n 98 us=some z):
  ∃x,vrR.R w us x ah/\(x.name.size<=maxLen/\I64 x.width/\I64 x.mode/\I64 x.value):=by
 obtain⟨m,a⟩:=l8 Tryz.underlying98 (by kernel_rfl) d h;obtain⟨j,E,e0,p⟩:=a 0 _ rfl;obtain⟨k,F,e1,q⟩:=a 1 _ rfl;obtain⟨l,G,b,r⟩:=a 2 _ rfl;obtain⟨o,I,c,s⟩:=a 3 _ rfl
 obtain rfl:us=[j,k,l,o]:=by
  match us,d with
  |[_,_,_,_],_=>simp at e0 e1 b c;rw[e0,e1,b,c]
 obtain⟨y,e, -,A⟩:=DataW.trod_string Tryz.underlying9 p;obtain⟨t,f, -,B⟩:=Ca Tryz.underlying3 q;obtain⟨u,g, -,C⟩:=Ca Tryz.underlying3 r;obtain⟨v,i, -,D⟩:=Ca Tryz.underlying3 s;simp only[By,B9] at e f g i;subst e f g i;exact⟨⟨y,t,u,v⟩,rfl,A,bounds_i64 B,bounds_i64 C,bounds_i64 D⟩
theorem tg {n:Nat} {us:List Value} {z:DataW H×List MemPlace} (d:us.length=4) (h:DataW.trod enc Tryz.prog w base spare held n 133 us=some z):
  ∃x,wtR.R w us x ah/\(I64 x.lo/\I64 x.hi/\I64 x.weight):=by
 obtain⟨m,a⟩:=l8 Tryz.underlying133 (by kernel_rfl) d h;obtain⟨j,D,e0,q⟩:=a 0 _ rfl;obtain⟨k,E,e1,r⟩:=a 1 _ rfl;obtain⟨l,F,b,s⟩:=a 2 _ rfl;obtain⟨o,G,c,t⟩:=a 3 _ rfl
 obtain rfl:us=[j,k,l,o]:=by
  match us,d with
  |[_,_,_,_],_=>simp at e0 e1 b c;rw[e0,e1,b,c]
 obtain⟨u,e, -,A⟩:=Ca Tryz.underlying3 q;obtain⟨v,f, -,B⟩:=Ca Tryz.underlying3 r;obtain⟨y,g, -,C⟩:=Ca Tryz.underlying3 s;obtain⟨p,i, -⟩:=DataW.trod_bool Tryz.underlying4 t;simp only[By,B9] at e f g i;subst e f g i;exact⟨⟨u,v,y,p⟩,rfl,bounds_i64 A,bounds_i64 B,bounds_i64 C⟩
theorem uf {n:Nat} {us:List Value} {z:DataW H×List MemPlace} (a:us.length=2) (h:DataW.trod enc Tryz.prog w base spare held n 126 us=some z):
  ∃x,dsR.R w us x ah/\(I64 x.var/\x.ws.length<=maxLen/\∀y∈x.ws,I64 y.lo/\I64 y.hi/\I64 y.weight):=by
 obtain⟨m,b⟩:=l8 Tryz.underlying126 (by kernel_rfl) a h;obtain⟨e,p,e0,g⟩:=b 0 _ rfl;obtain⟨f,q,e1,i⟩:=b 1 _ rfl
 obtain rfl:us=[e,f]:=by
  match us,a with
  |[_,_],_=>simp at e0 e1;rw[e0,e1]
 obtain⟨l,c, -,o⟩:=Ca Tryz.underlying3 g;obtain⟨v,ws,d,j,hm,k⟩:=dE wtR (λy=>I64 y.lo/\I64 y.hi/\I64 y.weight) Tryz.underlying124 (by kernel_rfl) (λn us z a _ h=>tg a h) i;simp only[By,B9] at c d;subst c d;exact⟨⟨l,ws⟩,⟨_,rfl,j,km _ _⟩,bounds_i64 o,hm,k⟩
end
section
variable {H:Type} {enc:TypeId×Value->H} {W:World} {v:Value} {d:DataW H} {p:List MemPlace} {base:Nat}
theorem arg_pb (h:DataW.Trod enc Tryz.prog W 0 (λ_=>true) true 27 v d p) (P:Value.okWide Tryz.prog W .any base 27 v):
  ∃(q:Pb) (I:Nat) (A1 A2 A3 A4 A5:Option Addr) (c1 c2 c3 c4 c5:Nat),v=pbV q A1 A2 A3 A4 A5 c1 c2 c3 c4 c5/\PRd I W q A1 A2 A3 A4 A5 c1 c2 c3 c4 c5/\PbZ q:=by
 obtain⟨cs,ys,n,rfl,rfl, -,c,Q,b⟩:=rS Tryz.underlying27 (by kernel_rfl) (by kernel_rfl) P h;obtain⟨D,y0,e0,f0,J⟩:=b 0 _ rfl;obtain⟨E,B,e1,f1,K⟩:=b 1 _ rfl;obtain⟨F,C,f,f2,L⟩:=b 2 _ rfl;obtain⟨G,y3,g,f3,M⟩:=b 3 _ rfl;obtain⟨H,y4,i,f4,N⟩:=b 4 _ rfl
 obtain rfl:cs=[D,E,F,G,H]:=by
  match cs,c with
  |[_,_,_,_,_],_=>simp at e0 e1 f g i;rw[e0,e1,f,g,i]
 obtain⟨v0,l0,j,r,X,z0⟩:=dE vrR (λx=>x.name.size<=maxLen/\I64 x.width/\I64 x.mode/\I64 x.value) Tryz.underlying22 (by kernel_rfl) (λn us z a _ h=>ti a h) J;obtain⟨v1,S,k,s,Y,z1⟩:=dE (exR (SizeOf.sizeOf B.1)) ExZ Tryz.underlying23 (by rw[ei];kernel_rfl) (λn us z a e h=>kt _ (Nat.le_of_lt e) (by rw[a,ei]) h) K;obtain⟨v2,T,l,t,Z,z2⟩:=dE (exR (SizeOf.sizeOf C.1)) ExZ Tryz.underlying23 (by rw[ei];kernel_rfl) (λn us z a e h=>kt _ (Nat.le_of_lt e) (by rw[a,ei]) h) L;obtain⟨v3,U,m,w,m3,z3⟩:=dE dsR (λx=>I64 x.var/\x.ws.length<=maxLen/\∀y∈x.ws,I64 y.lo/\I64 y.hi/\I64 y.weight) Tryz.underlying24 (by kernel_rfl) (λn us z a _ h=>uf a h) M
 obtain⟨v4,V,o,A,m4,z4⟩:=dE ilR (λx=>x.length<=maxLen/\∀y∈x,I64 y) Tryz.underlying25 (by kernel_rfl) (λn us z a _ h=>by
  match us,a with
  |[u],_=>
   obtain⟨zs,hi,hm,R⟩:=tT h
   exact⟨zs,⟨u,rfl,hi,km _ _⟩,hm,R⟩) N
 simp only[By,B9] at j k l m o;subst j k l m o;obtain⟨A1,c1,rfl, -⟩:=r.slice;obtain⟨A2,c2,rfl, -⟩:=s.slice;obtain⟨A3,c3,rfl, -⟩:=t.slice;obtain⟨A4,c4,rfl, -⟩:=w.slice;obtain⟨A5,c5,rfl, -⟩:=A.slice;exact⟨⟨l0,S,T,U,V⟩,SizeOf.sizeOf B.1+SizeOf.sizeOf C.1,A1,A2,A3,A4,A5,c1,c2,c3,c4,c5,rfl,⟨r,s.exle (Nat.le_add_right _ _),t.exle (Nat.le_add_left _ _),w,A⟩,⟨X,z0,Y,z1,Z,z2,m3,z3,m4,z4⟩⟩
end
end
section
open Go.RowKit Go.Maps Go.WideShapes Go.ChangeShapes
def gTupP (j:Nat) (D:List Nat) (Φ:Value->World->Prop):FOp:=⟨j,D,λu=>∃v,u= .tuple #[v,.int .i64 0],λu w=>∃v,u= .tuple #[v,.int .i64 0]/\Φ v w⟩
def gIl (j:Nat) (D:List Nat) (l:List Int):FOp:=⟨j,D,λu=>∃A c,u= .slice A l.length c,λu w=>IL w u l⟩
theorem gIl_st (j:Nat) (D:List Nat) (l:List Int):∀u w w',(gIl j D l).Φ u w->Below w.heap.size w w'->(gIl j D l).Φ u w':=λu w w' h a=>IL.below h a
theorem gIl_kn (j:Nat) (D:List Nat) (l:List Int):(∀u w,(gIl j D l).Φ u w->(gIl j D l).S u)/\∃u,(gIl j D l).S u:=⟨λu w ⟨A,c,e,_⟩=>⟨A,c,e⟩,.slice none _ 0,none,0,rfl⟩
def gTB (j:Nat) (D:List Nat) (l:List Bool):FOp:=gTupP j D λv w=>BL w v l
theorem gTB_st (j:Nat) (D:List Nat) (l:List Bool):∀u w w',(gTB j D l).Φ u w->Below w.heap.size w w'->(gTB j D l).Φ u w':=λu w w' ⟨v,e,h⟩ hb=>⟨v,e,h.below hb⟩
theorem gTB_kn (j:Nat) (D:List Nat) (l:List Bool):(∀u w,(gTB j D l).Φ u w->(gTB j D l).S u)/\∃u,(gTB j D l).S u:=⟨λu w ⟨v,e,_⟩=>⟨v,e⟩,.tuple #[undef,.int .i64 0],undef,rfl⟩
def gTI (j:Nat) (D:List Nat) (l:List Int):FOp:=gTupP j D λv w=>IL w v l
theorem gTI_st (j:Nat) (D:List Nat) (l:List Int):∀u w w',(gTI j D l).Φ u w->Below w.heap.size w w'->(gTI j D l).Φ u w':=λu w w' ⟨v,e,h⟩ hb=>⟨v,e,IL.below h hb⟩
theorem gTI_kn (j:Nat) (D:List Nat) (l:List Int):(∀u w,(gTI j D l).Φ u w->(gTI j D l).S u)/\∃u,(gTI j D l).S u:=⟨λu w ⟨v,e,_⟩=>⟨v,e⟩,.tuple #[undef,.int .i64 0],undef,rfl⟩
theorem walkTopChoices {H:Type} {enc:TypeId×Value->H} {base:Nat} {w:World} (v0:Value) (d0:DataW H) (p0:List MemPlace) (g0:DataW.Trod enc Tryz.prog w 0 (λ_=>true) true 27 v0 d0 p0) (aZ:Value.okWide Tryz.prog w .any base 27 v0)
  (k0:Int) (wk:0<=k0/\k0<=255) (ht:Tab w) (hm:cM w) (hk:KW w):
  Calls Tryz.prog 3 #[v0,.int .u8 k0] w λe w'=>e= .returned (.bool true)/\Below w.heap.size w w':=by
 obtain⟨p,dd,A1,A2,A3,A4,A5,c1,c2,c3,c4,c5,rfl,L,U⟩:=arg_pb g0 aZ;obtain⟨I,aG⟩:=zv (p.groups.getD 0 []);have P:=zh fun(W:World) (a:Below w.heap.size w W)=>lwSolved W (hk.below a) (hm.below a);have CF:=zh fun(W:World) (a:Below w.heap.size w W)=>lwFew (L.below a) U 8;have CV:=zh fun(hs:pb p) (W:World) (a:Below w.heap.size w W)=>uO ((L.below a).pin (hs.sm U)) (hs.sm U)
 have Q:Hid (p.groups.length=1->p.groups=[I]/\∃b o u,A5=some ⟨b,o,none⟩/\b<w.heap.size/\w.cell? ⟨b,o,none⟩=some u/\IL w u I):=zh λY=>by
  have e1:p.groups=[I]:=by
   match hq:p.groups,Y with
   |[x],_=>rw[aG,hq];rfl
  obtain⟨bh,bi,e2,_,bd⟩:=L.g.ils;obtain⟨b,o,u,e3,a,hc,hi, -⟩:=bd 0 (by omega);simp only[yA] at e2;exact⟨e1,b,o,u,by rw[e2.1,e3],a,hc,by rw[aG];exact hi⟩
 have HG:Hid (∀hs:pb p,kd p<=8->p.dists.length=0->p.groups.length=1->PV p->ji I->GtP p I):=zh λhs h8 hd Y hv ha=>⟨hs.sm U,hs,hv,List.length_eq_zero_iff.1 hd,(Q Y).1,ha,h8⟩
 have ac:Hid (pb p->p.groups.length=1->I.length<=100000):=zh λhs Y=>by
  have:=hs.gr I (by rw[(Q.out Y).1];simp);omega
 have CA:=zh fun(W:World) (va:Value) (ha:IL W va I) (nl:I.length<=100000)=>lwAsc W va I ha nl;have G:=zh fun(h:GtP p I) (W:World) (a:Below w.heap.size w W)=>(L.below a).pin h.sm;have C1:=zh fun(h:GtP p I) (W:World) (a:Below w.heap.size w W)=>tpRules h (G h W a) (hk.below a) (hm.below a);have C2:=zh fun(h:GtP p I) (W:World) (a:Below w.heap.size w W) (Al:Option Addr) (cl:Nat) hr=>tpAll h (G h W a) (hk.below a) (hm.below a) (Al:=Al) (cl:=cl) hr;have C3:=zh fun(h:GtP p I) (W:World) (a:Below w.heap.size w W) T=>tpSols h (G h W a) (hk.below a) (hm.below a) T;have C4:=zh fun(h:GtP p I) (W:World) (a:Below w.heap.size w W)=>tpBits h (G h W a) (hk.below a) (hm.below a);have C5:=zh fun(h:GtP p I) (W:World) (a:Below w.heap.size w W) (t:Nat) (d:List Nd) hq (B:Option Addr) (c:Nat) hd (k:Nat) hk'=>tpNth h (G h W a) (hk.below a) (hm.below a) (t:=t) (d:=d) hq (B:=B) (c:=c) hd (k:=k) hk';have C6:=zh fun(h:GtP p I) (W:World) (a:Below w.heap.size w W)=>tpFit h (G h W a) (hk.below a) (hm.below a);have C7:=zh fun(h:GtP p I) (W:World) (a:Below w.heap.size w W) (t:Nat) (d:List Nd) hq T (va:Value) ha (k:Nat) hk'=>tpChoose h (G h W a) (hk.below a) (hm.below a) (t:=t) (d:=d) hq T (va:=va) ha (k:=k) hk';have C8:=zh fun(h:GtP p I) (W:World) (a:Below w.heap.size w W) (Al:Option Addr) (cl:Nat) hr=>tpAllS h (G h W a) (hk.below a) (hm.below a) (Al:=Al) (cl:=cl) hr;have C9:=zh fun(h:GtP p I) (W:World) (a:Below w.heap.size w W) (t:Nat) (d:List Nd) hq (k:Nat) hk' (vb:Value) J=>tpBits2 h (G h W a) (hk.below a) (hm.below a) (t:=t) (d:=d) hq (k:=k) hk' (vb:=vb) J;have K:=zh fun(h:GtP p I) T=>tpSolN h (G h w (yx _ _)) hk hm T;unfold RlR at C1;unfold mD at C2;unfold IlR at C6 C9;unfold AllR at C8;unfold FewR at CF;unfold ErR at CV;unfold BoR at CA;unfold pbV at CF CV C1 C2 C3 C4 C6 C7 C8 C9⊢;generalize a4:p.vars.length=n1 at*;generalize a5:p.hard.length=n2 at*;generalize a6:p.soft.length=n3 at*;generalize a7:p.dists.length=n4 at*;generalize a8:p.groups.length=n5 at*;clear a4 a5 a6 a7 a8 g0 aZ L U aG G hk hm ht;go_enter Tryz.func3,Tryz.ntmps3;go_upto_region 1 with fail;generalize X:w.alloc _=w1 at*;obtain⟨i,f⟩:=zB1 X;clear X;have m:=za f 0 rfl;have n:=za f 1 rfl;have q:=za f 2 rfl;have l:=za f 3 rfl;have j:=za f 4 rfl;go_wp2_with fail;refine(CF w1 i).mono ?_;rintro e w2 ⟨⟨b,rfl,aB⟩,a⟩;clear m n q l j;replace f:=zb f a;replace i:=zb i a;clear a;clear CF;cases b
 ·clear C1 C2 C3 C4 C5 C6 C7 C8 C9 K CV CA HG ac Q aB;go_wp2_with fail;refine(P w2 i).mono ?_;rintro e wz ⟨rfl,a⟩;replace f:=zb f a;replace i:=zb i a;clear a;go_wp2_with fail;go_ret;exact⟨rfl,i⟩
 have HS:=zh (aB rfl);have S:=zh HS.out.1;have ai:=zh (CV S);clear aB CV
 by_cases h4:n4=0
 case neg=>
  have g4:(n4:Int)>0:=by omega
  clear C1 C2 C3 C4 C5 C6 C7 C8 C9 K ai CA HG ac Q HS S h4;have l:=za f 3 rfl;go_wp2_with fail;refine(P w2 i).mono ?_;rintro e wz ⟨rfl,a⟩;replace f:=zb f a;replace i:=zb i a;clear a;go_wp2_with fail;go_ret;exact⟨rfl,i⟩
 subst h4
 by_cases h5:n5=1
 case neg=>
  have g5:((n5:Int) !=1)=true:=by simp;omega
  clear C1 C2 C3 C4 C5 C6 C7 C8 C9 K ai CA HG ac Q HS S h5;have l:=za f 3 rfl;have j:=za f 4 rfl;go_wp2_with fail;refine(P w2 i).mono ?_;rintro e wz ⟨rfl,a⟩;replace f:=zb f a;replace i:=zb i a;clear a;go_wp2_with fail;go_ret;exact⟨rfl,i⟩
 subst h5;have m:=za f 0 rfl;have n:=za f 1 rfl;have q:=za f 2 rfl;have l:=za f 3 rfl;have j:=za f 4 rfl;go_wp2_with fail;refine(ai w2 i).mono ?_;rintro e w3 ⟨er,rfl,aC,a⟩;clear m n q l j;replace f:=zb f a;replace i:=zb i a;clear a;clear ai
 by_cases he:er=0
 case neg=>
  have f1:(er !=0)=true:=by simpa using he
  clear C1 C2 C3 C4 C5 C6 C7 C8 C9 K CA HG ac Q HS S he aC;go_wp2_with fail;refine(P w3 i).mono ?_;rintro e wz ⟨rfl,a⟩;replace f:=zb f a;replace i:=zb i a;clear a;go_wp2_with fail;go_ret;exact⟨rfl,i⟩
 have ay:=zh (aC.1 he);subst he;clear aC;obtain⟨-,bg,og,ug,rfl,J,hc,aV⟩:=Q.out (by trivial);have y0:=(i.out.cell J).trans hc;have aR:=zh (IL.below aV i);have al:=zh (ac S (by trivial));clear J hc aV Q ac;have j:=za f 4 rfl;go_wp2_with fail;clear y0;refine(CA w3 ug aR al).mono ?_;rintro e w4 ⟨ba,rfl,E,a⟩;clear j;replace f:=zb f a;replace i:=zb i a;clear a;clear CA aR al;cases ba
 ·clear C1 C2 C3 C4 C5 C6 C7 C8 C9 K HG HS S ay E;go_wp2_with fail;refine(P w4 i).mono ?_;rintro e wz ⟨rfl,a⟩;replace f:=zb f a;replace i:=zb i a;clear a;go_wp2_with fail;go_ret;exact⟨rfl,i⟩
 have s:=zh (HG S HS.out.2 (by trivial) (by trivial) ay (E.1 rfl));clear HG HS S ay E;have m:=za f 0 rfl;have n:=za f 1 rfl;have q:=za f 2 rfl;have l:=za f 3 rfl;have j:=za f 4 rfl;go_wp2_with fail;refine(C1 s w4 i).mono ?_;rintro e w5 ⟨a,⟨-,rfl⟩|⟨T,v,rfl,hr⟩⟩
 ·clear C1 C2 C3 C4 C5 C6 C7 C8 C9 K s;clear m n q l j;replace f:=zb f a;replace i:=zb i a;clear a;go_wp2_with fail;refine(P w5 i).mono ?_;rintro e wz ⟨rfl,a⟩;replace f:=zb f a;replace i:=zb i a;clear a;go_wp2_with fail;go_ret;exact⟨rfl,i⟩
 replace f:=zb f a;replace i:=zb i a;clear a;have aj:=zh T;obtain⟨Ar,cr,rfl, -⟩:=hr.slice;have R:=zh hr;clear T hr C1;have aq:=zh λW a=>C3.out s W a aj;have ap:=zh (C2 s w5 i Ar cr R);obtain⟨nr,aX⟩:=zv ((aA p).length);rw[<-aX] at ap C8 R⊢;clear aX C2 C3;have m:=za f 0 rfl;have n:=za f 1 rfl;have q:=za f 2 rfl;have l:=za f 3 rfl;have j:=za f 4 rfl;go_wp2_with fail;refine ap.out.mono ?_;rintro e w6 ⟨a,hq⟩;clear m n q l j;replace f:=zb f a;replace R:=zb R a;replace i:=zb i a;clear a;clear ap;generalize ad:dC (nmV p.vars (cC p)) (aA p) 1 bT=r at hq
 cases r with
 |none=>
  subst hq;clear C4 C5 C6 C7 C8 C9 K s ad R;go_upto_region 7 with fail;generalize X:w6.alloc _=w7 at*;obtain⟨E,XD⟩:=zA1 X;clear X;replace f:=zb f E;replace i:=zb i E;clear E;have m:=za f 0 rfl;have n:=za f 1 rfl;have q:=za f 2 rfl;have l:=za f 3 rfl;have j:=za f 4 rfl;go_wp2_with fail;refine(aq w7 i).mono ?_;rintro e w8 ⟨c,rfl, -,a⟩;clear m n q l j;replace f:=zb f a;replace XD:=zb XD a;replace i:=zb i a;clear a;go_wp2_with fail;refine(P w8 i).mono ?_;rintro e wz ⟨rfl,a⟩;replace f:=zb f a;replace XD:=zb XD a;replace i:=zb i a;clear a;go_wp2_with fail;go_ret;exact⟨rfl,i⟩
 |some td=>
  obtain⟨t,d⟩:=td;obtain⟨x,rfl,L, -⟩:=hq;obtain⟨B,c,rfl, -⟩:=L.slice;have HD:=zh L;obtain⟨ao,bb,af⟩:=K.out s aj;have ae:=zh fun(W:World) (a:Below w.heap.size w W)=>(aq W a).mono fun(e:Ending) (w':World) ⟨c,Y,h2,h3⟩=>(show e=Ending.returned (Value.tuple #[.int .i64 ((dA p).length:Nat),.int .i64 0])/\Below W.heap.size W w' from⟨by rw[Y,h2 t d ad],h3⟩);have aL:=zh fun(W:World) (a:Below w.heap.size w W)=>C4.out s W a;have ag:=zh fun(W:World) (a:Below w.heap.size w W) hd (k:Nat) hk'=>C5.out s W a t d ad B c hd k hk';have aN:=zh fun(W:World) (a:Below w.heap.size w W)=>C6.out s W a;have ar:=zh fun(W:World) (a:Below w.heap.size w W) va ha (k:Nat) hk'=>C7.out s W a t d ad aj va ha k hk';have au:=zh fun(W:World) (a:Below w.heap.size w W) hr=>C8.out s W a Ar cr hr;have av:=zh fun(W:World) (a:Below w.heap.size w W) (k:Nat) hk' vb J=>C9.out s W a t d ad k hk' vb J;obtain⟨dn,aU⟩:=zv (d.length);rw[<-aU] at ag HD⊢;obtain⟨N,hN⟩:=zv ((dA p).length);have ax:=zh hN;rw[<-hN] at ae ag ar au av ao bb af;have a3:=zh af;clear aq C4 C5 C6 C7 C8 C9 K s aj ad L aU hN af;generalize aD (az p.vars)=nb at*;have q1:¬(N:Int)<1:=by omega
  have q2:((N:Int)==0)=false:=by simp;omega
  have q3:¬(N:Int)=0:=by omega
  obtain⟨kk,rfl⟩:=BW wk.1;go_upto_region 7 with fail;generalize X:w6.alloc _=w7 at*;obtain⟨E,XD⟩:=zA1 X;clear X;replace f:=zb f E;replace R:=zb R E;replace HD:=zb HD E;replace i:=zb i E;clear E;have m:=za f 0 rfl;have n:=za f 1 rfl;have q:=za f 2 rfl;have l:=za f 3 rfl;have j:=za f 4 rfl;go_wp2_with fail;refine(ae w7 i).mono ?_;rintro e w8 ⟨rfl,a⟩;clear m n q l j;replace f:=zb f a;replace R:=zb R a;replace HD:=zb HD a;replace XD:=zb XD a;replace i:=zb i a;clear a;clear ae;go_upto_region 11 with fail;obtain⟨M,aH⟩:=zv (kk%N:Nat);rw[show(kk:Int)%(N:Int)=(M:Int) by rw[aH];simp];have ak:M<N:=by rw[aH];exact Cf _ ao
  have aw:=zh ak;clear aH wk;have aM:=zh fun(W:World) (a:Below w.heap.size w W) hd=>ag.out W a hd M aw;have aO:=zh fun(W:World) (a:Below w.heap.size w W) va ha=>ar.out W a va ha M aw;have aP:=zh fun(W:World) (a:Below w.heap.size w W) vb J=>av.out W a M aw vb J;clear ag ar av;generalize ja d nb nb 0 t M=LB at*;have a2:=zh (a3 M ak)
  have aS:Hid (∀W v,Rs ilR W v ((dA p).map nI) ah->∃b o c u,v= .slice (some ⟨b,o,none⟩) N c/\b<W.heap.size/\W.cell? ⟨b,o+M,none⟩=some u/\IL W u (nI ((dA p).getD M []))):=zh λW v h=>by
   obtain⟨A,c,e1, -,hx⟩:=h.ils;obtain⟨b,o,u,e2,a9,hc,hi, -⟩:=hx M (by rw[yD,<-ax.out];exact ak);refine⟨b,o,c,u,by rw[e1,e2,yD,<-ax.out],a9,hc, ?_⟩
   have e3:((dA p).map nI).getD M []=nI ((dA p).getD M []):=by
    rw[yj,yW,yj,yp (by rw[<-ax.out];exact ak)];rfl
   rw[<-e3];exact hi
  have aQ:=zh fun(W:World) (x y:Value) (hx:IL W x (nI ((dA p).getD M []))) (hy:IL W y (nI ((dA p).getD M [])))=>(rfSame W x y _ _ hx hy (by rw[aF];exact a2)).mono fun(e:Ending) (w':World) ⟨Y,h2⟩=>(show e=Ending.returned (Value.bool true)/\Below W.heap.size W w' from⟨by rw[Y];simp,h2⟩);generalize(dA p).getD M []=LI at*;refine fT 8 9 9 (Kit.of [iq 3 [] (.int .i64 (nb:Nat)),gTB 5 [3] LB]) (by kernel_rfl) (by kernel_rfl) (by decide) (by kernel_rfl) (λγ=>by kernel_rfl) (by kernel_rfl) (Kit.of_stable ?_) (Kit.of_known ?_) ?_
  ·intro z U;simp only[yC,yI,AH] at U;rcases U with rfl|rfl
   ·apply cO
   ·apply gTB_st
  ·intro z U;simp only[yC,yI,AH] at U;rcases U with rfl|rfl
   ·apply cP
   ·apply gTB_kn
  intro γ Z C hC aI;have e3:γ 3= .int .i64 (nb:Nat):=Z 3 rfl;obtain⟨vb,e5⟩:∃v,γ 5= .tuple #[v,.int .i64 0]:=Z 5 rfl;have p0:=f.out.latC (C:=C) 0 _ rfl;have p1:=f.out.latC (C:=C) 1 _ rfl;have p2:=f.out.latC (C:=C) 2 _ rfl;have p3:=f.out.latC (C:=C) 3 _ rfl;have p4:=f.out.latC (C:=C) 4 _ rfl;have p5:=XD.out.latC (C:=C) 0 _ rfl
  iterate 3 (refine aE rfl ?_;go_big_quiet_step (fail);refine yN ?_)
  refine bG rfl (bc (args:=#[.agg #[.slice A1 n1 c1,.slice A2 n2 c2,.slice A3 n3 c3,.slice A4 0 c4,.slice (some ⟨bg,og,none⟩) 1 c5]]) rfl _ _ _ (cB Tryz.func13 (by kernel_rfl) (by kernel_rfl)) rfl (by simp[Act.eval]) (λw' a hf=>(aL w' (ab i a)).mono λe w2 ⟨he,hb2⟩=>⟨_,he,rfl,hb2⟩)) ?_;simp only[yH,Nat.reduceAdd,e3];go_simp
  iterate 1 (refine aE rfl ?_;go_big_quiet_step (fail);refine yN ?_)
  refine bG rfl (bc (args:=#[.agg #[.slice B dn c],.int .i64 (t:Nat),.int .i64 (nb:Nat),.int .i64 (M:Nat)]) rfl _ _ _ (cB Tryz.func12 (by kernel_rfl) (by kernel_rfl)) rfl (by simp[Act.eval]) (λw' a hf=>(aM w' (ab i a) (HD.out.below a)).mono λe w2 ⟨v,he,J,hb2⟩=>⟨_,he,⟨v,rfl,J⟩,hb2⟩)) ?_;simp only[yH,Nat.reduceAdd,e5];go_simp
  iterate 3 (refine aE rfl ?_;go_big_quiet_step (fail);refine yN ?_)
  intro w9 a hF;have R5:∃v,γ 5= .tuple #[v,.int .i64 0]/\BL w9 v LB:=hF 5 (by decide) rfl
  have D:Hid (BL w9 vb LB):=zh (by
   obtain⟨v,Y,h2⟩:=R5;rw[e5] at Y;obtain rfl:vb=v:=by simpa using Y
   exact h2)
  clear hF Z hC p0 p1 p2 p3 p4 p5 e3 e5 aI aL aM R5 HD XD;replace f:=zb f a;replace R:=zb R a;replace i:=zb i a;clear a;go_wp2_with fail;refine⟨rfl, ?_⟩;go_upto_region 12 with fail;generalize nI (l5 p.vars)=FI at*;generalize bj:nI LI=NL at*;refine fT 7 8 8 (Kit.of [gIl 2 [] FI,gTI 4 [2] NL]) (by kernel_rfl) (by kernel_rfl) (by decide) (by kernel_rfl) (λγ=>by kernel_rfl) (by kernel_rfl) (Kit.of_stable ?_) (Kit.of_known ?_) ?_
  ·intro z U;simp only[yC,yI,AH] at U;rcases U with rfl|rfl
   ·apply gIl_st
   ·apply gTI_st
  ·intro z U;simp only[yC,yI,AH] at U;rcases U with rfl|rfl
   ·apply gIl_kn
   ·apply gTI_kn
  intro γ Z C hC aI;obtain⟨Af,cf,e2⟩:∃A c,γ 2= .slice A FI.length c:=Z 2 rfl;obtain⟨va,e4⟩:∃v,γ 4= .tuple #[v,.int .i64 0]:=Z 4 rfl;have p0:=f.out.latC (C:=C) 0 _ rfl;have p1:=f.out.latC (C:=C) 1 _ rfl;have p2:=f.out.latC (C:=C) 2 _ rfl;have p3:=f.out.latC (C:=C) 3 _ rfl;have p4:=f.out.latC (C:=C) 4 _ rfl
  iterate 2 (refine aE rfl ?_;go_big_quiet_step (fail);refine yN ?_)
  refine bG rfl (bc (args:=#[.agg #[.slice A1 n1 c1,.slice A2 n2 c2,.slice A3 n3 c3,.slice A4 0 c4,.slice (some ⟨bg,og,none⟩) 1 c5],.slice none 0 0]) rfl _ _ _ (cB Tryz.func15 (by kernel_rfl) (by kernel_rfl)) rfl (by simp[Act.eval]) (λw' a hf=>(aN w' (ab i a)).mono λe w2 ⟨v,he,hi,hb2⟩=>⟨v,he,hi,hb2⟩)) ?_;simp only[yH,Nat.reduceAdd,e2];go_simp
  iterate 1 (refine aE rfl ?_;go_big_quiet_step (fail);refine yN ?_)
  refine bG rfl (bc (args:=#[.agg #[.slice A1 n1 c1,.slice A2 n2 c2,.slice A3 n3 c3,.slice A4 0 c4,.slice (some ⟨bg,og,none⟩) 1 c5],.int .i64 0,.slice Af FI.length cf,.int .i64 (M:Nat)]) rfl _ _ _ (cB Tryz.func14 (by kernel_rfl) (by kernel_rfl)) rfl (by simp[Act.eval]) (λw' a hf=>(aO w' (ab i a) _ (by have h5:IL w' (γ 2) FI:=hf 2 (show 2∈[2] by decide);rwa [e2] at h5)).mono λe w2 ⟨v,he,hi,hb2⟩=>⟨_,he,⟨v,rfl,hi⟩,hb2⟩)) ?_;simp only[yH,Nat.reduceAdd,e4];go_simp
  iterate 3 (refine aE rfl ?_;go_big_quiet_step (fail);refine yN ?_)
  intro aJ a hF;have R5:∃v,γ 4= .tuple #[v,.int .i64 0]/\IL aJ v NL:=hF 4 (by decide) rfl
  have F:Hid (IL aJ va NL):=zh (by
   obtain⟨v,Y,h2⟩:=R5;rw[e4] at Y;obtain rfl:va=v:=by simpa using Y
   exact h2)
  clear hF Z hC p0 p1 p2 p3 p4 e2 e4 aI aN aO R5;replace f:=zb f a;replace R:=zb R a;replace D:=zb D a;replace i:=zb i a;clear a;go_wp2_with fail;refine⟨rfl, ?_⟩;go_upto_region 13 with fail;have m:=za f 0 rfl;have n:=za f 1 rfl;have q:=za f 2 rfl;have l:=za f 3 rfl;have j:=za f 4 rfl;go_wp2_with fail;refine(au aJ i R).mono ?_;rintro e V ⟨a,vs,rfl,aY⟩;clear m n q l j;replace f:=zb f a;replace R:=zb R a;replace D:=zb D a;replace F:=zb F a;replace i:=zb i a;clear a;clear au;obtain⟨bs,os,cs,us,rfl,am,aT,an⟩:=aS.out V vs aY;have a0:=zh fun(W:World) (h:Below V.heap.size V W)=>(h.cell am).trans aT;have a1:=zh fun(W:World) (h:Below V.heap.size V W)=>IL.below an h;have aa:=zh (yx V.heap.size V);have q5:((N:Int) !=(N:Int))=false:=by simp
  have q6:(0:Int)<=(M:Int):=by omega
  have q7:(M:Int)<(N:Int):=by omega
  clear aS aY am aT an;clear R;have m:=za f 0 rfl;have n:=za f 1 rfl;have q:=za f 2 rfl;have l:=za f 3 rfl;have j:=za f 4 rfl;go_wp2_with fail;refine(aP V i vb D).mono ?_;rintro e be ⟨vx,rfl,aW,a⟩;replace aa:=zb aa a;clear m n q l j;replace f:=zb f a;replace D:=zb D a;replace F:=zb F a;replace i:=zb i a;clear a;clear aP;go_wp2_with fail;refine(aQ be vx va aW F).mono ?_;rintro e aK ⟨rfl,a⟩;replace aa:=zb aa a;replace f:=zb f a;replace D:=zb D a;replace F:=zb F a;replace i:=zb i a;clear a;clear aW;have y0:=a0.out aK aa;go_wp2_with fail;clear y0;refine(aQ aK us va (a1 aK aa) F).mono ?_;rintro e bf ⟨rfl,a⟩;replace f:=zb f a;replace D:=zb D a;replace F:=zb F a;replace i:=zb i a;clear a;go_wp2_with fail;refine(P bf i).mono ?_;rintro e wz ⟨rfl,a⟩;replace f:=zb f a;replace D:=zb D a;replace F:=zb F a;replace i:=zb i a;clear a;go_wp2_with fail;go_ret;exact⟨rfl,i⟩
end
section
open Go.RowKit Go.WideShapes Go.ChangeShapes Go.Deep
theorem rf {H:Type}:∀{a b:List ByteArray},(strs a:List (DataW H))=strs b->a=b
 |[],[],_=>rfl
 |[],_::_,h=>by simp[strs] at h
 |_::_,[],h=>by simp[strs] at h
 |x::a,y::b,h=>by
  simp only[strs,Cm,By,DataW.lit.injEq,Lit.string.injEq] at h;have h2:(strs a:List (DataW H))=strs b:=h.2;rw[rf h2,mB h.1]
theorem kw_of_laid {W:World} (h:laidMetH Tryz.prog [("math/bits.deBruijn32tab",Rows.laid_math_bits_deBruijn32tab),("math/bits.deBruijn64tab",Rows.laid_math_bits_deBruijn64tab),("internal/strconv.uint64pow10",Rows.laid_internal_strconv_uint64pow10),("testbench/lexer.keywords",Rows.laid_testbench_lexer_keywords)] W):KW W:=by
 rw[MakeChecks.laidMetH_plain _ _ _ (by kernel_rfl)] at h;obtain⟨ps,hl,_⟩:=h
 obtain⟨g,t,cs,fuel,p,hg,hty,hv,hd⟩:=n7 hl ("testbench/lexer.keywords",Rows.laid_testbench_lexer_keywords) (by simp)
 have gk:Tryz.prog.globalNamed "testbench/lexer.keywords"=some 0:=by kernel_rfl
 obtain rfl:=Az (gk.symm.trans hg);have hty':(Tryz.prog.globals[0]?).map (·.type)=some 188:=by kernel_rfl
 obtain rfl:=Az (hty'.symm.trans hty);rcases ChangeShapes.open_strings Tryz.underlying188 Tryz.underlying9 (by kernel_rfl) hd with⟨_,h0⟩|⟨a,len,cap,ss,h0,_,hlc,hcm,hsl,hx,hcell,hsz⟩
 ·exact absurd (Prod.mk.inj h0).1 (by unfold Rows.laid_testbench_lexer_keywords;intro h;cases h)
 ·have hx1:=(Prod.mk.inj hx).1;have hk:(Rows.laid_testbench_lexer_keywords:DataW Unit)= .slice (strs fp) []:=by kernel_rfl
  rw[hk] at hx1;obtain⟨e1,e2⟩:=DataW.slice.inj hx1;have hkw:=rf e1
  have hc0:W.cell? ⟨0,0,none⟩=some (.slice (some a) len cap):=by
   have:=World.var?_cell gk hv 0;rw[this];have:cs.toList[0]? =some (.slice (some a) len cap):=by rw[h0];rfl
   simpa using this
  have hl:fp.length=len:=by
   have:(ss.take len).length=len:=by rw[yM,hsl];simp;omega
   rw[hkw];exact this
  refine⟨_,hc0,some a,cap,by rw[hl],by omega,λhp=>⟨a,rfl, ?_,λj hj=> ?_⟩⟩
  ·have:=hcell 0 (by rw[hsl];simp;omega);have:=BG _ _ this
   rwa [aP] at this
  ·rw[hcell j (by rw[hsl];simp;omega),hkw];simp only[yj];rw[Bc (by omega)]
   rfl
end
end Go.Proofs.YtdahpdnhkflnnaaGreatDoor
