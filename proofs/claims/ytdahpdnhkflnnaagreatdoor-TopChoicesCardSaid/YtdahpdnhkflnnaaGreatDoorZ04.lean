/-
  Contracts and laws for the law TopChoices, part 4 of 14; made small by a program of mine out of longer texts.
-/
import Derived.Test.YtdahpdnhkflnnaaGreatDoorZ03
namespace Go.Proofs.YtdahpdnhkflnnaaGreatDoor
set_option linter.unusedVariables false
set_option linter.unusedSimpArgs false
set_option linter.defProp false
set_option maxRecDepth 100000
set_option maxHeartbeats 64000000
section
open Go.RowKit Go.Maps
theorem vc (a b m:Nat) (h:m=min a b) (ts:Array TypeId) (t:TypeId) (W:World):(Builtin.min_ ts t #[.int .i64 (a:Nat),.int .i64 (b:Nat)]).run Tryz.prog W= .ok (.int .i64 (m:Nat)) W:=by
 have e:(Builtin.min_ ts t #[.int .i64 (a:Nat),.int .i64 (b:Nat)]).run Tryz.prog W= .ok (.int .i64 (if(b:Int)<a then(b:Int) else a)) W:=by
  simp[Builtin.min_,Builtin.min2]
 rw[e];congr 2;subst h
 split<;>omega
theorem dagField (A:Option Addr) (n c:Nat) (W:World):(Instr.field 38 (.agg #[.slice A n c]) 0).run Tryz.prog W= .ok (.slice A n c) W:=by kernel_rfl
def xH (j:Nat) (D:List Nat) (d:List Nd):FOp:=⟨j,D,λv=>∃A c,v= .agg #[.slice A d.length c],λv w=>∃x,v= .agg #[x]/\Rs ndR w x d ah⟩
theorem gDag_st (j:Nat) (D:List Nat) (d:List Nd):∀u w w',(xH j D d).Φ u w->Below w.heap.size w w'->(xH j D d).Φ u w':=λu w w' ⟨x,e,h⟩ hb=>⟨x,e,h.below hb⟩
theorem gDag_kn (j:Nat) (D:List Nat) (d:List Nd):(∀u w,(xH j D d).Φ u w->(xH j D d).S u)/\∃u,(xH j D d).S u:=⟨λu w ⟨x,e,h⟩=>by
 obtain⟨A,c,rfl,_⟩:=h.slice
 exact⟨A,c,e⟩,_,none,0,rfl⟩
theorem yb {d:List Nd} (h:DV d):d.take 2=bT:=by
 have f:=h.two;have e0:=h.e0;have e1:=h.e1
 match d,f,e0,e1 with
 |a::b::r,_,e0,e1=>
  have c:a=⟨20,0,0⟩:=e0;have e:b=⟨20,1,1⟩:=e1;rw[c,e];rfl
theorem dagEnds (w:World) (x:Value) (d:List Nd) (k:DV d) (h:Rs ndR w x d ah):
  Calls Tryz.prog 66 #[x] w λe w'=>e= .returned (.bool true)/\Below w.heap.size w w':=by
 have m:=k.two;have B:=k.top;obtain⟨A,c,rfl,F,a⟩:=h.nds;obtain⟨b,o,rfl,r, -⟩:=a 0 (by omega)
 have q:Hid (Rs ndR w (.slice (some ⟨b,o,none⟩) 2 c) bT ah):=zh (by
  have:=h.takeA 2 (by omega)
  rwa [yb k] at this)
 have p:Hid (∀W,Calls Tryz.prog 36 #[] W _):=zh dagNew;have u:((d.length:Int)≥2):=by omega
 have v:((d.length:Int)<=8192):=by omega
 have y:¬c<2:=by omega
 clear h a k;go_enter Tryz.func66,Tryz.ntmps66;go_upto_region 1 with fail;refine br 15 (Kit.of [xH 11 [] bT,iq 13 [11] (.bool true)]) (by kernel_rfl) (by kernel_rfl) (λγ=>by kernel_rfl) (by kernel_rfl) (Kit.of_stable ?_) (Kit.of_known ?_) ?_
 ·intro z f;simp only[yC,yI,AH] at f;rcases f with rfl|rfl
  ·apply gDag_st
  ·apply cO
 ·intro z f;simp only[yC,yI,AH] at f;rcases f with rfl|rfl
  ·apply gDag_kn
  ·apply cP
 intro γ g C D t;obtain⟨A5,c5,i⟩:∃A c,γ 11= .agg #[.slice A 2 c]:=g 11 rfl;have l:γ 13= .bool true:=g 13 rfl;simp only[yX,y9,y6,yO]
 iterate 11 (refine aE rfl ?_;go_big_quiet_step (fail);refine yN ?_)
 have s:=dagField A5 2 c5;refine cW rfl (cG (args:=#[]) (by kernel_rfl) _ _ _ (cB Tryz.func36 (by kernel_rfl) (by kernel_rfl)) rfl (by simp[Act.eval]) (λw' j n=>(p w').mono λe w2 ⟨x,he,a,m⟩=>⟨_,he,⟨x,rfl,a⟩,m⟩)) ?_;simp only[yH,Nat.reduceAdd,i];go_simp
 iterate 1 (refine aE rfl ?_;go_big_quiet_step (fail);refine yN ?_)
 refine cW rfl (cG (args:=#[.slice (some ⟨b,o,none⟩) 2 c,.slice A5 2 c5]) (by kernel_rfl) _ _ _ (cB Tryz.func116 (by kernel_rfl) (by kernel_rfl)) rfl (by simp[Act.eval]) (λw' j n=>(eqNodes w' _ _ bT (q.out.below j) (by obtain⟨x,e,h⟩:∃x,γ 11= .agg #[x]/\Rs ndR w' x bT ah:=n 11 (show 11∈[11] by decide);rw[i] at e;simp at e;rwa [<-e] at h) (by decide)).mono λe w2 ⟨he,a⟩=>⟨_,he,rfl,a⟩)) ?_;simp only[yH,Nat.reduceAdd,l];go_simp
 iterate 1 (refine aE rfl ?_;go_big_quiet_step (fail);refine yN ?_)
 intro w2 j E;go_wp2_with fail;go_ret;exact⟨rfl,j⟩
theorem x6 (w:World) (x:Value) (d:List Nd) (n:DV d) (h:Rs ndR w x d ah) (i:Nat) (hi:2<=i) (q:i<d.length):
  Calls Tryz.prog 67 #[x,.int .i64 (i:Nat)] w λe w'=>e= .returned (.bool true)/\Below w.heap.size w w':=by
 have D:=n.two;have E:=n.top;obtain⟨A,c,rfl,U,l⟩:=h.nds;obtain⟨b,o,rfl,j,y0,y1,y2⟩:=l i q;obtain⟨z,G,H,I,B,C⟩:=n.pl i hi q;obtain⟨_,_,e1,_,P, -⟩:=l (ndA d i).lo (by omega);simp only[yy,B8,B9] at e1;obtain⟨rfl,rfl⟩:=e1;obtain⟨_,_,e1,_,Q, -⟩:=l (ndA d i).hi (by omega);simp only[yy,B8,B9] at e1;obtain⟨rfl,rfl⟩:=e1;unfold lvA at z B C;generalize(ndA d (ndA d i).lo).lv=r at*;generalize(ndA d (ndA d i).hi).lv=s at*;generalize ndA d i=nd at*;obtain⟨lv,lo,a⟩:=nd;simp only at*;obtain⟨m,hm⟩:=zv (min r s);have y:=vc r s m hm;have V:((lv:Int)≥0):=by omega
 have W:((lv:Int)<20):=by omega
 have X:((lo:Int)≥0):=by omega
 have Y:((lo:Int)<(i:Int)):=by omega
 have Z:((a:Int)≥0):=by omega
 have q6:((a:Int)<(i:Int)):=by omega
 have q7:((lo:Int) !=(a:Int))=true:=by simp;omega
 have q8:((lv:Int)<(m:Int)):=by omega
 have q9:((lo:Int)<(d.length:Int)):=by omega
 have J:((a:Int)<(d.length:Int)):=by omega
 have K:((i:Int)<(d.length:Int)):=by omega
 have L:((0:Int)<=(i:Int)):=by omega
 have M:((0:Int)<=(lo:Int)):=by omega
 have N:((0:Int)<=(a:Int)):=by omega
 clear h l n hm z G H I B C hi q D E;go_enter Tryz.func67,Tryz.ntmps67;go_upto_region 2 with fail;generalize k:w.alloc _=w1 at*;obtain⟨g,f⟩:=zB1 k;clear k;have t:=za f 0 rfl;have u:=za f 1 rfl;have v:=za f 2 rfl;go_upto_region 3 with fail;refine aJ (by kernel_rfl) (by kernel_rfl) ?_;have R:=f.out.lat 0 _ rfl;have S:=f.out.lat 1 _ rfl;have T:=f.out.lat 2 _ rfl;have r1:∀p:Lat w1,p.w.cell? ⟨b,o+lo*3,none⟩=some (.int .i64 (r:Nat)):=λp=>((g.out.trans (p.h.mono g.out.size)).cell (p:=⟨b,o+lo*3,none⟩) j).trans P;have r2:∀p:Lat w1,p.w.cell? ⟨b,o+a*3,none⟩=some (.int .i64 (s:Nat)):=λp=>((g.out.trans (p.h.mono g.out.size)).cell (p:=⟨b,o+a*3,none⟩) j).trans Q
 repeat(go_big_quiet_step (fail))
 refine yN ?_;intro w2 F;go_wp2_with fail;go_ret;exact⟨rfl,ab g F⟩
section
variable {κ:Type} {kT:TypeId}
def datB (φ:dP κ kT) (l:List κ):DataW Unit:=l.foldr (λp D=>D.put (φ.lit p) (.lit (.bool true))) (.map [])
def iX (φ:dP κ kT) (w:World) (b:Nat) (l:List κ):Prop:=(∀p∈l,φ.ok p)/\∃n,n<=l.length/\w.ownsMap (H:=Unit) Tryz.prog kT (plainElem Tryz.prog 4) b n (datB φ l)
theorem sR (φ:dP κ kT):∀(l:List κ),IsMap (datB φ l)
 |[]=>isMap_empty
 |p::l=>(sR φ l).put _ _
theorem vS [DecidableEq κ] (φ:dP κ kT) {x:κ} (a:φ.ok x):∀(l:List κ),(∀p∈l,φ.ok p)->(datB φ l).atKey (φ.lit x) (.lit (.bool false))= .lit (.bool (decide (x∈l)))
 |[],_=>by simp[datB];rfl
 |p::l,h=>by
  have hp:=h p (by simp);show((datB φ l).put (φ.lit p) (.lit (.bool true))).atKey (φ.lit x) (.lit (.bool false))=_
  by_cases e:p=x
  ·subst e;rw[atKey_put_same (sR φ l) (φ.K.key (φ.key p a)) _ _];simp
  ·rw[atKey_put_other (λh=>e (φ.lit_inj a hp h).symm),vS φ a l (λq b=>h q (yT _ b))];have:x≠p:=λh=>e h.symm;simp[this]
theorem iX.new (φ:dP κ kT) (w:World):iX φ (w.alloc (.map #[] 0)) w.heap.size []:=⟨λp h=>(by cases h),0,yq _,World.ownsMap_made _ _ _ _⟩
theorem iX.grown {φ:dP κ kT} {w w':World} {b:Nat} {l:List κ} {row:Option Nat} (h:iX φ w b l) (g:w.grownBy w' row) (a:row≠some b):iX φ w' b l:=by
 obtain⟨c,n,d,f⟩:=h;exact⟨c,n,d,f.kept g (λe=>a e.symm)⟩
theorem iX.below {φ:dP κ kT} {w w':World} {b:Nat} {l:List κ} (h:iX φ w b l) (a:Below w.heap.size w w'):iX φ w' b l:=h.grown (gI a none) (by simp)
instance {φ:dP κ kT} {w w':World} {b:Nat} {l:List κ}:Zm w w' (iX φ w b l) (iX φ w' b l):=⟨λhb h=>iX.below h hb⟩
theorem nN {P:Program} {e:TypeId} (a:P.underlying e=some .bool) {v:Value} {z:DataW Unit×List MemPlace} (h:plainElem P e v=some z):∃x,v= .bool x/\z.1= .lit (.bool x):=by
 unfold plainElem at h;rw[a] at h;cases v<;>simp at h;subst h;exact⟨_,rfl,rfl⟩
theorem iX.look [DecidableEq κ] {φ:dP κ kT} {mT:TypeId} (g:Tryz.prog.underlying mT=some (.map kT 4)) {w:World} {b:Nat} {l:List κ} (h:iX φ w b l) {x:κ} (d:φ.ok x):
  (Instr.lookup mT (.map (some b)) (φ.kv x) false).run Tryz.prog w= .ok (.bool (decide (x∈l))) w:=by
 obtain⟨f,n,i,h⟩:=h;obtain⟨v,j,a,c⟩:=h.lookup φ.K g (z:= .bool false) (by kernel_rfl) (plainElem_bool Tryz.underlying4 false) (φ.key x d);rw[vS φ d l f] at c;obtain⟨y,rfl,e⟩:=nN Tryz.underlying4 c;simp only[DataW.lit.injEq,Lit.bool.injEq] at e;rw[a,e]
theorem iX.upd {φ:dP κ kT} {mT:TypeId} (f:Tryz.prog.underlying mT=some (.map kT 4)) {w:World} {b:Nat} {l:List κ} (h:iX φ w b l) {x:κ} (c:φ.ok x) (k:l.length<maxLen):
  ∃w',(Instr.mapUpdate mT (.map (some b)) (φ.kv x) (.bool true)).run Tryz.prog w= .ok () w'/\iX φ w' b (x::l)/\w.grownBy w' (some b):=by
 obtain⟨d,n,j,e⟩:=h;obtain⟨w',a,i,g⟩:=e.update φ.K f (by omega) (φ.key x c) (plainElem_bool Tryz.underlying4 true);refine⟨w',a,⟨λp hp=> ?_,n+1,by simp;omega,i⟩,g⟩;rcases yC.1 hp with rfl|hp
 ·exact c
 ·exact d p hp
end
theorem nd_ok {d:List Nd} (a:DV d) {k:Nat} (hk:k<d.length):okNd (ndA d k):=by
 have f:=a.top;have e:=a.lvle hk
 by_cases b:k=0
 ·rw[b,a.e0];exact⟨by decide,by decide,by decide⟩
 ·by_cases c:k=1
  ·rw[c,a.e1];exact⟨by decide,by decide,by decide⟩
  ·obtain⟨g,h,i,_⟩:=a.pl k (by omega) hk;exact⟨by unfold lvA at e;omega,by omega,by omega⟩
theorem tM {d:List Nd} {k:Nat} (hk:k<d.length):ndA d k=d[k]:=by
 unfold ndA;rw[yj,yp hk];rfl
theorem nd_new {d:List Nd} (a:DV d) {k:Nat} (hk:k<d.length):ndA d k∉d.take k:=by
 intro h;rw[tM hk] at h;obtain⟨j,b,e⟩:=yS.1 h;rw[yM] at b;rw[List.getElem_take] at e;have:=a.nodup;rw[List.nodup_iff_pairwise_ne,List.pairwise_iff_getElem] at this;exact this j k (by omega) hk (by omega) e
theorem li (w:World) (x:Value) (d:List Nd) (H:DV d) (h:Rs ndR w x d ah):
  Calls Tryz.prog 32 #[.agg #[x]] w λe w'=>e= .returned (.bool true)/\Below w.heap.size w w':=by
 have T:=H.two;have h8:=H.top;have CE:Hid (∀W,Below w.heap.size w W->Calls Tryz.prog 66 #[x] W λe w'=>e= .returned (.bool true)/\Below W.heap.size W w'):=zh λW v=>dagEnds W x d H (h.below v);have CP:Hid (∀W,Below w.heap.size w W->∀i,2<=i->i<d.length->Calls Tryz.prog 67 #[x,.int .i64 (i:Nat)] W λe w'=>e= .returned (.bool true)/\Below W.heap.size W w'):=zh λW v i hi hl=>x6 W x d H (h.below v) i hi hl;obtain⟨A,c,rfl,hc,S⟩:=h.nds;obtain⟨b,o,rfl,G, -⟩:=S 0 (by omega)
 have H1:Hid (∀k,k<d.length->∀W,Below w.heap.size w W->W.cell? ⟨b,o+k*3,none⟩=some (.int .i64 ((ndA d k).lv:Nat))/\W.cell? ⟨b,o+k*3+1,none⟩=some (.int .i64 ((ndA d k).lo:Nat))/\W.cell? ⟨b,o+k*3+2,none⟩=some (.int .i64 ((ndA d k).hi:Nat))):=zh λk hk W v=>by
  obtain⟨b',o',e,_,Z,y1,y2⟩:=S k hk;simp only[yy,B8,B9] at e;obtain⟨rfl,rfl⟩:=e;exact⟨(v.cell G).trans Z,(v.cell G).trans y1,(v.cell G).trans y2⟩
 have D:Hid (∀k,k<d.length->okNd (ndA d k)):=zh λk hk=>nd_ok H hk;have C:Hid (∀k,k<d.length->ndA d k∉d.take k):=zh λk hk=>nd_new H hk
 have E:Hid (∀k,k<d.length->∀y,(y∈d.take (k+1)↔y=ndA d k\/y∈d.take k)):=zh λk hk y=>by
  rw[tM hk,Am,yp hk,AQ];simp only[Option.toList_some,AW];exact or_comm
 obtain⟨N,hN⟩:=zv (d.length);rw[<-hN] at H1 D C E CP CE T h8⊢;clear h S H hN hc;go_enter Tryz.func32,Tryz.ntmps32;go_upto_region 1 with fail;generalize u:w.alloc _=w1 at*;obtain⟨a,f⟩:=zB1 u;clear u;have g:=za f 0 rfl;go_wp2_with fail;refine(CE w1 a).mono ?_;rintro e w2 ⟨rfl,m⟩;clear g;replace f:=zb f m;replace a:=zb a m;clear m;go_upto_region 3 with fail;have af:=@run_makeMap Tryz.prog;go_upto_region 4 with fail;clear af;have P:=zh f.out.lt;have j:=ac w2 (.map #[] 0);have n:=zh (iX.new φN w2);replace f:=zb f j;replace a:=zb a j;clear j CE;obtain⟨F,I⟩:=zv (w2.heap.size);have L:Hid (w.heap.size<F):=zh (by rw[I];exact P);rw[<-I] at n⊢;generalize w2.alloc (.map #[] 0)=w3 at*;clear I P;have g:=za f 0 rfl;go_wp2_with fail;clear g
 go_loopw [14] (λi wr=>∃k:Nat,k<=N/\i= .int .i64 k/\Below w.heap.size w wr/\Box wr w.heap.size #[.slice (some ⟨b,o,none⟩) N c] 38/\∃M,iX φN wr F M/\M.length=k/\∀y,y∈M↔y∈d.take k) (λi _=>N-(intOf i).toNat)
 case atStart=>exact⟨0,yt _,rfl,a,f,[],n,rfl,λy=>by simp⟩
 case round=>
  obtain⟨k,hk,rfl,m,hx,M,hs,U,V⟩:=hrel;clear f n a w3;obtain⟨a,f,n⟩:=zk3 m hx hs;clear m hx hs
  by_cases t:k<N
  ·have X:(k:Int)<N:=by omega
   have k0:(0:Int)<=(k:Int):=by omega
   obtain⟨Z,y1,y2⟩:=H1.out k t wr a;have Q:=zh (D k t);have ab:=zh (C k t);have R:=zh (E k t);obtain⟨B,z⟩:=zk2 V U;have aa:=zh fun(W:World) (v:Below w.heap.size w W) (T:2<=k)=>CP.out W v k T t;generalize ag:ndA d k=nd at*;obtain⟨lv,lo,hi⟩:=nd;simp only at Z y1 y2;clear V U ag C E D H1 CP;go_upto_region 7 with fail;generalize u:wr.alloc _=w4 at*;obtain⟨j,l⟩:=zA1 u;clear u;replace f:=zb f j;replace n:=zb n j;replace a:=zb a j;clear j;clear Z y1 y2;have XS:=zh l.out.lt;generalize ad:wr.heap.size=gn at*;clear ad
   have R9:∀(Y:World),Hid (iX φN Y F M)->∃K,(Instr.mapUpdate 137 (.map (some F)) (.agg #[.int .i64 (lv:Nat),.int .i64 (lo:Nat),.int .i64 (hi:Nat)]) (.bool true)).run Tryz.prog Y= .ok () K/\Hid (iX φN K F (⟨lv,lo,hi⟩::M))/\Hid (Y.grownBy K (some F)):=λY h5=>by
    obtain⟨K,S,T,h3⟩:=h5.out.upd (mT:=137) Tryz.underlying137 (x:=⟨lv,lo,hi⟩) Q (by rw[z.out];unfold maxLen;omega);exact⟨K,S,zh T,zh h3⟩
   by_cases ae:2<=k
   ·have f1:((k:Int)≥2):=by omega
    have p:=za l 0 rfl;have q:=za l 1 rfl;have r:=za l 2 rfl;have g:=za f 0 rfl;go_wp2_with fail;refine(aa w4 a ae).mono ?_;rintro e w5 ⟨rfl,m⟩;clear p q r g;replace f:=zb f m;replace n:=zb n m;replace l:=zb l m;replace a:=zb a m;clear m
    have LK:(Instr.lookup 137 (.map (some F)) (.agg #[.int .i64 (lv:Nat),.int .i64 (lo:Nat),.int .i64 (hi:Nat)]) false).run Tryz.prog w5= .ok (.bool false) w5:=by
     have:=n.out.look (mT:=137) Tryz.underlying137 (x:=⟨lv,lo,hi⟩) Q
     rwa [yv (λh=>ab.out ((B.out _).1 h))] at this
    obtain⟨K,hu,J,s⟩:=R9 w5 n;have p:=za l 0 rfl;have q:=za l 1 rfl;have r:=za l 2 rfl;go_wp2_with fail;go_roundw
    ·exact⟨k+1,by omega,by go_num,bf a (by have:=L.out;have:=a.out.size;omega) (by have:=L.out;omega) s.out,bK f s.out (by have:=L.out;omega),_,J.out,by simp[z.out],λy=>by rw[R.out y,yC,B.out y]⟩
    ·simp[intOf];omega
   ·skip
    have f1:¬((k:Int)≥2):=by omega
    obtain⟨K,hu,J,s⟩:=R9 w4 n;have p:=za l 0 rfl;have q:=za l 1 rfl;have r:=za l 2 rfl;go_wp2_with fail;go_roundw
    ·exact⟨k+1,by omega,by go_num,bf a (by have:=L.out;have:=a.out.size;omega) (by have:=L.out;omega) s.out,bK f s.out (by have:=L.out;omega),_,J.out,by simp[z.out],λy=>by rw[R.out y,yC,B.out y]⟩
    ·simp[intOf];omega
  ·have X:¬(k:Int)<N:=by omega
   go_wp2_with fail;go_ret;exact⟨rfl,a⟩
theorem og_less {w:World} {B C B' C':Nat} {v:Value} {d:List Nd} (h:OG ndR w B C 95 v d) (f:B'<=B) (g:C'<=B'):OG ndR w B' C' 95 v d:=by
 obtain⟨⟨a,k⟩,uss,b,c,e⟩:=h;exact⟨⟨a,g⟩,uss,b,kI c f,λj x i=>e j x i⟩
def BgR (w:World) (d:List Nd) (e:Ending) (w':World):Prop:=∃g a,e= .returned (.pointer (some ⟨g,0,none⟩))/\BT w' w.heap.size g a ⟨d,false⟩/\Below w.heap.size w w'
theorem sS (w:World) (x:Value) (d:List Nd) (S:DV d) (h:Rs ndR w x d ah):
  Calls Tryz.prog 137 #[.agg #[x]] w (BgR w d):=by
 have h2:=S.two;have h8:=S.top;obtain⟨A,c,rfl,hc,h1⟩:=h.nds;obtain⟨b,o,rfl,G, -⟩:=h1 0 (by omega);have CC:Hid (∀W,Below w.heap.size w W->Calls Tryz.prog 214 #[.slice (some ⟨b,o,none⟩) d.length c] W _):=zh λW R=>uj W _ d (h.below R) (by omega) h8
 have H1:Hid (∀k,k<d.length->∀W,Below w.heap.size w W->W.cell? ⟨b,o+k*3,none⟩=some (.int .i64 ((ndA d k).lv:Nat))/\W.cell? ⟨b,o+k*3+1,none⟩=some (.int .i64 ((ndA d k).lo:Nat))/\W.cell? ⟨b,o+k*3+2,none⟩=some (.int .i64 ((ndA d k).hi:Nat))):=zh λk hk W R=>by
  obtain⟨b',o',e,_,y0,y1,y2⟩:=h1 k hk;simp only[yy,B8,B9] at e;obtain⟨rfl,rfl⟩:=e;exact⟨(R.cell G).trans y0,(R.cell G).trans y1,(R.cell G).trans y2⟩
 have D:Hid (∀k,k<d.length->okNd (ndA d k)):=zh λk hk=>nd_ok S hk;have C:Hid (∀k,k<d.length->ndA d k∉d.take k):=zh λk hk=>nd_new S hk
 have E:Hid (∀k,k<d.length->d.take (k+1)=d.take k++[ndA d k]):=zh λk hk=>by
  rw[tM hk,Am,yp hk];rfl
 have F:Hid (∀k,k<d.length->(d.take k).length=k):=zh λk hk=>by rw[yM];omega
 have P:Hid (d.take d.length=d):=zh (Ay);obtain⟨N,hN⟩:=zv (d.length);rw[<-hN] at H1 D C E CC h2 h8 F P⊢;have HN:=zh hN;clear h h1 S hN hc;have am:=@run_makeMap Tryz.prog;go_enter Tryz.func137,Tryz.ntmps137;go_upto_region 1 with fail;generalize u:w.alloc _=w1 at*;obtain⟨f,j⟩:=zB1 u;clear u;have r:=za j 0 rfl;go_wp2_with fail;refine(CC w1 f).mono ?_;rintro e w2 ⟨v,rfl,I,l⟩;clear r;obtain⟨A2,c2,rfl⟩:=I.slice;have K:=f.out.size;have n:=zh (og_less (B':=w.heap.size) (C':=w.heap.size) I K (yq _));rw[<-HN.out] at n⊢;replace j:=zb j l;replace f:=zb f l;clear I l K;have HD:=zh j.out.lt;go_upto_region 2 with fail;clear am;have MM:=bY.new φN w2;have a:=ac w2 (.map #[] 0);have s:=ac (w2.alloc (.map #[] 0)) (.cells #[.slice A2 N c2,.map (some w2.heap.size),.bool false] 273);have p:=zh (fi (W:=w2.alloc (.map #[] 0)) (g:=w2.heap.size+1) 273 #[.slice A2 N c2,.map (some w2.heap.size),.bool false] (by simp));have q:=zh (MM.below s);have m:=ab a s;replace j:=zb j m;replace n:=zb n m;replace f:=zb f m;generalize(w2.alloc (.map #[] 0)).alloc (.cells #[.slice A2 N c2,.map (some w2.heap.size),.bool false] 273)=w3 at*;obtain⟨J,T⟩:=zv (w2.heap.size);have HD:=HD.out;rw[<-T] at q p HD⊢;obtain⟨g,hg⟩:=zv (J+1);have L:Hid (g=J+1):=zh hg;rw[<-hg] at p⊢;clear T hg MM a s m CC;have r:=za j 0 rfl;go_wp2_with fail;clear r
 go_loopw [15] (λi wr=>∃k:Nat,k<=N/\i= .int .i64 k/\Below w.heap.size w wr/\Box wr w.heap.size #[.slice (some ⟨b,o,none⟩) N c] 38/\Box wr g #[.slice A2 N c2,.map (some J),.bool false] 273/\OG ndR wr w.heap.size w.heap.size 95 (.slice A2 N c2) d/\∃ls,bY φN wr J ls/\ls.length=k/\∀x:Nd,cq ls x=if x∈d.take k then some (((d.take k).idxOf x:Nat):Int) else none) (λi _=>N-(intOf i).toNat)
 case atStart=>exact⟨0,yt _,rfl,f,j,p,n,[],q,rfl,λy=>by simp[cq]⟩
 case round=>
  obtain⟨k,hk,rfl,l,hx,Z,ho,ls,hs,U,V⟩:=hrel;clear j q f n p w3;obtain⟨f,j,p,n,q,M⟩:=zk6 l hx Z ho hs V;have B:=zh U;clear l hx hs ho Z V U
  by_cases t:k<N
  ·have X:(k:Int)<N:=by omega
   have k0:(0:Int)<=(k:Int):=by omega
   obtain⟨y0,y1,y2⟩:=H1.out k t wr f;have af:=zh (D k t);have ae:=zh (C k t);have ag:=zh (E k t);have ai:=zh (F k t);generalize an:ndA d k=nd at*;obtain⟨lv,lo,hi⟩:=nd;simp only at y0 y1 y2;clear an C E D H1 F;go_upto_region 5 with fail;generalize u:wr.alloc _=w4 at*;obtain⟨a,Q⟩:=zA1 u;clear u;replace j:=zb j a;replace p:=zb p a;replace n:=zb n a;replace q:=zb q a;replace f:=zb f a;clear a;clear y0 y1 y2;generalize ak:wr.heap.size=gn at*;clear ak;refine aL 6 (by kernel_rfl) (by kernel_rfl) ?_;have a0:=Q.out.lat 0 _ rfl;have a1:=Q.out.lat 1 _ rfl;have a2:=Q.out.lat 2 _ rfl;have g1:=p.out.lat 1 _ rfl;simp only[yX,y9,y6,yO]
   repeat(go_big_quiet_step (fail))
   refine yN ?_;intro w5 l;clear a0 a1 a2 g1;replace j:=zb j l;replace p:=zb p l;replace n:=zb n l;replace q:=zb q l;replace Q:=zb Q l;replace f:=zb f l;clear l;obtain⟨w6,hu,Y,H⟩:=q.out.upd (mT:=271) Tryz.underlying271 (x:=⟨lv,lo,hi⟩) af (i:=(k:Nat)) (wfN (by omega)) (by rw[B.out];unfold maxLen;omega);have ao:(Instr.mapUpdate 271 (.map (some J)) (.agg #[.int .i64 (lv:Nat),.int .i64 (lo:Nat),.int .i64 (hi:Nat)]) (.int .i64 (k:Nat))).run Tryz.prog w5= .ok () w6:=hu;obtain⟨aa,z⟩:=zk2 Y H;have ad:=zh (jw n q H);clear Y H hu;go_wp2_with fail;go_roundw
   ·have aj:=L.out;refine⟨k+1,by omega,by go_num,bf f f.out.size (by omega) z,bK j z (by omega),bK p z (by omega),ad,_,aa,by simp[B.out],λy=> ?_⟩;have e1:(k:Int)=(((d.take k).length:Nat):Int):=by rw[ai.out]
    rw[ag.out]
    conv=>lhs;rw[e1]
    exact mU ae M y
   ·simp[intOf];omega
  ·have X:¬(k:Int)<N:=by omega
   have al:k=N:=by omega
   subst al;go_wp2_with fail;go_ret;have aj:=L.out;refine⟨g,J,rfl,⟨⟨by omega,by omega⟩,⟨_,p,n⟩,ls,q,by rw[B.out];exact Nat.le_of_eq HN,λx=> ?_⟩,f⟩;rw[M.out x,P.out]
def NR (w:World) (v:Value):Prop:=∀q,v.ownBlock=some q->∃cs a,w.heap[q]? =some (.cells cs 95 a)
theorem NR.keep {w w':World} {v:Value} (h:NR w v) (hk:∀q,v.ownBlock=some q->q<w.heap.size->w'.heap[q]? =w.heap[q]?):NR w' v:=λq b=>by
 obtain⟨cs,c,a⟩:=h q b;exact⟨cs,c,(hk q b (kV a)).trans a⟩
theorem NR.below {w w':World} {v:Value} (h:NR w v) (a:Below w.heap.size w w'):NR w' v:=h.keep λq _ b=>a.block q b
instance {w w':World} {v:Value}:Zm w w' (NR w v) (NR w' v):=⟨λhb h=>NR.below h hb⟩
theorem NR.box {w:World} {v:Value} {g:Nat} {cs:Array Value} {T:TypeId} (h:NR w v) (b:Box w g cs T) (d:T≠95):∀q,v.ownBlock=some q->q≠g:=λq f e=>by
 subst e;obtain⟨c,i,a⟩:=h q f;unfold Box at b;rw[b] at a;simp only[yy,Bw] at a;exact d a.2.1
theorem og_nr {w:World} {B C:Nat} {v:Value} {d:List Nd} (h:OG ndR w B C 95 v d):NR w v:=λq a=>by
 obtain⟨_,uss,_,c,_⟩:=h;rcases c.2 with⟨rfl,_⟩|⟨g,cap,cur,rfl,e,b,_⟩
 ·simp[Value.ownBlock] at a
 ·simp only[Value.ownBlock,yy] at a;subst a;exact⟨_,_,b⟩
def lB (B:Nat) (w:World) (r:Option (List Nd×Nat)) (e:Ending) (w':World):Prop:=match r with
 |some (d,i)=>∃x,e= .returned (.tuple #[.agg #[x],.int .i64 (i:Nat),.int .i64 0])/\(Rs ndR w' x d ah/\NR w' x/\∀q,x.ownBlock=some q->B<=q)/\Below w.heap.size w w'
 |none=>e= .returned (.tuple #[.agg #[.slice none 0 0],.int .i64 0,.int .i64 2])/\Below w.heap.size w w'
theorem tK {w:World} {R B:Nat} {v x:Value} {d:List Nd} (h:Rs ndR w x d ah) (c:∀q,x.ownBlock=some q->B<=q) (f:R<B):Rs ndR (w.setCell ⟨R,0,none⟩ v) x d ah:=
 eu ((eu h λ_=>False).same (by simp[World.setCell]) (λb a=>Aj w ⟨R,0,none⟩ v b (λe=>by have:=c b a;have e:b=R:=e;omega)) (λ_ _ h=>h.elim)) _
theorem lB.step {B:Nat} {w:World} {r:Option (List Nd×Nat)} {e:Ending} {w':World} (h:lB B w r e w'):∃(A:Option Addr) (n c:Nat) (i er:Int),e= .returned (.tuple #[.agg #[.slice A n c],.int .i64 i,.int .i64 er])/\Below w.heap.size w w'∧
  (∀(w0:World) (R:Nat) (v:Value) (B':Nat),R<B->B'<=B->Below w0.heap.size w0 (w'.setCell ⟨R,0,none⟩ v)->lB B' w0 r (.returned (.tuple #[.agg #[.slice A n c],.int .i64 i,.int .i64 er])) (w'.setCell ⟨R,0,none⟩ v))/\(er=0↔r.isSome=true):=by
 match r,h with
 |some (d,i),⟨x,e1,⟨h1,hn,h2⟩,h3⟩=>
  obtain⟨A,c,rfl,_⟩:=h1.slice;exact⟨A,_,c,i,0,e1,h3,λw0 R v B' g f a=>⟨_,rfl,⟨tK h1 h2 g,hn.keep λq b _=>Aj w' ⟨R,0,none⟩ v q (λe=>by have:=h2 q b;have e:q=R:=e;omega),λq b=>yK f (h2 q b)⟩,a⟩,by simp⟩
 |none,⟨e1,h3⟩=>exact⟨none,0,0,0,2,e1,h3,λw0 R v B' g f a=>⟨rfl,a⟩,by simp⟩
theorem vU (w:World) (B g y:Nat) (s:Bd) (f:Nat) (h:BT w B g y s):
  Calls Tryz.prog 138 #[.pointer (some ⟨g,0,none⟩),.int .i64 (f:Nat)] w (lB B w (if s.full=true then none else some (s.d,f))):=by
 obtain⟨v,m,a⟩:=h.v;obtain⟨A,c,rfl⟩:=a.slice;have e:=zh m;have t:=zh a.any;have k:=zh a.blk;have l:=zh (og_nr a);obtain⟨N,u⟩:=zv (s.d.length);rw[<-u] at e t k l;clear h m a u;go_enter Tryz.func138,Tryz.ntmps138;cases hq:s.full
 ·rw[hq] at e;have x:=zh hq;clear hq;go_upto_region 1 with fail;generalize b:w.alloc _=w1 at*;obtain⟨j,i⟩:=zB1 b;clear b;replace e:=zh (e.out.below j);have n:=t;have x0:=za e 0 rfl;have C:=za e 2 rfl;have q:=za i 0 rfl;have r:=i.out.frozen 0;have z:=i.out.lt;go_wp2_with fail;refine yQ (v:= .tuple #[.agg #[.slice A N c],.int .i64 (f:Nat),.int .i64 0]) (by simp[results,Tryz.results138,go_sem,q,r]) rfl ?_;have o:=j.out.setCell (p:=⟨w.heap.size,0,none⟩) (yq _) (.slice A N c);exact⟨_,rfl,⟨n.out.below o,l.out.below o,k⟩,o⟩
 ·rw[hq] at e;have x:=zh hq;clear hq;go_upto_region 1 with fail;generalize b:w.alloc _=w1 at*;obtain⟨j,i⟩:=zB1 b;clear b;replace e:=zh (e.out.below j);have C:=za e 2 rfl;have q:=za i 0 rfl;have r:=i.out.frozen 0;have z:=i.out.lt;go_wp2_with fail;refine yQ (v:= .tuple #[.agg #[.slice none 0 0],.int .i64 0,.int .i64 2]) (by simp[results,Tryz.results138,go_sem,q,r]) rfl ?_;exact⟨rfl,j.out.setCell (p:=⟨w.heap.size,0,none⟩) (yq _) _⟩
theorem dagHas (w:World) (x:Value) (d:List Nd) (u:DV d) (h:Rs ndR w x d ah) (t m:Nat) (cs:Array Value) (T:TypeId) (r:Box w t cs T) (p:∀k,k<m->∃f,f<d.length/\cs[k]? =some (.int .i64 (f:Nat))) (hm:m<=8):
  Calls Tryz.prog 136 #[.agg #[x],.slice (some ⟨t,0,none⟩) m m] w λe w'=>e= .returned (.bool true)/\Below w.heap.size w w':=by
 have C:=u.top;obtain⟨A,c,rfl,E⟩:=h.slice;have y:Hid (∀W,Below w.heap.size w W->Calls Tryz.prog 32 #[.agg #[.slice A d.length c]] W _):=zh λW D=>li W _ d u (h.below D);obtain⟨n,b⟩:=zk2 p r;obtain⟨N,z⟩:=zv (d.length);rw[<-z] at y n C⊢;clear h u z E r p;go_enter Tryz.func136,Tryz.ntmps136;go_upto_region 1 with fail;generalize s:w.alloc _=w1 at*;obtain⟨a,g⟩:=zB1 s;clear s;replace b:=zh (b.out.below a);have j:=za g 0 rfl;go_wp2_with fail;refine(y w1 a).mono ?_;rintro e w2 ⟨rfl,l⟩;clear j;replace b:=zb b l;replace g:=zb g l;replace a:=zb a l;clear l;go_wp2_with fail
 go_loopw [12] (λi wr=>∃k:Nat,k<=m/\i= .int .i64 k/\Below w.heap.size w wr/\Box wr w.heap.size #[.slice A N c] 38/\Box wr t cs T) (λi _=>m-(intOf i).toNat)
 case atStart=>exact⟨0,yt _,rfl,a,g,b⟩
 case round=>
  obtain⟨k,hk,rfl,l,r,B⟩:=hrel;clear g b a;obtain⟨a,g,b⟩:=zk3 l r B;clear l r B
  by_cases v:k<m
  ·have q:(k:Int)<m:=by omega
   have J:(0:Int)<=(k:Int):=by omega
   obtain⟨f,I,o⟩:=n.out k v;have K:=b.out.at_ k _ o;have F:¬((f:Int)<0):=by omega
   have G:¬((f:Int)≥(N:Int)):=by omega
   have H:¬(N<=f):=by omega
   have j:=za g 0 rfl;clear o;go_wp2_with fail;go_roundw
   ·exact⟨k+1,by omega,by go_num,a,g,b⟩
   ·simp[intOf];omega
  ·have q:¬(k:Int)<m:=by omega
   go_wp2_with fail;go_ret;exact⟨rfl,a⟩
theorem Box.keptB {w w':World} {B g:Nat} {T:TypeId} {cs:Array Value} (h:Box w g cs T) (b:g<B) (a:Below B w w'):Box w' g cs T:=(a.block g b).trans h
def SEx (go T g F G H:Nat) (W:World):Prop:=W.cell? ⟨go,0,none⟩=some (.pointer (some ⟨g,0,none⟩))/\W.cell? ⟨T,0,none⟩=some (.int .i64 (F:Nat))/\W.cell? ⟨T,1,none⟩=some (.int .i64 (G:Nat))/\W.cell? ⟨T,2,none⟩=some (.int .i64 (H:Nat))
theorem ap0_ok {op:Bool->Bool->Bool->Bool} {d:List Nd} (a:DV d):uC op ⟨⟨d,false⟩,[]⟩:=⟨a,λp hp=>by cases hp⟩
theorem iR (op:Bool->Bool->Bool->Bool) (j:FuncId) (HV:∀W p q r,Calls Tryz.prog j #[.bool p,.bool q,.bool r] W λe w'=>e= .returned (.bool (op p q r))/\Below W.heap.size W w')
  (eg:∀(p q r:Bool) (W:World),(callFunc j #[.bool p,.bool q,.bool r]).run Tryz.prog W= .ok (.enter j #[.bool p,.bool q,.bool r]) W) (w:World) (x:Value) (d:List Nd) (U:DV d) (h:Rs ndR w x d ah) (F G H:Nat) (hF:F<d.length) (hG:G<d.length) (hH:H<d.length):
  Calls Tryz.prog 75 #[.agg #[x],.agg #[.int .i64 (F:Nat),.int .i64 (G:Nat),.int .i64 (H:Nat)],.func (.func j) #[] #[]] w (lB w.heap.size w (ed op d ⟨F,G,H⟩)):=by
 have h8:=U.top;obtain⟨A,c,rfl,hc⟩:=h.slice;have CH:Hid (∀W b2 m cs T,Below w.heap.size w W->Box W b2 cs T->(∀k,k<m->∃f,f<d.length/\cs[k]? =some (.int .i64 (f:Nat)))->m<=8->Calls Tryz.prog 136 #[.agg #[.slice A d.length c],.slice (some ⟨b2,0,none⟩) m m] W _):=zh λW b2 m cs T n hx hi hm=>dagHas W _ d U (h.below n) b2 m cs T hx hi hm;have CB:Hid (∀W,Below w.heap.size w W->Calls Tryz.prog 137 #[.agg #[.slice A d.length c]] W _):=zh λW n=>sS W _ d U (h.below n);obtain⟨HD,HF,HG,HH⟩:=zk4 U hF hG hH;obtain⟨N,hN⟩:=zv (d.length);have HN:=zh hN;rw[<-hN] at CH CB h8 HF HG HH⊢;clear h U hN hc hF hG hH;have aA:=@run_makeMap Tryz.prog;go_enter Tryz.func75,Tryz.ntmps75;go_upto_region 1 with fail;generalize ar:w.alloc _=zw1 at*;generalize au:zw1.alloc _=zw2 at*;generalize av:zw2.alloc _=w1 at*;obtain⟨z,K,l,J⟩:=zB3 ar au av;clear ar au av;have C:=za K 0 rfl;have al:=za l 0 rfl;have am:=za l 1 rfl;have an:=za l 2 rfl;go_upto_region 2 with fail;have y:=ac w1 (.cells #[.int .i64 (F:Nat),.int .i64 (G:Nat),.int .i64 (H:Nat)] 3);have XI:=zh (fi (W:=w1) (g:=w1.heap.size) 3 #[.int .i64 (F:Nat),.int .i64 (G:Nat),.int .i64 (H:Nat)] rfl);refine(CH _ w1.heap.size 3 _ _ (ab z y) XI (λk hk=> ?hin) (by omega)).mono ?_
 case hin=>
  match k,hk with
  |0,_=>exact⟨F,HF,rfl⟩
  |1,_=>exact⟨G,HG,rfl⟩
  |2,_=>exact⟨H,HH,rfl⟩
 rintro e w2 ⟨rfl,t⟩;clear C al am an;have D:=ab y t;clear XI t y CH;replace K:=zb K D;replace l:=zb l D;replace J:=zb J D;replace z:=zb z D;clear D;have Y:=zh l.out.lt;have X:=zh J.out.lt;have aj:=zh z.out.size;have C:=za K 0 rfl;go_upto_region 3 with fail;go_wp2_with fail;refine(CB w2 z).mono ?_;rintro e I ⟨g,gm,rfl,ap,t⟩;clear C;have u:=zh ap;clear ap CB;replace K:=zb K t;replace l:=zb l t;replace J:=zb J t;replace z:=zb z t;clear t;go_upto_region 4 with fail;clear aA;have MM:=bY.new φT I;have y:=ac I (.map #[] 0);have E:=ac (I.alloc (.map #[] 0)) (.cells #[.pointer (some ⟨g,0,none⟩),.func (.func j) #[] #[],.map (some I.heap.size)] 214);have XO:=zh (fi (W:=I.alloc (.map #[] 0)) (g:=I.heap.size+1) 214 #[.pointer (some ⟨g,0,none⟩),.func (.func j) #[] #[],.map (some I.heap.size)] (by simp));have HM:=zh (MM.below E);have a:=ab y E;have V:gm<I.heap.size:=by obtain⟨lm,hm,_⟩:=u.out.mp;exact hm.lt
 replace u:=zb u a;replace K:=zb K a;replace l:=zb l a;replace J:=zb J a;replace z:=zb z a;clear a;clear y E MM;generalize(I.alloc (.map #[] 0)).alloc (.cells #[.pointer (some ⟨g,0,none⟩),.func (.func j) #[] #[],.map (some I.heap.size)] 214)=w4 at*;obtain⟨gk,aq⟩:=zv (I.heap.size);rw[<-aq] at HM XO V⊢;obtain⟨go,P⟩:=zv (gk+1);rw[<-P] at XO⊢;obtain⟨B,hB⟩:=zv (w2.heap.size);have af:=aj.out;clear aj;rw[<-hB] at u Y X af
 have ao:B<=gk:=by
  obtain⟨⟨h1,h2⟩,_⟩:=u.out;omega
 have OO:=zh (show OT w4 B g gm go gk (.func (.func j) #[] #[]) ⟨⟨d,false⟩,[]⟩ from⟨⟨by omega,ao,by omega⟩,u,XO,HM,by show d.length<=_;rw[<-HN.out];exact h8,λp hp=>by cases hp⟩);have CA:=zh fun(W:World) (n:Below w4.heap.size w4 W)=>(dagApply op j HV eg B g gm go gk 21 W ⟨⟨d,false⟩,[]⟩ ⟨F,G,H⟩ (OO.out.below n) (λ_=>⟨ap0_ok HD,⟨by show F<_;rw[<-HN.out];exact HF,by show G<_;rw[<-HN.out];exact HG,by show H<_;rw[<-HN.out];exact HH⟩,by omega⟩) (by show 0+2^21<=_;decide));obtain⟨T,hT⟩:=zv (w.heap.size+1);obtain⟨R,hR⟩:=zv (w.heap.size+1+1);have Z:Hid (T<B/\R<B/\w.heap.size<=R/\T≠R/\B<=go):=zh ⟨by rw[hT];exact Y,by rw[hR];exact X,by omega,by omega,by omega⟩;rw[<-hR] at J⊢;rw[<-hT] at l⊢;have Q:Hid (w.heap.size<=B):=zh af;clear aq P hB ao HV V HM u Y X hT hR af;have S4:SEx go T g F G H w4:=⟨XO.out.at_ 0 _ rfl,l.out.at_ 0 _ rfl,l.out.at_ 1 _ rfl,l.out.at_ 2 _ rfl⟩;clear XO;refine Ab (S:=SEx go T g F G H) (by kernel_rfl) S4 (λhS=> ?_);refine zt 0 (.pointer (some ⟨go,0,none⟩)) rfl (Or.inl ⟨by rfl,λW n=>by go_simp⟩) ?_;simp only[zp];refine zt 1 (.pointer (some ⟨go,0,none⟩)) rfl (Or.inl ⟨by rfl,λW n=>by go_simp⟩) ?_;simp only[zp];refine zt 2 (.pointer (some ⟨go,0,none⟩)) rfl (Or.inl ⟨by rfl,λW n=>by go_simp⟩) ?_;simp only[zp];refine zt 3 (.pointer (some ⟨g,0,none⟩)) rfl (Or.inl ⟨by rfl,λW n=>by obtain⟨s0,s1,s2,s3⟩:=n;go_simp⟩) ?_;simp only[zp];refine zt 4 (.pointer (some ⟨go,0,none⟩)) rfl (Or.inl ⟨by rfl,λW n=>by go_simp⟩) ?_;simp only[zp];refine zt 5 (.agg #[.int .i64 (F:Nat),.int .i64 (G:Nat),.int .i64 (H:Nat)]) rfl (Or.inl ⟨by rfl,λW n=>by obtain⟨s0,s1,s2,s3⟩:=n;go_simp⟩) ?_;simp only[zp];refine aB (i:=6) (by kernel_rfl) rfl ?_;go_wp2_with fail;refine(CA w4.drew (ae _)).mono ?_;rintro e w5 ⟨rfl,ho,M,az⟩;have HE:Hid (ed op d ⟨F,G,H⟩=_):=zh (ed.eq_1 op d ⟨F,G,H⟩);generalize aQ op 21 ⟨⟨d,false⟩,[]⟩ ⟨F,G,H⟩=r at*;obtain⟨s,i⟩:=r;simp only at ho HE⊢;have ht:=Z.out;have ay:=Q.out;have ai:=zh ho;have ak:=zh ((J.out.below (ae _)).keptB (yE ht.2.1 (yq _)) M);have L:=zh ((l.out.below (ae _)).keptB (yE ht.1 (yq _)) M);have ag:=zh ((z.out.trans (ae _|>.mono z.out.size)).trans (M.mono ay));have S5:SEx go T g F G H w5:=⟨ho.o.at_ 0 _ rfl,L.out.at_ 0 _ rfl,L.out.at_ 1 _ rfl,L.out.at_ 2 _ rfl⟩;clear ho M az CA OO K l J z;go_wp2_with fail;refine⟨rfl,S5, ?_⟩;refine aB (i:=7) (by kernel_rfl) rfl ?_;go_wp2_with fail;refine(vU w5 B g gm s.b i ai.out.b).mono ?_;intro e w6 U;obtain⟨A6,n6,c6,i6,e6,rfl,t,hr, -⟩:=U.step;have ax:=zh hr;have aa:=zh (ak.out.below t);have aw:=zh (ab ag t)
 have S6:SEx go T g F G H w6:=by
  obtain⟨s0,s1,s2,s3⟩:=S5;have P:=ai.out.o.lt;have ad:=L.out.lt;exact⟨(t.cell P).trans s0,(t.cell ad).trans s1,(t.cell ad).trans s2,(t.cell ad).trans s3⟩
 clear hr t U ak ag;go_wp2_with fail;refine⟨rfl,S6, ?_⟩;refine zt 8 (.agg #[.slice A6 n6 c6]) rfl (Or.inl ⟨by rfl,λW n=>by go_simp⟩) ?_;simp only[zp];refine zt 9 (.int .i64 i6) rfl (Or.inl ⟨by rfl,λW n=>by go_simp⟩) ?_;simp only[zp];refine zt 10 (.int .i64 e6) rfl (Or.inl ⟨by rfl,λW n=>by go_simp⟩) ?_;simp only[zp];have x0:=za aa 0 rfl;have xz:=aa.out.frozen 0;have xl:=aa.out.lt;refine aB (i:=11) (by kernel_rfl) rfl ?_;go_wp2_with fail
 have S7:SEx go T g F G H (w6.setCell ⟨R,0,none⟩ (.slice A6 n6 c6)):=by
  obtain⟨s0,s1,s2,s3⟩:=S6;have ht:=Z.out;exact⟨(fR (Aj w6 ⟨R,0,none⟩ _ go (by show go≠R;omega))).trans s0,(fR (Aj w6 ⟨R,0,none⟩ _ T (by show T≠R;omega))).trans s1,(fR (Aj w6 ⟨R,0,none⟩ _ T (by show T≠R;omega))).trans s2,(fR (Aj w6 ⟨R,0,none⟩ _ T (by show T≠R;omega))).trans s3⟩
 refine⟨rfl,S7, ?_⟩;refine aB (i:=12) (by kernel_rfl) rfl ?_;go_wp2_with fail;refine⟨rfl,S7, ?_⟩;refine aB (i:=13) (by kernel_rfl) rfl ?_;go_wp2_with fail;refine⟨rfl,S7,AN (by kernel_rfl) ?_ _⟩;go_wp2_with fail;refine yQ (v:= .tuple #[.agg #[.slice A6 n6 c6],.int .i64 i6,.int .i64 e6]) (by simp[results,Tryz.results75,go_sem,x0,xz]) rfl ?_;rw[HE.out];have ht:=Z.out;exact ax w R _ w.heap.size ht.2.1 Q (aw.out.setCell (p:=⟨R,0,none⟩) ht.2.2.1 _)
theorem dagNot (w:World) (x:Value) (d:List Nd) (i:DV d) (h:Rs ndR w x d ah) (F:Nat) (l:F<d.length):
  Calls Tryz.prog 204 #[.agg #[x],.int .i64 (F:Nat)] w (lB w.heap.size w (ed (λf _ _=> !f) d ⟨F,F,F⟩)):=by
 obtain⟨A,c,rfl,G⟩:=h.slice;have n:=zh fun(W:World) (E:Below w.heap.size w W)=>iR (λf _ _=> !f) 270 (λW p q r=>opNot W p q r) (λp q r W=>by kernel_rfl) W _ d i (h.below E) F F F l l l;obtain⟨N,y⟩:=zv (d.length);rw[<-y] at n⊢;clear h i y G l;go_enter Tryz.func204,Tryz.ntmps204;go_upto_region 1 with fail;generalize j:w.alloc _=zw1 at*;generalize k:zw1.alloc _=w1 at*;obtain⟨b,t,a⟩:=zB2 j k;clear j k;have o:=zh b.out.size;have g:=za t 0 rfl;go_wp2_with fail;refine(n w1 b).mono ?_;intro e w2 i;obtain⟨B,I,C,H,D,rfl,m,z, -⟩:=i.step;have s:=zh z;have u:=zh a.out.lt;clear g;clear z i n;replace t:=zb t m;replace a:=zb a m;replace b:=zb b m;clear m;have x0:=za a 0 rfl;have J:=a.out.frozen 0;have L:=a.out.lt;go_wp2_with fail;refine yQ (v:= .tuple #[.agg #[.slice B I C],.int .i64 H,.int .i64 D]) (by simp[results,Tryz.results204,go_sem,x0,J]) rfl ?_;have K:=o.out;exact s w _ _ w.heap.size u (by omega) (b.out.setCell (p:=⟨w.heap.size+1,0,none⟩) (by show w.heap.size<=w.heap.size+1;omega) _)
theorem dagAnd (w:World) (x:Value) (d:List Nd) (j:DV d) (h:Rs ndR w x d ah) (F G:Nat) (z:F<d.length) (y:G<d.length):
  Calls Tryz.prog 38 #[.agg #[x],.int .i64 (F:Nat),.int .i64 (G:Nat)] w (lB w.heap.size w (ed (λf g _=>f&&g) d ⟨F,G,G⟩)):=by
 obtain⟨A,c,rfl,J⟩:=h.slice;have n:=zh fun(W:World) (I:Below w.heap.size w W)=>iR (λf g _=>f&&g) 76 (λW p q r=>opAnd W p q r) (λp q r W=>by kernel_rfl) W _ d j (h.below I) F G G z y y;obtain⟨N,B⟩:=zv (d.length);rw[<-B] at n⊢;clear h j B J z y;go_enter Tryz.func38,Tryz.ntmps38;go_upto_region 1 with fail;generalize k:w.alloc _=zw1 at*;generalize l:zw1.alloc _=w1 at*;obtain⟨b,t,a⟩:=zB2 k l;clear k l;have o:=zh b.out.size;have i:=za t 0 rfl;go_wp2_with fail;refine(n w1 b).mono ?_;intro e w2 j;obtain⟨D,L,E,K,H,rfl,m,C, -⟩:=j.step;have s:=zh C;have u:=zh a.out.lt;clear i;clear C j n;replace t:=zb t m;replace a:=zb a m;replace b:=zb b m;clear m;have x0:=za a 0 rfl;have M:=a.out.frozen 0;have Q:=a.out.lt;go_wp2_with fail;refine yQ (v:= .tuple #[.agg #[.slice D L E],.int .i64 K,.int .i64 H]) (by simp[results,Tryz.results38,go_sem,x0,M]) rfl ?_;have P:=o.out;exact s w _ _ w.heap.size u (by omega) (b.out.setCell (p:=⟨w.heap.size+1,0,none⟩) (by show w.heap.size<=w.heap.size+1;omega) _)
theorem dagOr (w:World) (x:Value) (d:List Nd) (j:DV d) (h:Rs ndR w x d ah) (F G:Nat) (z:F<d.length) (y:G<d.length):
  Calls Tryz.prog 202 #[.agg #[x],.int .i64 (F:Nat),.int .i64 (G:Nat)] w (lB w.heap.size w (ed (λf g _=>f||g) d ⟨F,G,G⟩)):=by
 obtain⟨A,c,rfl,J⟩:=h.slice;have n:=zh fun(W:World) (I:Below w.heap.size w W)=>iR (λf g _=>f||g) 268 (λW p q r=>opOr W p q r) (λp q r W=>by kernel_rfl) W _ d j (h.below I) F G G z y y;obtain⟨N,B⟩:=zv (d.length);rw[<-B] at n⊢;clear h j B J z y;go_enter Tryz.func202,Tryz.ntmps202;go_upto_region 1 with fail;generalize k:w.alloc _=zw1 at*;generalize l:zw1.alloc _=w1 at*;obtain⟨b,t,a⟩:=zB2 k l;clear k l;have o:=zh b.out.size;have i:=za t 0 rfl;go_wp2_with fail;refine(n w1 b).mono ?_;intro e w2 j;obtain⟨D,L,E,K,H,rfl,m,C, -⟩:=j.step;have s:=zh C;have u:=zh a.out.lt;clear i;clear C j n;replace t:=zb t m;replace a:=zb a m;replace b:=zb b m;clear m;have x0:=za a 0 rfl;have M:=a.out.frozen 0;have Q:=a.out.lt;go_wp2_with fail;refine yQ (v:= .tuple #[.agg #[.slice D L E],.int .i64 K,.int .i64 H]) (by simp[results,Tryz.results202,go_sem,x0,M]) rfl ?_;have P:=o.out;exact s w _ _ w.heap.size u (by omega) (b.out.setCell (p:=⟨w.heap.size+1,0,none⟩) (by show w.heap.size<=w.heap.size+1;omega) _)
theorem dagXor (w:World) (x:Value) (d:List Nd) (j:DV d) (h:Rs ndR w x d ah) (F G:Nat) (z:F<d.length) (y:G<d.length):
  Calls Tryz.prog 272 #[.agg #[x],.int .i64 (F:Nat),.int .i64 (G:Nat)] w (lB w.heap.size w (ed (λf g _=>f !=g) d ⟨F,G,G⟩)):=by
 obtain⟨A,c,rfl,J⟩:=h.slice;have n:=zh fun(W:World) (I:Below w.heap.size w W)=>iR (λf g _=>f !=g) 316 (λW p q r=>opXor W p q r) (λp q r W=>by kernel_rfl) W _ d j (h.below I) F G G z y y;obtain⟨N,B⟩:=zv (d.length);rw[<-B] at n⊢;clear h j B J z y;go_enter Tryz.func272,Tryz.ntmps272;go_upto_region 1 with fail;generalize k:w.alloc _=zw1 at*;generalize l:zw1.alloc _=w1 at*;obtain⟨b,t,a⟩:=zB2 k l;clear k l;have o:=zh b.out.size;have i:=za t 0 rfl;go_wp2_with fail;refine(n w1 b).mono ?_;intro e w2 j;obtain⟨D,L,E,K,H,rfl,m,C, -⟩:=j.step;have s:=zh C;have u:=zh a.out.lt;clear i;clear C j n;replace t:=zb t m;replace a:=zb a m;replace b:=zb b m;clear m;have x0:=za a 0 rfl;have M:=a.out.frozen 0;have Q:=a.out.lt;go_wp2_with fail;refine yQ (v:= .tuple #[.agg #[.slice D L E],.int .i64 K,.int .i64 H]) (by simp[results,Tryz.results272,go_sem,x0,M]) rfl ?_;have P:=o.out;exact s w _ _ w.heap.size u (by omega) (b.out.setCell (p:=⟨w.heap.size+1,0,none⟩) (by show w.heap.size<=w.heap.size+1;omega) _)
theorem ya (w:World) (x:Value) (d:List Nd) (j:DV d) (h:Rs ndR w x d ah) (F G H:Nat) (y:F<d.length) (z:G<d.length) (B:H<d.length):
  Calls Tryz.prog 208 #[.agg #[x],.int .i64 (F:Nat),.int .i64 (G:Nat),.int .i64 (H:Nat)] w (lB w.heap.size w (ed (λf g h=>f&&g|| !f&&h) d ⟨F,G,H⟩)):=by
 obtain⟨A,c,rfl,L⟩:=h.slice;have n:=zh fun(W:World) (K:Below w.heap.size w W)=>iR (λf g h=>f&&g|| !f&&h) 271 (λW p q r=>opChoose W p q r) (λp q r W=>by kernel_rfl) W _ d j (h.below K) F G H y z B;obtain⟨N,C⟩:=zv (d.length);rw[<-C] at n⊢;clear h j C L y z B;go_enter Tryz.func208,Tryz.ntmps208;go_upto_region 1 with fail;generalize k:w.alloc _=zw1 at*;generalize l:zw1.alloc _=w1 at*;obtain⟨b,t,a⟩:=zB2 k l;clear k l;have o:=zh b.out.size;have i:=za t 0 rfl;go_wp2_with fail;refine(n w1 b).mono ?_;intro e w2 j;obtain⟨E,P,I,M,J,rfl,m,D, -⟩:=j.step;have s:=zh D;have u:=zh a.out.lt;clear i;clear D j n;replace t:=zb t m;replace a:=zb a m;replace b:=zb b m;clear m;have x0:=za a 0 rfl;have Q:=a.out.frozen 0;have S:=a.out.lt;go_wp2_with fail;refine yQ (v:= .tuple #[.agg #[.slice E P I],.int .i64 M,.int .i64 J]) (by simp[results,Tryz.results208,go_sem,x0,Q]) rfl ?_;have R:=o.out;exact s w _ _ w.heap.size u (by omega) (b.out.setCell (p:=⟨w.heap.size+1,0,none⟩) (by show w.heap.size<=w.heap.size+1;omega) _)
theorem ui (w:World) (l:Nat) (c:l<20):Calls Tryz.prog 315 #[.int .i64 (l:Nat)] w λe w'=>e= .returned (.bool true)/\Below w.heap.size w w':=by
 have a:(l:Int)≥0:=by omega
 have b:(l:Int)<20:=by omega
 go_enter Tryz.func315,Tryz.ntmps315;go_wp2_with fail;go_ret;exact⟨rfl,yx _ _⟩
def kM (d:List Nd) (l lo hi:Nat):Option (List Nd×Nat):=if(b6 ⟨d,false⟩ l lo hi).1.full=true then none else some ((b6 ⟨d,false⟩ l lo hi).1.d,(b6 ⟨d,false⟩ l lo hi).2)
theorem dagMake (w:World) (x:Value) (d:List Nd) (q:DV d) (h:Rs ndR w x d ah) (l lo hi:Nat) (t:lo<d.length) (G:hi<d.length) (I:l<lvA d lo) (h2:l<lvA d hi):
  Calls Tryz.prog 269 #[.agg #[x],.int .i64 (l:Nat),.int .i64 (lo:Nat),.int .i64 (hi:Nat)] w (lB w.heap.size w (kM d l lo hi)):=by
 have h8:=q.top;have V:l<20:=by have:=q.lvle t;omega
 obtain⟨A,c,rfl,hc,H⟩:=h.nds;obtain⟨b,o,rfl,U,y0, -⟩:=H lo t;obtain⟨_,_,e1,_,z0, -⟩:=H hi G;simp only[yy,B8,B9] at e1;obtain⟨rfl,rfl⟩:=e1;have CH:Hid (∀W b2 m cs T,Below w.heap.size w W->Box W b2 cs T->(∀k,k<m->∃f,f<d.length/\cs[k]? =some (.int .i64 (f:Nat)))->m<=8->Calls Tryz.prog 136 #[.agg #[.slice (some ⟨b,o,none⟩) d.length c],.slice (some ⟨b2,0,none⟩) m m] W _):=zh λW b2 m cs T hW H hi hm=>dagHas W _ d q (h.below hW) b2 m cs T H hi hm;have CB:Hid (∀W,Below w.heap.size w W->Calls Tryz.prog 137 #[.agg #[.slice (some ⟨b,o,none⟩) d.length c]] W _):=zh λW hW=>sS W _ d q (h.below hW);have CN:=zh fun(W:World) (B g S:Nat) (a:BT W B g S ⟨d,false⟩)=>vT W B g S ⟨d,false⟩ l lo hi a (by show d.length<=_;omega) (by omega) (by omega) (by omega);have HD:=zh q;unfold lvA at I h2;generalize(ndA d lo).lv=l1 at*;generalize(ndA d hi).lv=l2 at*;obtain⟨m,hm⟩:=zv (min l1 l2);have X:=vc l1 l2 m hm;have aj:¬((l:Int)≥(m:Int)):=by omega
 have ai:¬(m<=l):=by omega
 obtain⟨N,hN⟩:=zv (d.length);have HN:=zh hN;rw[<-hN] at CH CB h8 t G⊢;have q1:(lo:Int)<(N:Int):=by omega
 have q2:(hi:Int)<(N:Int):=by omega
 have q3:(0:Int)<=(lo:Int):=by omega
 have q4:(0:Int)<=(hi:Int):=by omega
 have ad:Hid (∀k,k<2->∃f,f<N/\(#[Value.int .i64 (lo:Nat),Value.int .i64 (hi:Nat)]:Array Value)[k]? =some (.int .i64 (f:Nat))):=zh λk hk=>by
  match k,hk with
  |0,_=>exact⟨lo,t,rfl⟩
  |1,_=>exact⟨hi,G,rfl⟩
 clear h q hN hc H hm I h2;go_enter Tryz.func269,Tryz.ntmps269;go_upto_region 1 with fail;generalize Z:w.alloc _=zw1 at*;generalize aa:zw1.alloc _=w1 at*;obtain⟨j,y,D⟩:=zB2 Z aa;clear Z aa;refine br 27 (Kit.of [mw 3 [] w1.heap.size 2 2 #[.int .i64 (lo:Nat),.int .i64 (hi:Nat)] 3,iq 4 [3] (.bool true),iq 8 [] (.bool true)]) (by kernel_rfl) (by kernel_rfl) (λγ=>by kernel_rfl) (by kernel_rfl) (Kit.of_stable ?_) (Kit.of_known ?_) ?_
 ·intro z Y;simp only[yC,yI,AH] at Y;rcases Y with rfl|rfl|rfl
  ·apply ox
  ·apply cO
  ·apply cO
 ·intro z Y;simp only[yC,yI,AH] at Y;rcases Y with rfl|rfl|rfl
  ·apply oy
  ·apply cP
  ·apply cP
 intro γ u C hC ag;obtain⟨g3,e3⟩:∃g,γ 3= .slice (some ⟨g,0,none⟩) 2 2:=u 3 rfl;have e4:γ 4= .bool true:=u 4 rfl;have e8:γ 8= .bool true:=u 8 rfl;have d0:=y.out.latC (C:=C) 0 _ rfl;have r1:∀p:gZ w1 C,p.w.cell? ⟨b,o+lo*3,none⟩=some (.int .i64 (l1:Nat)):=λp=>((j.out.trans (p.h.mono j.out.size)).cell (p:=⟨b,o+lo*3,none⟩) U).trans y0;have r2:∀p:gZ w1 C,p.w.cell? ⟨b,o+hi*3,none⟩=some (.int .i64 (l2:Nat)):=λp=>((j.out.trans (p.h.mono j.out.size)).cell (p:=⟨b,o+hi*3,none⟩) U).trans z0;simp only[yX,y9,y6,yO]
 iterate 3 (refine aE rfl ?_;go_big_quiet_step (fail);refine yN ?_)
 refine bG rfl (kX rfl (λw=>by kernel_rfl) (λw' g hg H=>⟨g,rfl,H,hg⟩)) ?_;simp only[yH,Nat.reduceAdd,e3];go_simp;refine bG rfl (bc (args:=#[.agg #[.slice (some ⟨b,o,none⟩) N c],.slice (some ⟨g3,0,none⟩) 2 2]) rfl _ _ _ (cB Tryz.func136 (by kernel_rfl) (by kernel_rfl)) rfl (by simp[Act.eval]) (λw' a hf=>(CH w' g3 2 _ _ (ab j a) (sx e3 (show∃g',γ 3= .slice (some ⟨g',0,none⟩) 2 2/\Box w' g' #[.int .i64 (lo:Nat),.int .i64 (hi:Nat)] 3/\w1.heap.size<=g' from hf 3 (show 3∈[3] by decide))).1 ad (by omega)).mono λe w2 ⟨he,I⟩=>⟨_,he,rfl,I⟩)) ?_;simp only[yH,Nat.reduceAdd,e4];go_simp
 iterate 3 (refine aE rfl ?_;go_big_quiet_step (fail);refine yN ?_)
 refine cW rfl (cG (args:=#[.int .i64 (l:Nat)]) (by kernel_rfl) _ _ _ (cB Tryz.func315 (by kernel_rfl) (by kernel_rfl)) rfl (by simp[Act.eval]) (λw' a hf=>(ui w' l V).mono λe w2 ⟨he,I⟩=>⟨_,he,rfl,I⟩)) ?_;simp only[yH,Nat.reduceAdd,e8];go_simp
 iterate 18 (refine aE rfl ?_;go_big_quiet_step (fail);refine yN ?_)
 intro w2 a hF;clear hF u hC ag d0 r1 r2 e3 e4 e8 X;clear γ;replace y:=zb y a;replace D:=zb D a;replace j:=zb j a;clear a;have P:=za y 0 rfl;go_upto_region 3 with fail;go_wp2_with fail;refine(CB w2 j).mono ?_;rintro e w3 ⟨g,S,rfl,n,a⟩;clear P;have K:=zh n;have M:=zh j.out.size;have Q:=zh D.out.lt;clear n CB;replace y:=zb y a;replace D:=zb D a;replace j:=zb j a;clear a;go_wp2_with fail;refine(CN w3 w2.heap.size g S K).mono ?_;rintro e w4 ⟨rfl,n,F,af⟩;have HR:Hid (kM d l lo hi=_):=zh (kM.eq_1 d l lo hi);generalize b6 ⟨d,false⟩ l lo hi=r at*;obtain⟨s,i⟩:=r;simp only at n HR⊢;have L:=zh n;have R:=zh (D.out.keptB Q F);have J:=zh (j.out.trans (F.mono M));clear n F af K CN D j y;go_wp2_with fail;refine(vU w4 w2.heap.size g S s i L).mono ?_;intro e w5 q;obtain⟨A6,n6,c6,i6,e6,rfl,a,hr, -⟩:=q.step;have ae:=zh hr;have E:=zh (R.out.below a);have ac:=zh (ab J a);clear hr a q R J;have x0:=za E 0 rfl;have xz:=E.out.frozen 0;have xl:=E.out.lt;go_wp2_with fail;refine yQ (v:= .tuple #[.agg #[.slice A6 n6 c6],.int .i64 i6,.int .i64 e6]) (by simp[results,Tryz.results269,go_sem,x0,xz]) rfl ?_;rw[HR.out];exact ae w (w.heap.size+1) _ w.heap.size Q M (ac.out.setCell (p:=⟨w.heap.size+1,0,none⟩) (by show w.heap.size<=w.heap.size+1;omega) _)
theorem dagBit (w:World) (x:Value) (d:List Nd) (a:DV d) (h:Rs ndR w x d ah) (l:Nat) (t:l<20):
  Calls Tryz.prog 203 #[.agg #[x],.int .i64 (l:Nat)] w (lB w.heap.size w (kM d l 0 1)):=by
 obtain⟨A,c,rfl,E⟩:=h.slice;have C:=a.two;have m:=zh fun(W:World) (D:Below w.heap.size w W)=>dagMake W _ d a (h.below D) l 0 1 (by omega) (by omega) (by rw[a.lv0];exact t) (by rw[a.lv1];exact t);obtain⟨N,s⟩:=zv (d.length);rw[<-s] at m⊢;clear h a s E C;go_enter Tryz.func203,Tryz.ntmps203;go_upto_region 1 with fail;generalize i:w.alloc _=zw1 at*;generalize j:zw1.alloc _=w1 at*;obtain⟨f,q,b⟩:=zB2 i j;clear i j;have n:=zh f.out.size;have g:=za q 0 rfl;go_wp2_with fail;refine(m w1 f).mono ?_;intro e w2 a;obtain⟨y,G,z,F,B,rfl,k,u, -⟩:=a.step;have o:=zh u;have r:=zh b.out.lt;clear g;clear u a m;replace q:=zb q k;replace b:=zb b k;replace f:=zb f k;clear k;have x0:=za b 0 rfl;have H:=b.out.frozen 0;have J:=b.out.lt;go_wp2_with fail;refine yQ (v:= .tuple #[.agg #[.slice y G z],.int .i64 F,.int .i64 B]) (by simp[results,Tryz.results203,go_sem,x0,H]) rfl ?_;have I:=n.out;exact o w _ _ w.heap.size r (by omega) (f.out.setCell (p:=⟨w.heap.size+1,0,none⟩) (by show w.heap.size<=w.heap.size+1;omega) _)
theorem aI {w w1:World} {row:Option Nat} (h:Below w.heap.size w w1):w.grownBy w1 row:=aj (cm row w) h
theorem gQ {w w1 w2:World} {row:Option Nat} (h:Below w.heap.size w w1) (a:w1.grownBy w2 row):w.grownBy w2 row:=ap (aI h) a
structure BC where
 V:Value
 H:Value
 S:Value
 D:Value
 G:Value
 L:Value
 M:Value
def BB (w:World) (g:Nat) (C:BC) (d:List Nd):Prop:=(∃A c,Box w g #[.slice A d.length c,C.V,C.H,C.S,C.D,C.G,C.L,C.M] 149/\Rs ndR w (.slice A d.length c) d ah/\NR w (.slice A d.length c))/\DV d
theorem BB.below {w w':World} {g:Nat} {C:BC} {d:List Nd} (h:BB w g C d) (a:Below w.heap.size w w'):BB w' g C d:=by
 obtain⟨⟨A,c,b,e,f⟩,i⟩:=h;exact⟨⟨A,c,b.below a,e.below a,f.below a⟩,i⟩
instance {w w':World} {g:Nat} {C:BC} {d:List Nd}:Zm w w' (BB w g C d) (BB w' g C d):=⟨λhb h=>BB.below h hb⟩
theorem BB.setBox {w:World} {g:Nat} {C:BC} {d:List Nd} (h:BB w g C d) {b:Nat} {cs:Array Value} {T:TypeId} (o:Box w b cs T) (n:T≠95) (e:b≠g) (i:Nat) (u:Value):BB (w.setCell ⟨b,i,none⟩ u) g C d:=by
 obtain⟨⟨A,c,k,l,f⟩,m⟩:=h;have j:=f.box o n;exact⟨⟨A,c,k.setNe (p:=⟨b,i,none⟩) e u,eu ((eu l λ_=>False).same (by simp[World.setCell]) (λq a=>Aj w ⟨b,i,none⟩ u q (j q a)) (λ_ _ h=>h.elim)) _,f.keep λq a _=>Aj w ⟨b,i,none⟩ u q (j q a)⟩,m⟩
theorem BB.grownBox {w w':World} {g:Nat} {C:BC} {d:List Nd} (h:BB w g C d) {b:Nat} {cs:Array Value} {T:TypeId} (u:Box w b cs T) (t:T≠95) (j:b≠g) (m:w.grownBy w' (some b)):BB w' g C d:=by
 obtain⟨⟨A,c,l,p,f⟩,r⟩:=h;have n:=f.box u t;have hk:∀q,q≠b->q<w.heap.size->w'.heap[q]? =w.heap[q]? :=λq k i=>m.block q i (by simpa using k);refine⟨⟨A,c,(hk g (λe=>j e.symm) l.lt).trans l, ?_,f.keep λq a i=>hk q (n q a) i⟩,r⟩;refine eu ((eu p λ_=>False).same m.size (λq a=> ?_) (λ_ _ h=>h.elim)) _;obtain⟨o,v,s⟩:=f q a;exact hk q (n q a) (kV s)
def eT {α:Type} (enc:α->Value) (b:List Nd->α->Prop) (w:World) (g:Nat) (C:BC) (d:List Nd) (r:Option (α×List Nd)) (e:Ending) (w':World):Prop:=w.grownBy w' (some g)/\match r with
 |some (a,d')=>e= .returned (enc a)/\BB w' g C d'/\Ext d d'/\b d' a
 |none=>e= .panicked (my 2)
def bI (i:Nat):Value:= .int .i64 (i:Nat)
def okN (d:List Nd) (i:Nat):Prop:=i<d.length
def KeepR (w:World) (g:Nat) (C:BC) (d:List Nd) (f:Nat) (e:Ending) (w':World):Prop:=e= .returned (.int .i64 (f:Nat))/\BB w' g C d/\w.grownBy w' (some g)
theorem me (w:World) (g:Nat) (C:BC) (d n:List Nd) (k:BB w g C d) (x:Value) (v:DV n) (h:Rs ndR w x n ah) (l:NR w x) (f:Nat):
  Calls Tryz.prog 201 #[.pointer (some ⟨g,0,none⟩),.agg #[x],.int .i64 (f:Nat),.int .i64 0] w (KeepR w g C n f):=by
 obtain⟨⟨F,H,s, -, -⟩, -⟩:=k;obtain⟨A,c,rfl,D⟩:=h.slice;obtain⟨a,u,z,i⟩:=zk4 s h v l;have p:=zh (l.box s (by decide));obtain⟨N,r⟩:=zv (n.length);have o:=zh r;rw[<-r] at u p i⊢;obtain⟨G,j⟩:=zv (d.length);rw[<-j] at a;clear s h v l r D j;go_enter Tryz.func201,Tryz.ntmps201;go_upto_region 1 with fail;generalize m:w.alloc _=w1 at*;obtain⟨t,B⟩:=zB1 m;clear m;have E:=a.out.lt;replace a:=zh (a.out.below t);have J:=za a 0 rfl;have L:=a.out.frozen 0;have K:=a.out.lt;have I:=za B 0 rfl;go_wp2_with fail;go_ret;have e:=t.out;have y:∀b,b≠g->(w1.setCell ⟨g,0,none⟩ (.slice A N c)).heap[b]? =w1.heap[b]? :=λb k=>Aj w1 ⟨g,0,none⟩ _ b k;refine⟨rfl,⟨⟨A,c, ?_, ?_,by rw[<-o.out];exact(i.out.below e).keep λq l _=>y q (p q l)⟩,z⟩,cZ (aI e)⟩
 ·rw[<-o.out];exact a.out.set_ 0 (.slice A N c)
 ·rw[<-o.out];exact eu ((eu (u.out.below e) λ_=>False).same (by simp[World.setCell]) (λb k=>y b (p b k)) (λ_ _ h=>h.elim)) _
theorem fg (w:World) (p:Value) (A:Option Addr) (n c:Nat) (f er:Int) (b:er≠0):
  Calls Tryz.prog 201 #[p,.agg #[.slice A n c],.int .i64 f,.int .i64 er] w λe w'=>e= .panicked (my er)/\Below w.heap.size w w':=by
 have h:(er !=0)=true:=by simpa using b
 clear b;go_enter Tryz.func201,Tryz.ntmps201;go_upto_region 1 with fail;generalize a:w.alloc _=w1 at*;obtain⟨d,g⟩:=zB1 a;clear a;go_wp2_with fail;exact⟨rfl,rfl,d⟩
section
open Go.RowKit
theorem zl {w:World} {g:Nat} {C:BC} {d:List Nd} (a:BB w g C d):g<w.heap.size:=by obtain⟨⟨A,c,b,_⟩,_⟩:=a;exact b.lt
end
theorem lB.cases {B:Nat} {w:World} {r:Option (List Nd×Nat)} {e:Ending} {w':World} (h:lB B w r e w'):(∃d i A c,r=some (d,i)/\e= .returned (.tuple #[.agg #[.slice A d.length c],.int .i64 (i:Nat),.int .i64 0])/\Rs ndR w' (.slice A d.length c) d ah/\NR w' (.slice A d.length c)/\Below w.heap.size w w')∨
  (r=none/\e= .returned (.tuple #[.agg #[.slice none 0 0],.int .i64 0,.int .i64 2])/\Below w.heap.size w w'):=by
 match r,h with
 |some (d,i),⟨x,e1,⟨h1,h2,_⟩,h3⟩=>
  obtain⟨A,c,rfl,_⟩:=h1.slice;exact .inl ⟨d,i,A,c,rfl,e1,h1,h2,h3⟩
 |none,⟨e1,h3⟩=>exact .inr ⟨rfl,e1,h3⟩
theorem kc (w:World) (g:Nat) (C:BC) (d:List Nd) (G:BB w g C d) (F:Nat) (s:F<d.length):
  Calls Tryz.prog 127 #[.pointer (some ⟨g,0,none⟩),.int .i64 (F:Nat)] w (eT bI okN w g C d (fE F d)):=by
 have v:Hid (fE F d=(ed (λf _ _=> !f) d ⟨F,F,F⟩).map λr=>(r.2,r.1)):=zh rfl;have U:=zl G;have B:=zh G;obtain⟨⟨A,c,Q,b,V⟩,H⟩:=G;have u:=zh (dagNot w _ d H b F s);have p:=zh fun(k:List Nd) (i:Nat) (h:ed (λf _ _=> !f) d ⟨F,F,F⟩=some (k,i))=>kr H (show In3 d ⟨F,F,F⟩ from⟨s,s,s⟩) h;obtain⟨I,x⟩:=zk2 b Q;generalize ed (λf _ _=> !f) d ⟨F,F,F⟩=r at*;generalize fE F d=q at*;obtain⟨N,E⟩:=zv (d.length);have Y:=zh E;rw[<-E] at u x;clear Q b V H E s;go_enter Tryz.func127,Tryz.ntmps127;have J:=za x 0 rfl;go_wp2_with fail;refine u.out.mono ?_;intro e w2 n;rcases n.cases with⟨k,i,X,Z,b,rfl,K,L,a⟩|⟨b,rfl,a⟩
 ·obtain⟨R,S,T, -⟩:=p.out k i b;have m:Hid (q=some (i,k)):=zh (by rw[v.out,b];rfl);have o:Hid (Ext d k/\i<k.length):=zh ⟨R,T⟩;have y:=zh (me w2 g C d k (B.out.below a) _ S K L i);have l:=zh a;obtain⟨M,P⟩:=zv (k.length);rw[<-P] at y⊢;clear b K L a R S T n J x I u v P p;go_wp2_with fail;refine y.out.mono ?_;rintro e W ⟨rfl,j,t⟩;obtain⟨z,D⟩:=zk2 j t;clear j t y;go_wp2_with fail;go_ret;rw[m.out];exact⟨gQ l D,rfl,z,o.out.1,o.out.2⟩
 ·have m:Hid (q=none):=zh (by rw[v.out,b];rfl);have l:=zh a;clear b a n J x I u v;go_wp2_with fail;refine(fg w2 _ none 0 0 0 2 (by decide)).mono ?_;rintro e W ⟨rfl,j⟩;refine⟨rfl, ?_⟩;rw[m.out];exact⟨aI (ab l j),rfl⟩
theorem jI (w:World) (g:Nat) (C:BC) (d:List Nd) (I:BB w g C d) (F G:Nat) (E:F<d.length) (x:G<d.length):
  Calls Tryz.prog 207 #[.pointer (some ⟨g,0,none⟩),.int .i64 (F:Nat),.int .i64 (G:Nat)] w (eT bI okN w g C d (dJ F G d)):=by
 have u:Hid (dJ F G d=(ed (λf g _=>f&&g) d ⟨F,G,G⟩).map λr=>(r.2,r.1)):=zh rfl;have W:=zl I;have B:=zh I;obtain⟨⟨A,c,S,b,X⟩,J⟩:=I;have t:=zh (dagAnd w _ d J b F G E x);have p:=zh fun(k:List Nd) (i:Nat) (h:ed (λf g _=>f&&g) d ⟨F,G,G⟩=some (k,i))=>kr J (show In3 d ⟨F,G,G⟩ from⟨E,x,x⟩) h;obtain⟨K,v⟩:=zk2 b S;generalize ed (λf g _=>f&&g) d ⟨F,G,G⟩=r at*;generalize dJ F G d=q at*;obtain⟨N,H⟩:=zv (d.length);have HN:=zh H;rw[<-H] at t v;clear S b X J H E x;go_enter Tryz.func207,Tryz.ntmps207;have L:=za v 0 rfl;go_wp2_with fail;refine t.out.mono ?_;intro e w2 n;rcases n.cases with⟨k,i,Z,c',b,rfl,P,Q,a⟩|⟨b,rfl,a⟩
 ·obtain⟨T,U,V, -⟩:=p.out k i b;have m:Hid (q=some (i,k)):=zh (by rw[u.out,b];rfl);have o:Hid (Ext d k/\i<k.length):=zh ⟨T,V⟩;have y:=zh (me w2 g C d k (B.out.below a) _ U P Q i);have l:=zh a;obtain⟨M,R⟩:=zv (k.length);rw[<-R] at y⊢;clear b P Q a T U V n L v K t u R p;go_wp2_with fail;refine y.out.mono ?_;rintro e Y ⟨rfl,j,s⟩;obtain⟨z,D⟩:=zk2 j s;clear j s y;go_wp2_with fail;go_ret;rw[m.out];exact⟨gQ l D,rfl,z,o.out.1,o.out.2⟩
 ·have m:Hid (q=none):=zh (by rw[u.out,b];rfl);have l:=zh a;clear b a n L v K t u;go_wp2_with fail;refine(fg w2 _ none 0 0 0 2 (by decide)).mono ?_;rintro e Y ⟨rfl,j⟩;refine⟨rfl, ?_⟩;rw[m.out];exact⟨aI (ab l j),rfl⟩
theorem qQ (w:World) (g:Nat) (C:BC) (d:List Nd) (I:BB w g C d) (F G:Nat) (E:F<d.length) (x:G<d.length):
  Calls Tryz.prog 123 #[.pointer (some ⟨g,0,none⟩),.int .i64 (F:Nat),.int .i64 (G:Nat)] w (eT bI okN w g C d (orB F G d)):=by
 have u:Hid (orB F G d=(ed (λf g _=>f||g) d ⟨F,G,G⟩).map λr=>(r.2,r.1)):=zh rfl;have W:=zl I;have B:=zh I;obtain⟨⟨A,c,S,b,X⟩,J⟩:=I;have t:=zh (dagOr w _ d J b F G E x);have p:=zh fun(k:List Nd) (i:Nat) (h:ed (λf g _=>f||g) d ⟨F,G,G⟩=some (k,i))=>kr J (show In3 d ⟨F,G,G⟩ from⟨E,x,x⟩) h;obtain⟨K,v⟩:=zk2 b S;generalize ed (λf g _=>f||g) d ⟨F,G,G⟩=r at*;generalize orB F G d=q at*;obtain⟨N,H⟩:=zv (d.length);have HN:=zh H;rw[<-H] at t v;clear S b X J H E x;go_enter Tryz.func123,Tryz.ntmps123;have L:=za v 0 rfl;go_wp2_with fail;refine t.out.mono ?_;intro e w2 n;rcases n.cases with⟨k,i,Z,c',b,rfl,P,Q,a⟩|⟨b,rfl,a⟩
 ·obtain⟨T,U,V, -⟩:=p.out k i b;have m:Hid (q=some (i,k)):=zh (by rw[u.out,b];rfl);have o:Hid (Ext d k/\i<k.length):=zh ⟨T,V⟩;have y:=zh (me w2 g C d k (B.out.below a) _ U P Q i);have l:=zh a;obtain⟨M,R⟩:=zv (k.length);rw[<-R] at y⊢;clear b P Q a T U V n L v K t u R p;go_wp2_with fail;refine y.out.mono ?_;rintro e Y ⟨rfl,j,s⟩;obtain⟨z,D⟩:=zk2 j s;clear j s y;go_wp2_with fail;go_ret;rw[m.out];exact⟨gQ l D,rfl,z,o.out.1,o.out.2⟩
 ·have m:Hid (q=none):=zh (by rw[u.out,b];rfl);have l:=zh a;clear b a n L v K t u;go_wp2_with fail;refine(fg w2 _ none 0 0 0 2 (by decide)).mono ?_;rintro e Y ⟨rfl,j⟩;refine⟨rfl, ?_⟩;rw[m.out];exact⟨aI (ab l j),rfl⟩
theorem oP (w:World) (g:Nat) (C:BC) (d:List Nd) (I:BB w g C d) (F G:Nat) (E:F<d.length) (x:G<d.length):
  Calls Tryz.prog 210 #[.pointer (some ⟨g,0,none⟩),.int .i64 (F:Nat),.int .i64 (G:Nat)] w (eT bI okN w g C d (gU F G d)):=by
 have u:Hid (gU F G d=(ed (λf g _=>f !=g) d ⟨F,G,G⟩).map λr=>(r.2,r.1)):=zh rfl;have W:=zl I;have B:=zh I;obtain⟨⟨A,c,S,b,X⟩,J⟩:=I;have t:=zh (dagXor w _ d J b F G E x);have p:=zh fun(k:List Nd) (i:Nat) (h:ed (λf g _=>f !=g) d ⟨F,G,G⟩=some (k,i))=>kr J (show In3 d ⟨F,G,G⟩ from⟨E,x,x⟩) h;obtain⟨K,v⟩:=zk2 b S;generalize ed (λf g _=>f !=g) d ⟨F,G,G⟩=r at*;generalize gU F G d=q at*;obtain⟨N,H⟩:=zv (d.length);have HN:=zh H;rw[<-H] at t v;clear S b X J H E x;go_enter Tryz.func210,Tryz.ntmps210;have L:=za v 0 rfl;go_wp2_with fail;refine t.out.mono ?_;intro e w2 n;rcases n.cases with⟨k,i,Z,c',b,rfl,P,Q,a⟩|⟨b,rfl,a⟩
 ·obtain⟨T,U,V, -⟩:=p.out k i b;have m:Hid (q=some (i,k)):=zh (by rw[u.out,b];rfl);have o:Hid (Ext d k/\i<k.length):=zh ⟨T,V⟩;have y:=zh (me w2 g C d k (B.out.below a) _ U P Q i);have l:=zh a;obtain⟨M,R⟩:=zv (k.length);rw[<-R] at y⊢;clear b P Q a T U V n L v K t u R p;go_wp2_with fail;refine y.out.mono ?_;rintro e Y ⟨rfl,j,s⟩;obtain⟨z,D⟩:=zk2 j s;clear j s y;go_wp2_with fail;go_ret;rw[m.out];exact⟨gQ l D,rfl,z,o.out.1,o.out.2⟩
 ·have m:Hid (q=none):=zh (by rw[u.out,b];rfl);have l:=zh a;clear b a n L v K t u;go_wp2_with fail;refine(fg w2 _ none 0 0 0 2 (by decide)).mono ?_;rintro e Y ⟨rfl,j⟩;refine⟨rfl, ?_⟩;rw[m.out];exact⟨aI (ab l j),rfl⟩
theorem blChoose (w:World) (g:Nat) (C:BC) (d:List Nd) (K:BB w g C d) (F G H:Nat) (D:F<d.length) (E:G<d.length) (I:H<d.length):
  Calls Tryz.prog 134 #[.pointer (some ⟨g,0,none⟩),.int .i64 (F:Nat),.int .i64 (G:Nat),.int .i64 (H:Nat)] w (eT bI okN w g C d (eR F G H d)):=by
 have u:Hid (eR F G H d=(ed (λf g h=>f&&g|| !f&&h) d ⟨F,G,H⟩).map λr=>(r.2,r.1)):=zh rfl;have Y:=zl K;have z:=zh K;obtain⟨⟨A,c,U,b,Z⟩,L⟩:=K;have t:=zh (ya w _ d L b F G H D E I);have p:=zh fun(k:List Nd) (i:Nat) (h:ed (λf g h=>f&&g|| !f&&h) d ⟨F,G,H⟩=some (k,i))=>kr L (show In3 d ⟨F,G,H⟩ from⟨D,E,I⟩) h;obtain⟨P,v⟩:=zk2 b U;generalize ed (λf g h=>f&&g|| !f&&h) d ⟨F,G,H⟩=r at*;generalize eR F G H d=q at*;obtain⟨N,J⟩:=zv (d.length);have HN:=zh J;rw[<-J] at t v;clear U b Z L J D E I;go_enter Tryz.func134,Tryz.ntmps134;have Q:=za v 0 rfl;go_wp2_with fail;refine t.out.mono ?_;intro e w2 n;rcases n.cases with⟨k,i,A',c',b,rfl,R,S,a⟩|⟨b,rfl,a⟩
 ·obtain⟨V,W,X, -⟩:=p.out k i b;have m:Hid (q=some (i,k)):=zh (by rw[u.out,b];rfl);have o:Hid (Ext d k/\i<k.length):=zh ⟨V,X⟩;have x:=zh (me w2 g C d k (z.out.below a) _ W R S i);have l:=zh a;obtain⟨M,T⟩:=zv (k.length);rw[<-T] at x⊢;clear b R S a V W X n Q v P t u T p;go_wp2_with fail;refine x.out.mono ?_;rintro e w3 ⟨rfl,j,s⟩;obtain⟨y,B⟩:=zk2 j s;clear j s x;go_wp2_with fail;go_ret;rw[m.out];exact⟨gQ l B,rfl,y,o.out.1,o.out.2⟩
 ·have m:Hid (q=none):=zh (by rw[u.out,b];rfl);have l:=zh a;clear b a n Q v P t u;go_wp2_with fail;refine(fg w2 _ none 0 0 0 2 (by decide)).mono ?_;rintro e w3 ⟨rfl,j⟩;refine⟨rfl, ?_⟩;rw[m.out];exact⟨aI (ab l j),rfl⟩
def wv (ws:List Nat):Array Value:=(ws.map λx=>Value.int .i64 (x:Nat)).toArray
theorem ak (ws:List Nat):(wv ws).size=ws.length:=by simp[wv]
theorem cx {ws:List Nat} {k:Nat} (h:k<ws.length):(wv ws)[k]? =some (.int .i64 ((ws.getD k 0:Nat):Int)):=by
 unfold wv;rw[y8,yW,yj,yp h];rfl
theorem iZ (ws:List Nat) (k x:Nat):(wv ws).setIfInBounds k (.int .i64 (x:Nat))=wv (ws.set k x):=by
 unfold wv;rw[Bf,List.map_set]
theorem bo (ws:List Nat):(wv ws).all (·.oneCell')=true:=by
 unfold wv;rw[Array.all_eq_true'];intro v a;simp only[List.mem_toArray,AP] at a;obtain⟨x,_,rfl⟩:=a
 rfl
def okW (d:List Nd) (ws:List Nat):Prop:=ws.length=16/\∀x∈ws,x<d.length
def cH (ws:List Nat):Value:= .agg (wv ws)
theorem qD {d a:List Nd} (h:Ext d a):d.length<=a.length:=by obtain⟨b,rfl⟩:=h;simp
theorem okN.ext {d a:List Nd} {i:Nat} (h:okN d i) (b:Ext d a):okN a i:=yE h (qD b)
theorem okW.ext {d a:List Nd} {ws:List Nat} (h:okW d ws) (b:Ext d a):okW a ws:=⟨h.1,λx c=>yE (h.2 x c) (qD b)⟩
theorem okW.at {d:List Nd} {ws:List Nat} (h:okW d ws) {k:Nat} (hk:k<16):okN d (ws.getD k 0):=by
 show ws.getD k 0<d.length;have a:k<ws.length:=by rw[h.1];exact hk
 rw[yj,yp a];exact h.2 _ (AJ a)
theorem okW.set {d:List Nd} {ws:List Nat} (h:okW d ws) (k:Nat) {x:Nat} (b:x<d.length):okW d (ws.set k x):=⟨by rw[As];exact h.1,λy a=>by
 rcases List.mem_or_eq_of_mem_set a with a|rfl
 ·exact h.2 y a
 ·exact b⟩
theorem oc:(Tryz.prog.info? 146).map (·.size)=some 16:=by kernel_rfl
theorem iint:(Tryz.prog.info? 3).map (·.size)=some 1:=by kernel_rfl
theorem ldW {W:World} {g:Nat} {a:Array Value} (h:Box W g a 146) (b:a.size=16):(Instr.loadAt 146 (.pointer (some ⟨g,0,none⟩))).run Tryz.prog W= .ok (.agg a) W:=by
 simp only[Instr.loadAt,Instr.sureAddr,Sem.run_bind,Sem.run_pure,Result.andThen_ok,run_loadVar_row W g _ _ a (0,0) _ h Tryz.underlying146 rfl (by rw[oc,b])]
theorem ixW {c:Array Value} {k:Nat} {v:Value} (g:c[k]? =some v) (hk:k<16) (W:World):(Instr.index 146 (.agg c) (.int .i64 (k:Nat))).run Tryz.prog W= .ok v W:=by
 obtain⟨i,hi,d⟩:∃i,Tryz.prog.info? 3=some i/\i.size=1:=by
  cases h:Tryz.prog.info? 3 with
  |none=>have:=iint;rw[h] at this;cases this
  |some i=>have:=iint;rw[h] at this;exact⟨i,rfl,by simpa using this⟩
 have e:(0:Int)<=(k:Int)/\(k:Int)<((16:Nat):Int):=by omega
 have f:=Tryz.underlying146;have b:=Tryz.underlying3;simp only[Instr.index,asIntOf,Sem.run_bind,Sem.run_pure,Result.andThen_ok,run_underlying f,run_underlying b,part,isAgg,sizeOf,typeInfo,hi,d];have a:(k:Int)<16:=by omega
 simp[e,a,g,hi,d]
section
variable {ops:Array Oper} {rest:List Oper} {o:Oper} {a:Act} {w:World} {Q:Exit->Act->World->Prop}
theorem bj (c:o.guard=none) (x:Operand) (e:o.op= .load 146 x) (g:Nat) (i:a.eval x= .pointer (some ⟨g,0,none⟩)) {b:Array Value} (d:Hid (Box w g b 146)) (f:Hid (b.size=16))
  (h:wpList Tryz.prog ops Q rest (a.put o.dst (.agg b)) w):wpList Tryz.prog ops Q (o::rest) a w:=
 wpList_load_row c 146 x e g i _ b (0,0) _ d.out Tryz.underlying146 rfl (by rw[oc,f.out]) h
theorem aM (d:o.guard=none) (x y:Operand) (n:o.op= .store 146 x y) (g:Nat) (b:Array Value) (p:a.eval x= .pointer (some ⟨g,0,none⟩)) (q:a.eval y= .agg b) {c:Array Value} (j:Hid (Box w g c 146)) (i:Hid (c.size=16)) (l:Hid (b.size=16)) (m:Hid (b.all (·.oneCell')=true))
  (h:∀w',Hid (Box w' g b 146)->Hid (w.grownBy w' (some g))->wpList Tryz.prog ops Q rest (a.put o.dst undef) w'):wpList Tryz.prog ops Q (o::rest) a w:=
 wpList_store_row d 146 x y n g b p q _ c j.out (by rw[oc,l.out]) (by rw[i.out,l.out]) m.out
  (h _ (zh (setRow_heap w g _ _ _ _ j.out)) (zh ⟨rfl,rfl,rfl,by simp[World.setRow],λk hk f=>setRow_other w g k _ (λe=>f (by rw[e]))⟩))
end
theorem mL {ops:Array Oper} {S:World->Prop} {op:Oper} {a:Act} (h:Region.wanted op (yielded ops a.tmps)=true) (x:Operand) (e:op.op= .load 146 x) (g:Nat) (i:a.eval x= .pointer (some ⟨g,0,none⟩)) {b:Array Value} (d:∀W,S W->Box W g b 146) (f:Hid (b.size=16)):YieldsIf Tryz.prog ops S op (.agg b) a:=
 .inl ⟨h,λw c=>by
  unfold execOp
  simp only[e,i,ldW (d w c) f.out,Result.andThen_ok,Sem.run_bind,Sem.run_pure]⟩
theorem pV {ops:Array Oper} {rest:List Oper} {w0:World} {Lq:Act->Prop} {op:Oper} {a:Act} (i:Region.wanted op (yielded ops a.tmps)=true) (x:Operand) (e:op.op= .load 146 x) (g:Nat) (j:a.eval x= .pointer (some ⟨g,0,none⟩)) {b:Array Value} (d:Hid (Box w0 g b 146)) (f:Hid (b.size=16))
  (h:wpQuiet Tryz.prog ops (λw'=>∃p:Lat w0,w'=p.w) Lq rest (a.put op.dst (.agg b))):wpQuiet Tryz.prog ops (λw'=>∃p:Lat w0,w'=p.w) Lq (op::rest) a:=by
 unfold wpQuiet;rw[yz i];refine⟨.agg b,λw' c=> ?_,h⟩;obtain⟨p,rfl⟩:=c;unfold Oper.quietAt execOp;simp only[e,j,ldW (d.out.below p.h) f.out,Result.andThen_ok,Sem.run_bind,Sem.run_pure];exact⟨rfl,rfl⟩
theorem aV {fn:Func} {p:Tmp} (h:fn.results=#[.cell p 146]) (tmps:Array Value) {w:World} {g:Nat} {a:Array Value} (hp:tmps.getD p undef= .pointer (some ⟨g,0,none⟩)) (b:Box w g a 146) (c:a.size=16):(results fn tmps).run Tryz.prog w= .ok (.agg a) w:=
 results_cell_row h tmps w g _ a (0,0) _ hp b Tryz.underlying146 rfl (by rw[oc,c])
theorem eT.cases {α:Type} {enc:α->Value} {f:List Nd->α->Prop} {w:World} {g:Nat} {C:BC} {d:List Nd} {r:Option (α×List Nd)} {e:Ending} {w':World} (h:eT enc f w g C d r e w'):
  (∃a b,r=some (a,b)/\e= .returned (enc a)/\BB w' g C b/\Ext d b/\f b a/\w.grownBy w' (some g))\/(r=none/\e= .panicked (my 2)/\w.grownBy w' (some g)):=by
 obtain⟨c,i⟩:=h
 match r,i with
 |some (a,b),⟨h3,h4,h5,h6⟩=>exact .inl ⟨a,b,rfl,h3,h4,h5,h6,c⟩
 |none,h3=>exact .inr ⟨rfl,h3,c⟩
theorem bind_some {α β:Type} {m:Bm α} {f:α->Bm β} {d d':List Nd} {a:α} (h:m d=some (a,d')):m.bind f d=f a d':=by unfold Bm.bind;rw[h]
theorem bU {α β:Type} {m:Bm α} {f:α->Bm β} {d:List Nd} (h:m d=none):m.bind f d=none:=by unfold Bm.bind;rw[h]
theorem bJ {ws:List Nat} {k:Nat} (h:k<ws.length):ws.drop k=ws.getD k 0::ws.drop (k+1):=by
 rw[Aq h,yj,yp h];rfl
theorem ai {w w':World} {a g:Nat} {cs:Array Value} {T:TypeId} (c:Box w a cs T) (h:w.grownBy w' (some g)) (b:a≠g):Box w' a cs T:=(h.block a c.lt (by simpa using b)).trans c
theorem jX (w:World) (g:Nat) (C:BC) (d:List Nd) (c:BB w g C d) (ws:List Nat) (n:okW d ws):
  Calls Tryz.prog 73 #[.pointer (some ⟨g,0,none⟩),.agg (wv ws)] w (eT bI okN w g C d (bE ws 0 d)):=by
 have T:=zl c;obtain⟨a,S⟩:=zk2 c n;have R:Hid ((wv ws).size=16):=zh (by rw[ak,n.1]);have P:Hid (∀k,k<16->(wv ws)[k]? =some (.int .i64 ((ws.getD k 0:Nat):Int))):=zh λk hk=>cx (by rw[n.1];exact hk);have N:Hid (∀k,k<16->ws.drop k=ws.getD k 0::ws.drop (k+1)):=zh λk hk=>bJ (by rw[n.1];exact hk);have Q:Hid (ws.drop 16=[]):=zh (AF (by rw[n.1];exact yq _));generalize wv ws=CS at*;clear c n;go_enter Tryz.func73,Tryz.ntmps73;go_upto_region 2 with fail;generalize z:w.alloc _=w1 at*;obtain⟨D,L⟩:=zB1 z;clear z;replace a:=zh (a.out.below D);go_wp2_with(refine wpList_load_row rfl 146 _ rfl w.heap.size rfl _ CS (0,0) _ L Tryz.underlying146 rfl (by rw[oc,R.out]) ?_)
 go_loopw [5,9] (λs i wr=>∃(k t:Nat) (j:List Nd),k<=16/\i= .int .i64 k/\s= .int .i64 t/\BB wr g C j/\Ext d j/\t<j.length/\w.grownBy wr (some g)/\bE ws 0 d=bE (ws.drop k) t j) (λ_ i _=>16-(intOf i).toNat)
 case atStart=>exact⟨0,0,d,yt _,rfl,rfl,a,Ext.refl d,by have:=a.out.2.two;omega,aI D,rfl⟩
 case round=>
  obtain⟨k,t,j,hk,rfl,rfl,c,r,x,m,M⟩:=hrel;clear a D L;obtain⟨a,E,K,l,A⟩:=zk5 c r x m M;clear c r x m M
  by_cases h:k<16
  ·have v:(k:Int)<16:=by omega
   have ix:=ixW (P k h) h;have J:=zh (qQ wr g C j a t (ws.getD k 0) K ((S.out.ext E).at h));have b:Hid (bE ws 0 d=((orB t (ws.getD k 0)).bind λy=>bE (ws.drop (k+1)) y) j):=zh (by rw[A.out,N.out k h];rfl);generalize ws.getD k 0=f at*;clear A;go_wp2_with fail;refine J.out.mono ?_;intro e w2 q;rcases q.cases with⟨y,I,B,rfl,c,r,x,m⟩|⟨B,rfl,m⟩
   ·have o:=zh c;have F:=zh (E.out.trans r);have H:Hid (y<I.length):=zh x;have p:=zh (ap l m);have G:Hid (bE ws 0 d=bE (ws.drop (k+1)) y I):=zh (by rw[b.out,bind_some B]);unfold bI;clear B c r x m b J ix q;go_wp2_with fail;go_roundw
    ·exact⟨k+1,y,I,by omega,by go_num,rfl,o,F,H,p,G⟩
    ·simp[intOf];omega
   ·refine⟨rfl, ?_⟩;rw[b.out,bU B];exact⟨ap l m,rfl⟩
  ·have v:¬(k:Int)<16:=by omega
   have u:k=16:=by omega
   subst u;have b:Hid (bE ws 0 d=some (t,j)):=zh (by rw[A.out,Q.out];rfl);clear A;go_wp2_with fail;go_ret;rw[b.out];exact⟨l,rfl,a,E,K⟩
section
open Go.RowKit
theorem zg {w w':World} {a g:Nat} {cs:Array Value} {t:TypeId} (h:Hid (Box w a cs t)) (c:w.grownBy w' (some g)) (b:a≠g):Hid (Box w' a cs t):=ai h.out c b
theorem zn {α:Type} {enc:α->Value} {b:List Nd->α->Prop} {w w2:World} {g:Nat} {C:BC} {d:List Nd} {a:Option (α×List Nd)} (h:w.grownBy w2 (some g)/\a=none):eT enc b w g C d a (.panicked (my 2)) w2:=by
 rw[h.2];exact⟨h.1,rfl⟩
theorem zo {α β:Type} {enc:α->Value} {q:List Nd->α->Prop} {w w1 w2:World} {g:Nat} {C:BC} {o d:List Nd} {m:Bm α} {f:α->Bm β} {i:Option (β×List Nd)} {e:Ending} (n:Hid (i=m.bind f d)) (r:Hid (Ext o d)) (l:Hid (w.grownBy w1 (some g))) (h:eT enc q w1 g C d (m d) e w2):
  (e= .panicked (my 2)/\w.grownBy w2 (some g)/\i=none)\/(∃a b,e= .returned (enc a)/\Hid (i=f a b)/\Hid (BB w2 g C b)/\Ext d b/\Hid (q b a)/\w1.grownBy w2 (some g)/\Hid (Ext o b)/\Hid (w.grownBy w2 (some g))):=by
 rcases h.cases with⟨a,b,k,j,s,p,t,c⟩|⟨k,j,c⟩
 ·exact .inr ⟨a,b,j,n.out.trans (bind_some k),s,p,t,c,r.out.trans p,ap l c⟩
 ·exact .inl ⟨j,ap l c,n.out.trans (bU k)⟩
end
theorem dI {α β γ:Type} (m:Bm α) (f:α->Bm β) (h:β->Bm γ):(m.bind f).bind h=m.bind λa=>(f a).bind h:=by
 funext d
 unfold Bm.bind;cases m d<;>rfl
theorem dH {α:Type} (m:Bm α):(m.bind λa=>Bm.ret a)=m:=by
 funext d
 unfold Bm.bind Bm.ret
 cases m d with
 |none=>rfl
 |some r=>rfl
def aO (m:Bm (List Nat)) (p:List Nat):Bm (List Nat):=m.bind λr=>Bm.ret (p++r)
theorem iF (m:Bm (List Nat)):aO m []=m:=dH m
theorem eG {α:Type} (m:Bm α) (f:α->Bm (List Nat)) (p:List Nat):aO (m.bind f) p=m.bind λa=>aO (f a) p:=dI _ _ _
theorem iH (m:Bm (List Nat)) (x:Nat) (p:List Nat):aO (m.bind λr=>Bm.ret (x::r)) p=aO m (p++[x]):=by
 unfold aO;rw[dI];congr 1
 funext r
 show Bm.ret (p++x::r)=Bm.ret (p++[x]++r);simp
theorem kj (m:Bm (List Nat)) (x:Nat) (p:List Nat):(m.bind λr=>aO (Bm.ret (x::r)) p)=aO m (p++[x]):=by rw[<-eG,iH]
theorem iG (p:List Nat):aO (Bm.ret []) p=Bm.ret p:=by
 show Bm.ret (p++[])=_;simp
theorem eM {cur:List Nat} {k x:Nat} (hk:k<cur.length):(cur.set k x).take (k+1)=cur.take k++[x]:=by
 rw[List.take_set,Am,yp hk];simp only[Option.toList_some];rw[BO _ _ (by rw[yM];omega)];congr 1;rw[yM,Nat.min_eq_left (by omega),AG];rfl
theorem iw {cur:List Nat} {k x:Nat}:(cur.set k x).drop (k+1)=cur.drop (k+1):=by
 rw[List.drop_set,yz (by omega)]
theorem fK {a b:List Nat} {k:Nat} (h:a.drop k=b.drop k):a.getD k 0=b.getD k 0:=by
 have c:=AA (λl=>l.getD 0 0) h;simpa [yj] using c
theorem fb {a b:List Nat} {k:Nat} (h:a.drop k=b.drop k):a.drop (k+1)=b.drop (k+1):=by
 have c:=AA (λl=>l.drop 1) h;simpa [List.drop_drop,Nat.add_comm] using c
theorem bX {w w2:World} {g b i:Nat} {u:Value} (h:w.grownBy w2 (some g)) (c:w.heap.size<=b):w.grownBy (w2.setCell ⟨b,i,none⟩ u) (some g):=
 ⟨h.os,h.tape,h.output,by simpa [World.setCell] using h.size,λk hk a=>(Aj w2 ⟨b,i,none⟩ u k (λe=>by have e:k=b:=e;omega)).trans (h.block k hk a)⟩
theorem aG {w w1 w2:World} {g b:Nat} (h:w.grownBy w1 (some g)) (a:w1.grownBy w2 (some b)) (d:w.heap.size<=b):w.grownBy w2 (some g):=
 ⟨a.os.trans h.os,a.tape.trans h.tape,a.output.trans h.output,yK h.size a.size,λk hk c=>(a.block k (yE hk h.size) (λe=>by simp only[yy] at e;omega)).trans (h.block k hk c)⟩
def z16:List Nat:=List.replicate 16 0
theorem dr:wv z16=#[.int .i64 0,.int .i64 0,.int .i64 0,.int .i64 0,.int .i64 0,.int .i64 0,.int .i64 0,.int .i64 0,.int .i64 0,.int .i64 0,.int .i64 0,.int .i64 0,.int .i64 0,.int .i64 0,.int .i64 0,.int .i64 0]:=rfl
theorem qn {d:List Nd} (h:DV d):okW d z16:=⟨rfl,λx a=>by
 have:x=0:=by unfold z16 at a;exact List.eq_of_mem_replicate a
 have:=h.two;omega⟩
theorem gO (w:World) (t:Nat):
  Calls Tryz.prog 126 #[.int .i64 (t:Nat)] w λe w'=>e= .returned (cH (aH t))/\Below w.heap.size w w':=by
 have i:Hid (wv (aH t)=#[.int .i64 (t:Nat),.int .i64 0,.int .i64 0,.int .i64 0,.int .i64 0,.int .i64 0,.int .i64 0,.int .i64 0,.int .i64 0,.int .i64 0,.int .i64 0,.int .i64 0,.int .i64 0,.int .i64 0,.int .i64 0,.int .i64 0]):=zh rfl;go_enter Tryz.func126,Tryz.ntmps126;go_upto_region 1 with fail;rw[<-dr];generalize a:w.alloc _=w1 at*;obtain⟨f,j⟩:=zB1 a;clear a;have c:Hid ((wv z16).size=16):=zh (by rw[ak];rfl);have g:Hid ((wv (aH t)).size=16):=zh (by rw[ak];simp[aH,au]);have h:Hid ((wv (aH t)).all (·.oneCell')=true):=zh (bo _);go_wp2_with(refine aM rfl _ _ rfl w.heap.size (wv (aH t)) (by rfl) (by rw[i.out];rfl) j c g h ?_;intro w2 d b);refine yQ (v:= .agg (wv (aH t))) (aV Tryz.results126 _ rfl d g) rfl ?_;exact⟨rfl,bf f f.out.size (yq _) b⟩
theorem lw (w:World) (g:Nat) (C:BC) (d:List Nd) (m:BB w g C d) (ws:List Nat) (Y:okW d ws):
  Calls Tryz.prog 128 #[.pointer (some ⟨g,0,none⟩),.agg (wv ws)] w (eT cH okW w g C d (iS ws d)):=by
 have aa:=zl m;obtain⟨a,S⟩:=zk2 m Y;clear m;have z:Hid (iS ws d=aO (iS (ws.drop 0)) (ws.take 0) d):=zh (by rw[yO,y9,iF]);go_enter Tryz.func128,Tryz.ntmps128;generalize U:iS ws d=PQ at*;clear U Y;go_upto_region 1 with fail;rw[<-dr];obtain⟨CS,s⟩:=zv (wv ws);have u:=zh s;rw[<-s];clear s;generalize I:w.alloc _=zw1 at*;generalize J:zw1.alloc _=w1 at*;obtain⟨P,b,o⟩:=zB2 I J;clear I J;replace a:=zh (a.out.below P);rw[u.out] at b;have R:Hid ((wv z16).size=16):=zh (by rw[ak];rfl);clear u;go_wp2_with fail
 go_loopw [6] (λi wr=>∃(k:Nat) (cur:List Nat) (l:List Nd),k<=16/\i= .int .i64 k/\BB wr g C l/\Ext d l/\okW l cur/\Box wr w.heap.size (wv cur) 146/\Box wr (w.heap.size+1) (wv z16) 146/\cur.drop k=ws.drop k/\w.grownBy wr (some g)/\PQ=aO (iS (ws.drop k)) (cur.take k) l) (λi _=>16-(intOf i).toNat)
 case atStart=>exact⟨0,ws,d,yt _,rfl,a,Ext.refl d,S,b,o,rfl,aI P,z⟩
 case round=>
  obtain⟨k,cur,l,hk,rfl,m,t,p,G,H,B,n,W⟩:=hrel;clear a P b o z;obtain⟨a,K,j,b,o,x⟩:=zk6 m t p G H B;obtain⟨c,q⟩:=zk2 n W;clear m t p G H B n W
  by_cases h:k<16
  ·have E:(k:Int)<16:=by omega
   have k0:(0:Int)<=(k:Int):=by omega
   have x0:=b.out.at_ k _ (cx (by rw[j.out.1];exact h))
   replace q:=zh (show PQ=((fE (cur.getD k 0)).bind λL=>aO (iS (ws.drop (k+1))) (cur.take k++[L])) l by
    rw[q.out,bJ (by rw[S.out.1];exact h),fK x.out];show aO ((fE _).bind _) _ l=_;rw[eG];congr 1
    funext L
    exact iH _ _ _)
   have N:=zh (j.out.at h);generalize cur.getD k 0=f at*;have V:=zh (kc wr g C l a f N);go_wp2_with fail;refine V.out.mono ?_;intro e w2 A;rcases A.cases with⟨L,d2,M,rfl,m,t,X,n⟩|⟨M,rfl,n⟩
   rotate_left
   ·refine⟨rfl, ?_⟩;rw[q.out,bU M];exact⟨ap c n,rfl⟩
   have F:=q.out.trans (bind_some M);replace q:=zh F;have HF:=zh X;replace a:=zh m;replace b:=zg b n (by omega);replace o:=zg o n (by omega);replace j:=zh (j.out.ext t);replace K:=zh (K.out.trans t);replace c:=zh (ap c n);clear F M m t X n A V;unfold bI;clear x0;have xz:=b.out.frozen k;have xl:=b.out.lt;have x1:=b.out.at_ k _ (cx (by rw[j.out.1];exact h));generalize cur.getD k 0=f0 at*;go_wp2_with fail;clear x1 xz;go_roundw
   ·refine⟨k+1,cur.set k L,d2,by omega,by go_num,a.out.setBox b (by decide) (by omega) _ _,K,j.out.set k HF,by rw[<-iZ];exact b.out.set_ k _,o.out.setNe (by show w.heap.size≠_;omega) _,by rw[iw];exact fb x,bX c (by show w.heap.size<=_;omega),by rw[eM (by rw[j.out.1];exact h)];exact q⟩
   ·simp[intOf];omega
  ·have E:¬(k:Int)<16:=by omega
   have D:k=16:=by omega
   subst D;have r:Hid ((wv cur).size=16):=zh (by rw[ak,j.out.1]);have Z:Hid ((wv cur).all (·.oneCell')=true):=zh (bo _)
   have Q:Hid (PQ=some (cur,l)):=zh (by
    rw[q.out,AF (by rw[S.out.1];exact yq _),Ai (by rw[j.out.1];exact yq _)];show aO (Bm.ret []) cur l=_
    rw[iG];rfl)
   go_wp2_with(first|(refine bj rfl _ rfl w.heap.size rfl b r ?_)|(refine aM rfl _ _ rfl (w.heap.size+1) (wv cur) (by rfl) (by rfl) o R r Z ?_;intro w2 T y));refine yQ (v:= .agg (wv cur)) (aV Tryz.results128 _ rfl T r) rfl ?_;rw[Q.out];exact⟨aG c y (by omega),rfl,a.out.grownBox o (by decide) (by omega) y,K,j⟩
theorem fP (a:Nat) (b:a<9223372036854775808):(BitVec.ofInt 64 (a:Int)).toNat=a:=by
 rw[BitVec.ofInt_natCast,BitVec.toNat_ofNat];exact Bi (by omega)
theorem ic (a b:Nat) (c:a<9223372036854775808) (d:b<9223372036854775808):bits .and .i64 (a:Int) (b:Int)=((a&&&b:Nat):Int):=by
 have e:a&&&b<2^63:=Nat.and_lt_two_pow _ (by omega);show IntKind.i64.wrap ((BitVec.ofInt 64 (a:Int)&&&BitVec.ofInt 64 (b:Int)).toNat:Int)=_;rw[BitVec.toNat_and,fP a c,fP b d,IntKind.wrap_i64];omega
theorem bit_at (n k:Nat) (c:n<65536):bits .and .i64 ((n:Int)/2^k) 1=((bN (n.testBit k):Nat):Int):=by
 have e:((n:Int)/2^k)=((n/2^k:Nat):Int):=by norm_cast
 have b:n/2^k<=n:=Nat.div_le_self _ _;have a:(1:Int)=((1:Nat):Int):=rfl;rw[e,a,ic _ _ (by omega) (by omega)];congr 1;rw[Nat.and_one_is_mod,Nat.testBit_eq_decide_div_mod_eq];have:=Nat.mod_two_eq_zero_or_one (n/2^k);rcases this with h|h<;>simp[h,bN]
theorem qb {a b:List Nat} {k x:Nat} (hk:k<a.length) (h:a.take k=b.take k) (c:b[k]? =some x):(a.set k x).take (k+1)=b.take (k+1):=by
 rw[eM hk,h,Am,c];rfl
theorem dc (w:World) (n:Nat) (F:n<65536):
  Calls Tryz.prog 124 #[.int .i64 (n:Nat)] w λe w'=>e= .returned (cH (au n 16))/\Below w.heap.size w w':=by
 go_enter Tryz.func124,Tryz.ntmps124;go_upto_region 1 with fail;rw[<-dr];generalize b:w.alloc _=w1 at*;obtain⟨c,f⟩:=zB1 b;clear b;have y:Hid ((wv z16).size=16):=zh (by rw[ak];rfl);have A:=zh f.out.lt;go_upto_region 2 with fail;rw[<-dr];generalize b:w1.alloc _=w2 at*;obtain⟨h,d⟩:=zA1 b;clear b;replace f:=zb f h;replace c:=zb c h;clear h;go_wp2_with fail
 go_loopw [5] (λi wr=>∃(k:Nat) (cur:List Nat),k<=16/\i= .int .i64 k/\cur.length=16/\cur.take k=(au n 16).take k/\Box wr w1.heap.size (wv cur) 146/\Box wr w.heap.size (wv z16) 146/\Below w.heap.size w wr) (λi _=>16-(intOf i).toNat)
 case atStart=>exact⟨0,z16,yt _,rfl,rfl,rfl,d,f,c⟩
 case round=>
  obtain⟨k,cur,hk,rfl,o,s,t,u,B⟩:=hrel;clear d f c;obtain⟨d,f,c,l,a⟩:=zk5 t u B s o;clear t u B o s
  by_cases j:k<16
  ·have r:(k:Int)<16:=by omega
   have G:(0:Int)<=(k:Int):=by omega
   have J:=d.out.frozen k;have I:=d.out.lt;have H:=d.out.at_ k _ (cx (by rw[a.out];exact j));generalize cur.getD k 0=f0 at*;go_wp2_with fail;have m:=bit_at n k F;go_roundw
   ·rw[m];refine⟨k+1,cur.set k (bN (n.testBit k)),by omega,by go_num,by rw[As];exact a,qb (by rw[a.out];exact j) l (by unfold au;rw[yW,Be j];rfl),by rw[<-iZ];exact d.out.set_ k _,f.out.setNe (by show w1.heap.size≠_;have:=A.out;omega) _,c.out.setCell (p:=⟨w1.heap.size,k,none⟩) (by show w.heap.size<=w1.heap.size;have:=A.out;omega) _⟩
   ·simp[intOf];omega
  ·have r:¬(k:Int)<16:=by omega
   have q:k=16:=by omega
   subst q
   have D:Hid (cur=au n 16):=zh (by
    have E:=l.out
    rwa [Ai (by rw[a.out];exact yq _),Ai (by simp[au])] at E)
   have g:Hid ((wv cur).size=16):=zh (by rw[ak,a.out]);have C:Hid ((wv cur).all (·.oneCell')=true):=zh (bo _);go_wp2_with(first|(refine bj rfl _ rfl w1.heap.size rfl d g ?_)|(refine aM rfl _ _ rfl w.heap.size (wv cur) (by rfl) (by rfl) f y g C ?_;intro w2 z x));refine yQ (v:= .agg (wv cur)) (aV Tryz.results124 _ rfl z g) rfl ?_;rw[D.out];exact⟨rfl,bf c c.out.size (yq _) x⟩
theorem sum_step {xs ys:List Nat} {k c:Nat} {p:List Nat} (i:xs.length=16) (j:ys.length=16) (hk:k<15):aO (fk (xs.drop k) (ys.drop k) c) p=
  (gU (xs.getD k 0) (ys.getD k 0)).bind λd=>(gU d c).bind λo=>(dJ (xs.getD k 0) (ys.getD k 0)).bind λu=>(dJ d c).bind λh=>(orB u h).bind λe=>aO (fk (xs.drop (k+1)) (ys.drop (k+1)) e) (p++[o]):=by
 have e0:∀x y (a b:List Nat),fk (x::a) (y::b) c=(gU x y).bind λd=>(gU d c).bind λo=>if a=[] then Bm.ret [o] else(dJ x y).bind λg=>(dJ d c).bind λh=>(orB g h).bind λe=>(fk a b e).bind λr=>Bm.ret (o::r):=λ_ _ _ _=>rfl
 conv=>lhs;rw[bJ (ws:=xs) (k:=k) (by omega),bJ (ws:=ys) (k:=k) (by omega),e0]
 have f:¬(xs.drop (k+1)=[]):=by intro h;have:=AA List.length h;simp at this;omega
 simp only[f,Cc,eG,kj]
theorem sum_last {xs ys:List Nat} {c:Nat} {p:List Nat} (i:xs.length=16) (j:ys.length=16):aO (fk (xs.drop 15) (ys.drop 15) c) p=
  (gU (xs.getD 15 0) (ys.getD 15 0)).bind λd=>(gU d c).bind λo=>aO (fk (xs.drop 16) (ys.drop 16) c) (p++[o]):=by
 have e1:xs.drop 16=[]:=AF (by omega);have f:ys.drop 16=[]:=AF (by omega);have e0:∀x y (a b:List Nat),fk (x::a) (y::b) c=(gU x y).bind λd=>(gU d c).bind λo=>if a=[] then Bm.ret [o] else(dJ x y).bind λg=>(dJ d c).bind λh=>(orB g h).bind λe=>(fk a b e).bind λr=>Bm.ret (o::r):=λ_ _ _ _=>rfl
 conv=>lhs;rw[bJ (ws:=xs) (k:=15) (by omega),bJ (ws:=ys) (k:=15) (by omega),e0]
 rw[e1,f];simp only[if_true,eG];congr 1;funext d;congr 1;funext o;show Bm.ret (p++[o])=Bm.ret (p++[o]++[]);simp
theorem wm (w:World) (g:Nat) (C:BC) (d:List Nd) (t:BB w g C d) (xs ys:List Nat) (hx:okW d xs) (hy:okW d ys) (c0:Nat) (al:okN d c0):
  Calls Tryz.prog 205 #[.pointer (some ⟨g,0,none⟩),.agg (wv xs),.agg (wv ys),.int .i64 (c0:Nat)] w (eT cH okW w g C d (fk xs ys c0 d)):=by
 have aH:=zl t;obtain⟨a,HX,HY,ac⟩:=zk4 t hx hy al;have ag:Hid (fk xs ys c0 d=aO (fk (xs.drop 0) (ys.drop 0) c0) (z16.take 0) d):=zh (by rw[yO,yO,y9,iF]);have HZ:=zh (qn t.2);clear t hx hy al;go_enter Tryz.func205,Tryz.ntmps205;generalize aF:fk xs ys c0 d=PQ at*;clear aF;obtain⟨CX,aa⟩:=zv (wv xs);obtain⟨CY,ab⟩:=zv (wv ys);obtain⟨ad,ae⟩:=zk2 aa ab;rw[<-aa,<-ab];clear aa ab;go_upto_region 2 with fail;rw[<-dr];generalize aw:w.alloc _=zw1 at*;generalize ax:zw1.alloc _=zw2 at*;generalize ay:zw2.alloc _=zw3 at*;generalize az:zw3.alloc _=w1 at*;obtain⟨HB,q,r,z,n⟩:=zB4 aw ax ay az;clear aw ax ay az;replace a:=zh (a.out.below HB);rw[ad.out] at q;rw[ae.out] at r;have aD:Hid ((wv z16).size=16):=zh (by rw[ak];rfl);clear ad ae;go_wp2_with fail
 go_loopw [3,14] (λs i wr=>∃(k c:Nat) (cur:List Nat) (M:List Nd),k<=16/\i= .int .i64 k/\s= .int .i64 c/\BB wr g C M/\Ext d M/\okW M cur/\okN M c/\Box wr w.heap.size (wv xs) 146/\Box wr (w.heap.size+1) (wv ys) 146/\Box wr (w.heap.size+1+1) (wv z16) 146/\Box wr (w.heap.size+1+1+1) (wv cur) 146/\w.grownBy wr (some g)/\PQ=aO (fk (xs.drop k) (ys.drop k) c) (cur.take k) M) (λ_ i _=>16-(intOf i).toNat)
 case atStart=>exact⟨0,c0,z16,d,yt _,rfl,rfl,a,Ext.refl d,HZ,ac,q,r,z,n,aI HB,ag⟩
 case round=>
  obtain⟨k,c,cur,M,hk,rfl,rfl,t,m,W,hc,au,av,ar,aq,j,hq⟩:=hrel;clear a HB q r z n ag HZ ac;obtain⟨a,E,D,A,q,r⟩:=zk6 t m W hc au av;obtain⟨z,n,f,B⟩:=zk4 ar aq j hq;clear t m W hc au av ar aq j hq
  by_cases R:k<16
  ·have an:(k:Int)<16:=by omega
   have k0:(0:Int)<=(k:Int):=by omega
   have F:=zh ((HX.out.ext E).at R);have G:=zh ((HY.out.ext E).at R);have GX:=zh (cx (ws:=xs) (k:=k) (by rw[HX.out.1];exact R));have GY:=zh (cx (ws:=ys) (k:=k) (by rw[HY.out.1];exact R));have GC:=zh (cx (ws:=cur) (k:=k) (by rw[D.out.1];exact R));generalize cur.getD k 0=f0 at*;have HK:Hid (k=15\/k<15):=zh (by omega)
   by_cases ah:k<15
   ·have ai:(k:Int)<15:=by omega
    replace B:=zh (B.out.trans (congrFun (sum_step HX.out.1 HY.out.1 ah) M));generalize xs.getD k 0=x at*;generalize ys.getD k 0=y at*;clear HK;go_upto_region 5 with fail;refine aL 7 (by kernel_rfl) (by kernel_rfl) ?_;have x0:=q.out.lat k _ GX;have y0:=r.out.lat k _ GY;simp only[yX,y9,y6,yO]
    repeat(go_big_quiet_step (fail))
    refine yN ?_;intro w2 t;clear x0 y0;replace q:=zb q t;replace r:=zb r t;replace z:=zb z t;replace n:=zb n t;replace a:=zb a t;replace f:=zh (aj f t);clear t;have H:=zh (oP w2 g C M a x y F G);go_wp2_with fail;refine H.out.mono λe w3 l=> ?_;have T:=zo B E f l;clear B a E f l H;rcases T with⟨rfl,S⟩|⟨I,d3,rfl,B,a,m,U,j,E,f⟩
    ·exact⟨rfl,zn S⟩
    replace q:=zg q j (by omega);replace r:=zg r j (by omega);replace z:=zg z j (by omega);replace n:=zg n j (by omega);replace D:=zh (D.out.ext m);replace A:=zh (A.out.ext m);replace F:=zh (F.out.ext m);replace G:=zh (G.out.ext m);clear m j;unfold bI;have H:=zh (oP w3 g C d3 a I c U A);go_wp2_with fail;refine H.out.mono λe w4 l=> ?_;have T:=zo B E f l;clear B a E f l H;rcases T with⟨rfl,S⟩|⟨o,d4,rfl,B,a,m,HO,j,E,f⟩
    ·exact⟨rfl,zn S⟩
    replace q:=zg q j (by omega);replace r:=zg r j (by omega);replace z:=zg z j (by omega);replace n:=zg n j (by omega);replace D:=zh (D.out.ext m);replace A:=zh (A.out.ext m);replace F:=zh (F.out.ext m);replace G:=zh (G.out.ext m);replace U:=zh (U.out.ext m);clear m j;unfold bI;have xz:=n.out.frozen k;have xl:=n.out.lt;have x1:=n.out.at_ k _ GC;go_upto_region 7 with fail;have J:=zh (a.out.setBox n (by decide) (by omega) k (.int .i64 (o:Nat)));have P:=zh (q.out.setNe (p:=⟨w.heap.size+1+1+1,k,none⟩) (by show w.heap.size+1+1+1≠_;omega) (.int .i64 (o:Nat)));have Q:=zh (r.out.setNe (p:=⟨w.heap.size+1+1+1,k,none⟩) (by show w.heap.size+1+1+1≠_;omega) (.int .i64 (o:Nat)));have N:=zh (z.out.setNe (p:=⟨w.heap.size+1+1+1,k,none⟩) (by show w.heap.size+1+1+1≠_;omega) (.int .i64 (o:Nat)));have L:=zh (n.out.set_ k (.int .i64 (o:Nat)));have K:=zh (bX (i:=k) (u:= .int .i64 (o:Nat)) f (b:=w.heap.size+1+1+1) (by omega));clear a q r z n f xz xl x1;generalize w4.setCell ⟨w.heap.size+1+1+1,k,none⟩ (.int .i64 (o:Nat))=w5 at*;have a:=J;have q:=P;have r:=Q;have z:=N;have f:=K;rw[iZ] at L;have n:=L;clear J P Q N K L;replace D:=zh (D.out.set k HO);have Z:=zh (eM (x:=o) (show k<cur.length by have:=D.out.1;rw[As] at this;omega));generalize cur.set k o=cur' at*;go_upto_region 8 with fail;refine aL 7 (by kernel_rfl) (by kernel_rfl) ?_;have x0:=q.out.lat k _ GX;have y0:=r.out.lat k _ GY;simp only[yX,y9,y6,yO]
    repeat(go_big_quiet_step (fail))
    refine yN ?_;intro w6 t;clear x0 y0;replace q:=zb q t;replace r:=zb r t;replace z:=zb z t;replace n:=zb n t;replace a:=zb a t;replace f:=zh (aj f t);clear t;have H:=zh (jI w6 g C d4 a x y F G);go_wp2_with fail;refine H.out.mono λe w7 l=> ?_;have T:=zo B E f l;clear B a E f l H;rcases T with⟨rfl,S⟩|⟨u,d5,rfl,B,a,m,HU,j,E,f⟩
    ·exact⟨rfl,zn S⟩
    replace q:=zg q j (by omega);replace r:=zg r j (by omega);replace z:=zg z j (by omega);replace n:=zg n j (by omega);replace D:=zh (D.out.ext m);replace A:=zh (A.out.ext m);replace U:=zh (U.out.ext m);clear m j;unfold bI;have H:=zh (jI w7 g C d5 a I c U A);go_wp2_with fail;refine H.out.mono λe w8 l=> ?_;have T:=zo B E f l;clear B a E f l H;rcases T with⟨rfl,S⟩|⟨h,d6,rfl,B,a,m,aB,j,E,f⟩
    ·exact⟨rfl,zn S⟩
    replace q:=zg q j (by omega);replace r:=zg r j (by omega);replace z:=zg z j (by omega);replace n:=zg n j (by omega);replace D:=zh (D.out.ext m);replace HU:=zh (HU.out.ext m);clear m j;unfold bI;have H:=zh (qQ w8 g C d6 a u h HU aB);go_wp2_with fail;refine H.out.mono ?_;intro e w9 l;rcases l.cases with⟨c',d7,hr,rfl,t,m,ht,j⟩|⟨hr,rfl,j⟩
    rotate_left
    ·refine⟨rfl, ?_⟩;rw[B.out,bU hr];exact⟨ap f j,rfl⟩
    have ao:=B.out.trans (bind_some hr);replace B:=zh ao;have aA:=zh ht;replace a:=zh t;replace q:=zg q j (by omega);replace r:=zg r j (by omega);replace z:=zg z j (by omega);replace n:=zg n j (by omega);replace D:=zh (D.out.ext m);replace E:=zh (E.out.trans m);replace f:=zh (ap f j);clear ao hr t m ht j l H;unfold bI;go_wp2_with fail;go_roundw
    ·exact⟨k+1,c',cur',d7,by omega,by go_num,rfl,a,E,D,aA,q,r,z,n,f,by rw[Z.out];exact B⟩
    ·simp[intOf];omega
   ·have ai:¬(k:Int)<15:=by omega
    have X:k=15:=by omega
    have V:=zh X
    replace B:=zh (show PQ=((gU (xs.getD k 0) (ys.getD k 0)).bind λI=>(gU I c).bind λo=>aO (fk (xs.drop (k+1)) (ys.drop (k+1)) c) (cur.take k++[o])) M by
     rw[B.out,V.out]
     exact congrFun (sum_last HX.out.1 HY.out.1) M)
    generalize xs.getD k 0=x at*;generalize ys.getD k 0=y at*;clear HK X ah;go_upto_region 5 with fail;refine aL 7 (by kernel_rfl) (by kernel_rfl) ?_;have x0:=q.out.lat k _ GX;have y0:=r.out.lat k _ GY;simp only[yX,y9,y6,yO]
    repeat(go_big_quiet_step (fail))
    refine yN ?_;intro w2 t;clear x0 y0;replace q:=zb q t;replace r:=zb r t;replace z:=zb z t;replace n:=zb n t;replace a:=zb a t;replace f:=zh (aj f t);clear t;have H:=zh (oP w2 g C M a x y F G);go_wp2_with fail;refine H.out.mono λe w3 l=> ?_;have T:=zo B E f l;clear B a E f l H;rcases T with⟨rfl,S⟩|⟨I,d3,rfl,B,a,m,U,j,E,f⟩
    ·exact⟨rfl,zn S⟩
    replace q:=zg q j (by omega);replace r:=zg r j (by omega);replace z:=zg z j (by omega);replace n:=zg n j (by omega);replace D:=zh (D.out.ext m);replace A:=zh (A.out.ext m);replace F:=zh (F.out.ext m);replace G:=zh (G.out.ext m);clear m j;unfold bI;have H:=zh (oP w3 g C d3 a I c U A);go_wp2_with fail;refine H.out.mono λe w4 l=> ?_;have T:=zo B E f l;clear B a E f l H;rcases T with⟨rfl,S⟩|⟨o,d4,rfl,B,a,m,HO,j,E,f⟩
    ·exact⟨rfl,zn S⟩
    replace q:=zg q j (by omega);replace r:=zg r j (by omega);replace z:=zg z j (by omega);replace n:=zg n j (by omega);replace D:=zh (D.out.ext m);replace A:=zh (A.out.ext m);replace F:=zh (F.out.ext m);replace G:=zh (G.out.ext m);replace U:=zh (U.out.ext m);clear m j;unfold bI;have xz:=n.out.frozen k;have xl:=n.out.lt;have x1:=n.out.at_ k _ GC;go_upto_region 7 with fail;have J:=zh (a.out.setBox n (by decide) (by omega) k (.int .i64 (o:Nat)));have P:=zh (q.out.setNe (p:=⟨w.heap.size+1+1+1,k,none⟩) (by show w.heap.size+1+1+1≠_;omega) (.int .i64 (o:Nat)));have Q:=zh (r.out.setNe (p:=⟨w.heap.size+1+1+1,k,none⟩) (by show w.heap.size+1+1+1≠_;omega) (.int .i64 (o:Nat)));have N:=zh (z.out.setNe (p:=⟨w.heap.size+1+1+1,k,none⟩) (by show w.heap.size+1+1+1≠_;omega) (.int .i64 (o:Nat)));have L:=zh (n.out.set_ k (.int .i64 (o:Nat)));have K:=zh (bX (i:=k) (u:= .int .i64 (o:Nat)) f (b:=w.heap.size+1+1+1) (by omega));clear a q r z n f xz xl x1;generalize w4.setCell ⟨w.heap.size+1+1+1,k,none⟩ (.int .i64 (o:Nat))=w5 at*;have a:=J;have q:=P;have r:=Q;have z:=N;have f:=K;rw[iZ] at L;have n:=L;clear J P Q N K L;replace D:=zh (D.out.set k HO);have Z:=zh (eM (x:=o) (show k<cur.length by have:=D.out.1;rw[As] at this;omega));generalize cur.set k o=cur' at*;go_wp2_with fail;go_roundw
    ·exact⟨k+1,c,cur',d4,by have:=V.out;omega,by go_num,rfl,a,E,D,A,q,r,z,n,f,by rw[Z.out];exact B⟩
    ·simp[intOf];omega
  ·have an:¬(k:Int)<16:=by omega
   have am:k=16:=by omega
   subst am;have Y:Hid ((wv cur).size=16):=zh (by rw[ak,D.out.1]);have H1:Hid ((wv cur).all (·.oneCell')=true):=zh (bo _)
   have aC:Hid (PQ=some (cur,M)):=zh (by
    rw[B.out,AF (by rw[HX.out.1];exact yq _),Ai (by rw[D.out.1];exact yq _)];show aO (Bm.ret []) cur M=_
    rw[iG];rfl)
   go_wp2_with(first|(refine bj rfl _ rfl (w.heap.size+1+1+1) rfl n Y ?_)|(refine aM rfl _ _ rfl (w.heap.size+1+1) (wv cur) (by rfl) (by rfl) z aD Y H1 ?_;intro w2 aE af));refine yQ (v:= .agg (wv cur)) (aV Tryz.results205 _ rfl aE Y) rfl ?_;rw[aC.out];exact⟨aG f af (by omega),rfl,a.out.grownBox z (by decide) (by omega) af,E,D⟩
end
section
open Go.RowKit
def hQ (K:Act->World->Prop) (Q:Exit->Act->World->Prop):Exit->Act->World->Prop
 | .normal,a,w=>K a w
 |e,a,w=>Q e a w
section
variable {P:Program} {md:Region.Mode} {Q:Exit->Act->World->Prop} {ops:Array Oper} {S:World->Prop}
theorem qA {i:Nat} {o:Oper} {c:Nat} {b:Array Bool} {a:Act} {w:World} (l:ops[i]? =some o)
  (h:wpList P ops (hQ (λd w'=>S w'/\wpAnyH P md ops Q S c (b.setIfInBounds i true) d w') Q) [o] a w):wpOp P ops Q i (λd w'=>S w'/\wpAnyH P md ops Q S c (b.setIfInBounds i true) d w') a w:=by
 unfold wpOp;simp only[l];unfold wpList at h
 by_cases g:Region.wanted o (yielded ops a.tmps)=true
 ·rw[yz g] at h⊢;rcases h with h|⟨j,k⟩
  ·left;unfold Oper.wp at*;generalize(execOp a.eval o).run P w=r at*
   cases r with
   |ok n w'=>
    cases n<;>simp only[Oper.upon,wpList] at h⊢<;>
     first
      |exact h
      |exact Calls.mono h (λe m f=>by cases e<;>exact f)
      |exact Rows.mono h (λ_ _ f=>f)
   |halt x w'=>cases x<;>simp only[Oper.upon] at h⊢<;>exact h
  ·right;exact⟨j,k⟩
 ·rw[yw g] at h⊢;exact h
theorem ax {i:Nat} {o:Oper} {c:Nat} {b:Array Bool} {a:Act} {w:World} (g:Region.ready md ops b=[i]) (f:ops[i]? =some o)
  (h:wpList P ops (hQ (λd w'=>S w'/\wpAnyH P md ops Q S c (b.setIfInBounds i true) d w') Q) [o] a w):wpAnyH P md ops Q S (c+1) b a w:=by
 refine wpAnyH_all g (by simp) (λj e=> ?_);obtain rfl:j=i:=by simpa using e
 exact qA f h
theorem heldTwoP {i j:Nat} {o f:Oper} {c:Nat} {b:Array Bool} {a:Act} {w:World} (m:Region.ready md ops b=[i,j]) (l:ops[i]? =some o) (e:ops[j]? =some f)
  (h:wpList P ops (hQ (λd w'=>S w'/\wpAnyH P md ops Q S c (b.setIfInBounds i true) d w') Q) [o] a w)
  (g:wpList P ops (hQ (λd w'=>S w'/\wpAnyH P md ops Q S c (b.setIfInBounds j true) d w') Q) [f] a w):wpAnyH P md ops Q S (c+1) b a w:=by
 refine wpAnyH_all m (by simp) (λk hk=> ?_);simp only[yC,yI,AH] at hk;rcases hk with rfl|rfl
 ·exact qA l h
 ·exact qA e g
end
end
section
open Go.RowKit Go.Maps
def SXY (a b k x y:Nat) (W:World):Prop:=W.cell? ⟨a,k,none⟩=some (.int .i64 (x:Nat))/\W.cell? ⟨b,k,none⟩=some (.int .i64 (y:Nat))
theorem sxy {W:World} {a b k x y:Nat} {X Y:Array Value} {T T':TypeId} (e:Box W a X T) (f:Box W b Y T') (c:X[k]? =some (.int .i64 (x:Nat))) (d:Y[k]? =some (.int .i64 (y:Nat))):SXY a b k x y W:=⟨e.at_ k _ c,f.at_ k _ d⟩
theorem eq_step {xs ys:List Nat} {k t:Nat} (b:xs.length=16) (c:ys.length=16) (hk:k<16):eqB (xs.drop k) (ys.drop k) t=
  (gU (xs.getD k 0) (ys.getD k 0)).bind λu=>(fE u).bind λv=>(dJ t v).bind λa=>eqB (xs.drop (k+1)) (ys.drop (k+1)) a:=by
 conv=>lhs;rw[bJ (ws:=xs) (k:=k) (by omega),bJ (ws:=ys) (k:=k) (by omega)]
 rfl
theorem lt_step {xs ys:List Nat} {k t:Nat} (d:xs.length=16) (e:ys.length=16) (hk:k<16):ltB (xs.drop k) (ys.drop k) t=
  (fE (xs.getD k 0)).bind λa=>(dJ a (ys.getD k 0)).bind λu=>(gU (xs.getD k 0) (ys.getD k 0)).bind λz=>(fE z).bind λb=>(dJ b t).bind λv=>(orB u v).bind λc=>ltB (xs.drop (k+1)) (ys.drop (k+1)) c:=by
 conv=>lhs;rw[bJ (ws:=xs) (k:=k) (by omega),bJ (ws:=ys) (k:=k) (by omega)]
 rfl
theorem m5 (w:World) (g:Nat) (C:BC) (d:List Nd) (r:BB w g C d) (xs ys:List Nat) (hx:okW d xs) (hy:okW d ys):
  Calls Tryz.prog 273 #[.pointer (some ⟨g,0,none⟩),.agg (wv xs),.agg (wv ys)] w (eT bI okN w g C d (eqB xs ys 1 d)):=by
 have ad:=zl r;obtain⟨a,U,HY⟩:=zk3 r hx hy;have J:Hid (eqB xs ys 1 d=eqB (xs.drop 0) (ys.drop 0) 1 d):=zh (by rw[yO,yO]);clear r hx hy;go_enter Tryz.func273,Tryz.ntmps273;generalize ac:eqB xs ys 1 d=PQ at*;clear ac;obtain⟨CX,B⟩:=zv (wv xs);obtain⟨CY,D⟩:=zv (wv ys);obtain⟨H,I⟩:=zk2 B D;rw[<-B,<-D];clear B D;go_upto_region 2 with fail;generalize R:w.alloc _=zw1 at*;generalize T:zw1.alloc _=w1 at*;obtain⟨Z,c,f⟩:=zB2 R T;clear R T;replace a:=zh (a.out.below Z);rw[H.out] at c;rw[I.out] at f;clear H I;go_wp2_with fail
 go_loopw [7,9] (λs i wr=>∃(k t:Nat) (A:List Nd),k<=16/\i= .int .i64 k/\s= .int .i64 t/\BB wr g C A/\Ext d A/\okN A t/\Box wr w.heap.size (wv xs) 146/\Box wr (w.heap.size+1) (wv ys) 146/\w.grownBy wr (some g)/\PQ=eqB (xs.drop k) (ys.drop k) t A) (λ_ i _=>16-(intOf i).toNat)
 case atStart=>exact⟨0,1,d,yt _,rfl,rfl,a,Ext.refl d,by have:=a.out.2.two;show 1<_;omega,c,f,aI Z,J⟩
 case round=>
  obtain⟨k,t,A,hk,rfl,rfl,r,p,N,P,Q,j,hq⟩:=hrel;clear a Z c f J;obtain⟨a,m,E,c,f,b⟩:=zk6 r p N P Q j;have l:=zh hq;clear r p N P Q j hq
  by_cases q:k<16
  ·have L:(k:Int)<16:=by omega
   have k0:(0:Int)<=(k:Int):=by omega
   have X:=zh ((U.out.ext m).at q);have Y:=zh ((HY.out.ext m).at q);have F:=zh (cx (ws:=xs) (k:=k) (by rw[U.out.1];exact q));have G:=zh (cx (ws:=ys) (k:=k) (by rw[HY.out.1];exact q));replace l:=zh (l.out.trans (congrFun (eq_step U.out.1 HY.out.1 q) A));generalize xs.getD k 0=x at*;generalize ys.getD k 0=y at*;go_upto_region 5 with fail;refine Ab (S:=SXY w.heap.size (w.heap.size+1) k x y) (by kernel_rfl) (sxy c f F G) (λhS=> ?_);have o:Below wr.heap.size wr wr.drew:=ae _;replace c:=zb c o;replace f:=zb f o;replace a:=zb a o;replace b:=zh (aj b o);clear o;generalize wr.drew=w2 at*;refine zt 0 (.pointer (some ⟨g,0,none⟩)) rfl (Or.inl ⟨by rfl,λW n=>by go_simp⟩) ?_;simp only[zp];refine zt 1 (.int .i64 (t:Nat)) rfl (Or.inl ⟨by rfl,λW n=>by go_simp⟩) ?_;simp only[zp];refine zt 2 (.pointer (some ⟨g,0,none⟩)) rfl (Or.inl ⟨by rfl,λW n=>by go_simp⟩) ?_;simp only[zp];refine zt 3 (.pointer (some ⟨g,0,none⟩)) rfl (Or.inl ⟨by rfl,λW n=>by go_simp⟩) ?_;simp only[zp];refine zt 4 (.int .i64 (k:Nat)) rfl (Or.inl ⟨by rfl,λW n=>by go_simp⟩) ?_;simp only[zp];refine zt 5 (.pointer (some ⟨w.heap.size,k,none⟩)) rfl (Or.inl ⟨by rfl,λW n=>by go_simp⟩) ?_;simp only[zp];refine zt 6 (.int .i64 (x:Nat)) rfl (Or.inl ⟨by rfl,λW n=>by obtain⟨s1,s2⟩:=n;go_simp⟩) ?_;simp only[zp];refine zt 7 (.int .i64 (k:Nat)) rfl (Or.inl ⟨by rfl,λW n=>by go_simp⟩) ?_;simp only[zp];refine zt 8 (.pointer (some ⟨w.heap.size+1,k,none⟩)) rfl (Or.inl ⟨by rfl,λW n=>by go_simp⟩) ?_;simp only[zp];refine zt 9 (.int .i64 (y:Nat)) rfl (Or.inl ⟨by rfl,λW n=>by obtain⟨s1,s2⟩:=n;go_simp⟩) ?_;simp only[zp];clear hS;refine ax (i:=10) (by kernel_rfl) rfl ?_;go_wp2_with fail;have z:=zh (oP w2 g C A a x y X Y);refine z.out.mono λe w3 h=> ?_;have hz:=zo l m b h;clear l a m b h z;rcases hz with⟨rfl,hn⟩|⟨u,d3,rfl,l,a,p,HU,j,m,b⟩
   ·exact⟨rfl,zn hn⟩
   replace c:=zg c j (by omega);replace f:=zg f j (by omega);replace E:=zh (E.out.ext p);clear p j;unfold bI;go_wp2_with fail;refine⟨sxy c f F G, ?_⟩;refine ax (i:=11) (by kernel_rfl) rfl ?_;go_wp2_with fail;have z:=zh (kc w3 g C d3 a u HU);refine z.out.mono λe w4 h=> ?_;have hz:=zo l m b h;clear l a m b h z;rcases hz with⟨rfl,hn⟩|⟨v,d4,rfl,l,a,p,HV,j,m,b⟩
   ·exact⟨rfl,zn hn⟩
   replace c:=zg c j (by omega);replace f:=zg f j (by omega);replace E:=zh (E.out.ext p);clear p j;unfold bI;go_wp2_with fail;refine⟨sxy c f F G, ?_⟩;refine ax (i:=12) (by kernel_rfl) rfl ?_;go_wp2_with fail;have z:=zh (jI w4 g C d4 a t v E HV);refine z.out.mono ?_;intro e w5 h;rcases h.cases with⟨t',d5,V,rfl,r,p,N,j⟩|⟨V,rfl,j⟩
   rotate_left
   ·refine⟨rfl, ?_⟩;rw[l.out,bU V];exact⟨ap b j,rfl⟩
   have M:=l.out.trans (bind_some V);replace l:=zh M;have ab:=zh N;replace a:=zh r;replace c:=zg c j (by omega);replace f:=zg f j (by omega);replace m:=zh (m.out.trans p);replace b:=zh (ap b j);clear M V r p N j h z;unfold bI;go_wp2_with fail;refine⟨sxy c f F G, ?_⟩;refine ax (i:=13) (by kernel_rfl) rfl ?_;go_wp2_with fail;refine⟨sxy c f F G,AN (by kernel_rfl) ?_ _⟩;go_wp2_with fail;go_roundw
   ·exact⟨k+1,t',d5,by omega,by go_num,rfl,a,m,ab,c,f,b,l⟩
   ·simp[intOf];omega
  ·have L:¬(k:Int)<16:=by omega
   have K:k=16:=by omega
   subst K
   have aa:Hid (PQ=some (t,A)):=zh (by
    rw[l.out,AF (by rw[U.out.1];exact yq _)];rfl)
   go_wp2_with fail;go_ret;rw[aa.out];exact⟨b,rfl,a,m,E⟩
theorem qS (w:World) (g:Nat) (C:BC) (d:List Nd) (G:BB w g C d) (xs ys:List Nat) (hx:okW d xs) (hy:okW d ys):
  Calls Tryz.prog 206 #[.pointer (some ⟨g,0,none⟩),.agg (wv xs),.agg (wv ys)] w (eT bI okN w g C d (ltB xs ys 0 d)):=by
 have ah:=zl G;obtain⟨a,HX,HY⟩:=zk3 G hx hy;have Q:Hid (ltB xs ys 0 d=ltB (xs.drop 0) (ys.drop 0) 0 d):=zh (by rw[yO,yO]);clear G hx hy;go_enter Tryz.func206,Tryz.ntmps206;generalize ag:ltB xs ys 0 d=PQ at*;clear ag;obtain⟨CX,L⟩:=zv (wv xs);obtain⟨CY,M⟩:=zv (wv ys);obtain⟨N,P⟩:=zk2 L M;rw[<-L,<-M];clear L M;go_upto_region 2 with fail;generalize Z:w.alloc _=zw1 at*;generalize aa:zw1.alloc _=w1 at*;obtain⟨HB,f,h⟩:=zB2 Z aa;clear Z aa;replace a:=zh (a.out.below HB);rw[N.out] at f;rw[P.out] at h;clear N P;go_wp2_with fail
 go_loopw [7,11] (λs i wr=>∃(k t:Nat) (J:List Nd),k<=16/\i= .int .i64 k/\s= .int .i64 t/\BB wr g C J/\Ext d J/\okN J t/\Box wr w.heap.size (wv xs) 146/\Box wr (w.heap.size+1) (wv ys) 146/\w.grownBy wr (some g)/\PQ=ltB (xs.drop k) (ys.drop k) t J) (λ_ i _=>16-(intOf i).toNat)
 case atStart=>exact⟨0,0,d,yt _,rfl,rfl,a,Ext.refl d,by have:=a.out.2.two;show 0<_;omega,f,h,aI HB,Q⟩
 case round=>
  obtain⟨k,t,J,hk,rfl,rfl,G,l,V,X,Y,j,hq⟩:=hrel;clear a HB f h Q;obtain⟨a,o,D,f,h,b⟩:=zk6 G l V X Y j;have n:=zh hq;clear G l V X Y j hq
  by_cases B:k<16
  ·have T:(k:Int)<16:=by omega
   have k0:(0:Int)<=(k:Int):=by omega
   have r:=zh ((HX.out.ext o).at B);have A:=zh ((HY.out.ext o).at B);have E:=zh (cx (ws:=xs) (k:=k) (by rw[HX.out.1];exact B));have F:=zh (cx (ws:=ys) (k:=k) (by rw[HY.out.1];exact B));replace n:=zh (n.out.trans (congrFun (lt_step HX.out.1 HY.out.1 B) J));generalize xs.getD k 0=x at*;generalize ys.getD k 0=y at*;go_upto_region 5 with fail;refine Ab (S:=SXY w.heap.size (w.heap.size+1) k x y) (by kernel_rfl) (sxy f h E F) (λhS=> ?_);have m:Below wr.heap.size wr wr.drew:=ae _;replace f:=zb f m;replace h:=zb h m;replace a:=zb a m;replace b:=zh (aj b m);clear m;generalize wr.drew=w2 at*;refine zt 0 (.pointer (some ⟨g,0,none⟩)) rfl (Or.inl ⟨by rfl,λW p=>by go_simp⟩) ?_;simp only[zp];refine zt 1 (.pointer (some ⟨g,0,none⟩)) rfl (Or.inl ⟨by rfl,λW p=>by go_simp⟩) ?_;simp only[zp];refine zt 2 (.int .i64 (k:Nat)) rfl (Or.inl ⟨by rfl,λW p=>by go_simp⟩) ?_;simp only[zp];refine zt 3 (.pointer (some ⟨w.heap.size,k,none⟩)) rfl (Or.inl ⟨by rfl,λW p=>by go_simp⟩) ?_;simp only[zp];refine zt 4 (.int .i64 (x:Nat)) rfl (Or.inl ⟨by rfl,λW p=>by obtain⟨s1,s2⟩:=p;go_simp⟩) ?_;simp only[zp];refine zt 6 (.int .i64 (k:Nat)) rfl (Or.inl ⟨by rfl,λW p=>by go_simp⟩) ?_;simp only[zp];refine zt 7 (.pointer (some ⟨w.heap.size+1,k,none⟩)) rfl (Or.inl ⟨by rfl,λW p=>by go_simp⟩) ?_;simp only[zp];refine zt 8 (.int .i64 (y:Nat)) rfl (Or.inl ⟨by rfl,λW p=>by obtain⟨s1,s2⟩:=p;go_simp⟩) ?_;simp only[zp];clear hS;refine ax (i:=5) (by kernel_rfl) rfl ?_;go_wp2_with fail;have q:=zh (kc w2 g C J a x r);refine q.out.mono λe w3 c=> ?_;have I:=zo n o b c;clear n a o b c q;rcases I with⟨rfl,H⟩|⟨nx,d3,rfl,n,a,l,ab,j,o,b⟩
   ·exact⟨rfl,zn H⟩
   replace f:=zg f j (by omega);replace h:=zg h j (by omega);replace D:=zh (D.out.ext l);replace r:=zh (r.out.ext l);replace A:=zh (A.out.ext l);clear l j;unfold bI;go_wp2_with fail;refine⟨sxy f h E F, ?_⟩;refine ax (i:=9) (by kernel_rfl) rfl ?_;go_wp2_with fail;have q:=zh (jI w3 g C d3 a nx y ab A);refine q.out.mono λe w4 c=> ?_;have I:=zo n o b c;clear n a o b c q;rcases I with⟨rfl,H⟩|⟨u,d4,rfl,n,a,l,K,j,o,b⟩
   ·exact⟨rfl,zn H⟩
   replace f:=zg f j (by omega);replace h:=zg h j (by omega);replace D:=zh (D.out.ext l);replace r:=zh (r.out.ext l);replace A:=zh (A.out.ext l);clear l j;unfold bI;go_wp2_with fail;refine⟨sxy f h E F, ?_⟩;refine ax (i:=10) (by kernel_rfl) rfl ?_;go_wp2_with fail;refine⟨sxy f h E F,AN (by kernel_rfl) ?_ _⟩;go_upto_region 6 with fail;refine Ab (S:=SXY w.heap.size (w.heap.size+1) k x y) (by kernel_rfl) (sxy f h E F) (λhS=> ?_);have m:Below w4.heap.size w4 w4.drew:=ae _;replace f:=zb f m;replace h:=zb h m;replace a:=zb a m;replace b:=zh (aj b m);clear m;generalize w4.drew=w5 at*;refine zt 0 (.pointer (some ⟨g,0,none⟩)) rfl (Or.inl ⟨by rfl,λW p=>by go_simp⟩) ?_;simp only[zp];refine zt 1 (.pointer (some ⟨g,0,none⟩)) rfl (Or.inl ⟨by rfl,λW p=>by go_simp⟩) ?_;simp only[zp];refine zt 2 (.pointer (some ⟨g,0,none⟩)) rfl (Or.inl ⟨by rfl,λW p=>by go_simp⟩) ?_;simp only[zp];refine zt 3 (.int .i64 (k:Nat)) rfl (Or.inl ⟨by rfl,λW p=>by go_simp⟩) ?_;simp only[zp];refine zt 4 (.pointer (some ⟨w.heap.size,k,none⟩)) rfl (Or.inl ⟨by rfl,λW p=>by go_simp⟩) ?_;simp only[zp];refine zt 5 (.int .i64 (x:Nat)) rfl (Or.inl ⟨by rfl,λW p=>by obtain⟨s1,s2⟩:=p;go_simp⟩) ?_;simp only[zp];refine zt 6 (.int .i64 (k:Nat)) rfl (Or.inl ⟨by rfl,λW p=>by go_simp⟩) ?_;simp only[zp];refine zt 7 (.pointer (some ⟨w.heap.size+1,k,none⟩)) rfl (Or.inl ⟨by rfl,λW p=>by go_simp⟩) ?_;simp only[zp];refine zt 8 (.int .i64 (y:Nat)) rfl (Or.inl ⟨by rfl,λW p=>by obtain⟨s1,s2⟩:=p;go_simp⟩) ?_;simp only[zp];refine zt 11 (.int .i64 (t:Nat)) rfl (Or.inl ⟨by rfl,λW p=>by go_simp⟩) ?_;simp only[zp];clear hS;refine ax (i:=9) (by kernel_rfl) rfl ?_;go_wp2_with fail;have q:=zh (oP w5 g C d4 a x y r A);refine q.out.mono λe w6 c=> ?_;have I:=zo n o b c;clear n a o b c q;rcases I with⟨rfl,H⟩|⟨z,d6,rfl,n,a,l,HZ,j,o,b⟩
   ·exact⟨rfl,zn H⟩
   replace f:=zg f j (by omega);replace h:=zg h j (by omega);replace D:=zh (D.out.ext l);replace K:=zh (K.out.ext l);clear l j;unfold bI;go_wp2_with fail;refine⟨sxy f h E F, ?_⟩;refine ax (i:=10) (by kernel_rfl) rfl ?_;go_wp2_with fail;have q:=zh (kc w6 g C d6 a z HZ);refine q.out.mono λe w7 c=> ?_;have I:=zo n o b c;clear n a o b c q;rcases I with⟨rfl,H⟩|⟨nz,d7,rfl,n,a,l,ac,j,o,b⟩
   ·exact⟨rfl,zn H⟩
   replace f:=zg f j (by omega);replace h:=zg h j (by omega);replace D:=zh (D.out.ext l);replace K:=zh (K.out.ext l);clear l j;unfold bI;go_wp2_with fail;refine⟨sxy f h E F, ?_⟩;refine ax (i:=12) (by kernel_rfl) rfl ?_;go_wp2_with fail;have q:=zh (jI w7 g C d7 a nz t ac D);refine q.out.mono λe w8 c=> ?_;have I:=zo n o b c;clear n a o b c q;rcases I with⟨rfl,H⟩|⟨v,d8,rfl,n,a,l,HV,j,o,b⟩
   ·exact⟨rfl,zn H⟩
   replace f:=zg f j (by omega);replace h:=zg h j (by omega);replace K:=zh (K.out.ext l);clear l j;unfold bI;go_wp2_with fail;refine⟨sxy f h E F, ?_⟩;refine ax (i:=13) (by kernel_rfl) rfl ?_;go_wp2_with fail;refine⟨sxy f h E F,AN (by kernel_rfl) ?_ _⟩;have q:=zh (qQ w8 g C d8 a u v K HV);go_wp2_with fail;refine q.out.mono ?_;intro e w9 c;rcases c.cases with⟨t',d9,hr,rfl,G,l,V,j⟩|⟨hr,rfl,j⟩
   rotate_left
   ·refine⟨rfl, ?_⟩;rw[n.out,bU hr];exact⟨ap b j,rfl⟩
   have U:=n.out.trans (bind_some hr);replace n:=zh U;have af:=zh V;replace a:=zh G;replace f:=zg f j (by omega);replace h:=zg h j (by omega);replace o:=zh (o.out.trans l);replace b:=zh (ap b j);clear U hr G l V j c q;unfold bI;go_wp2_with fail;go_roundw
   ·exact⟨k+1,t',d9,by omega,by go_num,rfl,a,o,af,f,h,b,n⟩
   ·simp[intOf];omega
  ·have T:¬(k:Int)<16:=by omega
   have R:k=16:=by omega
   subst R
   have ad:Hid (PQ=some (t,J)):=zh (by
    rw[n.out,AF (by rw[HX.out.1];exact yq _)];rfl)
   go_wp2_with fail;go_ret;rw[ad.out];exact⟨b,rfl,a,o,D⟩
def SW2 (a b:Nat) (X Y:Array Value) (W:World):Prop:=Box W a X 146/\Box W b Y 146
theorem lu (w:World) (g:Nat) (C:BC) (d:List Nd) (G:BB w g C d) (xs ys:List Nat) (hx:okW d xs) (hy:okW d ys):
  Calls Tryz.prog 129 #[.pointer (some ⟨g,0,none⟩),.agg (wv xs),.agg (wv ys)] w (eT cH okW w g C d (oI xs ys d)):=by
 have ab:=zl G;obtain⟨a,HX,HY⟩:=zk3 G hx hy;have o:Hid (oI xs ys d=((iS ys).bind λz=>(fk xs z 1).bind λr=>Bm.ret r) d):=zh (by simp only[dH];rfl);have h2:=G.2.two;clear G hx hy;go_enter Tryz.func129,Tryz.ntmps129;generalize V:oI xs ys d=PQ at*;clear V;obtain⟨H,s⟩:=zv (wv xs);obtain⟨I,t⟩:=zv (wv ys);obtain⟨y,A⟩:=zk2 s t;rw[<-s,<-t];clear s t;have P:Hid (H.size=16):=zh (by rw[y.out,ak,HX.out.1]);have Q:Hid (I.size=16):=zh (by rw[A.out,ak,HY.out.1]);have N:Hid ((wv z16).size=16):=zh (by rw[ak];rfl);go_upto_region 1 with fail;rw[<-dr];generalize D:w.alloc _=zw1 at*;generalize E:zw1.alloc _=zw2 at*;generalize F:zw2.alloc _=w1 at*;obtain⟨J,h,j,n⟩:=zB3 D E F;clear D E F;replace a:=zh (a.out.below J);have b:=zh (aI (row:=some g) J);have k:=zh (Ext.refl d);clear J;refine Ab (S:=SW2 w.heap.size (w.heap.size+1) H I) (by kernel_rfl) ⟨h,j⟩ (λhS=> ?_);have c:Below w1.heap.size w1 w1.drew:=ae _;replace h:=zb h c;replace j:=zb j c;replace n:=zb n c;replace a:=zb a c;replace b:=zh (aj b c);clear c;generalize w1.drew=w2 at*;refine zt 0 (.pointer (some ⟨g,0,none⟩)) rfl (Or.inl ⟨by rfl,λW B=>by go_simp⟩) ?_;simp only[zp];refine zt 1 (.agg H) rfl (mL (by rfl) _ (by rfl) w.heap.size (by rfl) (λW B=>B.1) P) ?_;simp only[zp];refine zt 2 (.pointer (some ⟨g,0,none⟩)) rfl (Or.inl ⟨by rfl,λW B=>by go_simp⟩) ?_;simp only[zp];refine zt 3 (.agg I) rfl (mL (by rfl) _ (by rfl) (w.heap.size+1) (by rfl) (λW B=>B.2) Q) ?_;simp only[zp];clear hS;refine ax (i:=4) (by kernel_rfl) rfl ?_;go_wp2_with fail;rw[A.out];have x:=zh (lw w2 g C d a ys HY);refine x.out.mono λe w3 f=> ?_;have Z:=zo o k b f;clear o a k b f x;rcases Z with⟨rfl,Y⟩|⟨z,d3,rfl,o,a,X,HZ,m,k,b⟩
 ·exact⟨rfl,zn Y⟩
 replace h:=zg h m (by omega);replace j:=zg j m (by omega);replace n:=zg n m (by omega);clear X m;unfold cH;have aa:Hid ((wv z).size=16):=zh (by rw[ak,HZ.out.1]);obtain⟨CZ,u⟩:=zv (wv z);have L:=zh u;rw[<-u];clear u;go_wp2_with fail;refine⟨⟨h,j⟩, ?_⟩;refine ax (i:=5) (by kernel_rfl) rfl ?_;go_wp2_with fail;rw[y.out,L.out];have x:=zh (wm w3 g C d3 a xs z (HX.out.ext k) HZ 1 (by have:=qD k;show 1<_;omega));refine x.out.mono λe w4 f=> ?_;have Z:=zo o k b f;clear o a k b f x;rcases Z with⟨rfl,Y⟩|⟨r,d4,rfl,o,a,X,HR,m,k,b⟩
 ·exact⟨rfl,zn Y⟩
 replace h:=zg h m (by omega);replace j:=zg j m (by omega);replace n:=zg n m (by omega);clear X m;unfold cH;have p:Hid ((wv r).size=16):=zh (by rw[ak,HR.out.1]);have H1:Hid ((wv r).all (·.oneCell')=true):=zh (bo _);obtain⟨CR,q⟩:=zv (wv r);have K:=zh q;rw[<-q] at p H1⊢;clear q;go_wp2_with fail;refine⟨⟨h,j⟩, ?_⟩;refine ax (i:=6) (by kernel_rfl) rfl ?_;go_wp2_with(refine aM rfl _ _ rfl (w.heap.size+1+1) CR (by rfl) (by rfl) n N p H1 ?_;intro w5 R l);have T:=zh (ai h l (by omega));have U:=zh (ai j l (by omega));refine⟨⟨T,U⟩,AN (by kernel_rfl) ?_ _⟩;go_wp2_with fail;refine yQ (v:= .agg CR) (aV Tryz.results129 _ rfl R p) rfl ?_;have M:PQ=some (r,d4):=o.out;rw[M,K.out];exact⟨aG b l (by omega),rfl,a.out.grownBox n (by decide) (by omega) l,k,HR⟩
end
end Go.Proofs.YtdahpdnhkflnnaaGreatDoor
