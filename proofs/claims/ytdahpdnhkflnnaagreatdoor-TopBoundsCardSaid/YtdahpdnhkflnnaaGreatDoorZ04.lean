/-
  Contracts and laws for the law TopBounds, part 4 of 12; made small by a program of mine out of longer texts.
-/
import Derived.Test.YtdahpdnhkflnnaaGreatDoorZ02
set_option linter.unusedVariables false
set_option linter.unusedSimpArgs false
set_option linter.unusedSectionVars false
set_option linter.defProp false
set_option maxRecDepth 100000
set_option maxHeartbeats 64000000
namespace Go.Proofs.YtdahpdnhkflnnaaGreatDoor
open Value renaming int → zI, slice → zU, string → zV, bool → zW, agg → zX, tuple → zY
open IntKind renaming i64 → zi
open Ending renaming returned → zE
open Obj renaming cells → zC
open List renaming length → zN, getD → zG
open Or renaming inl → zQ, inr → zO
open Go.Proofs.Tryz
section
open Go.RowKit Go.Maps
section
variable (W w:World)
def X7 (p q r:Bool):Calls zz 270 #[zW p,zW q,zW r] W (zR (zW (!p)) W):=by
 cases p<;>cases q<;>cases r
 all_goals
  go_enter func270,ntmps270;go_wp2;go_ret;exact⟨rfl,DM _ _⟩
def X8 (p q r:Bool):Calls zz 76 #[zW p,zW q,zW r] W (zR (zW (p&&q)) W):=by
 cases p<;>cases q<;>cases r
 all_goals
  go_enter func76,ntmps76;go_wp2;go_ret;exact⟨rfl,DM _ _⟩
def YY (p q r:Bool):Calls zz 268 #[zW p,zW q,zW r] W (zR (zW (p||q)) W):=by
 cases p<;>cases q<;>cases r
 all_goals
  go_enter func268,ntmps268;go_wp2;go_ret;exact⟨rfl,DM _ _⟩
def X3 (p q r:Bool):Calls zz 316 #[zW p,zW q,zW r] W (zR (zW (p !=q)) W):=by
 cases p<;>cases q<;>cases r
 all_goals
  go_enter func316,ntmps316;go_wp2;go_ret;exact⟨rfl,DM _ _⟩
def PN (p q r:Bool):Calls zz 271 #[zW p,zW q,zW r] W (zR (zW (p&&q|| !p&&r)) W):=by
 cases p<;>cases q<;>cases r
 all_goals
  go_enter func271,ntmps271;go_wp2;go_ret;exact⟨rfl,DM _ _⟩
theorem WX (w:World):Calls zz 36 #[] w λe w'=>∃x,e=zE (zX #[x])/\Rs ndR w' x cX ah/\zL w w':=by
 go_enter func36,ntmps36;go_upto_region 1 with fail;generalize g:w.alloc _=w1 at*;have⟨c,b⟩:=zB1 g;have h:=zh b.lt;have f:=ab w1 (zC #[zI zi 20,zI zi 0,zI zi 0,zI zi 20,zI zi 1,zI zi 1] 95);have i:=zh (Box.new w1 95 #[zI zi 20,zI zi 0,zI zi 0,zI zi 20,zI zi 1,zI zi 1]);replace⟨b,c⟩:=zb2 b c f;have k:=b.lt;have x0:=za b 0;have m:=b.Z 0;go_wp2;refine D7 (v:=zX #[zU (some ⟨w1.heap.size,0,none⟩) 2 2]) (by simp[results,results36,go_sem,x0]) rfl ?_;have l:w.heap.size<w1.heap.size:=by have:=h.out;omega
 refine⟨_,rfl, ?_,c.setCell (p:=⟨w.heap.size,0,none⟩) (DE _) _⟩;have d:=i.setNe ⟨w.heap.size,0,none⟩ (zU (some ⟨w1.heap.size,0,none⟩) 2 2);exact ku (φ:=ndR) (xs:=cX) (uss:=[ndL ⟨20,0,0⟩,ndL ⟨20,1,1⟩]) d rfl (λj x a=>by
  match j,a with
  |0,a=>
   obtain rfl:(⟨20,0,0⟩:Nd)=x:=by simpa [cX] using a
   rfl
  |1,a=>
   obtain rfl:(⟨20,1,1⟩:Nd)=x:=by simpa [cX] using a
   rfl
  |j+2,a=>simp[cX] at a)
def Ux (x y:Value) (l:List Nd) (K:Rs ndR w x l ah) (L:Rs ndR w y l ah) (I:zN l<=8192):Calls zz 116 #[x,y] w (zR (zW true) w):=by
 obtain⟨A,c,rfl, -,F⟩:=K.nds;obtain⟨A2,c2,rfl, -,G⟩:=L.nds;have⟨r,s⟩:=zk2 F G;have⟨N,H⟩:=zv (zN l);rw[<-H] at r s I⊢;have m:=zh (DM w.heap.size w);have J:((N:Int) !=(N:Int))=false:=by simp
 go_enter func116,ntmps116;go_wp2;go_loopw [13] (λi wr=>∃k:Nat,k<=N/\i=zI zi k/\zL w wr) (λi _=>N-(intOf i).toNat)
 .exact⟨0,DH _,rfl,m⟩
 obtain⟨k,hk,rfl,n⟩:=hrel;have d:=zh n;by_cases e:k<N
 .have⟨j,P⟩:=zln e;obtain⟨b,o,rfl,f,q,z,B⟩:=r k e;obtain⟨g,h,rfl,a,C,D,E⟩:=s k e;have M:=zh q;generalize ndA l k=nd at*;obtain⟨t,u,v⟩:=nd;simp only at q z B C D E;have Q:∀p:Lat wr,p.w.cell? ⟨b,o+k*3,none⟩=some (zI zi t):=λp=>((aa d p.h).cell (p:=⟨b,o+k*3,none⟩) f).trans q;have R:∀p:Lat wr,p.w.cell? ⟨b,o+k*3+1,none⟩=some (zI zi u):=λp=>((aa d p.h).cell (p:=⟨b,o+k*3+1,none⟩) f).trans z;have S:∀p:Lat wr,p.w.cell? ⟨b,o+k*3+2,none⟩=some (zI zi v):=λp=>((aa d p.h).cell (p:=⟨b,o+k*3+2,none⟩) f).trans B;have T:∀p:Lat wr,p.w.cell? ⟨g,h+k*3,none⟩=some (zI zi t):=λp=>((aa d p.h).cell (p:=⟨g,h+k*3,none⟩) a).trans C;have U:∀p:Lat wr,p.w.cell? ⟨g,h+k*3+1,none⟩=some (zI zi u):=λp=>((aa d p.h).cell (p:=⟨g,h+k*3+1,none⟩) a).trans D;have V:∀p:Lat wr,p.w.cell? ⟨g,h+k*3+2,none⟩=some (zI zi v):=λp=>((aa d p.h).cell (p:=⟨g,h+k*3+2,none⟩) a).trans E;go_upto_region 6 with fail;refine az ?_;repeat(go_big_quiet_step (fail))
  refine D4 ?_;intro w2 n;replace d:=zb d n;go_wp2;go_roundw
  .exact⟨k+1,by omega,by go_num,d⟩
  simp[intOf];omega
 have j:=zge e;go_wp2;go_ret;exact⟨rfl,d⟩
def eV {w:World} {v:Value} {l:List Nd} {F:Nat->Prop} (h:Rs ndR w v l F) (G:Nat->Prop):Rs ndR w v l G:=by obtain⟨A,c,rfl,a,h⟩:=h;exact⟨A,c,rfl,a,h⟩
def xK (x:Value) (l:List Nd) (s:Rs ndR w x l ah) (z:0<zN l) (I:zN l<=8192):Calls zz 214 #[x] w λe w'=>∃v,e=zE v/\OG ndR w' w.heap.size w.heap.size 95 v l/\zL w w':=by
 obtain⟨A,c,rfl,H,D⟩:=s.nds;obtain⟨b,o,rfl,k, -⟩:=D 0 z;have⟨y,G⟩:=zk2 s k;have⟨F,hi,n,p,q⟩:=EX Vb;have⟨u,g,h,i⟩:=zk4 hi n p q;go_enter func214,ntmps214;have J:∀W,(binOp .eql 36 (zU (some ⟨b,o,none⟩) (zN l) c) (zU none 0 0)).run zz W= .ok (zW false) W:=λW=>Lib.run_eql_slice_nil W _ _ _ _ _ _ _ underlying36;go_upto_region 3 with fail;have a:=ab w (zC #[] 95);have r:=zh (OG.lit0 (φ:=ndR) w (B:=w.heap.size) (C:=w.heap.size) (T:=95) (by decide) (DE _) (DE _));have f:Hid (Rs ndR (w.alloc (zC #[] 95)) (zU (some ⟨b,o,none⟩) (zN l) c) l (Ty (w.alloc (zC #[] 95)) w.heap.size ndR.ts)):=zh ((eV y _).Q a);have t:=zh a;have d:=a.size;go_wp2_with(at_builtin;refine aD (φ:=ndR) (T:=95) (B:=w.heap.size) (C:=w.heap.size) (xs:=[]) (ys:=l) rfl _ _ 36 rfl F (zX #[zI zi 0,zI zi 0,zI zi 0]) 24 underlying36 u g h i rfl rfl r (zU (some ⟨b,o,none⟩) (zN l) c) rfl f ?c1 ?c2 ?c3 ?_);case c1=>simp only[D8];omega
 case c2=>simp only[D8];unfold maxLen;omega
 case c3=>exact d
 intro K w2 m E;have j:=zh (r.belowG E t d (DE _));go_wp2;go_ret;exact⟨_,rfl,m,j⟩
end
section
variable (j:Nat) (w:World)
def yU (a b m:Nat) (h:m=min a b) (ts:Array TypeId) (t:TypeId) (W:World):(Builtin.min_ ts t #[zI zi a,zI zi b]).run zz W= .ok (zI zi m) W:=by
 have e:(Builtin.min_ ts t #[zI zi a,zI zi b]).run zz W= .ok (zI zi (if(b:Int)<a then(b:Int) else a)) W:=by simp[Builtin.min_,Builtin.min2]
 rw[e];congr 2;subst h;split<;>omega
def Rw (A:Option Addr) (n c:Nat) (W:World):(Instr.field 38 (zX #[zU A n c]) 0).run zz W= .ok (zU A n c) W:=by kernel_rfl
def Cp (j:Nat) (D:List Nat) (d:List Nd):FOp:=⟨j,D,λv=>∃A c,v=zX #[zU A (zN d) c],λv w=>∃x,v=zX #[x]/\Rs ndR w x d ah⟩
def Uf (D:List Nat) (d:List Nd):∀u w w',(Cp j D d).Φ u w->zL w w'->(Cp j D d).Φ u w':=λu w w' ⟨x,e,h⟩ hb=>⟨x,e,h.Q hb⟩
def Ug (D:List Nat) (d:List Nd):(∀u w,(Cp j D d).Φ u w->(Cp j D d).S u)/\∃u,(Cp j D d).S u:=⟨λu w ⟨x,e,h⟩=>by
 obtain⟨A,c,rfl,_⟩:=h.slice;exact⟨A,c,e⟩,_,none,0,rfl⟩
theorem Dn {d:List Nd} (h:DV d):d.take 2=cX:=by
 have f:=h.two;have e0:=h.e0;have e1:=h.e1;match d,f,e0,e1 with
 |a::b::r,_,e0,e1=>have c:a=⟨20,0,0⟩:=e0;have e:b=⟨20,1,1⟩:=e1;rw[c,e];rfl
def UI (x:Value) (d:List Nd) (k:DV d) (h:Rs ndR w x d ah):Calls zz 66 #[x] w (zR (zW true) w):=by
 have m:=k.two;have B:=k.top;obtain⟨A,c,rfl,F,a⟩:=h.nds;obtain⟨b,o,rfl,r, -⟩:=a 0 (by omega);have q:Hid (Rs ndR w (zU (some ⟨b,o,none⟩) 2 c) cX ah):=zh (by have:=h.takeA 2 (by omega);rwa [Dn k] at this);have p:Hid (∀W,Calls zz 36 #[] W _):=zh WX;have u:((zN d:Int)≥2):=by omega
 have v:((zN d:Int)<=8192):=by omega
 have y:¬c<2:=by omega
 go_enter func66,ntmps66;go_upto_region 1 with fail;refine bB 15 (Kit.of [Cp 11 [] cX,ja 13 [11] (zW true)]) (Kit.of_stable ?_) (Kit.of_known ?_) ?_
 .intro z f;simp only[DS,DZ,EC] at f;rcases f with rfl|rfl
  .apply Uf
  apply dN
 .intro z f;simp only[DS,DZ,EC] at f;rcases f with rfl|rfl
  .apply Ug
  apply dO
 intro γ g C D t;obtain⟨A5,c5,i⟩:∃A c,γ 11=zX #[zU A 2 c]:=g 11 rfl;have l:γ 13=zW true:=g 13 rfl;simp only[Ee,El,Ei,D5];iterate 11 (refine aO rfl ?_;go_big_quiet_step (fail);refine D4 ?_)
 have s:=Rw A5 2 c5;refine wfg #[] func36 (λw' j n=>(p w').mono λe w2 ⟨x,he,a,m⟩=>⟨_,he,⟨x,rfl,a⟩,m⟩) ?_;simp only[DY,Nat.reduceAdd,i];go_simp;iterate 1 (refine aO rfl ?_;go_big_quiet_step (fail);refine D4 ?_)
 refine wfg #[zU (some ⟨b,o,none⟩) 2 c,zU A5 2 c5] func116 (λw' j n=>(Ux w' _ _ cX (q.Q j) (by obtain⟨x,e,h⟩:∃x,γ 11=zX #[x]/\Rs ndR w' x cX ah:=n 11 (show 11∈[11] by decide);rw[i] at e;simp at e;rwa [<-e] at h) (by decide)).mono λe w2 ⟨he,a⟩=>⟨_,he,rfl,a⟩) ?_;simp only[DY,Nat.reduceAdd,l];go_simp;iterate 1 (refine aO rfl ?_;go_big_quiet_step (fail);refine D4 ?_)
 intro w2 j E;go_wp2;go_ret;exact⟨rfl,j⟩
def Dl (x:Value) (d:List Nd) (l:DV d) (h:Rs ndR w x d ah) (i:Nat) (hi:2<=i) (n:i<zN d):Calls zz 67 #[x,zI zi i] w (zR (zW true) w):=by
 have z:=l.two;have B:=l.top;obtain⟨A,c,rfl,R,k⟩:=h.nds;obtain⟨b,o,rfl,f,y0,y1,y2⟩:=k i n;have⟨u,D,E,F,v,y⟩:=l.pl i hi n;obtain⟨_,_,e1,_,L, -⟩:=k (ndA d i).lo (by omega);simp only[DN,FK,FL] at e1;obtain⟨rfl,rfl⟩:=e1;obtain⟨_,_,e1,_,M, -⟩:=k (ndA d i).hi (by omega);simp only[DN,FK,FL] at e1;obtain⟨rfl,rfl⟩:=e1;unfold lvA at u v y;generalize ndA d i=nd,(ndA d (ndA d i).hi).lv=l2,(ndA d (ndA d i).lo).lv=l1 at*;obtain⟨lv,lo,a⟩:=nd;simp only at*;have⟨m,hm⟩:=zv (min l1 l2);have t:=yU l1 l2 m hm;have S:((lv:Int)≥0):=by omega
 have T:((lv:Int)<20):=by omega
 have U:((lo:Int)≥0):=by omega
 have V:((lo:Int)<(i:Int)):=by omega
 have W:((a:Int)≥0):=by omega
 have X:((a:Int)<(i:Int)):=by omega
 have Y:((lo:Int) !=(a:Int))=true:=by simp;omega
 have Z:((lv:Int)<(m:Int)):=by omega
 have q9:((lo:Int)<(zN d:Int)):=by omega
 have G:((a:Int)<(zN d:Int)):=by omega
 have H:((i:Int)<(zN d:Int)):=by omega
 have I:((0:Int)<=(i:Int)):=by omega
 have J:((0:Int)<=(lo:Int)):=by omega
 have K:((0:Int)<=(a:Int)):=by omega
 clear h k l hm u D E F v y hi n z B;go_enter func67,ntmps67;go_upto_region 2 with fail;generalize g:w.alloc _=w1 at*;have⟨e,j⟩:=zB1 g;clear g;obtain⟨q,r,s⟩:=zc3 j;go_upto_region 3 with fail;refine az ?_;have N:=j.lat 0 _ rfl;have P:=j.lat 1 _ rfl;have Q:=j.lat 2 _ rfl;have r1:∀p:Lat w1,p.w.cell? ⟨b,o+lo*3,none⟩=some (zI zi l1):=λp=>((e.trans (p.h.mono e.size)).cell (p:=⟨b,o+lo*3,none⟩) f).trans L;have r2:∀p:Lat w1,p.w.cell? ⟨b,o+a*3,none⟩=some (zI zi l2):=λp=>((e.trans (p.h.mono e.size)).cell (p:=⟨b,o+a*3,none⟩) f).trans M;repeat(go_big_quiet_step (fail))
 refine D4 ?_;intro w2 C;go_wp2;go_ret;exact⟨rfl,aa e C⟩
end
section
variable {d:List Nd} {b k:Nat} {w w':World}
section
variable {κ:Type} {kT:TypeId}
def Ru (φ:eD κ kT) (l:List κ):DataW Unit:=l.foldr (λp D=>D.put (φ.lit p) (.lit (.bool true))) (.map [])
def jk (φ:eD κ kT) (w:World) (b:Nat) (l:List κ):Prop:=(∀p∈l,φ.ok p)/\∃n,n<=zN l/\w.ownsMap (H:=Unit) zz kT (plainElem zz 4) b n (Ru φ l)
theorem vy (φ:eD κ kT):∀(l:List κ),IsMap (Ru φ l)
 |[]=>isMap_empty
 |p::l=>(vy φ l).put _ _
theorem AW [DecidableEq κ] (φ:eD κ kT) {x:κ} (a:φ.ok x):∀(l:List κ),(∀p∈l,φ.ok p)->(Ru φ l).atKey (φ.lit x) (.lit (.bool false))= .lit (.bool (decide (x∈l)))
 |[],_=>by simp[Ru];rfl
 |p::l,h=>by
  have b:=h p (by simp);show((Ru φ l).put (φ.lit p) (.lit (.bool true))).atKey (φ.lit x) (.lit (.bool false))=_;by_cases e:p=x
  .subst e;rw[atKey_put_same (vy φ l) (φ.K.key (φ.key p a)) _ _];simp
  rw[atKey_put_other (λh=>e (φ.lit_inj a b h).symm),AW φ a l (λq c=>h q (Ea _ c))];have:x≠p:=λh=>e h.symm;simp[this]
def jk.new (φ:eD κ kT) (w:World):jk φ (w.alloc (.map #[] 0)) w.heap.size []:=⟨λp h=>(by cases h),0,DE _,World.ownsMap_made _ _ _ _⟩
def jk.lt {φ:eD κ kT} {l:List κ} (h:jk φ w b l):b<w.heap.size:=by obtain⟨_,n,_,h⟩:=h;exact h.lt
def jk.grown {φ:eD κ kT} {l:List κ} {row:Option Nat} (h:jk φ w b l) (g:w.grownBy w' row) (a:row≠some b):jk φ w' b l:=by obtain⟨c,n,d,f⟩:=h;exact⟨c,n,d,f.kept g (λe=>a e.symm)⟩
def jk.Q {φ:eD κ kT} {l:List κ} (h:jk φ w b l) (a:zL w w'):jk φ w' b l:=h.grown (ft a none) (by simp)
instance {φ:eD κ kT} {w w':World} {b:Nat} {l:List κ}:Zm w w' (jk φ w b l) (jk φ w' b l):=⟨λhb h=>jk.Q h hb⟩
def ia {P:Program} {e:TypeId} (a:P.underlying e=some .bool) {v:Value} {z:DataW Unit×List MemPlace} (h:plainElem P e v=some z):∃x,v= .bool x/\z.1= .lit (.bool x):=by
 unfold plainElem at h;rw[a] at h;cases v<;>simp at h
 subst h;exact⟨_,rfl,rfl⟩
def jk.look [DecidableEq κ] {φ:eD κ kT} {mT:TypeId} (g:zz.underlying mT=some (.map kT 4)) {l:List κ} (h:jk φ w b l) {x:κ} (d:φ.ok x):(Instr.lookup mT (.map (some b)) (φ.kv x) false).run zz w= .ok (zW (decide (x∈l))) w:=by obtain⟨f,n,i,h⟩:=h;have⟨v,j,a,c⟩:=h.lookup φ.K g (z:=zW false) (by kernel_rfl) (plainElem_bool underlying4 false) (φ.key x d);rw[AW φ d l f] at c;obtain⟨y,rfl,e⟩:=ia underlying4 c;simp only[DataW.lit.injEq,Lit.bool.injEq] at e;rw[a,e]
def jk.upd {φ:eD κ kT} {mT:TypeId} (g:Tryz.prog.underlying mT=some (.map kT 4)) {l:List κ} (h:jk φ w b l) {x:κ} (d:φ.ok x) (m:zN l<maxLen):∃w',(Instr.mapUpdate mT (.map (some b)) (φ.kv x) (zW true)).run Tryz.prog w= .ok () w'/\jk φ w' b (x::l)/\w.grownBy w' (some b):=by
 obtain⟨e,n,k,f⟩:=h;have⟨w',a,j,i⟩:=f.update φ.K g (by omega) (φ.key x d) (plainElem_bool underlying4 true);refine⟨w',a,⟨λp c=> ?_,n+1,by simp;omega,j⟩,i⟩;rcases DS.1 c with rfl|c
 .exact d
 exact e p c
end
def U9 (a:DV d) (hk:k<zN d):PO (ndA d k):=by
 have f:=a.top;have e:=a.lvle hk;by_cases b:k=0
 .rw[b,a.e0];exact⟨by decide,by decide,by decide⟩
 by_cases c:k=1
 .rw[c,a.e1];exact⟨by decide,by decide,by decide⟩
 have⟨g,h,i,_⟩:=a.pl k (by omega) hk;exact⟨by unfold lvA at e;omega,by omega,by omega⟩
def wU (hk:k<zN d):ndA d k=d[k]:=by unfold ndA;rw[DC,DD hk];rfl
def P5 (a:DV d) (hk:k<zN d):ndA d k∉d.take k:=by intro h;rw[wU hk] at h;have⟨j,b,e⟩:=D9.1 h;rw[D3] at b;rw[List.getElem_take] at e;have:=a.nodup;rw[List.nodup_iff_pairwise_ne,List.pairwise_iff_getElem] at this;exact this j k (by omega) hk (by omega) e
def mJ (w:World) (x:Value) (d:List Nd) (C:DV d) (h:Rs ndR w x d ah):Calls zz 32 #[zX #[x]] w (zR (zW true) w):=by
 have R:=C.two;have h8:=C.top;have CE:Hid (∀W,zL w W->Calls zz 66 #[x] W (zR (zW true) W)):=zh λW p=>UI W x d C (h.Q p);have CP:Hid (∀W,zL w W->∀i,2<=i->i<zN d->Calls zz 67 #[x,zI zi i] W (zR (zW true) W)):=zh λW p i hi hl=>Dl W x d C (h.Q p) i hi hl;obtain⟨A,c,rfl,hc,Q⟩:=h.nds;obtain⟨b,o,rfl,B, -⟩:=Q 0 (by omega);have H1:Hid (∀k,k<zN d->∀W,zL w W->W.cell? ⟨b,o+k*3,none⟩=some (zI zi ((ndA d k).lv:Nat))/\W.cell? ⟨b,o+k*3+1,none⟩=some (zI zi ((ndA d k).lo:Nat))/\W.cell? ⟨b,o+k*3+2,none⟩=some (zI zi ((ndA d k).hi:Nat))):=zh λk hk W p=>by have⟨b',o',e,_,X,Y,Z⟩:=Q k hk;simp only[DN,FK,FL] at e;obtain⟨rfl,rfl⟩:=e;exact⟨(p.cell B).trans X,(p.cell B).trans Y,(p.cell B).trans Z⟩
 have K:Hid (∀k,k<zN d->PO (ndA d k)):=zh λk hk=>U9 C hk;have J:Hid (∀k,k<zN d->ndA d k∉d.take k):=zh λk hk=>P5 C hk;have L:Hid (∀k,k<zN d->∀y,(y∈d.take (k+1)↔y=ndA d k\/y∈d.take k)):=zh λk hk y=>by rw[wU hk,Ep,DD hk,EK];simp only[Option.toList_some,ER];exact or_comm
 have⟨N,hN⟩:=zv (zN d);rw[<-hN] at H1 K J L CP CE R h8⊢;clear h Q C hN hc;go_enter func32,ntmps32;go_upto_region 1 with fail;generalize m:w.alloc _=w1 at*;have⟨a,f⟩:=zB1 m;clear m;have t:=za f 0;go_wp2;refine zK (CE w1 a) λw2 u=> ?_;replace⟨f,a⟩:=zb2 f a u;clear u;go_upto_region 3 with fail;have ag:=@run_makeMap zz;go_upto_region 4 with fail;clear ag;have ac:=zh f.lt;have j:=ab w2 (.map #[] 0);have n:=zh (jk.new φN w2);replace⟨f,a⟩:=zb2 f a j;clear j;have⟨gm,D⟩:=zv (w2.heap.size);have G:Hid (w.heap.size<gm):=zh (by rw[D];exact ac);rw[<-D] at n⊢;generalize w2.alloc (.map #[] 0)=w3 at*;clear D;have t:=za f 0;go_wp2;go_loopw [14] (λi wr=>∃k:Nat,k<=N/\i=zI zi k/\zL w wr/\Box wr w.heap.size #[zU (some ⟨b,o,none⟩) N c] 38/\∃I,jk φN wr gm I/\zN I=k/\∀y,y∈I↔y∈d.take k) (λi _=>N-(intOf i).toNat)
 .exact⟨0,DH _,rfl,a,f,[],n,rfl,λy=>by simp⟩
 obtain⟨k,hk,rfl,u,hx,I,hs,S,T⟩:=hrel;have⟨a,f,n⟩:=zk3 u hx hs;clear u hx hs;by_cases g:k<N
 .have⟨U,k0⟩:=zln g;have⟨X,Y,Z⟩:=H1 k g wr a;have M:=zh (K k g);have ad:=zh (J k g);have P:=zh (L k g);have⟨z,v⟩:=zk2 T S;have aa:=zh λW p (R:2<=k)=>CP W p k R g;generalize ai:ndA d k=nd at*;obtain⟨lv,lo,hi⟩:=nd;simp only at X Y Z;clear T S ai;go_upto_region 7 with fail;generalize m:wr.alloc _=w4 at*;have⟨j,H⟩:=zA1 m;clear m;replace⟨f,n,a⟩:=zb3 f n a j;clear j;clear X Y Z;have XS:=zh H.lt;generalize ae:wr.heap.size=gn at*;clear ae;have R9:∀(V:World),Hid (jk φN V gm I)->∃F,(Instr.mapUpdate 137 (.map (some gm)) (zX #[zI zi lv,zI zi lo,zI zi hi]) (zW true)).run zz V= .ok () F/\Hid (jk φN F gm (⟨lv,lo,hi⟩::I))/\Hid (V.grownBy F (some gm)):=λV h5=>by have⟨F,Q,R,h3⟩:=h5.upd (mT:=137) underlying137 (x:=⟨lv,lo,hi⟩) M (by rw[v];unfold maxLen;omega);exact⟨F,Q,zh R,zh h3⟩
  by_cases af:2<=k
  .have f1:((k:Int)≥2):=by omega
   obtain⟨q,r,s⟩:=zc3 H;have t:=za f 0;go_wp2;refine zK (aa w4 a af) λw5 u=> ?_;replace⟨f,n,H,a⟩:=zb4 f n H a u;clear u;have LK:(Instr.lookup 137 (.map (some gm)) (zX #[zI zi lv,zI zi lo,zI zi hi]) false).run zz w5= .ok (zW false) w5:=by have:=n.look (mT:=137) underlying137 (x:=⟨lv,lo,hi⟩) M;rwa [DJ (λh=>ad ((z _).1 h))] at this
   have⟨F,hu,E,l⟩:=R9 w5 n;obtain⟨q,r,s⟩:=zc3 H;go_wp2;go_roundw
   .exact⟨k+1,by omega,by go_num,aN a (by have:=G.out;have:=a.size;omega) (by have:=G.out;omega) l,aV f l (by have:=G.out;omega),_,E,by simp[v.out],λy=>by rw[P y,DS,z y]⟩
   simp[intOf];omega
  skip;have f1:¬((k:Int)≥2):=by omega
  have⟨F,hu,E,l⟩:=R9 w4 n;obtain⟨q,r,s⟩:=zc3 H;go_wp2;go_roundw
  .exact⟨k+1,by omega,by go_num,aN a (by have:=G.out;have:=a.size;omega) (by have:=G.out;omega) l,aV f l (by have:=G.out;omega),_,E,by simp[v.out],λy=>by rw[P y,DS,z y]⟩
  simp[intOf];omega
 have U:=zge g;go_wp2;go_ret;exact⟨rfl,a⟩
end
section
variable {d:List Nd} {B C:Nat} {v:Value} {w w':World}
def TD {B C B' C':Nat} (h:OG ndR w B C 95 v d) (f:B'<=B) (g:C'<=B'):OG ndR w B' C' 95 v d:=by obtain⟨⟨a,k⟩,uss,b,c,e⟩:=h;exact⟨⟨a,g⟩,uss,b,pF c f,λj x i=>e j x i⟩
def BgR (w:World) (d:List Nd) (e:Ending) (w':World):Prop:=∃g gm,e=zE (zP g)/\BT w' w.heap.size g gm ⟨d,false⟩/\zL w w'
def vz (w:World) (x:Value) (d:List Nd) (Q:DV d) (h:Rs ndR w x d ah):Calls zz 137 #[zX #[x]] w (BgR w d):=by
 have h2:=Q.two;have h8:=Q.top;obtain⟨A,c,rfl,hc,h1⟩:=h.nds;obtain⟨b,o,rfl,B, -⟩:=h1 0 (by omega);have CC:Hid (∀W,zL w W->Calls zz 214 #[zU (some ⟨b,o,none⟩) (zN d) c] W _):=zh λW P=>xK W _ d (h.Q P) (by omega) h8;have H1:Hid (∀k,k<zN d->∀W,zL w W->W.cell? ⟨b,o+k*3,none⟩=some (zI zi ((ndA d k).lv:Nat))/\W.cell? ⟨b,o+k*3+1,none⟩=some (zI zi ((ndA d k).lo:Nat))/\W.cell? ⟨b,o+k*3+2,none⟩=some (zI zi ((ndA d k).hi:Nat))):=zh λk hk W P=>by have⟨b',o',e,_,Z,y1,y2⟩:=h1 k hk;simp only[DN,FK,FL] at e;obtain⟨rfl,rfl⟩:=e;exact⟨(P.cell B).trans Z,(P.cell B).trans y1,(P.cell B).trans y2⟩
 have H:Hid (∀k,k<zN d->PO (ndA d k)):=zh λk hk=>U9 Q hk;have G:Hid (∀k,k<zN d->ndA d k∉d.take k):=zh λk hk=>P5 Q hk;have J:Hid (∀k,k<zN d->d.take (k+1)=d.take k++[ndA d k]):=zh λk hk=>by rw[wU hk,Ep,DD hk];rfl
 have K:Hid (∀k,k<zN d->(d.take k).length=k):=zh λk hk=>by rw[D3];omega
 have I:Hid (d.take (zN d)=d):=zh (Et);have⟨N,HN⟩:=zvh (zN d);rw[<-HN] at H1 H G J CC h2 h8 K I⊢;clear h h1 Q hc;have ao:=@run_makeMap zz;go_enter func137,ntmps137;go_upto_region 1 with fail;generalize q:w.alloc _=w1 at*;have⟨a,j⟩:=zB1 q;clear q;have M:=za j 0;go_wp2;refine(CC w1 a).mono ?_;rintro e w2 ⟨v,rfl,D,s⟩;obtain⟨A2,c2,rfl⟩:=D.slice;have ac:=a.size;have l:=zh (TD (B':=w.heap.size) (C':=w.heap.size) D ac (DE _));rw[<-HN] at l⊢;replace⟨j,a⟩:=zb2 j a s;clear D s;have HD:=zh j.lt;go_upto_region 2 with fail;clear ao;have MM:=bR.new φN w2;have n:=ab w2 (.map #[] 0);have p:=ab (w2.alloc (.map #[] 0)) (zC #[zU A2 N c2,.map (some w2.heap.size),zW false] 273);have m:=zh (eS (W:=w2.alloc (.map #[] 0)) (g:=w2.heap.size+1) 273 #[zU A2 N c2,.map (some w2.heap.size),zW false] (by simp));have r:=zh (MM.Q p);have t:=aa n p;replace⟨j,l,a⟩:=zb3 j l a t;generalize(w2.alloc (.map #[] 0)).alloc (zC #[zU A2 N c2,.map (some w2.heap.size),zW false] 273)=w3 at*;have⟨gm,R⟩:=zv (w2.heap.size);have HD:=HD.out;rw[<-R] at r m HD⊢;have⟨g,hg⟩:=zv (gm+1);have E:Hid (g=gm+1):=zh hg;rw[<-hg] at m⊢;clear R hg n p t;have M:=za j 0;go_wp2;go_loopw [15] (λi wr=>∃k:Nat,k<=N/\i=zI zi k/\zL w wr/\Box wr w.heap.size #[zU (some ⟨b,o,none⟩) N c] 38/\Box wr g #[zU A2 N c2,.map (some gm),zW false] 273/\OG ndR wr w.heap.size w.heap.size 95 (zU A2 N c2) d/\∃Y,bR φN wr gm Y/\zN Y=k/\∀x:Nd,bZ Y x=if x∈d.take k then some (((d.take k).idxOf x:Nat):Int) else none) (λi _=>N-(intOf i).toNat)
 .exact⟨0,DH _,rfl,a,j,m,l,[],r,rfl,λy=>by simp[bZ]⟩
 obtain⟨k,hk,rfl,s,hx,X,ho,Y,hs,S,T⟩:=hrel;have⟨a,j,m,l,r,F⟩:=zk6 s hx X ho hs T;have z:=zh S;clear s hx hs ho X T S;by_cases f:k<N
 .have⟨U,k0⟩:=zln f;have⟨Z,y1,y2⟩:=H1 k f wr a;have ag:=zh (H k f);have af:=zh (G k f);have ai:=zh (J k f);have ak:=zh (K k f);generalize ap:ndA d k=nd at*;obtain⟨lv,lo,hi⟩:=nd;simp only at Z y1 y2;clear ap;go_upto_region 5 with fail;generalize q:wr.alloc _=w4 at*;have⟨n,L⟩:=zA1 q;clear q;replace⟨j,m,l,r,a⟩:=zb5 j m l r a n;clear n;clear Z y1 y2;generalize am:wr.heap.size=gn at*;clear am;refine aj 6 ?_;have a0:=L.lat 0 _ rfl;have a1:=L.lat 1 _ rfl;have a2:=L.lat 2 _ rfl;have g1:=m.lat 1 _ rfl;simp only[Ee,El,Ei,D5];repeat(go_big_quiet_step (fail))
  refine D4 ?_;intro w5 s;clear a0 a1 a2 g1;replace⟨j,m,l,r,L⟩:=zb5 j m l r L s;replace a:=zb a s;clear s;have⟨w6,hu,V,C⟩:=r.upd (mT:=271) underlying271 (x:=⟨lv,lo,hi⟩) ag (i:=(k:Nat)) (wfN (by omega)) (by rw[z];unfold maxLen;omega);have aq:(Instr.mapUpdate 271 (.map (some gm)) (zX #[zI zi lv,zI zi lo,zI zi hi]) (zI zi k)).run zz w5= .ok () w6:=hu;have⟨ad,u⟩:=zk2 V C;have ae:=zh (jW l r C);clear V C hu;go_wp2;go_roundw
  .have al:=E.out;refine⟨k+1,by omega,by go_num,aN a a.size (by omega) u,aV j u (by omega),aV m u (by omega),ae,_,ad,by simp[z.out],λy=> ?_⟩;have e1:(k:Int)=(((d.take k).length:Nat):Int):=by rw[ak]
   rw[ai];conv=>lhs;rw[e1]
   exact oY af F y
  simp[intOf];omega
 have⟨U,an⟩:=zgq hk f;subst an;go_wp2;go_ret;have al:=E.out;refine⟨g,gm,rfl,⟨⟨by omega,by omega⟩,⟨_,m,l⟩,Y,r,by rw[z];exact Nat.le_of_eq HN,λx=> ?_⟩,a⟩;rw[F x,I]
def NR (w:World) (v:Value):Prop:=∀q,v.ownBlock=some q->∃cs a,w.heap[q]? =some (zC cs 95 a)
def NR.keep (h:NR w v) (hk:∀q,v.ownBlock=some q->q<w.heap.size->w'.heap[q]? =w.heap[q]?):NR w' v:=λq b=>by
 have⟨cs,c,a⟩:=h q b;exact⟨cs,c,(hk q b (my a)).trans a⟩
def NR.Q (h:NR w v) (a:zL w w'):NR w' v:=h.keep λq _ b=>a.block q b
instance {w w':World} {v:Value}:Zm w w' (NR w v) (NR w' v):=⟨λhb h=>NR.Q h hb⟩
def NR.box {g:Nat} {cs:Array Value} {T:TypeId} (h:NR w v) (b:Box w g cs T) (d:T≠95):∀q,v.ownBlock=some q->q≠g:=λq f e=>by
 subst e;have⟨c,i,a⟩:=h q f;unfold Box at b;rw[b] at a;simp only[DN,Fk] at a;exact d a.2.1
def Yb (h:OG ndR w B C 95 v d):NR w v:=λq a=>by
 obtain⟨_,uss,_,c,_⟩:=h;rcases c.2 with⟨rfl,_⟩|⟨g,cap,cur,rfl,e,b,_⟩
 .simp[Value.ownBlock] at a
 simp only[Value.ownBlock,DN] at a;subst a;exact⟨_,_,b⟩
def mX (B:Nat) (w:World) (r:Option (List Nd×Nat)) (e:Ending) (w':World):Prop:=match r with
 |some (d,i)=>∃x,e=zE (zY #[zX #[x],zI zi i,zI zi 0])/\(Rs ndR w' x d ah/\NR w' x/\∀q,x.ownBlock=some q->B<=q)/\zL w w'
 |none=>e=zE (zY #[zX #[zU none 0 0],zI zi 0,zI zi 2])/\zL w w'
def wS {R B:Nat} {v x:Value} (h:Rs ndR w x d ah) (c:∀q,x.ownBlock=some q->B<=q) (f:R<B):Rs ndR (w.setCell ⟨R,0,none⟩ v) x d ah:=eV ((eV h λ_=>False).same (by simp[World.setCell]) (λb a=>Eo w ⟨R,0,none⟩ v b (λe=>by have:=c b a;have e:b=R:=e;omega)) (λ_ _ h=>h.elim)) _
theorem mX.step {B:Nat} {w:World} {r:Option (List Nd×Nat)} {e:Ending} {w':World} (h:mX B w r e w'):∃(A:Option Addr) (n c:Nat) (i er:Int),e=zE (zY #[zX #[zU A n c],zI zi i,zI zi er])/\zL w w'∧
  (∀(w0:World) (R:Nat) (v:Value) (B':Nat),R<B->B'<=B->zL w0 (w'.setCell ⟨R,0,none⟩ v)->mX B' w0 r (zE (zY #[zX #[zU A n c],zI zi i,zI zi er])) (w'.setCell ⟨R,0,none⟩ v))/\(er=0↔r.isSome=true):=by
 match r,h with
 |some (d,i),⟨x,e1,⟨h1,hn,h2⟩,h3⟩=>obtain⟨A,c,rfl,_⟩:=h1.slice;exact⟨A,_,c,i,0,e1,h3,λw0 R v B' g f a=>⟨_,rfl,⟨wS h1 h2 g,hn.keep λq b _=>Eo w' ⟨R,0,none⟩ v q (λe=>by have:=h2 q b;have e:q=R:=e;omega),λq b=>D2 f (h2 q b)⟩,a⟩,by simp⟩
 |none,⟨e1,h3⟩=>exact⟨none,0,0,0,2,e1,h3,λw0 R v B' g f a=>⟨rfl,a⟩,by simp⟩
def AY (w:World) (B g gm:Nat) (s:Bd) (f:Nat) (h:BT w B g gm s):Calls zz 138 #[zP g,zI zi f] w (mX B w (if s.full=true then none else some (s.d,f))):=by
 have⟨v,l,a⟩:=h.v;obtain⟨A,c,rfl⟩:=a.slice;have d:=zh l;have r:=zh a.any;have j:=zh a.blk;have k:=zh (Yb a);have⟨N,t⟩:=zv (zN s.d);rw[<-t] at d r j k;clear h l a t;go_enter func138,ntmps138;cases hq:s.full
 .rw[hq] at d;have u:=zh hq;clear hq;go_upto_region 1 with fail;generalize b:w.alloc _=w1 at*;have⟨i,e⟩:=zB1 b;clear b;replace d:=zh (d.Q i);have m:=r;obtain⟨x0,y⟩:=zd2 d 0 2;have o:=za e 0;have q:=e.Z 0;have x:=e.lt;go_wp2;refine D7 (v:=zY #[zX #[zU A N c],zI zi f,zI zi 0]) (by simp[results,results138,go_sem,o,q]) rfl ?_;have n:=i.setCell (p:=⟨w.heap.size,0,none⟩) (DE _) (zU A N c);exact⟨_,rfl,⟨m.Q n,k.Q n,j⟩,n⟩
 rw[hq] at d;have u:=zh hq;clear hq;go_upto_region 1 with fail;generalize b:w.alloc _=w1 at*;have⟨i,e⟩:=zB1 b;clear b;replace d:=zh (d.Q i);have y:=za d 2;have o:=za e 0;have q:=e.Z 0;have x:=e.lt;go_wp2;refine D7 (v:=zY #[zX #[zU none 0 0],zI zi 0,zI zi 2]) (by simp[results,results138,go_sem,o,q]) rfl ?_;exact⟨rfl,i.setCell (p:=⟨w.heap.size,0,none⟩) (DE _) _⟩
def Rv (w:World) (x:Value) (d:List Nd) (u:DV d) (h:Rs ndR w x d ah) (t m:Nat) (cs:Array Value) (T:TypeId) (r:Box w t cs T) (p:∀k,k<m->∃f,f<zN d/\cs[k]? =some (zI zi f)) (hm:m<=8):Calls zz 136 #[zX #[x],zU (some ⟨t,0,none⟩) m m] w (zR (zW true) w):=by
 have B:=u.top;obtain⟨A,c,rfl,D⟩:=h.slice;have v:Hid (∀W,zL w W->Calls zz 32 #[zX #[zU A (zN d) c]] W _):=zh λW C=>mJ W _ d u (h.Q C);have⟨j,b⟩:=zk2 p r;have⟨N,y⟩:=zv (zN d);rw[<-y] at v j B⊢;clear h u y D r p;go_enter func136,ntmps136;go_upto_region 1 with fail;generalize s:w.alloc _=w1 at*;have⟨a,e⟩:=zB1 s;clear s;replace b:=zh (b.Q a);have l:=za e 0;go_wp2;refine zK (v w1 a) λw2 n=> ?_;replace⟨b,e,a⟩:=zb3 b e a n;clear n;go_wp2;go_loopw [12] (λi wr=>∃k:Nat,k<=m/\i=zI zi k/\zL w wr/\Box wr w.heap.size #[zU A N c] 38/\Box wr t cs T) (λi _=>m-(intOf i).toNat)
 .exact⟨0,DH _,rfl,a,e,b⟩
 obtain⟨k,hk,rfl,n,r,z⟩:=hrel;have⟨a,e,b⟩:=zk3 n r z;clear n r z;by_cases g:k<m
 .have⟨q,I⟩:=zln g;have⟨f,H,o⟩:=j k g;have J:=b.A k _ o;have E:¬((f:Int)<0):=by omega
  have F:¬((f:Int)≥(N:Int)):=by omega
  have G:¬(N<=f):=by omega
  have l:=za e 0;clear o;go_wp2;go_roundw
  .exact⟨k+1,by omega,by go_num,a,e,b⟩
  simp[intOf];omega
 have q:=zge g;go_wp2;go_ret;exact⟨rfl,a⟩
end
def Box.keptB {w w':World} {B g:Nat} {T:TypeId} {cs:Array Value} (h:Box w g cs T) (b:g<B) (a:Below B w w'):Box w' g cs T:=(a.block g b).trans h
def SEx (go T g F G H:Nat) (W:World):Prop:=W.cell? ⟨go,0,none⟩=some (zP g)/\W.cell? ⟨T,0,none⟩=some (zI zi F)/\W.cell? ⟨T,1,none⟩=some (zI zi G)/\W.cell? ⟨T,2,none⟩=some (zI zi H)
def Xk {op:Bool->Bool->Bool->Bool} {d:List Nd} (a:DV d):Zh op ⟨⟨d,false⟩,[]⟩:=⟨a,λp b=>by cases b⟩
theorem jg (op:Bool->Bool->Bool->Bool) (a:FuncId) (HV:∀W p q r,Calls zz a #[zW p,zW q,zW r] W (zR (zW (op p q r)) W))
  (eg:∀(p q r:Bool) (W:World),(callFunc a #[zW p,zW q,zW r]).run zz W= .ok (.enter a #[zW p,zW q,zW r]) W) (w:World) (x:Value) (d:List Nd) (L:DV d) (h:Rs ndR w x d ah) (F G H:Nat) (hF:F<zN d) (hG:G<zN d) (hH:H<zN d):
  Calls zz 75 #[zX #[x],zX #[zI zi F,zI zi G,zI zi H],.func (.func a) #[] #[]] w (mX w.heap.size w (eQ op d ⟨F,G,H⟩)):=by
 have h8:=L.top;obtain⟨A,c,rfl,hc⟩:=h.slice;have CH:Hid (∀W b2 m cs T,zL w W->Box W b2 cs T->(∀k,k<m->∃f,f<zN d/\cs[k]? =some (zI zi f))->m<=8->Calls zz 136 #[zX #[zU A (zN d) c],zU (some ⟨b2,0,none⟩) m m] W _):=zh λW b2 m cs T C hx hi hm=>Rv W _ d L (h.Q C) b2 m cs T hx hi hm;have CB:Hid (∀W,zL w W->Calls zz 137 #[zX #[zU A (zN d) c]] W _):=zh λW C=>vz W _ d L (h.Q C);obtain⟨HD,HF,HG,HH⟩:=zk4 L hF hG hH;obtain⟨N,X⟩:=zvh (zN d);rw[<-X] at CH CB h8 HF HG HH⊢;clear h L hc hF hG hH;have aw:=@run_makeMap zz;go_enter func75,ntmps75;go_upto_region 1 with fail;generalize ak:w.alloc _=zw1 at*;generalize al:zw1.alloc _=zw2 at*;generalize am:zw2.alloc _=w1 at*;obtain⟨o,J,j,y⟩:=zB3 ak al am;clear ak al am;have ad:=za J 0;obtain⟨ax,az,aA⟩:=zc3 j;go_upto_region 2 with fail;have n:=ab w1 (zC #[zI zi F,zI zi G,zI zi H] 3);have XI:=zh (eS (W:=w1) (g:=w1.heap.size) 3 #[zI zi F,zI zi G,zI zi H] rfl);refine(CH _ w1.heap.size 3 _ _ (aa o n) XI (λk hk=> ?hin) (by omega)).mono ?_;case hin=>
  match k,hk with
  |0,_=>exact⟨F,HF,rfl⟩
  |1,_=>exact⟨G,HG,rfl⟩
  |2,_=>exact⟨H,HH,rfl⟩
 rintro e w2 ⟨rfl,l⟩;have af:=aa n l;clear l n;replace⟨J,j,y,o⟩:=zb4 J j y o af;clear af;have ac:=zh j.lt;have Z:=zh y.lt;have aq:=zh o.size;have ad:=za J 0;go_upto_region 3 with fail;go_wp2;refine(CB w2 o).mono ?_;rintro e u ⟨g,gm,rfl,ai,l⟩;have b:=zh ai;clear ai;replace⟨J,j,y,o⟩:=zb4 J j y o l;clear l;go_upto_region 4 with fail;clear aw;have MM:=bR.new φT u;have n:=ab u (.map #[] 0);have t:=ab (u.alloc (.map #[] 0)) (zC #[zP g,.func (.func a) #[] #[],.map (some u.heap.size)] 214);have XO:=zh (eS (W:=u.alloc (.map #[] 0)) (g:=u.heap.size+1) 214 #[zP g,.func (.func a) #[] #[],.map (some u.heap.size)] (by simp));have HM:=zh (MM.Q t);have K:=aa n t;have M:gm<u.heap.size:=by obtain⟨lm,hm,_⟩:=b.mp;exact hm.lt
 replace⟨b,J,j,y,o⟩:=zb5 b J j y o K;clear K;clear n t;generalize(u.alloc (.map #[] 0)).alloc (zC #[zP g,.func (.func a) #[] #[],.map (some u.heap.size)] 214)=w4 at*;obtain⟨gk,aj⟩:=zv (u.heap.size);rw[<-aj] at HM XO M⊢;obtain⟨go,E⟩:=zv (gk+1);rw[<-E] at XO⊢;obtain⟨B,hB⟩:=zv (w2.heap.size);have U:=aq.out;rw[<-hB] at b ac Z U;have ag:B<=gk:=by obtain⟨⟨h1,h2⟩,_⟩:=b.out;omega
 have OO:=zh (show OT w4 B g gm go gk (.func (.func a) #[] #[]) ⟨⟨d,false⟩,[]⟩ from⟨⟨by omega,ag,by omega⟩,b,XO,HM,by show zN d<=_;rw[<-X];exact h8,λp hp=>by cases hp⟩);have CA:=zh fun(W:World) (C:zL w4 W)=>(Rx op a HV eg B g gm go gk 21 W ⟨⟨d,false⟩,[]⟩ ⟨F,G,H⟩ (OO.Q C) (λ_=>⟨Xk HD,⟨by show F<_;rw[<-X];exact HF,by show G<_;rw[<-X];exact HG,by show H<_;rw[<-X];exact HH⟩,by omega⟩) (by show 0+2^21<=_;decide));obtain⟨T,hT⟩:=zv (w.heap.size+1);obtain⟨R,hR⟩:=zv (w.heap.size+1+1);have P:Hid (T<B/\R<B/\w.heap.size<=R/\T≠R/\B<=go):=zh ⟨by rw[hT];exact ac,by rw[hR];exact Z,by omega,by omega,by omega⟩;rw[<-hR] at y⊢;rw[<-hT] at j⊢;have I:Hid (w.heap.size<=B):=zh U;clear aj E hB ag M hT hR U;have S4:SEx go T g F G H w4:=⟨XO.A 0 _ rfl,j.A 0 _ rfl,j.A 1 _ rfl,j.A 2 _ rfl⟩;refine zhd (SEx go T g F G H) S4 (λhS=> ?_);refine zta 0 (zP go) rfl ?_;refine zta 1 (zP go) rfl ?_;refine zta 2 (zP go) rfl ?_;simp only[zp];refine zt 3 (zP g) rfl (zQ ⟨by rfl,λW C=>by obtain⟨s0,s1,s2,s3⟩:=C;go_simp⟩) ?_;refine zta 4 (zP go) rfl ?_;simp only[zp];refine zt 5 (zX #[zI zi F,zI zi G,zI zi H]) rfl (zQ ⟨by rfl,λW C=>by obtain⟨s0,s1,s2,s3⟩:=C;go_simp⟩) ?_;simp only[zp];refine ay 6 rfl ?_;go_wp2;refine(CA w4.drew (ae _)).mono ?_;rintro e w5 ⟨rfl,ho,D,av⟩;have HE:Hid (eQ op d ⟨F,G,H⟩=_):=zh (eQ.eq_1 op d ⟨F,G,H⟩);generalize aS op 21 ⟨⟨d,false⟩,[]⟩ ⟨F,G,H⟩=r at*;obtain⟨s,i⟩:=r;simp only at ho HE⊢;have V:=P.out;have au:=I.out;have Y:=zh ho;have ar:=zh ((y.Q (ae _)).keptB (DU V.2.1 (DE _)) D);have z:=zh ((j.Q (ae _)).keptB (DU V.1 (DE _)) D);have an:=zh ((o.trans (ae _|>.mono o.size)).trans (D.mono au));have S5:SEx go T g F G H w5:=⟨ho.o.A 0 _ rfl,z.A 0 _ rfl,z.A 1 _ rfl,z.A 2 _ rfl⟩;clear ho D av;go_wp2;refine⟨rfl,S5, ?_⟩;refine ay 7 rfl ?_;go_wp2;refine(AY w5 B g gm s.b i Y.b).mono ?_;intro e w6 L;obtain⟨A6,n6,c6,i6,e6,rfl,l,hr, -⟩:=L.step;have ap:=zh hr;have Q:=zh (ar.Q l);have ao:=zh (aa an l);have S6:SEx go T g F G H w6:=by obtain⟨s0,s1,s2,s3⟩:=S5;have E:=Y.o.lt;have S:=z.lt;exact⟨(l.cell E).trans s0,(l.cell S).trans s1,(l.cell S).trans s2,(l.cell S).trans s3⟩
 clear hr l L;go_wp2;refine⟨rfl,S6, ?_⟩;refine zta 8 (zX #[zU A6 n6 c6]) rfl ?_;refine zta 9 (zI zi i6) rfl ?_;refine zta 10 (zI zi e6) rfl ?_;simp only[zp];have x0:=za Q 0;have xz:=Q.Z 0;have xl:=Q.lt;refine ay 11 rfl ?_;go_wp2;have S7:SEx go T g F G H (w6.setCell ⟨R,0,none⟩ (zU A6 n6 c6)):=by obtain⟨s0,s1,s2,s3⟩:=S6;have V:=P.out;exact⟨(fN (Eo w6 ⟨R,0,none⟩ _ go (by show go≠R;omega))).trans s0,(fN (Eo w6 ⟨R,0,none⟩ _ T (by show T≠R;omega))).trans s1,(fN (Eo w6 ⟨R,0,none⟩ _ T (by show T≠R;omega))).trans s2,(fN (Eo w6 ⟨R,0,none⟩ _ T (by show T≠R;omega))).trans s3⟩
 refine⟨rfl,S7, ?_⟩;refine ay 12 rfl ?_;go_wp2;refine⟨rfl,S7, ?_⟩;refine ay 13 rfl ?_;go_wp2;refine⟨rfl,S7,zdn ?_⟩;go_wp2;refine D7 (v:=zY #[zX #[zU A6 n6 c6],zI zi i6,zI zi e6]) (by simp[results,results75,go_sem,x0,xz]) rfl ?_;rw[HE];have V:=P.out;exact ap w R _ w.heap.size V.2.1 I (ao.setCell (p:=⟨R,0,none⟩) V.2.2.1 _)
section
variable (w:World)
def WW (x:Value) (d:List Nd) (g:DV d) (h:Rs ndR w x d ah) (F:Nat) (k:F<zN d):Calls zz 204 #[zX #[x],zI zi F] w (mX w.heap.size w (eQ (λf _ _=> !f) d ⟨F,F,F⟩)):=by obtain⟨A,c,rfl,G⟩:=h.slice;have s:=zh λW E=>jg (λf _ _=> !f) 270 (λW p q r=>X7 W p q r) (λp q r W=>by kernel_rfl) W _ d g (h.Q E) F F F k k k;have⟨N,u⟩:=zv (zN d);rw[<-u] at s⊢;clear h g u G k;go_enter func204,ntmps204;go_upto_region 1 with fail;generalize i:w.alloc _=zw1 at*;generalize j:zw1.alloc _=w1 at*;have⟨b,n,a⟩:=zB2 i j;clear i j;have l:=zh b.size;have t:=za n 0;go_wp2;refine(s w1 b).mono ?_;intro e w2 g;obtain⟨B,I,C,H,D,rfl,y,z, -⟩:=g.step;have m:=zh z;have o:=zh a.lt;clear z g;replace⟨n,a,b⟩:=zb3 n a b y;clear y;have x0:=za a 0;have J:=a.Z 0;have L:=a.lt;go_wp2;refine D7 (v:=zY #[zX #[zU B I C],zI zi H,zI zi D]) (by simp[results,results204,go_sem,x0,J]) rfl ?_;have K:=l.out;exact m w _ _ w.heap.size o (by omega) (b.setCell (p:=⟨w.heap.size+1,0,none⟩) (by show w.heap.size<=w.heap.size+1;omega) _)
def Ry (x:Value) (d:List Nd) (i:DV d) (h:Rs ndR w x d ah) (F G:Nat) (y:F<zN d) (s:G<zN d):Calls zz 38 #[zX #[x],zI zi F,zI zi G] w (mX w.heap.size w (eQ (λf g _=>f&&g) d ⟨F,G,G⟩)):=by obtain⟨A,c,rfl,J⟩:=h.slice;have t:=zh λW I=>jg (λf g _=>f&&g) 76 (λW p q r=>X8 W p q r) (λp q r W=>by kernel_rfl) W _ d i (h.Q I) F G G y s s;have⟨N,z⟩:=zv (zN d);rw[<-z] at t⊢;clear h i z J y s;go_enter func38,ntmps38;go_upto_region 1 with fail;generalize j:w.alloc _=zw1 at*;generalize k:zw1.alloc _=w1 at*;have⟨b,n,a⟩:=zB2 j k;clear j k;have l:=zh b.size;have u:=za n 0;go_wp2;refine(t w1 b).mono ?_;intro e w2 i;obtain⟨D,L,E,K,H,rfl,B,C, -⟩:=i.step;have m:=zh C;have o:=zh a.lt;clear C i;replace⟨n,a,b⟩:=zb3 n a b B;clear B;have x0:=za a 0;have M:=a.Z 0;have Q:=a.lt;go_wp2;refine D7 (v:=zY #[zX #[zU D L E],zI zi K,zI zi H]) (by simp[results,results38,go_sem,x0,M]) rfl ?_;have P:=l.out;exact m w _ _ w.heap.size o (by omega) (b.setCell (p:=⟨w.heap.size+1,0,none⟩) (by show w.heap.size<=w.heap.size+1;omega) _)
def Yv (x:Value) (d:List Nd) (i:DV d) (h:Rs ndR w x d ah) (F G:Nat) (y:F<zN d) (s:G<zN d):Calls zz 202 #[zX #[x],zI zi F,zI zi G] w (mX w.heap.size w (eQ (λf g _=>f||g) d ⟨F,G,G⟩)):=by obtain⟨A,c,rfl,J⟩:=h.slice;have t:=zh λW I=>jg (λf g _=>f||g) 268 (λW p q r=>YY W p q r) (λp q r W=>by kernel_rfl) W _ d i (h.Q I) F G G y s s;have⟨N,z⟩:=zv (zN d);rw[<-z] at t⊢;clear h i z J y s;go_enter func202,ntmps202;go_upto_region 1 with fail;generalize j:w.alloc _=zw1 at*;generalize k:zw1.alloc _=w1 at*;have⟨b,n,a⟩:=zB2 j k;clear j k;have l:=zh b.size;have u:=za n 0;go_wp2;refine(t w1 b).mono ?_;intro e w2 i;obtain⟨D,L,E,K,H,rfl,B,C, -⟩:=i.step;have m:=zh C;have o:=zh a.lt;clear C i;replace⟨n,a,b⟩:=zb3 n a b B;clear B;have x0:=za a 0;have M:=a.Z 0;have Q:=a.lt;go_wp2;refine D7 (v:=zY #[zX #[zU D L E],zI zi K,zI zi H]) (by simp[results,results202,go_sem,x0,M]) rfl ?_;have P:=l.out;exact m w _ _ w.heap.size o (by omega) (b.setCell (p:=⟨w.heap.size+1,0,none⟩) (by show w.heap.size<=w.heap.size+1;omega) _)
def WV (x:Value) (d:List Nd) (i:DV d) (h:Rs ndR w x d ah) (F G:Nat) (y:F<zN d) (s:G<zN d):Calls zz 272 #[zX #[x],zI zi F,zI zi G] w (mX w.heap.size w (eQ (λf g _=>f !=g) d ⟨F,G,G⟩)):=by obtain⟨A,c,rfl,J⟩:=h.slice;have t:=zh λW I=>jg (λf g _=>f !=g) 316 (λW p q r=>X3 W p q r) (λp q r W=>by kernel_rfl) W _ d i (h.Q I) F G G y s s;have⟨N,z⟩:=zv (zN d);rw[<-z] at t⊢;clear h i z J y s;go_enter func272,ntmps272;go_upto_region 1 with fail;generalize j:w.alloc _=zw1 at*;generalize k:zw1.alloc _=w1 at*;have⟨b,n,a⟩:=zB2 j k;clear j k;have l:=zh b.size;have u:=za n 0;go_wp2;refine(t w1 b).mono ?_;intro e w2 i;obtain⟨D,L,E,K,H,rfl,B,C, -⟩:=i.step;have m:=zh C;have o:=zh a.lt;clear C i;replace⟨n,a,b⟩:=zb3 n a b B;clear B;have x0:=za a 0;have M:=a.Z 0;have Q:=a.lt;go_wp2;refine D7 (v:=zY #[zX #[zU D L E],zI zi K,zI zi H]) (by simp[results,results272,go_sem,x0,M]) rfl ?_;have P:=l.out;exact m w _ _ w.heap.size o (by omega) (b.setCell (p:=⟨w.heap.size+1,0,none⟩) (by show w.heap.size<=w.heap.size+1;omega) _)
def Dm (x:Value) (d:List Nd) (i:DV d) (h:Rs ndR w x d ah) (F G H:Nat) (u:F<zN d) (y:G<zN d) (z:H<zN d):Calls zz 208 #[zX #[x],zI zi F,zI zi G,zI zi H] w (mX w.heap.size w (eQ (λf g h=>f&&g|| !f&&h) d ⟨F,G,H⟩)):=by obtain⟨A,c,rfl,L⟩:=h.slice;have s:=zh λW K=>jg (λf g h=>f&&g|| !f&&h) 271 (λW p q r=>PN W p q r) (λp q r W=>by kernel_rfl) W _ d i (h.Q K) F G H u y z;have⟨N,B⟩:=zv (zN d);rw[<-B] at s⊢;clear h i B L u y z;go_enter func208,ntmps208;go_upto_region 1 with fail;generalize j:w.alloc _=zw1 at*;generalize k:zw1.alloc _=w1 at*;have⟨b,n,a⟩:=zB2 j k;clear j k;have l:=zh b.size;have t:=za n 0;go_wp2;refine(s w1 b).mono ?_;intro e w2 i;obtain⟨E,P,I,M,J,rfl,C,D, -⟩:=i.step;have m:=zh D;have o:=zh a.lt;clear D i;replace⟨n,a,b⟩:=zb3 n a b C;clear C;have x0:=za a 0;have Q:=a.Z 0;have S:=a.lt;go_wp2;refine D7 (v:=zY #[zX #[zU E P I],zI zi M,zI zi J]) (by simp[results,results208,go_sem,x0,Q]) rfl ?_;have R:=l.out;exact m w _ _ w.heap.size o (by omega) (b.setCell (p:=⟨w.heap.size+1,0,none⟩) (by show w.heap.size<=w.heap.size+1;omega) _)
end
def xJ (w:World) (l:Nat) (c:l<20):Calls zz 315 #[zI zi l] w (zR (zW true) w):=by
 have a:(l:Int)≥0:=by omega
 have b:(l:Int)<20:=by omega
 go_enter func315,ntmps315;go_wp2;go_ret;exact⟨rfl,DM _ _⟩
def mh (d:List Nd) (l lo hi:Nat):Option (List Nd×Nat):=if(cA ⟨d,false⟩ l lo hi).1.full=true then none else some ((cA ⟨d,false⟩ l lo hi).1.d,(cA ⟨d,false⟩ l lo hi).2)
theorem UH (w:World) (x:Value) (d:List Nd) (u:DV d) (h:Rs ndR w x d ah) (l lo hi:Nat) (q:lo<zN d) (y:hi<zN d) (K:l<lvA d lo) (h2:l<lvA d hi):
  Calls zz 269 #[zX #[x],zI zi l,zI zi lo,zI zi hi] w (mX w.heap.size w (mh d l lo hi)):=by
 have h8:=u.top;have P:l<20:=by have:=u.lvle q;omega
 obtain⟨A,c,rfl,hc,G⟩:=h.nds;obtain⟨b,o,rfl,M,y0, -⟩:=G lo q;obtain⟨_,_,e1,_,z0, -⟩:=G hi y;simp only[DN,FK,FL] at e1;obtain⟨rfl,rfl⟩:=e1;have CH:Hid (∀W R m cs T,zL w W->Box W R cs T->(∀k,k<m->∃f,f<zN d/\cs[k]? =some (zI zi f))->m<=8->Calls zz 136 #[zX #[zU (some ⟨b,o,none⟩) (zN d) c],zU (some ⟨R,0,none⟩) m m] W _):=zh λW R m cs T hW G hi hm=>Rv W _ d u (h.Q hW) R m cs T G hi hm;have CB:Hid (∀W,zL w W->Calls zz 137 #[zX #[zU (some ⟨b,o,none⟩) (zN d) c]] W _):=zh λW hW=>vz W _ d u (h.Q hW);have CN:=zh fun(W:World) (B g gm:Nat) (j:BT W B g gm ⟨d,false⟩)=>AX W B g gm ⟨d,false⟩ l lo hi j (by show zN d<=_;omega) (by omega) (by omega) (by omega);have HD:=zh u;unfold lvA at K h2;generalize(ndA d lo).lv=l1,(ndA d hi).lv=l2 at*;have⟨m,hm⟩:=zv (min l1 l2);have af:=yU l1 l2 m hm;have ai:¬((l:Int)≥(m:Int)):=by omega
 have ae:¬(m<=l):=by omega
 have⟨N,HN⟩:=zvh (zN d);rw[<-HN] at CH CB h8 q y⊢;have q1:(lo:Int)<(N:Int):=by omega
 have q2:(hi:Int)<(N:Int):=by omega
 have q3:=zn0 lo;have q4:=zn0 hi;have X:Hid (∀k,k<2->∃f,f<N/\(#[Value.int .i64 lo,Value.int .i64 hi]:Array Value)[k]? =some (zI zi f)):=zh λk hk=>by
  match k,hk with
  |0,_=>exact⟨lo,q,rfl⟩
  |1,_=>exact⟨hi,y,rfl⟩
 go_enter func269,ntmps269;go_upto_region 1 with fail;generalize ab:w.alloc _=zw1 at*;generalize ac:zw1.alloc _=w1 at*;have⟨a,E,F⟩:=zB2 ab ac;refine bB 27 (Kit.of [oC 3 [] w1.heap.size 2 2 #[zI zi lo,zI zi hi] 3,ja 4 [3] (zW true),ja 8 [] (zW true)]) (Kit.of_stable ?_) (Kit.of_known ?_) ?_
 .intro z Q;simp only[DS,DZ,EC] at Q;rcases Q with rfl|rfl|rfl
  .apply qe
  .apply dN
  apply dN
 .intro z Q;simp only[DS,DZ,EC] at Q;rcases Q with rfl|rfl|rfl
  .apply qg
  .apply dO
  apply dO
 intro γ D C hC aj;obtain⟨g3,e3⟩:∃g,γ 3=zU (some ⟨g,0,none⟩) 2 2:=D 3 rfl;have e4:γ 4=zW true:=D 4 rfl;have e8:γ 8=zW true:=D 8 rfl;have d0:=E.latC (C:=C) 0 _ rfl;have r1:∀p:iF w1 C,p.w.cell? ⟨b,o+lo*3,none⟩=some (zI zi l1):=λp=>((a.trans (p.h.mono a.size)).cell (p:=⟨b,o+lo*3,none⟩) M).trans y0;have r2:∀p:iF w1 C,p.w.cell? ⟨b,o+hi*3,none⟩=some (zI zi l2):=λp=>((a.trans (p.h.mono a.size)).cell (p:=⟨b,o+hi*3,none⟩) M).trans z0;simp only[Ee,El,Ei,D5];iterate 3 (refine aO rfl ?_;go_big_quiet_step (fail);refine D4 ?_)
 refine b6 rfl (mA rfl (λw=>by kernel_rfl) (λw' g hg G=>⟨g,rfl,G,hg⟩)) ?_;simp only[DY,Nat.reduceAdd,e3];go_simp;refine wfc #[zX #[zU (some ⟨b,o,none⟩) N c],zU (some ⟨g3,0,none⟩) 2 2] func136 (λw' j hf=>(CH w' g3 2 _ _ (aa a j) (uV e3 (show∃g',γ 3=zU (some ⟨g',0,none⟩) 2 2/\Box w' g' #[zI zi lo,zI zi hi] 3/\w1.heap.size<=g' from hf 3 (show 3∈[3] by decide))).1 X (by omega)).mono λe w2 ⟨he,K⟩=>⟨_,he,rfl,K⟩) ?_;simp only[DY,Nat.reduceAdd,e4];go_simp;iterate 3 (refine aO rfl ?_;go_big_quiet_step (fail);refine D4 ?_)
 refine wfg #[zI zi l] func315 (λw' j hf=>(xJ w' l P).mono λe w2 ⟨he,K⟩=>⟨_,he,rfl,K⟩) ?_;simp only[DY,Nat.reduceAdd,e8];go_simp;iterate 18 (refine aO rfl ?_;go_big_quiet_step (fail);refine D4 ?_)
 intro w2 j hF;replace⟨E,F,a⟩:=zb3 E F a j;have ad:=za E 0;go_upto_region 3 with fail;go_wp2;refine(CB w2 a).mono ?_;rintro e w3 ⟨g,gm,rfl,n,j⟩;have V:=zh n;have I:=zh a.size;have J:=zh F.lt;replace⟨E,F,a⟩:=zb3 E F a j;go_wp2;refine(CN w3 w2.heap.size g gm V).mono ?_;rintro e w4 ⟨rfl,n,L,ag⟩;have HR:Hid (mh d l lo hi=_):=zh (mh.eq_1 d l lo hi);generalize cA ⟨d,false⟩ l lo hi=r at*;obtain⟨s,i⟩:=r;simp only at n HR⊢;have H:=zh n;have Z:=zh (F.keptB J L);have S:=zh (a.trans (L.mono I));go_wp2;refine(AY w4 w2.heap.size g gm s i H).mono ?_;intro e w5 u;obtain⟨A6,n6,c6,i6,e6,rfl,j,hr, -⟩:=u.step;have Y:=zh hr;have t:=zh (Z.Q j);have U:=zh (aa S j);have x0:=za t 0;have xz:=t.Z 0;have xl:=t.lt;go_wp2;refine D7 (v:=zY #[zX #[zU A6 n6 c6],zI zi i6,zI zi e6]) (by simp[results,results269,go_sem,x0,xz]) rfl ?_;rw[HR];exact Y w (w.heap.size+1) _ w.heap.size J I (U.setCell (p:=⟨w.heap.size+1,0,none⟩) (by show w.heap.size<=w.heap.size+1;omega) _)
section
variable {cs:Array Value} {d:List Nd} {b g:Nat} {row:Option Nat} {T:TypeId} {w w' w1:World}
def WY (w:World) (x:Value) (d:List Nd) (a:DV d) (h:Rs ndR w x d ah) (l:Nat) (t:l<20):Calls zz 203 #[zX #[x],zI zi l] w (mX w.heap.size w (mh d l 0 1)):=by obtain⟨A,c,rfl,E⟩:=h.slice;have C:=a.two;have o:=zh λW D=>UH W _ d a (h.Q D) l 0 1 (by omega) (by omega) (by rw[a.lv0];exact t) (by rw[a.lv1];exact t);have⟨N,r⟩:=zv (zN d);rw[<-r] at o⊢;clear h a r E C;go_enter func203,ntmps203;go_upto_region 1 with fail;generalize g:w.alloc _=zw1 at*;generalize i:zw1.alloc _=w1 at*;have⟨f,m,b⟩:=zB2 g i;clear g i;have j:=zh f.size;have q:=za m 0;go_wp2;refine(o w1 f).mono ?_;intro e w2 a;obtain⟨y,G,z,F,B,rfl,s,u, -⟩:=a.step;have k:=zh u;have n:=zh b.lt;clear u a;replace⟨m,b,f⟩:=zb3 m b f s;clear s;have x0:=za b 0;have H:=b.Z 0;have J:=b.lt;go_wp2;refine D7 (v:=zY #[zX #[zU y G z],zI zi F,zI zi B]) (by simp[results,results203,go_sem,x0,H]) rfl ?_;have I:=j.out;exact k w _ _ w.heap.size n (by omega) (f.setCell (p:=⟨w.heap.size+1,0,none⟩) (by show w.heap.size<=w.heap.size+1;omega) _)
def aH (h:zL w w1):w.grownBy w1 row:=au (bJ row w) h
def iq {w w1 w2:World} (h:zL w w1) (a:w1.grownBy w2 row):w.grownBy w2 row:=aA (aH h) a
structure BC where
 V:Value
 H:Value
 S:Value
 D:Value
 G:Value
 L:Value
 M:Value
def BB (w:World) (g:Nat) (C:BC) (d:List Nd):Prop:=(∃A c,Box w g #[zU A (zN d) c,C.V,C.H,C.S,C.D,C.G,C.L,C.M] 149/\Rs ndR w (zU A (zN d) c) d ah/\NR w (zU A (zN d) c))/\DV d
def BB.Q {C:BC} (h:BB w g C d) (a:zL w w'):BB w' g C d:=by obtain⟨⟨A,c,b,e,f⟩,i⟩:=h;exact⟨⟨A,c,b.Q a,e.Q a,f.Q a⟩,i⟩
instance {w w':World} {g:Nat} {C:BC} {d:List Nd}:Zm w w' (BB w g C d) (BB w' g C d):=⟨λhb h=>BB.Q h hb⟩
def BB.setBox {C:BC} (h:BB w g C d) (o:Box w b cs T) (n:T≠95) (e:b≠g) (i:Nat) (u:Value):BB (w.setCell ⟨b,i,none⟩ u) g C d:=by obtain⟨⟨A,c,k,l,f⟩,m⟩:=h;have j:=f.box o n;exact⟨⟨A,c,k.setNe ⟨b,i,none⟩ u e,eV ((eV l λ_=>False).same (by simp[World.setCell]) (λq a=>Eo w ⟨b,i,none⟩ u q (j q a)) (λ_ _ h=>h.elim)) _,f.keep λq a _=>Eo w ⟨b,i,none⟩ u q (j q a)⟩,m⟩
def BB.grownBox {C:BC} (h:BB w g C d) (u:Box w b cs T) (t:T≠95) (j:b≠g) (m:w.grownBy w' (some b)):BB w' g C d:=by obtain⟨⟨A,c,l,p,f⟩,r⟩:=h;have n:=f.box u t;have hk:∀q,q≠b->q<w.heap.size->w'.heap[q]? =w.heap[q]? :=λq k i=>m.block q i (by simpa using k);refine⟨⟨A,c,(hk g (λe=>j e.symm) l.lt).trans l, ?_,f.keep λq a i=>hk q (n q a) i⟩,r⟩;refine eV ((eV p λ_=>False).same m.size (λq a=> ?_) (λ_ _ h=>h.elim)) _;have⟨o,v,s⟩:=f q a;exact hk q (n q a) (my s)
def fD {α:Type} (enc:α->Value) (b:List Nd->α->Prop) (w:World) (g:Nat) (C:BC) (d:List Nd) (r:Option (α×List Nd)) (e:Ending) (w':World):Prop:=w.grownBy w' (some g)/\match r with
 |some (a,d')=>e=zE (enc a)/\BB w' g C d'/\Ext d d'/\b d' a
 |none=>e= .panicked (oE 2)
def bM (i:Nat):Value:=zI zi i
def okN (d:List Nd) (i:Nat):Prop:=i<zN d
def YN (w:World) (g:Nat) (C:BC) (d:List Nd) (f:Nat) (e:Ending) (w':World):Prop:=e=zE (zI zi f)/\BB w' g C d/\w.grownBy w' (some g)
def nT (w:World) (g:Nat) (C:BC) (d o:List Nd) (k:BB w g C d) (x:Value) (u:DV o) (h:Rs ndR w x o ah) (l:NR w x) (f:Nat):Calls zz 201 #[zP g,zX #[x],zI zi f,zI zi 0] w (YN w g C o f):=by
 obtain⟨⟨E,G,r, -, -⟩, -⟩:=k;obtain⟨A,c,rfl,B⟩:=h.slice;have⟨a,t,y,i⟩:=zk4 r h u l;have p:=zh (l.box r (by decide));have⟨N,n⟩:=zvh (zN o);rw[<-n] at t p i⊢;have⟨F,j⟩:=zv (zN d);rw[<-j] at a;clear r h u l B j;go_enter func201,ntmps201;go_upto_region 1 with fail;generalize m:w.alloc _=w1 at*;have⟨s,z⟩:=zB1 m;clear m;have D:=a.lt;replace a:=zh (a.Q s);have I:=za a 0;have K:=a.Z 0;have J:=a.lt;have H:=za z 0;go_wp2;go_ret;have e:=s.out;have v:∀b,b≠g->(w1.setCell ⟨g,0,none⟩ (zU A N c)).heap[b]? =w1.heap[b]? :=λb k=>Eo w1 ⟨g,0,none⟩ _ b k;refine⟨rfl,⟨⟨A,c, ?_, ?_,by rw[<-n];exact(i.Q e).keep λq l _=>v q (p q l)⟩,y⟩,bI (aH e)⟩
 .rw[<-n];exact a.set_ 0 (zU A N c)
 rw[<-n];exact eV ((eV (t.Q e) λ_=>False).same (by simp[World.setCell]) (λb k=>v b (p b k)) (λ_ _ h=>h.elim)) _
def fO (w:World) (p:Value) (A:Option Addr) (n c:Nat) (f er:Int) (d:er≠0):Calls zz 201 #[p,zX #[zU A n c],zI zi f,zI zi er] w λe w'=>e= .panicked (oE er)/\zL w w':=by
 have h:(er !=0)=true:=by simpa using d
 go_enter func201,ntmps201;go_upto_region 1 with fail;generalize a:w.alloc _=w1 at*;have⟨b,g⟩:=zB1 a;go_wp2;exact⟨rfl,rfl,b⟩
section
open Go.RowKit
def zl {C:BC} (a:BB w g C d):g<w.heap.size:=by obtain⟨⟨A,c,b,_⟩,_⟩:=a;exact b.lt
end
end
section
variable (w:World)
theorem mX.cases {B:Nat} {w:World} {r:Option (List Nd×Nat)} {e:Ending} {w':World} (h:mX B w r e w'):(∃d i A c,r=some (d,i)/\e=zE (zY #[zX #[zU A (zN d) c],zI zi i,zI zi 0])/\Rs ndR w' (zU A (zN d) c) d ah/\NR w' (zU A (zN d) c)/\zL w w')∨
  (r=none/\e=zE (zY #[zX #[zU none 0 0],zI zi 0,zI zi 2])/\zL w w'):=by
 match r,h with
 |some (d,i),⟨x,e1,⟨h1,h2,_⟩,h3⟩=>obtain⟨A,c,rfl,_⟩:=h1.slice;exact zQ ⟨d,i,A,c,rfl,e1,h1,h2,h3⟩
 |none,⟨e1,h3⟩=>exact zO ⟨rfl,e1,h3⟩
def lp (g:Nat) (C:BC) (d:List Nd) (y:BB w g C d) (F:Nat) (p:F<zN d):Calls zz 127 #[zP g,zI zi F] w (fD bM okN w g C d (gI F d)):=by
 have E:Hid (gI F d=(eQ (λf _ _=> !f) d ⟨F,F,F⟩).map λr=>(r.2,r.1)):=zh rfl;have T:=zl y;have u:=zh y;obtain⟨⟨A,c,L,b,U⟩,z⟩:=y;have B:=zh (WW w _ d z b F p);have x:=zh fun(k:List Nd) (i:Nat) (h:eQ (λf _ _=> !f) d ⟨F,F,F⟩=some (k,i))=>lM z (show In3 d ⟨F,F,F⟩ from⟨p,p,p⟩) h;have⟨X,G⟩:=zk2 b L;generalize eQ (λf _ _=> !f) d ⟨F,F,F⟩=r,gI F d=q at*;have⟨N,S⟩:=zvh (zN d);rw[<-S] at B G;clear L b U z p;go_enter func127,ntmps127;have H:=za G 0;go_wp2;refine B.mono ?_;intro e w2 n;rcases n.cases with⟨k,i,W,Y,b,rfl,I,J,a⟩|⟨b,rfl,a⟩
 .obtain⟨P,Q,R, -⟩:=x k i b;have m:Hid (q=some (i,k)):=zh (by rw[E,b];rfl);have o:Hid (Ext d k/\i<zN k):=zh ⟨P,R⟩;have D:=zh (nT w2 g C d k (u.Q a) _ Q I J i);have l:=zh a;have⟨M,K⟩:=zv (zN k);rw[<-K] at D⊢;clear b I J a P Q R n H K;go_wp2;refine D.mono ?_;rintro e V ⟨rfl,j,s⟩;have⟨t,v⟩:=zk2 j s;clear j s;go_wp2;go_ret;rw[m];exact⟨iq l v,rfl,t,o.1,o.2⟩
 have m:Hid (q=none):=zh (by rw[E,b];rfl);have l:=zh a;clear b a n H;go_wp2;refine zK (fO w2 _ none 0 0 0 2 (by decide)) λV j=> ?_;refine⟨rfl, ?_⟩;rw[m];exact⟨aH (aa l j),rfl⟩
def kg (g:Nat) (C:BC) (d:List Nd) (z:BB w g C d) (F G:Nat) (y:F<zN d) (s:G<zN d):Calls zz 207 #[zP g,zI zi F,zI zi G] w (fD bM okN w g C d (et F G d)):=by
 have H:Hid (et F G d=(eQ (λf g _=>f&&g) d ⟨F,G,G⟩).map λr=>(r.2,r.1)):=zh rfl;have V:=zl z;have u:=zh z;obtain⟨⟨A,c,Q,b,W⟩,B⟩:=z;have D:=zh (Ry w _ d B b F G y s);have x:=zh fun(k:List Nd) (i:Nat) (h:eQ (λf g _=>f&&g) d ⟨F,G,G⟩=some (k,i))=>lM B (show In3 d ⟨F,G,G⟩ from⟨y,s,s⟩) h;have⟨Z,I⟩:=zk2 b Q;generalize eQ (λf g _=>f&&g) d ⟨F,G,G⟩=r,et F G d=q at*;have⟨N,U⟩:=zvh (zN d);rw[<-U] at D I;clear Q b W B y s;go_enter func207,ntmps207;have J:=za I 0;go_wp2;refine D.mono ?_;intro e w2 n;rcases n.cases with⟨k,i,Y,c',b,rfl,K,L,a⟩|⟨b,rfl,a⟩
 .obtain⟨R,S,T, -⟩:=x k i b;have m:Hid (q=some (i,k)):=zh (by rw[H,b];rfl);have o:Hid (Ext d k/\i<zN k):=zh ⟨R,T⟩;have E:=zh (nT w2 g C d k (u.Q a) _ S K L i);have l:=zh a;have⟨M,P⟩:=zv (zN k);rw[<-P] at E⊢;clear b K L a R S T n J P;go_wp2;refine E.mono ?_;rintro e X ⟨rfl,j,p⟩;have⟨t,v⟩:=zk2 j p;clear j p;go_wp2;go_ret;rw[m];exact⟨iq l v,rfl,t,o.1,o.2⟩
 have m:Hid (q=none):=zh (by rw[H,b];rfl);have l:=zh a;clear b a n J;go_wp2;refine zK (fO w2 _ none 0 0 0 2 (by decide)) λX j=> ?_;refine⟨rfl, ?_⟩;rw[m];exact⟨aH (aa l j),rfl⟩
def tm (g:Nat) (C:BC) (d:List Nd) (z:BB w g C d) (F G:Nat) (y:F<zN d) (s:G<zN d):Calls zz 123 #[zP g,zI zi F,zI zi G] w (fD bM okN w g C d (orB F G d)):=by
 have H:Hid (orB F G d=(eQ (λf g _=>f||g) d ⟨F,G,G⟩).map λr=>(r.2,r.1)):=zh rfl;have V:=zl z;have u:=zh z;obtain⟨⟨A,c,Q,b,W⟩,B⟩:=z;have D:=zh (Yv w _ d B b F G y s);have x:=zh fun(k:List Nd) (i:Nat) (h:eQ (λf g _=>f||g) d ⟨F,G,G⟩=some (k,i))=>lM B (show In3 d ⟨F,G,G⟩ from⟨y,s,s⟩) h;have⟨Z,I⟩:=zk2 b Q;generalize eQ (λf g _=>f||g) d ⟨F,G,G⟩=r,orB F G d=q at*;have⟨N,U⟩:=zvh (zN d);rw[<-U] at D I;clear Q b W B y s;go_enter func123,ntmps123;have J:=za I 0;go_wp2;refine D.mono ?_;intro e w2 n;rcases n.cases with⟨k,i,Y,c',b,rfl,K,L,a⟩|⟨b,rfl,a⟩
 .obtain⟨R,S,T, -⟩:=x k i b;have m:Hid (q=some (i,k)):=zh (by rw[H,b];rfl);have o:Hid (Ext d k/\i<zN k):=zh ⟨R,T⟩;have E:=zh (nT w2 g C d k (u.Q a) _ S K L i);have l:=zh a;have⟨M,P⟩:=zv (zN k);rw[<-P] at E⊢;clear b K L a R S T n J P;go_wp2;refine E.mono ?_;rintro e X ⟨rfl,j,p⟩;have⟨t,v⟩:=zk2 j p;clear j p;go_wp2;go_ret;rw[m];exact⟨iq l v,rfl,t,o.1,o.2⟩
 have m:Hid (q=none):=zh (by rw[H,b];rfl);have l:=zh a;clear b a n J;go_wp2;refine zK (fO w2 _ none 0 0 0 2 (by decide)) λX j=> ?_;refine⟨rfl, ?_⟩;rw[m];exact⟨aH (aa l j),rfl⟩
def qF (g:Nat) (C:BC) (d:List Nd) (z:BB w g C d) (F G:Nat) (y:F<zN d) (s:G<zN d):Calls zz 210 #[zP g,zI zi F,zI zi G] w (fD bM okN w g C d (iB F G d)):=by
 have H:Hid (iB F G d=(eQ (λf g _=>f !=g) d ⟨F,G,G⟩).map λr=>(r.2,r.1)):=zh rfl;have V:=zl z;have u:=zh z;obtain⟨⟨A,c,Q,b,W⟩,B⟩:=z;have D:=zh (WV w _ d B b F G y s);have x:=zh fun(k:List Nd) (i:Nat) (h:eQ (λf g _=>f !=g) d ⟨F,G,G⟩=some (k,i))=>lM B (show In3 d ⟨F,G,G⟩ from⟨y,s,s⟩) h;have⟨Z,I⟩:=zk2 b Q;generalize eQ (λf g _=>f !=g) d ⟨F,G,G⟩=r,iB F G d=q at*;have⟨N,U⟩:=zvh (zN d);rw[<-U] at D I;clear Q b W B y s;go_enter func210,ntmps210;have J:=za I 0;go_wp2;refine D.mono ?_;intro e w2 n;rcases n.cases with⟨k,i,Y,c',b,rfl,K,L,a⟩|⟨b,rfl,a⟩
 .obtain⟨R,S,T, -⟩:=x k i b;have m:Hid (q=some (i,k)):=zh (by rw[H,b];rfl);have o:Hid (Ext d k/\i<zN k):=zh ⟨R,T⟩;have E:=zh (nT w2 g C d k (u.Q a) _ S K L i);have l:=zh a;have⟨M,P⟩:=zv (zN k);rw[<-P] at E⊢;clear b K L a R S T n J P;go_wp2;refine E.mono ?_;rintro e X ⟨rfl,j,p⟩;have⟨t,v⟩:=zk2 j p;clear j p;go_wp2;go_ret;rw[m];exact⟨iq l v,rfl,t,o.1,o.2⟩
 have m:Hid (q=none):=zh (by rw[H,b];rfl);have l:=zh a;clear b a n J;go_wp2;refine zK (fO w2 _ none 0 0 0 2 (by decide)) λX j=> ?_;refine⟨rfl, ?_⟩;rw[m];exact⟨aH (aa l j),rfl⟩
def RW (g:Nat) (C:BC) (d:List Nd) (B:BB w g C d) (F G H:Nat) (x:F<zN d) (y:G<zN d) (z:H<zN d):Calls zz 134 #[zP g,zI zi F,zI zi G,zI zi H] w (fD bM okN w g C d (fB F G H d)):=by
 have J:Hid (fB F G H d=(eQ (λf g h=>f&&g|| !f&&h) d ⟨F,G,H⟩).map λr=>(r.2,r.1)):=zh rfl;have X:=zl B;have t:=zh B;obtain⟨⟨A,c,S,b,Y⟩,D⟩:=B;have E:=zh (Dm w _ d D b F G H x y z);have v:=zh fun(k:List Nd) (i:Nat) (h:eQ (λf g h=>f&&g|| !f&&h) d ⟨F,G,H⟩=some (k,i))=>lM D (show In3 d ⟨F,G,H⟩ from⟨x,y,z⟩) h;have⟨HR,K⟩:=zk2 b S;generalize eQ (λf g h=>f&&g|| !f&&h) d ⟨F,G,H⟩=r,fB F G H d=q at*;have⟨N,W⟩:=zvh (zN d);rw[<-W] at E K;clear S b Y D x y z;go_enter func134,ntmps134;have L:=za K 0;go_wp2;refine E.mono ?_;intro e w2 n;rcases n.cases with⟨k,i,A',c',b,rfl,P,Q,a⟩|⟨b,rfl,a⟩
 .obtain⟨T,U,V, -⟩:=v k i b;have m:Hid (q=some (i,k)):=zh (by rw[J,b];rfl);have o:Hid (Ext d k/\i<zN k):=zh ⟨T,V⟩;have I:=zh (nT w2 g C d k (t.Q a) _ U P Q i);have l:=zh a;have⟨M,R⟩:=zv (zN k);rw[<-R] at I⊢;clear b P Q a T U V n L R;go_wp2;refine I.mono ?_;rintro e Z ⟨rfl,j,p⟩;have⟨s,u⟩:=zk2 j p;clear j p;go_wp2;go_ret;rw[m];exact⟨iq l u,rfl,s,o.1,o.2⟩
 have m:Hid (q=none):=zh (by rw[J,b];rfl);have l:=zh a;clear b a n L;go_wp2;refine zK (fO w2 _ none 0 0 0 2 (by decide)) λZ j=> ?_;refine⟨rfl, ?_⟩;rw[m];exact⟨aH (aa l j),rfl⟩
end
section
variable {C:BC} {b c e g k:Nat} {α β:Type} {f h i j:TypeId}
def wv (ws:List Nat):Array Value:=(ws.map fun x=>Value.int .i64 (x:Nat)).toArray
def aw (ws:List Nat):(wv ws).size=ws.length:=by simp[wv]
def cG {ws:List Nat} (h:k<zN ws):(wv ws)[k]? =some (zI zi ((zG ws k 0:Nat):Int)):=by unfold wv;rw[Ek,Ed,DC,DD h];rfl
def jo (ws:List Nat) (k x:Nat):(wv ws).setIfInBounds k (zI zi x)=wv (ws.set k x):=by unfold wv;rw[E1,List.map_set]
def bz (ws:List Nat):(wv ws).all (·.oneCell')=true:=by unfold wv;rw[Array.all_eq_true'];intro v a;simp only[List.mem_toArray,EJ] at a;obtain⟨x,_,rfl⟩:=a;rfl
def okW (d:List Nd) (ws:List Nat):Prop:=zN ws=16/\∀x∈ws,x<zN d
def cU (ws:List Nat):Value:=zX (wv ws)
def ta {d d':List Nd} (h:Ext d d'):zN d<=zN d':=by obtain⟨a,rfl⟩:=h;simp
def okN.ext {d a:List Nd} {i:Nat} (h:okN d i) (b:Ext d a):okN a i:=DU h (ta b)
def okW.ext {d a:List Nd} {ws:List Nat} (h:okW d ws) (b:Ext d a):okW a ws:=⟨h.1,λx c=>DU (h.2 x c) (ta b)⟩
def okW.at {d:List Nd} {ws:List Nat} (h:okW d ws) (hk:k<16):okN d (zG ws k 0):=by
 show zG ws k 0<zN d;have a:k<zN ws:=by rw[h.1];exact hk
 rw[DC,DD a];exact h.2 _ (EE a)
def okW.set {d:List Nd} {ws:List Nat} (h:okW d ws) (k:Nat) {x:Nat} (b:x<zN d):okW d (ws.set k x):=⟨by rw[Er];exact h.1,λy a=>by
 rcases List.mem_or_eq_of_mem_set a with a|rfl
 .exact h.2 y a
 exact b⟩
def p7:(zz.info? 146).map (·.size)=some 16:=by kernel_rfl
def Yo:(zz.info? 3).map (·.size)=some 1:=by kernel_rfl
def ldW {W:World} {a:Array Value} (h:Box W g a 146) (b:a.size=16):(Instr.loadAt 146 (zP g)).run Tryz.prog W= .ok (zX a) W:=by simp only[Instr.loadAt,Instr.sureAddr,Sem.run_bind,Sem.run_pure,Result.andThen_ok,run_loadVar_row W g _ _ a (0,0) _ h underlying146 rfl (by rw[p7,b])]
theorem ixW {c:Array Value} {k:Nat} {v:Value} (g:c[k]? =some v) (hk:k<16) (W:World):(Instr.index 146 (zX c) (zI zi k)).run Tryz.prog W= .ok v W:=by
 obtain⟨i,hi,d⟩:∃i,Tryz.prog.info? 3=some i/\i.size=1:=by
  cases h:Tryz.prog.info? 3 with
  |none=>have:=Yo;rw[h] at this;cases this
  |some i=>have:=Yo;rw[h] at this;exact⟨i,rfl,by simpa using this⟩
 have e:(0:Int)<=(k:Int)/\(k:Int)<((16:Nat):Int):=by omega
 have f:=underlying146;have b:=underlying3;simp only[Instr.index,asIntOf,Sem.run_bind,Sem.run_pure,Result.andThen_ok,run_underlying f,run_underlying b,part,isAgg,sizeOf,typeInfo,hi,d];have a:(k:Int)<16:=by omega
 simp[e,a,g,hi,d]
section
variable {ops:Array Oper} {rest:List Oper} {o:Oper} {a:Act} {w:World} {Q:Exit->Act->World->Prop}
def bu (c:o.guard=none) (x:Operand) (e:o.op= .load 146 x) (g:Nat) (i:a.eval x=zP g) {b:Array Value} (d:Hid (Box w g b 146)) (f:Hid (b.size=16)) (h:wpList zz ops Q rest (a.put o.dst (zX b)) w):wpList zz ops Q (o::rest) a w:=wpList_load_row c 146 x e g i _ b (0,0) _ d underlying146 rfl (by rw[p7,f]) h
def aP (d:o.guard=none) (x y:Operand) (n:o.op= .store 146 x y) (g:Nat) (b:Array Value) (p:a.eval x=zP g) (q:a.eval y=zX b) {c:Array Value} (j:Hid (Box w g c 146)) (i:Hid (c.size=16)) (l:Hid (b.size=16)) (m:Hid (b.all (·.oneCell')=true)) (h:∀w',Hid (Box w' g b 146)->Hid (w.grownBy w' (some g))->wpList zz ops Q rest (a.put o.dst undef) w'):wpList zz ops Q (o::rest) a w:=
 wpList_store_row d 146 x y n g b p q _ c j (by rw[p7,l]) (by rw[i,l]) m
  (h _ (zh (setRow_heap w g _ _ _ _ j)) (zh ⟨rfl,rfl,rfl,by simp[World.setRow],λk hk f=>setRow_other w g k _ (λe=>f (by rw[e]))⟩))
end
def oQ {ops:Array Oper} {S:World->Prop} {op:Oper} {a:Act} {x:Operand} (g:Nat) {b:Array Value} (d:∀W,S W->Box W g b 146) (f:Hid (b.size=16)) (h:Region.wanted op (yielded ops a.tmps)=true:=by rfl) (e:op.op= .load 146 x:=by rfl) (i:a.eval x=zP g:=by rfl):YieldsIf zz ops S op (zX b) a:=
 zQ ⟨h,λw c=>by unfold execOp;simp only[e,i,ldW (d w c) f.out,Result.andThen_ok,Sem.run_bind,Sem.run_pure]⟩
def so {ops:Array Oper} {rest:List Oper} {w0:World} {Lq:Act->Prop} {op:Oper} {a:Act} (i:Region.wanted op (yielded ops a.tmps)=true) (x:Operand) (e:op.op= .load 146 x) (g:Nat) (j:a.eval x=zP g) {b:Array Value} (d:Hid (Box w0 g b 146)) (f:Hid (b.size=16)) (h:wpQuiet zz ops (λw'=>∃p:Lat w0,w'=p.w) Lq rest (a.put op.dst (zX b))):wpQuiet zz ops (λw'=>∃p:Lat w0,w'=p.w) Lq (op::rest) a:=by unfold wpQuiet;rw[DP i];refine⟨zX b,λw' c=> ?_,h⟩;obtain⟨p,rfl⟩:=c;unfold Oper.quietAt execOp;simp only[e,j,ldW (d.out.Q p.h) f.out,Result.andThen_ok,Sem.run_bind,Sem.run_pure];exact⟨rfl,rfl⟩
def aW {fn:Func} {p:Tmp} (h:fn.results=#[.cell p 146]) (tmps:Array Value) {w:World} {CS:Array Value} (hp:tmps.getD p undef= .pointer (some ⟨g,0,none⟩)) (hb:Box w g CS 146) (hs:CS.size=16):(results fn tmps).run Tryz.prog w= .ok (.agg CS) w:=
 results_cell_row h tmps w g _ CS (0,0) _ hp hb underlying146 rfl (by rw[p7,hs])
theorem fD.cases {α:Type} {enc:α->Value} {f:List Nd->α->Prop} {w:World} {g:Nat} {C:BC} {d:List Nd} {r:Option (α×List Nd)} {e:Ending} {w':World} (h:fD enc f w g C d r e w'):
  (∃a b,r=some (a,b)/\e=zE (enc a)/\BB w' g C b/\Ext d b/\f b a/\w.grownBy w' (some g))\/(r=none/\e= .panicked (oE 2)/\w.grownBy w' (some g)):=by
 obtain⟨c,i⟩:=h;match r,i with
 |some (a,b),⟨h3,h4,h5,h6⟩=>exact zQ ⟨a,b,rfl,h3,h4,h5,h6,c⟩
 |none,h3=>exact zO ⟨rfl,h3,c⟩
def bind_some {m:Bm α} {f:α->Bm β} {d d':List Nd} {a:α} (h:m d=some (a,d')):m.bind f d=f a d':=by unfold Bm.bind;rw[h]
def cm {m:Bm α} {f:α->Bm β} {d:List Nd} (h:m d=none):m.bind f d=none:=by unfold Bm.bind;rw[h]
def bP {ws:List Nat} (h:k<zN ws):ws.drop k=zG ws k 0::ws.drop (k+1):=by rw[Eq h,DC,DD h];rfl
def ap {w w':World} {a g:Nat} {cs:Array Value} {T:TypeId} (c:Box w a cs T) (h:w.grownBy w' (some g)) (b:a≠g:=by omega):Box w' a cs T:=(h.block a c.lt (by simpa using b)).trans c
def kO (w:World) (g:Nat) (C:BC) (d:List Nd) (c:BB w g C d) (ws:List Nat) (n:okW d ws):Calls zz 73 #[zP g,zX (wv ws)] w (fD bM okN w g C d (bH ws 0 d)):=by
 have S:=zl c;have⟨a,Q⟩:=zk2 c n;have P:Hid ((wv ws).size=16):=zh (by rw[aw,n.1]);have M:Hid (∀k,k<16->(wv ws)[k]? =some (zI zi ((zG ws k 0:Nat):Int))):=zh λk hk=>cG (by rw[n.1];exact hk);have L:Hid (∀k,k<16->ws.drop k=zG ws k 0::ws.drop (k+1)):=zh λk hk=>bP (by rw[n.1];exact hk);have N:Hid (ws.drop 16=[]):=zh (EA (by rw[n.1];exact DE _));generalize wv ws=CS at*;clear c n;go_enter func73,ntmps73;go_upto_region 2 with fail;generalize z:w.alloc _=w1 at*;have⟨G,R⟩:=zB1 z;clear z;replace a:=zh (a.Q G);go_wp2_with(refine wpList_load_row rfl 146 _ rfl w.heap.size rfl _ CS (0,0) _ R underlying146 rfl (by rw[p7,P]) ?_);go_loopw [5,9] (λs i wr=>∃(k t:Nat) (j:List Nd),k<=16/\i=zI zi k/\s=zI zi t/\BB wr g C j/\Ext d j/\t<zN j/\w.grownBy wr (some g)/\bH ws 0 d=bH (ws.drop k) t j) (λ_ i _=>16-(intOf i).toNat)
 .exact⟨0,0,d,DH _,rfl,rfl,a,Ext.refl d,by have:=a.2.two;omega,aH G,rfl⟩
 obtain⟨k,t,j,hk,rfl,rfl,c,r,x,m,J⟩:=hrel;have⟨a,B,I,l,H⟩:=zk5 c r x m J;clear c r x m J;by_cases h:k<16
 .have v:(k:Int)<16:=by omega
  have ix:=ixW (M k h) h;have K:=zh (tm wr g C j a t (zG ws k 0) I ((Q.ext B).at h));have b:Hid (bH ws 0 d=((orB t (zG ws k 0)).bind λy=>bH (ws.drop (k+1)) y) j):=zh (by rw[H,L k h];rfl);generalize zG ws k 0=f at*;go_wp2;refine K.mono ?_;intro e w2 q;rcases q.cases with⟨y,d2,A,rfl,c,r,x,m⟩|⟨A,rfl,m⟩
  .have o:=zh c;have D:=zh (B.trans r);have F:Hid (y<zN d2):=zh x;have p:=zh (aA l m);have E:Hid (bH ws 0 d=bH (ws.drop (k+1)) y d2):=zh (by rw[b,bind_some A]);unfold bM;clear A c r x m ix q;go_wp2;go_roundw
   .exact⟨k+1,y,d2,by omega,by go_num,rfl,o,D,F,p,E⟩
   simp[intOf];omega
  refine⟨rfl, ?_⟩;rw[b,cm A];exact⟨aA l m,rfl⟩
 have v:¬(k:Int)<16:=by omega
 have u:k=16:=by omega
 subst u;have b:Hid (bH ws 0 d=some (t,j)):=zh (by rw[H,N];rfl);go_wp2;go_ret;rw[b];exact⟨l,rfl,a,B,I⟩
section
open Go.RowKit
def zg {w w':World} {a g:Nat} {cs:Array Value} {t:TypeId} (h:Hid (Box w a cs t)) (c:w.grownBy w' (some g)) (b:a≠g:=by omega):Hid (Box w' a cs t):=ap h c b
def zn {enc:α->Value} {b:List Nd->α->Prop} {w w2:World} {d:List Nd} {a:Option (α×List Nd)} (h:w.grownBy w2 (some g)/\a=none):fD enc b w g C d a (.panicked (oE 2)) w2:=by rw[h.2];exact⟨h.1,rfl⟩
def zo {enc:α->Value} {p:List Nd->α->Prop} {w w1 w2:World} {n d:List Nd} {m:Bm α} {f:α->Bm β} {c:Option (β×List Nd)} {e:Ending} (l:Hid (c=m.bind f d)) (q:Hid (Ext n d)) (k:Hid (w.grownBy w1 (some g))) (h:fD enc p w1 g C d (m d) e w2):(e= .panicked (oE 2)/\w.grownBy w2 (some g)/\c=none)\/(∃a d2,e=zE (enc a)/\Hid (c=f a d2)/\Hid (BB w2 g C d2)/\Ext d d2/\Hid (p d2 a)/\w1.grownBy w2 (some g)/\Hid (Ext n d2)/\Hid (w.grownBy w2 (some g))):=by
 rcases h.cases with⟨a,d2,j,i,r,o,s,b⟩|⟨j,i,b⟩
 .exact zO ⟨a,d2,i,l.trans (bind_some j),r,o,s,b,q.trans o,aA k b⟩
 exact zQ ⟨i,aA k b,l.trans (cm j)⟩
def zoC {P:Program} {j:FuncId} {args:Array Value} {enc:α->Value} {k:List Nd->α->Prop} {w w1:World} {i d:List Nd} {m:Bm α} {f:α->Bm β} {b:Option (β×List Nd)} {Q:Ending->World->Prop} (l:Hid (Calls P j args w1 (fD enc k w1 g C d (m d)))) (p:Hid (b=m.bind f d)) (n:Hid (Ext i d)) (o:Hid (w.grownBy w1 (some g))) (q:∀w2,(w.grownBy w2 (some g)/\b=none)->Q (.panicked (oE 2)) w2) (r:∀w2 a d2,Hid (b=f a d2)->Hid (BB w2 g C d2)->Ext d d2->Hid (k d2 a)->w1.grownBy w2 (some g)->Hid (Ext i d2)->Hid (w.grownBy w2 (some g))->Q (zE (enc a)) w2):Calls P j args w1 Q:=l.mono λe w2 c=>(zo p n o c).elim (λh=>h.1▸q w2 h.2) λ⟨a,d2,s,h⟩=>s▸r w2 a d2 h.1 h.2.1 h.2.2.1 h.2.2.2.1 h.2.2.2.2.1 h.2.2.2.2.2.1 h.2.2.2.2.2.2
def zg2 {w w':World} {a:Nat} {c:Array Value} {e:TypeId} {c1:Array Value} (h:Hid (Box w a c e)) (i:Hid (Box w b c1 f)) (d:w.grownBy w' (some g)) (j:a≠g:=by omega) (k:b≠g:=by omega):Hid (Box w' a c e)/\Hid (Box w' b c1 f):=⟨zg h d j,zg i d k⟩
def zg3 {w w':World} {a:Nat} {e:Array Value} {c1:Array Value} {c2:Array Value} (j:Hid (Box w a e f)) (k:Hid (Box w b c1 h)) (l:Hid (Box w c c2 i)) (d:w.grownBy w' (some g)) (m:a≠g:=by omega) (n:b≠g:=by omega) (o:c≠g:=by omega):Hid (Box w' a e f)/\Hid (Box w' b c1 h)/\Hid (Box w' c c2 i):=⟨zg j d m,zg k d n,zg l d o⟩
def zg4 {w w':World} {f:Array Value} {c1:Array Value} {d:Nat} {c2:Array Value} {c3:Array Value} {k:TypeId} (l:Hid (Box w b f h)) (m:Hid (Box w c c1 i)) (n:Hid (Box w d c2 j)) (o:Hid (Box w e c3 k)) (a:w.grownBy w' (some g)) (p:b≠g:=by omega) (q:c≠g:=by omega) (r:d≠g:=by omega) (s:e≠g:=by omega):Hid (Box w' b f h)/\Hid (Box w' c c1 i)/\Hid (Box w' d c2 j)/\Hid (Box w' e c3 k):=⟨zg l a p,zg m a q,zg n a r,zg o a s⟩
def zg5 {w w':World} {h:Array Value} {c1:Array Value} {d:Nat} {c2:Array Value} {k:TypeId} {c3:Array Value} {l:TypeId} {f:Nat} {c4:Array Value} {m:TypeId} (n:Hid (Box w b h i)) (o:Hid (Box w c c1 j)) (p:Hid (Box w d c2 k)) (q:Hid (Box w e c3 l)) (r:Hid (Box w f c4 m)) (a:w.grownBy w' (some g)) (s:b≠g:=by omega) (t:c≠g:=by omega) (u:d≠g:=by omega) (v:e≠g:=by omega) (x:f≠g:=by omega):Hid (Box w' b h i)/\Hid (Box w' c c1 j)/\Hid (Box w' d c2 k)/\Hid (Box w' e c3 l)/\Hid (Box w' f c4 m):=⟨zg n a s,zg o a t,zg p a u,zg q a v,zg r a x⟩
end
end
section
variable (m:Bm (List Nat)) {a b cur:List Nat} {k x:Nat} {α:Type} {w w2:World}
def eq {α β γ:Type} (m:Bm α) (f:α->Bm β) (h:β->Bm γ):(m.bind f).bind h=m.bind λa=>(f a).bind h:=by funext d;unfold Bm.bind;cases m d<;>rfl
theorem ej {α:Type} (m:Bm α):(m.bind λa=>Bm.ret a)=m:=by
 funext d;unfold Bm.bind Bm.ret;cases m d with
 |none=>rfl
 |some r=>rfl
def aR (m:Bm (List Nat)) (p:List Nat):Bm (List Nat):=m.bind λr=>Bm.ret (p++r)
def iY:aR m []=m:=ej m
def fb (m:Bm α) (f:α->Bm (List Nat)) (p:List Nat):aR (m.bind f) p=m.bind λa=>aR (f a) p:=eq _ _ _
def i4 (x:Nat) (p:List Nat):aR (m.bind λr=>Bm.ret (x::r)) p=aR m (p++[x]):=by unfold aR;rw[eq];congr 1;funext r;show Bm.ret (p++x::r)=Bm.ret (p++[x]++r);simp
def lD (x:Nat) (p:List Nat):(m.bind λr=>aR (Bm.ret (x::r)) p)=aR m (p++[x]):=by rw[<-fb,i4]
def iZ (p:List Nat):aR (Bm.ret []) p=Bm.ret p:=by show Bm.ret (p++[])=_;simp
def fm (hk:k<zN cur):(cur.set k x).take (k+1)=cur.take k++[x]:=by rw[List.take_set,Ep,DD hk];simp only[Option.toList_some];rw[Fy _ _ (by rw[D3];omega)];congr 1;rw[D3,Nat.min_eq_left (by omega),EB];rfl
def iT:(cur.set k x).drop (k+1)=cur.drop (k+1):=by rw[List.drop_set,DP (by omega)]
def gS (h:a.drop k=b.drop k):zG a k 0=zG b k 0:=by have c:=Ev (λl=>zG l 0 0) h;simpa [DC] using c
def fM (h:a.drop k=b.drop k):a.drop (k+1)=b.drop (k+1):=by have c:=Ev (λl=>l.drop 1) h;simpa [List.drop_drop,Nat.add_comm] using c
def cx {g b i:Nat} {u:Value} (h:w.grownBy w2 (some g)) (c:w.heap.size<=b):w.grownBy (w2.setCell ⟨b,i,none⟩ u) (some g):=⟨h.os,h.tape,h.output,by simpa [World.setCell] using h.size,λk hk a=>(Eo w2 ⟨b,i,none⟩ u k (λe=>by have e:k=b:=e;omega)).trans (h.block k hk a)⟩
def aJ {w w1 w2:World} {g b:Nat} (h:w.grownBy w1 (some g)) (a:w1.grownBy w2 (some b)) (d:w.heap.size<=b:=by omega):w.grownBy w2 (some g):=⟨a.os.trans h.os,a.tape.trans h.tape,a.output.trans h.output,D2 h.size a.size,λk hk c=>(a.block k (DU hk h.size) (λe=>by simp only[DN] at e;omega)).trans (h.block k hk c)⟩
def z16:List Nat:=List.replicate 16 0
def dU:wv z16=#[zI zi 0,zI zi 0,zI zi 0,zI zi 0,zI zi 0,zI zi 0,zI zi 0,zI zi 0,zI zi 0,zI zi 0,zI zi 0,zI zi 0,zI zi 0,zI zi 0,zI zi 0,zI zi 0]:=rfl
def sO {d:List Nd} (h:DV d):okW d z16:=⟨rfl,λx a=>by
 have:x=0:=by unfold z16 at a;exact List.eq_of_mem_replicate a
 have:=h.two;omega⟩
def io (w:World) (t:Nat):Calls zz 126 #[zI zi t] w (zR (cU (aK t)) w):=by have h:Hid (wv (aK t)=#[zI zi t,zI zi 0,zI zi 0,zI zi 0,zI zi 0,zI zi 0,zI zi 0,zI zi 0,zI zi 0,zI zi 0,zI zi 0,zI zi 0,zI zi 0,zI zi 0,zI zi 0,zI zi 0]):=zh rfl;go_enter func126,ntmps126;go_upto_region 1 with fail;rw[<-dU];generalize d:w.alloc _=w1 at*;have⟨e,i⟩:=zB1 d;have b:Hid ((wv z16).size=16):=zh (by rw[aw];rfl);have f:Hid ((wv (aK t)).size=16):=zh (by rw[aw];simp[aK,aB]);have g:Hid ((wv (aK t)).all (·.oneCell')=true):=zh (bz _);go_wp2_with(refine aP rfl _ _ rfl w.heap.size (wv (aK t)) (by rfl) (by rw[h];rfl) i b f g ?_;intro w2 c a);refine D7 (v:=zX (wv (aK t))) (aW results126 _ rfl c f) rfl ?_;exact⟨rfl,aN e e.size (DE _) a⟩
def mP (w:World) (g:Nat) (C:BC) (d:List Nd) (m:BB w g C d) (ws:List Nat) (W:okW d ws):Calls zz 128 #[zP g,zX (wv ws)] w (fD cU okW w g C d (jh ws d)):=by
 have aa:=zl m;have⟨a,Q⟩:=zk2 m W;clear m;have M:Hid (jh ws d=aR (jh (ws.drop 0)) (ws.take 0) d):=zh (by rw[D5,El,iY]);go_enter func128,ntmps128;generalize S:jh ws d=PQ at*;clear S W;go_upto_region 1 with fail;rw[<-dU];have⟨CS,t⟩:=zvh (wv ws);rw[<-t];generalize G:w.alloc _=zw1 at*;generalize H:zw1.alloc _=w1 at*;have⟨T,b,r⟩:=zB2 G H;clear G H;replace a:=zh (a.Q T);rw[t] at b;have P:Hid ((wv z16).size=16):=zh (by rw[aw];rfl);go_wp2;go_loopw [6] (λi wr=>∃(k:Nat) (cur:List Nat) (l:List Nd),k<=16/\i=zI zi k/\BB wr g C l/\Ext d l/\okW l cur/\Box wr w.heap.size (wv cur) 146/\Box wr (w.heap.size+1) (wv z16) 146/\cur.drop k=ws.drop k/\w.grownBy wr (some g)/\PQ=aR (jh (ws.drop k)) (cur.take k) l) (λi _=>16-(intOf i).toNat)
 .exact⟨0,ws,d,DH _,rfl,a,Ext.refl d,Q,b,r,rfl,aH T,M⟩
 obtain⟨k,cur,l,hk,rfl,m,s,n,E,F,z,o,U⟩:=hrel;have⟨a,I,j,b,r,u⟩:=zk6 m s n E F z;have⟨c,p⟩:=zk2 o U;clear m s n E F z o U;by_cases h:k<16
 .have B:(k:Int)<16:=by omega
  have k0:=zn0 k;have x0:=b.A k _ (cG (by rw[j.1];exact h));replace p:=zh (show PQ=((gI (zG cur k 0)).bind λJ=>aR (jh (ws.drop (k+1))) (cur.take k++[J])) l by rw[p,bP (by rw[Q.1];exact h),gS u];show aR ((gI _).bind _) _ l=_;rw[fb];congr 1;funext J;exact i4 _ _ _);have L:=zh (j.at h);generalize zG cur k 0=f at*;have X:=zh (lp wr g C l a f L);go_wp2;refine X.mono ?_;intro e w2 y;rcases y.cases with⟨J,d2,K,rfl,m,s,V,o⟩|⟨K,rfl,o⟩
  rotate_left
  .refine⟨rfl, ?_⟩;rw[p,cm K];exact⟨aA c o,rfl⟩
  have D:=p.trans (bind_some K);replace p:=zh D;have Z:=zh V;replace a:=zh m;replace⟨b,r⟩:=zg2 b r o;replace j:=zh (j.ext s);replace I:=zh (I.trans s);replace c:=zh (aA c o);clear D K m s V o y;unfold bM;clear x0;have xz:=b.frozen k;have xl:=b.lt;have x1:=b.A k _ (cG (by rw[j.1];exact h));generalize zG cur k 0=f0 at*;go_wp2;clear x1 xz;go_roundw
  .refine⟨k+1,cur.set k J,d2,by omega,by go_num,a.setBox b (by decide) (by omega) _ _,I,j.set k Z,by rw[<-jo];exact b.set_ k _,r.setNe _ _,by rw[iT];exact fM u,cx c (by show w.heap.size<=_;omega),by rw[fm (by rw[j.1];exact h)];exact p⟩
  simp[intOf];omega
 have B:¬(k:Int)<16:=by omega
 have A:k=16:=by omega
 subst A;have q:Hid ((wv cur).size=16):=zh (by rw[aw,j.1]);have Y:Hid ((wv cur).all (·.oneCell')=true):=zh (bz _);have N:Hid (PQ=some (cur,l)):=zh (by rw[p,EA (by rw[Q.1];exact DE _),En (by rw[j.1];exact DE _)];show aR (Bm.ret []) cur l=_;rw[iZ];rfl);go_wp2_with(first|(refine bu rfl _ rfl w.heap.size rfl b q ?_)|(refine aP rfl _ _ rfl (w.heap.size+1) (wv cur) (by rfl) (by rfl) r P q Y ?_;intro w2 R x));refine D7 (v:=zX (wv cur)) (aW results128 _ rfl R q) rfl ?_;rw[N];exact⟨aJ c x,rfl,a.grownBox r (by decide) (by omega) x,I,j⟩
end
def gY (a:Nat) (b:a<9223372036854775808):(BitVec.ofInt 64 (a:Int)).toNat=a:=by rw[BitVec.ofInt_natCast,BitVec.toNat_ofNat];exact E9 (by omega)
def fX (a b:Nat) (c:a<9223372036854775808) (d:b<9223372036854775808):bits .and .i64 (a:Int) (b:Int)=((a&&&b:Nat):Int):=by have e:a&&&b<2^63:=Nat.and_lt_two_pow _ (by omega);show IntKind.i64.wrap ((BitVec.ofInt 64 (a:Int)&&&BitVec.ofInt 64 (b:Int)).toNat:Int)=_;rw[BitVec.toNat_and,gY a c,gY b d,IntKind.wrap_i64];omega
def W9 (n k:Nat) (c:n<65536):bits .and .i64 ((n:Int)/2^k) 1=((bN (n.testBit k):Nat):Int):=by
 have e:((n:Int)/2^k)=((n/2^k:Nat):Int):=by norm_cast
 have b:n/2^k<=n:=Nat.div_le_self _ _;have a:(1:Int)=((1:Nat):Int):=rfl;rw[e,a,fX _ _ (by omega) (by omega)];congr 1;rw[Nat.and_one_is_mod,Nat.testBit_eq_decide_div_mod_eq];have:=Nat.mod_two_eq_zero_or_one (n/2^k);rcases this with h|h<;>simp[h,bN]
def sy {a b:List Nat} {k x:Nat} (hk:k<zN a) (h:a.take k=b.take k) (c:b[k]? =some x):(a.set k x).take (k+1)=b.take (k+1):=by rw[fm hk,h,Ep,c];rfl
def dP (w:World) (n:Nat) (E:n<65536):Calls zz 124 #[zI zi n] w (zR (cU (aB n 16)) w):=by
 go_enter func124,ntmps124;go_upto_region 1 with fail;rw[<-dU];generalize g:w.alloc _=w1 at*;have⟨b,e⟩:=zB1 g;have q:Hid ((wv z16).size=16):=zh (by rw[aw];rfl);have z:=zh e.lt;go_upto_region 2 with fail;rw[<-dU];generalize g:w1.alloc _=w2 at*;have⟨s,d⟩:=zA1 g;replace⟨e,b⟩:=zb2 e b s;go_wp2;go_loopw [5] (λi wr=>∃(k:Nat) (cur:List Nat),k<=16/\i=zI zi k/\zN cur=16/\cur.take k=(aB n 16).take k/\Box wr w1.heap.size (wv cur) 146/\Box wr w.heap.size (wv z16) 146/\zL w wr) (λi _=>16-(intOf i).toNat)
 .exact⟨0,z16,DH _,rfl,rfl,rfl,d,e,b⟩
 obtain⟨k,cur,hk,rfl,t,u,x,y,D⟩:=hrel;have⟨d,e,b,h,a⟩:=zk5 x y D u t;by_cases f:k<16
 .have m:(k:Int)<16:=by omega
  have F:=zn0 k;have I:=d.frozen k;have H:=d.lt;have G:=d.A k _ (cG (by rw[a];exact f));generalize zG cur k 0=f0 at*;go_wp2;have j:=W9 n k E;go_roundw
  .rw[j];refine⟨k+1,cur.set k (bN (n.testBit k)),by omega,by go_num,by rw[Er];exact a,sy (by rw[a];exact f) h (by unfold aB;rw[Ed,EZ f];rfl),by rw[<-jo];exact d.set_ k _,e.setNe _ _ (by show w1.heap.size≠_;have:=z.out;omega),b.setCell (p:=⟨w1.heap.size,k,none⟩) (by show w.heap.size<=w1.heap.size;have:=z.out;omega) _⟩
  simp[intOf];omega
 have m:¬(k:Int)<16:=by omega
 have l:k=16:=by omega
 subst l;have B:Hid (cur=aB n 16):=zh (by have C:=h.out;rwa [En (by rw[a];exact DE _),En (by simp[aB])] at C);have c:Hid ((wv cur).size=16):=zh (by rw[aw,a]);have A:Hid ((wv cur).all (·.oneCell')=true):=zh (bz _);go_wp2_with(first|(refine bu rfl _ rfl w1.heap.size rfl d c ?_)|(refine aP rfl _ _ rfl w.heap.size (wv cur) (by rfl) (by rfl) e q c A ?_;intro w2 r o));refine D7 (v:=zX (wv cur)) (aW results124 _ rfl r c) rfl ?_;rw[B];exact⟨rfl,aN b b.size (DE _) o⟩
section
variable {p xs ys:List Nat} {c:Nat}
def OX {k c:Nat} (i:zN xs=16) (j:zN ys=16) (hk:k<15):aR (fS (xs.drop k) (ys.drop k) c) p=(iB (zG xs k 0) (zG ys k 0)).bind λd=>(iB d c).bind λo=>(et (zG xs k 0) (zG ys k 0)).bind λu=>(et d c).bind λh=>(orB u h).bind λe=>aR (fS (xs.drop (k+1)) (ys.drop (k+1)) e) (p++[o]):=by
 have e0:∀x y (a b:List Nat),fS (x::a) (y::b) c=(iB x y).bind λd=>(iB d c).bind λo=>if a=[] then Bm.ret [o] else(et x y).bind λg=>(et d c).bind λh=>(orB g h).bind λe=>(fS a b e).bind λr=>Bm.ret (o::r):=λ_ _ _ _=>rfl
 conv=>lhs;rw[bP (ws:=xs) (k:=k) (by omega),bP (ws:=ys) (k:=k) (by omega),e0]
 have f:¬(xs.drop (k+1)=[]):=by intro h;have:=Ev List.length h;simp at this;omega
 simp only[f,FN,fb,lD]
def OZ (i:zN xs=16) (j:zN ys=16):aR (fS (xs.drop 15) (ys.drop 15) c) p=(iB (zG xs 15 0) (zG ys 15 0)).bind λd=>(iB d c).bind λo=>aR (fS (xs.drop 16) (ys.drop 16) c) (p++[o]):=by
 have e1:xs.drop 16=[]:=EA (by omega);have f:ys.drop 16=[]:=EA (by omega);have e0:∀x y (a b:List Nat),fS (x::a) (y::b) c=(iB x y).bind λd=>(iB d c).bind λo=>if a=[] then Bm.ret [o] else(et x y).bind λg=>(et d c).bind λh=>(orB g h).bind λe=>(fS a b e).bind λr=>Bm.ret (o::r):=λ_ _ _ _=>rfl
 conv=>lhs;rw[bP (ws:=xs) (k:=15) (by omega),bP (ws:=ys) (k:=15) (by omega),e0]
 rw[e1,f];simp only[if_true,fb];congr 1;funext d;congr 1;funext o;show Bm.ret (p++[o])=Bm.ret (p++[o]++[]);simp
def Bi (w:World) (g:Nat) (C:BC) (d:List Nd) (B:BB w g C d) (xs ys:List Nat) (hx:okW d xs) (hy:okW d ys) (N:Nat) (ad:okN d N):Calls zz 205 #[zP g,zX (wv xs),zX (wv ys),zI zi N] w (fD cU okW w g C d (fS xs ys N d)):=by
 have aK:=zl B;have⟨a,Z,HY,aq⟩:=zk4 B hx hy ad;have ay:Hid (fS xs ys N d=aR (fS (xs.drop 0) (ys.drop 0) N) (z16.take 0) d):=zh (by rw[D5,D5,El,iY]);have HZ:=zh (sO B.2);clear B hx hy ad;go_enter func205,ntmps205;generalize aI:fS xs ys N d=PQ at*;clear aI;have⟨CX,T⟩:=zvh (wv xs);have⟨CY,U⟩:=zvh (wv ys);rw[<-T,<-U];go_upto_region 2 with fail;rw[<-dU];generalize am:w.alloc _=zw1 at*;generalize an:zw1.alloc _=zw2 at*;generalize ao:zw2.alloc _=zw3 at*;generalize ap:zw3.alloc _=w1 at*;have⟨HB,m,n,q,l⟩:=zB4 am an ao ap;clear am an ao ap;replace a:=zh (a.Q HB);rw[T] at m;rw[U] at n;have aC:Hid ((wv z16).size=16):=zh (by rw[aw];rfl);go_wp2;go_loopw [3,14] (λs i wr=>∃(k c:Nat) (cur:List Nat) (H:List Nd),k<=16/\i=zI zi k/\s=zI zi c/\BB wr g C H/\Ext d H/\okW H cur/\okN H c/\Box wr w.heap.size (wv xs) 146/\Box wr (w.heap.size+1) (wv ys) 146/\Box wr (w.heap.size+1+1) (wv z16) 146/\Box wr (w.heap.size+1+1+1) (wv cur) 146/\w.grownBy wr (some g)/\PQ=aR (fS (xs.drop k) (ys.drop k) c) (cur.take k) H) (λ_ i _=>16-(intOf i).toNat)
 .exact⟨0,N,z16,d,DH _,rfl,rfl,a,Ext.refl d,HZ,aq,m,n,q,l,aH HB,ay⟩
 obtain⟨k,c,cur,H,hk,rfl,rfl,B,j,L,hc,ak,al,ai,ah,r,hq⟩:=hrel;have⟨a,E,t,z,m,n⟩:=zk6 B j L hc ak al;have⟨q,l,f,A⟩:=zk4 ai ah r hq;clear B j L hc ak al ai ah r hq;by_cases I:k<16
 .have af:(k:Int)<16:=by omega
  have k0:=zn0 k;have F:=zh ((Z.ext E).at I);have G:=zh ((HY.ext E).at I);have GX:=zh (cG (ws:=xs) (k:=k) (by rw[Z.1];exact I));have GY:=zh (cG (ws:=ys) (k:=k) (by rw[HY.1];exact I));have GC:=zh (cG (ws:=cur) (k:=k) (by rw[t.1];exact I));generalize zG cur k 0=f0 at*;obtain⟨K,aB,ax⟩:∃K:Nat->Nat->Bm (List Nat),Hid (PQ=((iB (zG xs k 0) (zG ys k 0)).bind λp=>(iB p c).bind λo=>K p o) H)/\Hid ((k<15/\K=λp o=>(et (zG xs k 0) (zG ys k 0)).bind λu=>(et p c).bind λh=>(orB u h).bind λc'=>aR (fS (xs.drop (k+1)) (ys.drop (k+1)) c') (cur.take k++[o]))\/(k=15/\K=λ_ o=>aR (fS (xs.drop (k+1)) (ys.drop (k+1)) c) (cur.take k++[o]))):=by
   by_cases P:k<15
   .exact⟨_,zh (A.trans (congrFun (OX Z.1 HY.1 P) H)),zQ ⟨P,rfl⟩⟩
   have D:k=15:=by omega
   refine⟨_,zh ?_,zO ⟨D,rfl⟩⟩;rw[A,D];exact congrFun (OZ Z.1 HY.1) H
  replace A:=aB;generalize zG xs k 0=x,zG ys k 0=y at*;go_upto_region 5 with fail;refine aj 7 ?_;have x0:=m.lat k _ GX;have y0:=n.lat k _ GY;simp only[Ee,El,Ei,D5];repeat(go_big_quiet_step (fail))
  refine D4 ?_;intro w2 B;clear x0 y0;replace⟨m,n,q,l,a⟩:=zb5 m n q l a B;replace f:=zh (au f B);clear B;have J:=zh (qF w2 g C H a x y F G);go_wp2;refine zoC J A E f (λ_ Q=>⟨rfl,zn Q⟩) λw3 p d3 A a j R r E f=> ?_;replace⟨m,n,q,l⟩:=zg4 m n q l r;replace t:=zh (t.ext j);replace z:=zh (z.ext j);replace F:=zh (F.ext j);replace G:=zh (G.ext j);clear j r;unfold bM;have J:=zh (qF w3 g C d3 a p c R z);go_wp2;refine zoC J A E f (λ_ Q=>⟨rfl,zn Q⟩) λw4 o d4 A a j HO r E f=> ?_;replace⟨m,n,q,l⟩:=zg4 m n q l r;replace t:=zh (t.ext j);replace z:=zh (z.ext j);replace F:=zh (F.ext j);replace G:=zh (G.ext j);replace R:=zh (R.ext j);clear j r;unfold bM;have xz:=l.frozen k;have xl:=l.lt;have x1:=l.A k _ GC;go_upto_region 7 with fail;have S:=zh (a.setBox l (by decide) (by omega) k (zI zi o));have aF:=zh (m.setNe ⟨w.heap.size+1+1+1,k,none⟩ (zI zi o));have aG:=zh (n.setNe ⟨w.heap.size+1+1+1,k,none⟩ (zI zi o));have aE:=zh (q.setNe ⟨w.heap.size+1+1+1,k,none⟩ (zI zi o));have aa:=zh (l.set_ k (zI zi o));have W:=zh (cx (i:=k) (u:=zI zi o) f (b:=w.heap.size+1+1+1) (by omega));clear xz xl x1;generalize w4.setCell ⟨w.heap.size+1+1+1,k,none⟩ (zI zi o)=w5 at*;have a:=S;have m:=aF;have n:=aG;have q:=aE;have f:=W;rw[jo] at aa;have l:=aa;replace t:=zh (t.set k HO);have Y:=zh (fm (x:=o) (show k<zN cur by have:=t.1;rw[Er] at this;omega));generalize cur.set k o=cur' at*;rcases ax with⟨P,hK⟩|⟨D,hK⟩
  .have ab:(k:Int)<15:=by omega
   rw[hK] at A;clear hK;go_upto_region 8 with fail;refine aj 7 ?_;have x0:=m.lat k _ GX;have y0:=n.lat k _ GY;simp only[Ee,El,Ei,D5];repeat(go_big_quiet_step (fail))
   refine D4 ?_;intro w6 B;clear x0 y0;replace⟨m,n,q,l,a⟩:=zb5 m n q l a B;replace f:=zh (au f B);clear B;have J:=zh (kg w6 g C d4 a x y F G);go_wp2;refine zoC J A E f (λ_ Q=>⟨rfl,zn Q⟩) λw7 u d5 A a j HU r E f=> ?_;replace⟨m,n,q,l⟩:=zg4 m n q l r;replace t:=zh (t.ext j);replace z:=zh (z.ext j);replace R:=zh (R.ext j);clear j r;unfold bM;have J:=zh (kg w7 g C d5 a p c R z);go_wp2;refine zoC J A E f (λ_ Q=>⟨rfl,zn Q⟩) λw8 h d6 A a j av r E f=> ?_;replace⟨m,n,q,l⟩:=zg4 m n q l r;replace t:=zh (t.ext j);replace HU:=zh (HU.ext j);clear j r;unfold bM;have J:=zh (tm w8 g C d6 a u h HU av);go_wp2;refine J.mono ?_;intro e w9 ac;rcases ac.cases with⟨c',d7,hr,rfl,B,j,ht,r⟩|⟨hr,rfl,r⟩
   rotate_left
   .refine⟨rfl, ?_⟩;rw[A,cm hr];exact⟨aA f r,rfl⟩
   have ag:=A.trans (bind_some hr);replace A:=zh ag;have ar:=zh ht;replace a:=zh B;replace⟨m,n,q,l⟩:=zg4 m n q l r;replace t:=zh (t.ext j);replace E:=zh (E.trans j);replace f:=zh (aA f r);clear ag hr B j ht r ac;unfold bM;go_wp2;go_roundw
   .exact⟨k+1,c',cur',d7,by omega,by go_num,rfl,a,E,t,ar,m,n,q,l,f,by rw[Y];exact A⟩
   simp[intOf];omega
  skip;have ab:¬(k:Int)<15:=by omega
  have X:=zh D;rw[hK] at A;clear hK D;go_wp2;go_roundw
  .exact⟨k+1,c,cur',d4,by have:=X.out;omega,by go_num,rfl,a,E,t,z,m,n,q,l,f,by rw[Y];exact A⟩
  simp[intOf];omega
 have af:¬(k:Int)<16:=by omega
 have ae:k=16:=by omega
 subst ae;have M:Hid ((wv cur).size=16):=zh (by rw[aw,t.1]);have H1:Hid ((wv cur).all (·.oneCell')=true):=zh (bz _);have az:Hid (PQ=some (cur,H)):=zh (by rw[A,EA (by rw[Z.1];exact DE _),En (by rw[t.1];exact DE _)];show aR (Bm.ret []) cur H=_;rw[iZ];rfl);go_wp2_with(first|(refine bu rfl _ rfl (w.heap.size+1+1+1) rfl l M ?_)|(refine aP rfl _ _ rfl (w.heap.size+1+1) (wv cur) (by rfl) (by rfl) q aC M H1 ?_;intro w2 aD V));refine D7 (v:=zX (wv cur)) (aW results205 _ rfl aD M) rfl ?_;rw[az];exact⟨aJ f V,rfl,a.grownBox q (by decide) (by omega) V,E,t⟩
end
section
variable {xs ys:List Nat} {k t:Nat}
def SXY (a b k x y:Nat) (W:World):Prop:=W.cell? ⟨a,k,none⟩=some (zI zi x)/\W.cell? ⟨b,k,none⟩=some (zI zi y)
def sxy {W:World} {a b k x y:Nat} {X Y:Array Value} {T T':TypeId} (e:Box W a X T) (f:Box W b Y T') (c:X[k]? =some (zI zi x)) (d:Y[k]? =some (zI zi y)):SXY a b k x y W:=⟨e.A k _ c,f.A k _ d⟩
def Uw (b:zN xs=16) (c:zN ys=16) (hk:k<16):eqB (xs.drop k) (ys.drop k) t=(iB (zG xs k 0) (zG ys k 0)).bind λu=>(gI u).bind λv=>(et t v).bind λa=>eqB (xs.drop (k+1)) (ys.drop (k+1)) a:=by
 conv=>lhs;rw[bP (ws:=xs) (k:=k) (by omega),bP (ws:=ys) (k:=k) (by omega)]
 rfl
def TR (d:zN xs=16) (e:zN ys=16) (hk:k<16):ltB (xs.drop k) (ys.drop k) t=(gI (zG xs k 0)).bind λa=>(et a (zG ys k 0)).bind λu=>(iB (zG xs k 0) (zG ys k 0)).bind λz=>(gI z).bind λb=>(et b t).bind λv=>(orB u v).bind λc=>ltB (xs.drop (k+1)) (ys.drop (k+1)) c:=by
 conv=>lhs;rw[bP (ws:=xs) (k:=k) (by omega),bP (ws:=ys) (k:=k) (by omega)]
 rfl
def o6 (w:World) (g:Nat) (C:BC) (d:List Nd) (o:BB w g C d) (xs ys:List Nat) (hx:okW d xs) (hy:okW d ys):Calls zz 273 #[zP g,zX (wv xs),zX (wv ys)] w (fD bM okN w g C d (eqB xs ys 1 d)):=by
 have aa:=zl o;have⟨a,N,V⟩:=zk3 o hx hy;have S:Hid (eqB xs ys 1 d=eqB (xs.drop 0) (ys.drop 0) 1 d):=zh (by rw[D5,D5]);clear o hx hy;go_enter func273,ntmps273;generalize X:eqB xs ys 1 d=PQ at*;clear X;have⟨CX,B⟩:=zvh (wv xs);have⟨CY,D⟩:=zvh (wv ys);rw[<-B,<-D];go_upto_region 2 with fail;generalize L:w.alloc _=zw1 at*;generalize M:zw1.alloc _=w1 at*;have⟨HB,c,f⟩:=zB2 L M;clear L M;replace a:=zh (a.Q HB);rw[B] at c;rw[D] at f;go_wp2;go_loopw [7,9] (λs i wr=>∃(k t:Nat) (p:List Nd),k<=16/\i=zI zi k/\s=zI zi t/\BB wr g C p/\Ext d p/\okN p t/\Box wr w.heap.size (wv xs) 146/\Box wr (w.heap.size+1) (wv ys) 146/\w.grownBy wr (some g)/\PQ=eqB (xs.drop k) (ys.drop k) t p) (λ_ i _=>16-(intOf i).toNat)
 .exact⟨0,1,d,DH _,rfl,rfl,a,Ext.refl d,by have:=a.2.two;show 1<_;omega,c,f,aH HB,S⟩
 obtain⟨k,t,p,hk,rfl,rfl,o,l,I,J,K,h,hq⟩:=hrel;have⟨a,n,r,c,f,b⟩:=zk6 o l I J K h;have j:=zh hq;clear o l I J K h hq;by_cases m:k<16
 .have G:(k:Int)<16:=by omega
  have k0:=zn0 k;have Q:=zh ((N.ext n).at m);have R:=zh ((V.ext n).at m);have GX:=zh (cG (ws:=xs) (k:=k) (by rw[N.1];exact m));have A:=zh (cG (ws:=ys) (k:=k) (by rw[V.1];exact m));replace j:=zh (j.trans (congrFun (Uw N.1 V.1 m) p));generalize zG xs k 0=x,zG ys k 0=y at*;go_upto_region 5 with fail;refine zhd (SXY w.heap.size (w.heap.size+1) k x y) (sxy c f GX A) (λhS=> ?_);have q:zL wr wr.drew:=ae _;replace⟨c,f,a⟩:=zb3 c f a q;replace b:=zh (au b q);clear q;generalize wr.drew=w2 at*;refine zta 0 (zP g) rfl ?_;refine zta 1 (zI zi t) rfl ?_;refine zta 2 (zP g) rfl ?_;refine zta 3 (zP g) rfl ?_;refine zta 4 (zI zi k) rfl ?_;refine zta 5 (.pointer (some ⟨w.heap.size,k,none⟩)) rfl ?_;simp only[zp];refine zt 6 (zI zi x) rfl (zQ ⟨by rfl,λW Y=>by obtain⟨s1,s2⟩:=Y;go_simp⟩) ?_;refine zta 7 (zI zi k) rfl ?_;refine zta 8 (.pointer (some ⟨w.heap.size+1,k,none⟩)) rfl ?_;simp only[zp];refine zt 9 (zI zi y) rfl (zQ ⟨by rfl,λW Y=>by obtain⟨s1,s2⟩:=Y;go_simp⟩) ?_;simp only[zp];clear hS;refine aC 10 rfl ?_;go_wp2;have z:=zh (qF w2 g C p a x y Q R);refine zoC z j n b (λ_ Z=>⟨rfl,zn Z⟩) λw3 u d3 j a l HU h n b=> ?_;replace⟨c,f⟩:=zg2 c f h;replace r:=zh (r.ext l);clear l h;unfold bM;go_wp2;refine⟨sxy c f GX A, ?_⟩;refine aC 11 rfl ?_;go_wp2;have z:=zh (lp w3 g C d3 a u HU);refine zoC z j n b (λ_ Z=>⟨rfl,zn Z⟩) λw4 v d4 j a l HV h n b=> ?_;replace⟨c,f⟩:=zg2 c f h;replace r:=zh (r.ext l);clear l h;unfold bM;go_wp2;refine⟨sxy c f GX A, ?_⟩;refine aC 12 rfl ?_;go_wp2;have z:=zh (kg w4 g C d4 a t v r HV);refine z.mono ?_;intro e w5 E;rcases E.cases with⟨t',d5,P,rfl,o,l,I,h⟩|⟨P,rfl,h⟩
  rotate_left
  .refine⟨rfl, ?_⟩;rw[j,cm P];exact⟨aA b h,rfl⟩
  have H:=j.trans (bind_some P);replace j:=zh H;have U:=zh I;replace a:=zh o;replace⟨c,f⟩:=zg2 c f h;replace n:=zh (n.trans l);replace b:=zh (aA b h);clear H P o l I h E;unfold bM;go_wp2;refine⟨sxy c f GX A, ?_⟩;refine aC 13 rfl ?_;go_wp2;refine⟨sxy c f GX A,zdn ?_⟩;go_wp2;go_roundw
  .exact⟨k+1,t',d5,by omega,by go_num,rfl,a,n,U,c,f,b,j⟩
  simp[intOf];omega
 have G:¬(k:Int)<16:=by omega
 have F:k=16:=by omega
 subst F;have T:Hid (PQ=some (t,p)):=zh (by rw[j,EA (by rw[N.1];exact DE _)];rfl);go_wp2;go_ret;rw[T];exact⟨b,rfl,a,n,r⟩
end
def tp (w:World) (g:Nat) (C:BC) (d:List Nd) (D:BB w g C d) (xs ys:List Nat) (hx:okW d xs) (hy:okW d ys):Calls zz 206 #[zP g,zX (wv xs),zX (wv ys)] w (fD bM okN w g C d (ltB xs ys 0 d)):=by
 have ad:=zl D;have⟨a,U,HY⟩:=zk3 D hx hy;have Z:Hid (ltB xs ys 0 d=ltB (xs.drop 0) (ys.drop 0) 0 d):=zh (by rw[D5,D5]);clear D hx hy;go_enter func206,ntmps206;generalize ac:ltB xs ys 0 d=PQ at*;clear ac;have⟨CX,I⟩:=zvh (wv xs);have⟨CY,J⟩:=zvh (wv ys);rw[<-I,<-J];go_upto_region 2 with fail;generalize S:w.alloc _=zw1 at*;generalize T:zw1.alloc _=w1 at*;have⟨HB,c,f⟩:=zB2 S T;clear S T;replace a:=zh (a.Q HB);rw[I] at c;rw[J] at f;go_wp2;go_loopw [7,11] (λs i wr=>∃(k t:Nat) (F:List Nd),k<=16/\i=zI zi k/\s=zI zi t/\BB wr g C F/\Ext d F/\okN F t/\Box wr w.heap.size (wv xs) 146/\Box wr (w.heap.size+1) (wv ys) 146/\w.grownBy wr (some g)/\PQ=ltB (xs.drop k) (ys.drop k) t F) (λ_ i _=>16-(intOf i).toNat)
 .exact⟨0,0,d,DH _,rfl,rfl,a,Ext.refl d,by have:=a.2.two;show 0<_;omega,c,f,aH HB,Z⟩
 obtain⟨k,t,F,hk,rfl,rfl,D,h,P,Q,R,j,hq⟩:=hrel;have⟨a,m,A,c,f,b⟩:=zk6 D h P Q R j;have l:=zh hq;clear D h P Q R j hq;by_cases r:k<16
 .have M:(k:Int)<16:=by omega
  have k0:=zn0 k;have o:=zh ((U.ext m).at r);have p:=zh ((HY.ext m).at r);have GX:=zh (cG (ws:=xs) (k:=k) (by rw[U.1];exact r));have B:=zh (cG (ws:=ys) (k:=k) (by rw[HY.1];exact r));replace l:=zh (l.trans (congrFun (TR U.1 HY.1 r) F));generalize zG xs k 0=x,zG ys k 0=y at*;go_upto_region 5 with fail;refine zhd (SXY w.heap.size (w.heap.size+1) k x y) (sxy c f GX B) (λhS=> ?_);have n:zL wr wr.drew:=ae _;replace⟨c,f,a⟩:=zb3 c f a n;replace b:=zh (au b n);clear n;generalize wr.drew=w2 at*;refine zta 0 (zP g) rfl ?_;refine zta 1 (zP g) rfl ?_;refine zta 2 (zI zi k) rfl ?_;refine zta 3 (.pointer (some ⟨w.heap.size,k,none⟩)) rfl ?_;simp only[zp];refine zt 4 (zI zi x) rfl (zQ ⟨by rfl,λW H=>by obtain⟨s1,s2⟩:=H;go_simp⟩) ?_;refine zta 6 (zI zi k) rfl ?_;refine zta 7 (.pointer (some ⟨w.heap.size+1,k,none⟩)) rfl ?_;simp only[zp];refine zt 8 (zI zi y) rfl (zQ ⟨by rfl,λW H=>by obtain⟨s1,s2⟩:=H;go_simp⟩) ?_;simp only[zp];clear hS;refine aC 5 rfl ?_;go_wp2;have q:=zh (lp w2 g C F a x o);refine zoC q l m b (λ_ E=>⟨rfl,zn E⟩) λw3 nx d3 l a h X j m b=> ?_;replace⟨c,f⟩:=zg2 c f j;replace A:=zh (A.ext h);replace o:=zh (o.ext h);replace p:=zh (p.ext h);clear h j;unfold bM;go_wp2;refine⟨sxy c f GX B, ?_⟩;refine aC 9 rfl ?_;go_wp2;have q:=zh (kg w3 g C d3 a nx y X p);refine zoC q l m b (λ_ E=>⟨rfl,zn E⟩) λw4 u d4 l a h G j m b=> ?_;replace⟨c,f⟩:=zg2 c f j;replace A:=zh (A.ext h);replace o:=zh (o.ext h);replace p:=zh (p.ext h);clear h j;unfold bM;go_wp2;refine⟨sxy c f GX B, ?_⟩;refine aC 10 rfl ?_;go_wp2;refine⟨sxy c f GX B,zdn ?_⟩;go_upto_region 6 with fail;refine zhd (SXY w.heap.size (w.heap.size+1) k x y) (sxy c f GX B) (λhS=> ?_);have n:zL w4 w4.drew:=ae _;replace⟨c,f,a⟩:=zb3 c f a n;replace b:=zh (au b n);clear n;generalize w4.drew=w5 at*;refine zta 0 (zP g) rfl ?_;refine zta 1 (zP g) rfl ?_;refine zta 2 (zP g) rfl ?_;refine zta 3 (zI zi k) rfl ?_;refine zta 4 (.pointer (some ⟨w.heap.size,k,none⟩)) rfl ?_;simp only[zp];refine zt 5 (zI zi x) rfl (zQ ⟨by rfl,λW H=>by obtain⟨s1,s2⟩:=H;go_simp⟩) ?_;refine zta 6 (zI zi k) rfl ?_;refine zta 7 (.pointer (some ⟨w.heap.size+1,k,none⟩)) rfl ?_;simp only[zp];refine zt 8 (zI zi y) rfl (zQ ⟨by rfl,λW H=>by obtain⟨s1,s2⟩:=H;go_simp⟩) ?_;refine zta 11 (zI zi t) rfl ?_;simp only[zp];clear hS;refine aC 9 rfl ?_;go_wp2;have q:=zh (qF w5 g C d4 a x y o p);refine zoC q l m b (λ_ E=>⟨rfl,zn E⟩) λw6 z d6 l a h HZ j m b=> ?_;replace⟨c,f⟩:=zg2 c f j;replace A:=zh (A.ext h);replace G:=zh (G.ext h);clear h j;unfold bM;go_wp2;refine⟨sxy c f GX B, ?_⟩;refine aC 10 rfl ?_;go_wp2;have q:=zh (lp w6 g C d6 a z HZ);refine zoC q l m b (λ_ E=>⟨rfl,zn E⟩) λw7 nz d7 l a h Y j m b=> ?_;replace⟨c,f⟩:=zg2 c f j;replace A:=zh (A.ext h);replace G:=zh (G.ext h);clear h j;unfold bM;go_wp2;refine⟨sxy c f GX B, ?_⟩;refine aC 12 rfl ?_;go_wp2;have q:=zh (kg w7 g C d7 a nz t Y A);refine zoC q l m b (λ_ E=>⟨rfl,zn E⟩) λw8 v d8 l a h HV j m b=> ?_;replace⟨c,f⟩:=zg2 c f j;replace G:=zh (G.ext h);clear h j;unfold bM;go_wp2;refine⟨sxy c f GX B, ?_⟩;refine aC 13 rfl ?_;go_wp2;refine⟨sxy c f GX B,zdn ?_⟩;have q:=zh (tm w8 g C d8 a u v G HV);go_wp2;refine q.mono ?_;intro e w9 K;rcases K.cases with⟨t',d9,V,rfl,D,h,P,j⟩|⟨V,rfl,j⟩
  rotate_left
  .refine⟨rfl, ?_⟩;rw[l,cm V];exact⟨aA b j,rfl⟩
  have N:=l.trans (bind_some V);replace l:=zh N;have ab:=zh P;replace a:=zh D;replace⟨c,f⟩:=zg2 c f j;replace m:=zh (m.trans h);replace b:=zh (aA b j);clear N V D h P j K;unfold bM;go_wp2;go_roundw
  .exact⟨k+1,t',d9,by omega,by go_num,rfl,a,m,ab,c,f,b,l⟩
  simp[intOf];omega
 have M:¬(k:Int)<16:=by omega
 have L:k=16:=by omega
 subst L;have aa:Hid (PQ=some (t,F)):=zh (by rw[l,EA (by rw[U.1];exact DE _)];rfl);go_wp2;go_ret;rw[aa];exact⟨b,rfl,a,m,A⟩
def SW2 (a b:Nat) (X Y:Array Value) (W:World):Prop:=Box W a X 146/\Box W b Y 146
def mO (w:World) (g:Nat) (C:BC) (d:List Nd) (G:BB w g C d) (xs ys:List Nat) (hx:okW d xs) (hy:okW d ys):Calls zz 129 #[zP g,zX (wv xs),zX (wv ys)] w (fD cU okW w g C d (qA xs ys d)):=by have aa:=zl G;have⟨a,R,S⟩:=zk3 G hx hy;have o:Hid (qA xs ys d=((jh ys).bind λz=>(fS xs z 1).bind λr=>Bm.ret r) d):=zh (by simp only[ej];rfl);have h2:=G.2.two;go_enter func129,ntmps129;generalize Y:qA xs ys d=PQ at*;have⟨s,i⟩:=zvh (wv xs);have⟨t,j⟩:=zvh (wv ys);rw[<-i,<-j];have y:Hid (s.size=16):=zh (by rw[i,aw,R.1]);have A:Hid (t.size=16):=zh (by rw[j,aw,S.1]);have x:Hid ((wv z16).size=16):=zh (by rw[aw];rfl);go_upto_region 1 with fail;rw[<-dU];generalize J:w.alloc _=zw1 at*;generalize K:zw1.alloc _=zw2 at*;generalize L:zw2.alloc _=w1 at*;have⟨P,c,e,h⟩:=zB3 J K L;replace a:=zh (a.Q P);have b:=zh (aH (row:=some g) P);have k:=zh (Ext.refl d);refine zhd (SW2 w.heap.size (w.heap.size+1) s t) ⟨c,e⟩ (λhS=> ?_);have p:zL w1 w1.drew:=ae _;replace⟨c,e,h,a⟩:=zb4 c e h a p;replace b:=zh (au b p);generalize w1.drew=w2 at*;refine zta 0 (zP g) rfl ?_;simp only[zp];refine zt 1 (zX s) rfl (oQ w.heap.size (λW F=>F.1) y) ?_;refine zta 2 (zP g) rfl ?_;simp only[zp];refine zt 3 (zX t) rfl (oQ (w.heap.size+1) (λW F=>F.2) A) ?_;simp only[zp];refine aC 4 rfl ?_;go_wp2;rw[j];have q:=zh (mP w2 g C d a ys S);refine zoC q o k b (λ_ I=>⟨rfl,zn I⟩) λw3 z V o a Z T H k b=> ?_;replace⟨c,e,h⟩:=zg3 c e h H;unfold cU;have U:Hid ((wv z).size=16):=zh (by rw[aw,T.1]);have⟨CZ,n⟩:=zvh (wv z);rw[<-n];go_wp2;refine⟨⟨c,e⟩, ?_⟩;refine aC 5 rfl ?_;go_wp2;rw[i,n];have q:=zh (Bi w3 g C V a xs z (R.ext k) T 1 (by have:=ta k;show 1<_;omega));refine zoC q o k b (λ_ I=>⟨rfl,zn I⟩) λw4 r X o a Z Q H k b=> ?_;replace⟨c,e,h⟩:=zg3 c e h H;unfold cU;have l:Hid ((wv r).size=16):=zh (by rw[aw,Q.1]);have N:Hid ((wv r).all (·.oneCell')=true):=zh (bz _);have⟨M,m⟩:=zvh (wv r);rw[<-m] at l N⊢;go_wp2;refine⟨⟨c,e⟩, ?_⟩;refine aC 6 rfl ?_;go_wp2_with(refine aP rfl _ _ rfl (w.heap.size+1+1) M (by rfl) (by rfl) h x l N ?_;intro w5 B f);have D:=zh (ap c f);have E:=zh (ap e f);refine⟨⟨D,E⟩,zdn ?_⟩;go_wp2;refine D7 (v:=zX M) (aW results129 _ rfl B l) rfl ?_;have u:PQ=some (r,X):=o;rw[u,m];exact⟨aJ b f,rfl,a.grownBox h (by decide) (by omega) f,k,Q⟩
section
variable {d:List Nd}
def dS (h:DV d) (n:Nat):okW d (aB n 16):=⟨by simp[aB],λx a=>by
 unfold aB at a;obtain⟨k,_,rfl⟩:=EJ.1 a;have:=h.two;unfold bN;split<;>omega⟩
def fK (h:DV d) {t:Nat} (b:okN d t):okW d (aK t):=⟨by simp[aK,aB],λx a=>by
 unfold aK at a;rcases DS.1 a with rfl|a
 .exact b
 unfold aB at a;obtain⟨k,_,rfl⟩:=EJ.1 a;have:=h.two;unfold bN;split<;>omega⟩
def W7 (w:World) (g:Nat) (C:BC) (d:List Nd) (c:BB w g C d) (ws:List Nat) (hw:okW d ws):Calls zz 130 #[zP g,zX (wv ws)] w (fD cU okW w g C d (ld ws (aB 0 16) d)):=by
 have ao:=zl c;have⟨a,HW⟩:=zk2 c hw;have HS:Hid ((wv ws).size=16):=zh (by rw[aw,hw.1]);have HG:Hid (∀k,k<16->(wv ws)[k]? =some (zI zi ((zG ws k 0:Nat):Int))):=zh λk hk=>cG (by rw[hw.1];exact hk);have ah:Hid ((wv z16).size=16):=zh (by rw[aw];rfl);have y:=zh (dS c.2 0);generalize wv ws=CS at*;have K:Hid (ld ws (aB 0 16) d=ld (ws.drop 0) (aB 0 16) d):=zh (by rw[D5]);generalize am:ld ws (aB 0 16) d=PQ at*;clear c hw am;go_enter func130,ntmps130;go_upto_region 1 with fail;rw[<-dU];generalize ad:w.alloc _=zw1 at*;generalize ae:zw1.alloc _=w1 at*;have⟨D,B,h⟩:=zB2 ad ae;clear ad ae;replace a:=zh (a.Q D);have ak:=zh h.lt;go_wp2;refine zK (dP w1 0 (by decide)) λw2 c=> ?_;have ai:=zh c.size;replace⟨a,B,h,D⟩:=zb4 a B h D c;clear c;unfold cU;have⟨K0,T⟩:=zv (aB 0 16);rw[<-T] at y K⊢;have M:Hid ((wv K0).size=16):=zh (by rw[aw,y.1]);have F:Hid ((wv K0).all (·.oneCell')=true):=zh (bz _);have⟨KS,J⟩:=zvh (wv K0);rw[<-J] at M F⊢;clear T;have R:Hid (Box (w2.alloc (zC F0 146)) w2.heap.size F0 146):=zh (Box.new w2 _ _);have N:Hid ((F0:Array Value).size=16):=zh rfl;have U:=ab w2 (zC F0 146);replace⟨a,B,h,D⟩:=zb4 a B h D U;clear U;go_upto_region 2 with(refine aP rfl _ _ rfl w2.heap.size KS (by rfl) (by rfl) R N M F ?_;intro w3 m j);have n:Hid (w.heap.size+1<w2.heap.size):=zh (by have:=ak.out;have:=ai.out;omega);replace a:=zh (a.grownBox R (by decide) (by have:=n.out;omega) j);replace B:=zh (ap B j (by have:=n.out;omega));replace h:=zh (ap h j (by have:=n.out;omega));have b:Hid (w.grownBy w3 (some g)):=zh (aJ (aH D) j (by have:=n.out;omega));rw[J] at m;generalize w2.heap.size=gs at*;go_wp2_with(refine bu rfl _ rfl w.heap.size rfl B HS ?_);go_loopw [10] (λi wr=>∃(k:Nat) (s:List Nat) (t:List Nd),k<=16/\i=zI zi k/\BB wr g C t/\Ext d t/\okW t s/\Box wr (w.heap.size+1) (wv z16) 146/\Box wr gs (wv s) 146/\w.grownBy wr (some g)/\PQ=ld (ws.drop k) s t) (λi _=>16-(intOf i).toNat)
 .exact⟨0,K0,d,DH _,rfl,a,Ext.refl d,y,h,m,b,K⟩
 obtain⟨k,s,t,hk,rfl,c,W,hs,aa,ac,u,hq⟩:=hrel;have⟨a,I,A,h,m,b⟩:=zk6 c W hs aa ac u;have z:=zh hq;have aq:=n.out;clear c W hs aa ac u hq;have l:Hid ((wv s).size=16):=zh (by rw[aw,A.1]);have H1:Hid ((wv s).all (·.oneCell')=true):=zh (bz _);by_cases o:k<16
 .have Y:(k:Int)<16:=by omega
  have af:=zh ((HW.ext I).at o);have ix:=ixW (HG k o) o;replace z:=zh (show PQ=((fS s (aK (zG ws k 0)) 0).bind λE=>ld (ws.drop (k+1)) E) t by
   rw[z,bP (by rw[HW.1];exact o)];rfl);generalize zG ws k 0=f at*;go_upto_region 5 with fail;clear ix;have⟨SS,G⟩:=zvh (wv s);have⟨TS,H⟩:=zvh (wv (aK f));rw[<-G] at m l H1;have CT:∀p:Lat wr,Calls zz 126 #[zI zi f] p.w λe an=>e=zE (zX TS)/\∃q:Lat wr,an=q.w:=λp=>by
   have:=aG (io p.w f);unfold cU at this;rwa [<-H] at this
  refine aj 4 ?_;simp only[Ee,El,Ei,D5]
  go_big_quiet_step (fail)
  refine so rfl _ rfl gs rfl m l ?_;go_simp
  go_big_quiet_step (fail)
  go_big_quiet_step (with_reducible exact CT _)
  refine D4 ?_;intro w4 c;replace⟨a,h,m⟩:=zb3 a h m c;replace b:=zh (au b c);clear c;go_wp2;rw[G,H];have CO:=zh (Bi w4 g C t a s (aK f) A (fK a.2 af) 0 (by have:=a.2.two;show 0<_;omega));refine CO.mono ?_;intro e w5 V;rcases V.cases with⟨E,d2,hr,rfl,c,W,ht,u⟩|⟨hr,rfl,u⟩
  rotate_left
  .refine⟨rfl, ?_⟩;rw[z,cm hr];exact⟨aA b u,rfl⟩
  have Z:=z.trans (bind_some hr);replace z:=zh Z;have r:=zh ht;replace a:=zh c;replace⟨h,m⟩:=zg2 h m u;replace I:=zh (I.trans W);replace b:=zh (aA b u);clear Z hr c W ht u V;unfold cU;have P:Hid ((wv E).size=16):=zh (by rw[aw,r.1]);have Q:Hid ((wv E).all (·.oneCell')=true):=zh (bz _);have⟨RS,L⟩:=zvh (wv E);rw[<-L] at P Q⊢;go_wp2_with(refine aP rfl _ _ rfl gs RS (by rfl) (by rfl) m l P Q ?_;intro w6 S x);rw[L] at S;go_roundw
  .exact⟨k+1,E,d2,by omega,by go_num,a.grownBox m (by decide) (by omega) x,I,r,ap h x,S,aJ b x,z⟩
  simp[intOf];omega
 have Y:¬(k:Int)<16:=by omega
 have X:k=16:=by omega
 subst X;have ag:Hid (PQ=some (s,t)):=zh (by rw[z,EA (by rw[HW.1];exact DE _)];rfl);go_wp2_with(first|(refine bu rfl _ rfl gs rfl m l ?_)|(refine aP rfl _ _ rfl (w.heap.size+1) (wv s) (by rfl) (by rfl) h ah l H1 ?_;intro w4 al j));refine D7 (v:=zX (wv s)) (aW results130 _ rfl al l) rfl ?_;rw[ag];exact⟨aJ b j,rfl,a.grownBox h (by decide) (by omega) j,I,A⟩
end
def wO {f:Nat->Nat->Bm Nat} {xs ys:List Nat} {k:Nat} {p:List Nat} (a:zN xs=16) (b:zN ys=16) (hk:k<16):aR (dL f (xs.drop k) (ys.drop k)) p=(f (zG xs k 0) (zG ys k 0)).bind λz=>aR (dL f (xs.drop (k+1)) (ys.drop (k+1))) (p++[z]):=by
 conv=>lhs;rw[bP (ws:=xs) (k:=k) (by omega),bP (ws:=ys) (k:=k) (by omega)]
 show aR ((f _ _).bind λz=>(dL f _ _).bind λr=>Bm.ret (z::r)) p=_;simp only[fb,lD]
def mM (w:World) (g:Nat) (C:BC) (d:List Nd) (A:BB w g C d) (xs ys:List Nat) (hx:okW d xs) (hy:okW d ys) (n:FuncId) (first e:Array Value) (F:Nat->Nat->Bm Nat) (eg:∀(x y:Nat) (W:World),(callFunc n (first++(#[zI zi x,zI zi y]++e))).run zz W= .ok (.enter n (first++(#[zI zi x,zI zi y]++e))) W) (HF:∀(W:World) (h:List Nd) (x y:Nat),BB W g C h->Ext d h->w.grownBy W (some g)->okN h x->okN h y->Calls zz n (first++(#[zI zi x,zI zi y]++e)) W (fD bM okN W g C h (F x y h))):Calls zz 132 #[zX (wv xs),zX (wv ys),.func (.func n) first e] w (fD cU okW w g C d (dL F xs ys d)):=by
 have al:=zl A;have⟨a,HX,HY,ab⟩:=zk4 A hx hy HF;have ac:Hid (dL F xs ys d=aR (dL F (xs.drop 0) (ys.drop 0)) (xs.take 0) d):=zh (by rw[D5,D5,El,iY]);have af:Hid ((wv z16).size=16):=zh (by rw[aw];rfl);clear A hx hy;go_enter func132,ntmps132;generalize ak:dL F xs ys d=PQ at*;clear ak;have⟨CX,D⟩:=zvh (wv xs);have⟨CY,E⟩:=zvh (wv ys);rw[<-D,<-E];have EG:=zh eg;clear eg;go_upto_region 1 with fail;rw[<-dU];generalize U:w.alloc _=zw1 at*;generalize V:zw1.alloc _=zw2 at*;generalize X:zw2.alloc _=w1 at*;have⟨HB,f,m,l⟩:=zB3 U V X;clear U V X;replace a:=zh (a.Q HB);rw[D] at f;rw[E] at m;go_wp2;go_loopw [8] (λi wr=>∃(k:Nat) (cur:List Nat) (h:List Nd),k<=16/\i=zI zi k/\BB wr g C h/\Ext d h/\okW h cur/\Box wr w.heap.size (wv cur) 146/\Box wr (w.heap.size+1) (wv ys) 146/\Box wr (w.heap.size+1+1) (wv z16) 146/\cur.drop k=xs.drop k/\w.grownBy wr (some g)/\PQ=aR (dL F (xs.drop k) (ys.drop k)) (cur.take k) h) (λi _=>16-(intOf i).toNat)
 .exact⟨0,xs,d,DH _,rfl,a,Ext.refl d,HX,f,m,l,rfl,aH HB,ac⟩
 obtain⟨k,cur,h,hk,rfl,A,L,p,R,T,Q,K,M,hq⟩:=hrel;have⟨a,s,j,f,m,l⟩:=zk6 A L p R T Q;have⟨G,c,t⟩:=zk3 K M hq;clear A L p R T Q K M hq;by_cases o:k<16
 .have P:(k:Int)<16:=by omega
  have k0:=zn0 k;have Y:=zh (j.at o);have Z:=zh ((HY.ext s).at o);have GX:=zh (cG (ws:=cur) (k:=k) (by rw[j.1];exact o));have GY:=zh (cG (ws:=ys) (k:=k) (by rw[HY.1];exact o));replace t:=zh (show PQ=((F (zG cur k 0) (zG ys k 0)).bind λz=>aR (dL F (xs.drop (k+1)) (ys.drop (k+1))) (cur.take k++[z])) h by rw[t,wO HX.1 HY.1 o,gS G]);generalize zG cur k 0=x,zG ys k 0=y at*;have ec:=EG x y;go_upto_region 4 with fail;refine dD (S:=SXY w.heap.size (w.heap.size+1) k x y) 8 (by kernel_rfl) (sxy f m GX GY) (λhS=> ?_);have r:zL wr wr.drew:=ae _;replace⟨f,m,l,a⟩:=zb4 f m l a r;replace c:=zh (au c r);clear r;generalize wr.drew=w2 at*;refine zup 0 (zI zi k) rfl ?_;refine zup 1 (.func (.func n) first e) rfl ?_;refine zup 2 (zI zi k) rfl ?_;refine zup 3 (.pointer (some ⟨w.heap.size,k,none⟩)) rfl ?_;simp only[zp];refine zu 4 (zI zi x) rfl (zQ ⟨by rfl,λW hW=>by obtain⟨s1,s2⟩:=hW;go_simp⟩) ?_;refine zup 5 (zI zi k) rfl ?_;refine zup 6 (.pointer (some ⟨w.heap.size+1,k,none⟩)) rfl ?_;simp only[zp];refine zu 7 (zI zi y) rfl (zQ ⟨by rfl,λW hW=>by obtain⟨s1,s2⟩:=hW;go_simp⟩) ?_;simp only[zp];clear hS;refine bq 8 rfl ?_;go_wp2;have CO:=zh (ab w2 h x y a s c Y Z);refine zoC CO t s c (λ_ hn=>⟨rfl,zn hn⟩) λw3 z d3 t a L HZ M s c=> ?_;replace⟨f,m,l⟩:=zg3 f m l M;replace j:=zh (j.ext L);clear L M;unfold bM;clear ec;go_wp2;show bC _ _ _ _ _ _ _ _ _ _;refine bq 9 rfl ?_;go_wp2;show bC _ _ _ _ _ _ _ _ _ _;have xz:=f.frozen k;have xl:=f.lt;have x1:=f.A k _ GX;refine bq 10 rfl ?_;go_wp2;refine dE (by kernel_rfl) ?_ _;have B:=zh (a.setBox f (by decide) (by omega) k (zI zi z));have aj:=zh (m.setNe ⟨w.heap.size,k,none⟩ (zI zi z));have ai:=zh (l.setNe ⟨w.heap.size,k,none⟩ (zI zi z));have J:=zh (f.set_ k (zI zi z));have I:=zh (cx (i:=k) (u:=(zI zi z)) c (b:=w.heap.size) (by omega));clear xz xl x1;generalize w3.setCell ⟨w.heap.size,k,none⟩ (zI zi z)=w4 at*;rw[jo] at J;have a:=B;have c:=I;have f:=J;have m:=aj;have l:=ai;replace j:=zh (j.set k HZ);have ag:=zh (fm (x:=z) (show k<zN cur by have:=j.1;rw[Er] at this;omega));have aa:=zh (iT (cur:=cur) (k:=k) (x:=z));generalize cur.set k z=cur' at*;go_wp2;go_roundw
  .refine⟨k+1,cur',d3,by omega,by go_num,a,s,j,f,m,l,by rw[aa];exact fM G,c,by rw[ag];exact t⟩
  simp[intOf];omega
 have P:¬(k:Int)<16:=by omega
 have N:k=16:=by omega
 subst N;have q:Hid ((wv cur).size=16):=zh (by rw[aw,j.1]);have H1:Hid ((wv cur).all (·.oneCell')=true):=zh (bz _);have ad:Hid (PQ=some (cur,h)):=zh (by rw[t,EA (by rw[HX.1];exact DE _),En (by rw[j.1];exact DE _)];show aR (Bm.ret []) cur h=_;rw[iZ];rfl);go_wp2_with(first|(refine bu rfl _ rfl w.heap.size rfl f q ?_)|(refine aP rfl _ _ rfl (w.heap.size+1+1) (wv cur) (by rfl) (by rfl) l af q H1 ?_;intro w2 ah H));refine D7 (v:=zX (wv cur)) (aW results132 _ rfl ah q) rfl ?_;rw[ad];exact⟨aJ c H,rfl,a.grownBox l (by decide) (by omega) H,s,j⟩
def tn (w:World) (g:Nat) (C:BC) (d:List Nd) (A:BB w g C d) (xs ys:List Nat) (hx:okW d xs) (hy:okW d ys) (op:Int) (h:op=19\/op=20\/op=21):Calls zz 212 #[zP g,zI zi op,zX (wv xs),zX (wv ys)] w (fD cU okW w g C d ((opW op [xs,ys]) d)):=by
 have aa:=zl A;have⟨a,Y,Z⟩:=zk3 A hx hy;have c:Hid ((opW op [xs,ys]) d=(opW op [xs,ys]) d):=zh rfl;have L:Hid ((wv z16).size=16):=zh (by rw[aw];rfl);clear A hx hy;go_enter func212,ntmps212;have⟨G,z⟩:=zv ((opW op [xs,ys]) d);replace c:Hid (G=(opW op [xs,ys]) d):=zh z;rw[<-z];clear z;have⟨CX,q⟩:=zvh (wv xs);have⟨CY,r⟩:=zvh (wv ys);rw[<-q,<-r];have E:Hid (CX.size=16):=zh (by rw[q,aw,Y.1]);have F:Hid (CY.size=16):=zh (by rw[r,aw,Z.1]);go_upto_region 1 with fail;rw[<-dU];generalize H:w.alloc _=zw1 at*;generalize I:zw1.alloc _=zw2 at*;generalize J:zw2.alloc _=w1 at*;have⟨X,j,k,f⟩:=zB3 H I J;clear H I J;replace a:=zh (a.Q X);have b:=zh (aH (row:=some g) X);have i:=zh (Ext.refl d);rcases h with rfl|rfl|rfl
 case' _=>replace c:Hid (G=((bH xs 0).bind λs=>(bH ys 0).bind λt=>(et s t).bind λu=>Bm.ret (aK u)) d):=zh c
 rotate_left;case' _=>
  replace c:Hid (G=((bH xs 0).bind λs=>(bH ys 0).bind λt=>(orB s t).bind λu=>Bm.ret (aK u)) d):=zh c
 rotate_left;case' _=>
  replace c:Hid (G=((bH xs 0).bind λs=>(bH ys 0).bind λt=>(gI s).bind λv=>(orB v t).bind λu=>Bm.ret (aK u)) d):=zh c
 rotate_left;all_goals
  go_wp2_with(first|(refine bu rfl _ rfl w.heap.size rfl j E ?_)|(refine bu rfl _ rfl (w.heap.size+1) rfl k F ?_));rw[q];have m:=zh (kO w1 g C d a xs Y);refine zoC m c i b (λ_ p=>⟨rfl,zn p⟩) λw2 s d2 c a l n e i b=> ?_;replace⟨j,k,f⟩:=zg3 j k f e;clear l e;unfold bM;go_wp2_with(first|(refine bu rfl _ rfl w.heap.size rfl j E ?_)|(refine bu rfl _ rfl (w.heap.size+1) rfl k F ?_));rw[r];have m:=zh (kO w2 g C d2 a ys (Z.ext i));refine zoC m c i b (λ_ p=>⟨rfl,zn p⟩) λS t P c a l o e i b=> ?_;replace⟨j,k,f⟩:=zg3 j k f e;replace n:=zh (n.ext l);clear l e;unfold bM
 case' _=>have m:=zh (kg S g C P a s t n o);go_wp2;refine zoC m c i b (λ_ p=>⟨rfl,zn p⟩) λU u R c a l y e i b=> ?_;replace⟨j,k,f⟩:=zg3 j k f e;clear l e;unfold bM
 rotate_left;case' _=>
  have m:=zh (tm S g C P a s t n o);go_wp2;refine zoC m c i b (λ_ p=>⟨rfl,zn p⟩) λU u R c a l y e i b=> ?_;replace⟨j,k,f⟩:=zg3 j k f e;clear l e;unfold bM
 rotate_left;case' _=>
  have m:=zh (lp S g C P a s n);go_wp2;refine zoC m c i b (λ_ p=>⟨rfl,zn p⟩) λT v Q c a l M e i b=> ?_;replace⟨j,k,f⟩:=zg3 j k f e;replace o:=zh (o.ext l);clear l e;unfold bM;have m:=zh (tm T g C Q a v t M o);go_wp2;refine zoC m c i b (λ_ p=>⟨rfl,zn p⟩) λU u R c a l y e i b=> ?_;replace⟨j,k,f⟩:=zg3 j k f e;clear l e;unfold bM
 rotate_left;all_goals
  go_wp2;refine zK (io U u) λwt A=> ?_;replace⟨f,a⟩:=zb2 f a A;replace b:=zh (au b A);clear A;unfold cU;have x:Hid ((wv (aK u)).size=16):=zh (by rw[aw];simp[aK,aB]);have W:Hid ((wv (aK u)).all (·.oneCell')=true):=zh (bz _);have⟨V,B⟩:=zvh (wv (aK u));rw[<-B] at x W⊢;go_wp2_with(refine aP rfl _ _ rfl (w.heap.size+1+1) V (by rfl) (by rfl) f L x W ?_;intro w9 N D);refine D7 (v:=zX V) (aW results212 _ rfl N x) rfl ?_;have K:G=some (aK u,R):=c;rw[K,B];exact⟨aJ b D,rfl,a.grownBox f (by decide) (by omega) D,i,fK a.2 y⟩
def Bk (w:World) (g:Nat) (C:BC) (d:List Nd) (A:BB w g C d) (xs ys:List Nat) (T:okW d xs) (U:okW d ys) (op:Int) (h:op=15\/op=16\/op=17\/op=18):Calls zz 213 #[zP g,zI zi op,zX (wv xs),zX (wv ys)] w (fD cU okW w g C d ((opW op [xs,ys]) d)):=by
 have X:=zl A;have⟨a,F,G⟩:=zk3 A T U;have c:Hid ((opW op [xs,ys]) d=(opW op [xs,ys]) d):=zh rfl;have N:Hid ((wv z16).size=16):=zh (by rw[aw];rfl);clear A T U;go_enter func213,ntmps213;have⟨B,z⟩:=zv ((opW op [xs,ys]) d);replace c:Hid (B=(opW op [xs,ys]) d):=zh z;rw[<-z];clear z;have⟨V,k⟩:=zvh (wv xs);have⟨W,l⟩:=zvh (wv ys);rw[<-k,<-l];have q:Hid (V.size=16):=zh (by rw[k,aw,F.1]);have r:Hid (W.size=16):=zh (by rw[l,aw,G.1]);go_upto_region 1 with fail;rw[<-dU];generalize H:w.alloc _=zw1 at*;generalize I:zw1.alloc _=zw2 at*;generalize J:zw2.alloc _=w1 at*;have⟨S,i,j,f⟩:=zB3 H I J;clear H I J;replace a:=zh (a.Q S);have b:=zh (aH (row:=some g) S);have m:=zh (Ext.refl d);rcases h with rfl|rfl|rfl|rfl
 case' _=>replace c:Hid (B=((eqB xs ys 1).bind λu=>Bm.ret (aK u)) d):=zh c;go_wp2_with(first|(refine bu rfl _ rfl w.heap.size rfl i q ?_)|(refine bu rfl _ rfl (w.heap.size+1) rfl j r ?_));rw[k,l];have n:=zh (o6 w1 g C d a xs ys F G);refine zoC n c m b (λ_ p=>⟨rfl,zn p⟩) λL u K c a o s e m b=> ?_;replace⟨i,j,f⟩:=zg3 i j f e;clear o e;unfold bM
 rotate_left;case' _=>
  replace c:Hid (B=((eqB xs ys 1).bind λt=>(gI t).bind λu=>Bm.ret (aK u)) d):=zh c;go_wp2_with(first|(refine bu rfl _ rfl w.heap.size rfl i q ?_)|(refine bu rfl _ rfl (w.heap.size+1) rfl j r ?_));rw[k,l];have n:=zh (o6 w1 g C d a xs ys F G);refine zoC n c m b (λ_ p=>⟨rfl,zn p⟩) λw2 t d2 c a o y e m b=> ?_;replace⟨i,j,f⟩:=zg3 i j f e;clear o e;unfold bM;have n:=zh (lp w2 g C d2 a t y);go_wp2;refine zoC n c m b (λ_ p=>⟨rfl,zn p⟩) λL u K c a o s e m b=> ?_;replace⟨i,j,f⟩:=zg3 i j f e;clear o e;unfold bM
 rotate_left;case' _=>
  replace c:Hid (B=((ltB xs ys 0).bind λu=>Bm.ret (aK u)) d):=zh c;go_wp2_with(first|(refine bu rfl _ rfl w.heap.size rfl i q ?_)|(refine bu rfl _ rfl (w.heap.size+1) rfl j r ?_));rw[k,l];have n:=zh (tp w1 g C d a xs ys F G);refine zoC n c m b (λ_ p=>⟨rfl,zn p⟩) λL u K c a o s e m b=> ?_;replace⟨i,j,f⟩:=zg3 i j f e;clear o e;unfold bM
 rotate_left;case' _=>
  replace c:Hid (B=((ltB ys xs 0).bind λt=>(gI t).bind λu=>Bm.ret (aK u)) d):=zh c;go_wp2_with(first|(refine bu rfl _ rfl w.heap.size rfl i q ?_)|(refine bu rfl _ rfl (w.heap.size+1) rfl j r ?_));rw[k,l];have n:=zh (tp w1 g C d a ys xs G F);refine zoC n c m b (λ_ p=>⟨rfl,zn p⟩) λw2 t d2 c a o y e m b=> ?_;replace⟨i,j,f⟩:=zg3 i j f e;clear o e;unfold bM;have n:=zh (lp w2 g C d2 a t y);go_wp2;refine zoC n c m b (λ_ p=>⟨rfl,zn p⟩) λL u K c a o s e m b=> ?_;replace⟨i,j,f⟩:=zg3 i j f e;clear o e;unfold bM
 rotate_left;all_goals
  go_wp2;refine zK (io L u) λwt A=> ?_;replace⟨f,a⟩:=zb2 f a A;replace b:=zh (au b A);clear A;unfold cU;have x:Hid ((wv (aK u)).size=16):=zh (by rw[aw];simp[aK,aB]);have R:Hid ((wv (aK u)).all (·.oneCell')=true):=zh (bz _);have⟨Q,D⟩:=zvh (wv (aK u));rw[<-D] at x R⊢;go_wp2_with(refine aP rfl _ _ rfl (w.heap.size+1+1) Q (by rfl) (by rfl) f N x R ?_;intro Y P E);refine D7 (v:=zX Q) (aW results213 _ rfl P x) rfl ?_;have M:B=some (aK u,K):=c;rw[M,D];exact⟨aJ b E,rfl,a.grownBox f (by decide) (by omega) E,m,fK a.2 s⟩
end
end Go.Proofs.YtdahpdnhkflnnaaGreatDoor
