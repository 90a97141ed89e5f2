/-
  Contracts and laws for the law TopChoices, part 2 of 14; made small by a program of mine out of longer texts.
-/
import Derived.Test.YtdahpdnhkflnnaaGreatDoorZ01
namespace Go.Proofs.YtdahpdnhkflnnaaGreatDoor
set_option linter.unusedVariables false
set_option linter.unusedSimpArgs false
set_option linter.defProp false
set_option maxRecDepth 100000
set_option maxHeartbeats 64000000
section
section
open Go.RowKit Go.WideShapes Go.ChangeShapes
section
variable {H:Type} {enc:TypeId×Value->H} {P:Program}
theorem post_of_below3 {f:Func} {s:ChangeSpec} {c e d:Bool} {W W':World} {args:Array Value} {v:Value} {j gs:List (DataW H)} {a m:List MemPlace}
  (o:DataW.Whole enc P f.params.toList s.vars c W args.toList j gs a)
  (k:∀(b:Nat) (n:Nat->Bool) (r:Bool),DataW.TrodAll enc P W' b n r f.resultTypes.toList (v.resultList f.resultTypes.size) (s.fn H (j++gs)).results [])
  (g:DataW.TrodAll enc P W' 0 (λb=>decide (b<W.heap.size)) true f.params.toList args.toList (s.fn H (j++gs)).args m)
  (i:∀n:Nat->Bool,DataW.TrodVars enc P W' n s.vars (s.fn H (j++gs)).vars [])
  (l:a=m++[]) (q:Below W.heap.size W W'):
  s.post enc P f c e d false W args v W':=by
 refine⟨j,gs,a,[],m,[],o,k _ _ _,g,i _,World.keptBut_mono (λp hp=>⟨hp, ?_⟩) (q.frame (· ∈a)),λh=>by cases h⟩;rw[l,AQ] at hp;exact BH hp
end
theorem n7 {P:Program} {w:World}:∀{b:List (String×DataW Unit)} {e:List MemPlace},DataW.LaidVars P w b e->∀x∈b,
  ∃g t cs a p,P.globalNamed x.1=some g/\(P.globals[g]?).map (·.type)=some t/\w.var? P x.1=some cs/\DataW.trod (λ_=>()) P w 0 (λ_=>true) false a t cs.toList=some (x.2,p)
 |[],_,_,x,c=>by cases c
 |(n,d)::r,e,⟨g,t,cs,a,p,q,h1,h2,h3,h4,h5,_⟩,x,c=>by
  rcases yC.1 c with rfl|c
  ·exact⟨g,t,cs,a,p,h1,h2,h3,h4⟩
  ·exact n7 h5 x c
theorem tab_of_laid {W:World} (h:laidMetH Tryz.prog [("math/bits.deBruijn32tab",Rows.laid_math_bits_deBruijn32tab),("math/bits.deBruijn64tab",Rows.laid_math_bits_deBruijn64tab),("internal/strconv.uint64pow10",Rows.laid_internal_strconv_uint64pow10),("testbench/lexer.keywords",Rows.laid_testbench_lexer_keywords)] W):Tab W:=by
 rw[MakeChecks.laidMetH_plain _ _ _ (by kernel_rfl)] at h;obtain⟨ps,hl,_⟩:=h
 obtain⟨g,t,cs,fuel,p,hg,hty,hv,hd⟩:=n7 hl ("internal/strconv.uint64pow10",Rows.laid_internal_strconv_uint64pow10) (by simp)
 obtain rfl:=Az (gPow.symm.trans hg);have hty':(Tryz.prog.globals[2]?).map (·.type)=some 367:=by kernel_rfl
 obtain rfl:=Az (hty'.symm.trans hty);unfold Tab Lib.TabIs;rw[hv,<-Lib.cells_of_tab (zs:=Lib.pow10Tab) (k:= .u64) Tryz.underlying367 Tryz.underlying55 (by kernel_rfl) (by kernel_rfl) hd]
end
section
variable {H:Type} {enc:TypeId×Value->H}
theorem handed_and_shaped {a:Assume} {C:Checked} {os:Os} {f:FuncId} {fn:Func} {s:ChangeSpec} {h:List PathCond} {b m g l:Bool} {X:World->Array Value->Prop}
  (I:∀(w w':World) (args:Array Value),w.heap=w'.heap->X w args->X w' args)
  (F:ownKnob C.prog.godebug=none) (n:os.Started) (q:C.prog.inits.idxOf? f=none) (A:C.prog.funcs[f]? =some fn)
  (o:∃(w:World) (c:Tape) (i:Input),w.os=os/\(w.forCall c i).Shaped C.prog/\i.vars=[]/\Input.okWide C.prog (w.forCall c i) .any w.heap.size f i∧
   ((s.pre enc C.prog fn h b (w.forCall c i).memory i.args/\X (w.forCall c i).memory i.args)/\sizedMet enc C.prog fn (OpenSpec.ofChange s) b (w.forCall c i).memory i.args)/\a.holds C.prog (lone (Frame.enter C.prog f i.args .normal) [] (w.forCall c i)))
  (k:∀(W:World) (base:Nat) (args:Array Value) (r gs:List (DataW H)) (d:List MemPlace),
   (∀(j:Nat) t v,fn.params[j]? =some t->args[j]? =some v->Value.okWide C.prog W .any base t v)→
   DataW.Whole enc C.prog fn.params.toList s.vars b W args.toList r gs d→
   h.all (PathCond.test C.prog ⟨fn.params.toList,r,s.plain.varTypes C.prog,gs⟩)=true→
   (DataW.weightsEach C.prog (fn.params.toList++s.plain.varTypes C.prog) (r++gs)).all (· ≤reachBytes)=true->X W args->W.ShapedOpen C.prog→
   a.holds C.prog (lone (Frame.enter C.prog f args .normal) [] W)→
   Calls C.prog f args W λe W'=>∃v,e= .returned v/\s.post enc C.prog fn b m g l W args v W'):
  ReturnsInHanded a C os f .any (λw args=>(s.pre enc C.prog fn h b w args/\X w args)/\sizedMet enc C.prog fn (OpenSpec.ofChange s) b w args) (s.post enc C.prog fn b m g l):=by
 refine returnsInHanded_of_calls F n q o ?_;intro w c i _ D _ B x p;obtain⟨_,_,_,z,u,_,_,_,_,y⟩:=B;have e:z=fn:=Az (u.symm.trans A);subst e;obtain⟨⟨⟨r,gs,d,G,J⟩,K⟩,L⟩:=x;have E:=DataW.Whole.of_heap (w':=w.forCall c i) (by rfl) G;refine(k (w.forCall c i) w.heap.size i.args r gs d y E J (L.weights G) (I _ _ _ (by rfl) K) D p).mono λe W' ⟨v,he,hp⟩=> ?_;subst he;exact ChangeSpec.post_blind hp
end
end
section
open Go.RowKit
structure Rd (α:Type) where
 k:Nat
 ts:List TypeId
 pos:0<k
 R:World->List Value->α->(Nat->Prop)->Prop
 len:∀{w us x F},R w us x F->us.length=k
 one:∀{w us x F},R w us x F->∀u∈us,u.oneCell'=true
 mono:∀{w us x F G},R w us x F->(∀b,F b->G b)->R w us x G
 same:∀{w w' us x F},R w us x F->w.heap.size<=w'.heap.size->(∀b,b<w.heap.size->F b->w'.heap[b]? =w.heap[b]?)->R w' us x F
def ah:Nat->Prop:=λ_=>True
theorem wM {w:World} {a:Addr} {v:Value} (h:w.cell? a=some v):a.spot=none:=by
 unfold World.cell? at h
 split at h
 ·split at h
  ·cases h
  ·rename_i hs;simpa using hs
 ·cases h
theorem dq {b o:Nat} (j:Nat):(⟨b,o,none⟩:Addr).add j=⟨b,o+j,none⟩:=by
 unfold Addr.add
 split
 ·rename_i h;subst h;rfl
 ·rfl
theorem fR {w w':World} {b i:Nat} (h:w'.heap[b]? =w.heap[b]?):w'.cell? ⟨b,i,none⟩=w.cell? ⟨b,i,none⟩:=World.cell?_of_block (a:=⟨b,i,none⟩) h
section
variable {α:Type} {φ:Rd α} {w w':World} {v:Value} {xs ys:List α} {F G:Nat->Prop}
def Rs (φ:Rd α) (w:World) (v:Value) (xs:List α) (F:Nat->Prop):Prop:=
 ∃(A:Option Addr) (c:Nat),v= .slice A xs.length c/\xs.length<=c/\(0<xs.length->∃b o,A=some ⟨b,o,none⟩/\b<w.heap.size∧
  ∀j x,xs[j]? =some x->∃us,(∀i,i<φ.k->w.cell? ⟨b,o+j*φ.k+i,none⟩=us[i]?)/\φ.R w us x F)
theorem Rs.nil (φ:Rd α) (w:World) (F:Nat->Prop):Rs φ w (.slice none 0 0) [] F:=⟨none,0,rfl,yq _,λh=>absurd h (by simp)⟩
theorem Rs.mono (h:Rs φ w v xs F) (e:∀b,F b->G b):Rs φ w v xs G:=by
 obtain⟨A,c,rfl,g,h⟩:=h;refine⟨A,c,rfl,g,λk=> ?_⟩;obtain⟨b,o,rfl,f,h⟩:=h k;refine⟨b,o,rfl,f,λj x i=> ?_⟩;obtain⟨us,a,d⟩:=h j x i;exact⟨us,a,φ.mono d e⟩
theorem Rs.same (h:Rs φ w v xs F) (a:w.heap.size<=w'.heap.size) (m:∀b,v.ownBlock=some b->w'.heap[b]? =w.heap[b]?) (hk:∀b,b<w.heap.size->F b->w'.heap[b]? =w.heap[b]?):Rs φ w' v xs F:=by
 obtain⟨A,c,rfl,g,h⟩:=h;refine⟨A,c,rfl,g,λl=> ?_⟩;obtain⟨b,o,rfl,f,h⟩:=h l;refine⟨b,o,rfl,yE f a,λj x k=> ?_⟩;obtain⟨us,d,e⟩:=h j x k;exact⟨us,λi hi=>by rw[fR (m b rfl)];exact d i hi,φ.same e a hk⟩
theorem Rs.below (h:Rs φ w v xs F) (d:Below w.heap.size w w'):Rs φ w' v xs F:=by
 by_cases i:0<xs.length
 ·refine h.same d.size (λb a=> ?_) (λb f _=>d.block b f);obtain⟨A,c,rfl,g,h⟩:=h;obtain⟨j,o,rfl,e,_⟩:=h i;simp only[Value.ownBlock,yy] at a;subst a;exact d.block _ e
 ·obtain⟨A,c,rfl,g,_⟩:=h;exact⟨A,c,rfl,g,λh=>absurd h i⟩
instance:Zm w w' (Rs φ w v xs F) (Rs φ w' v xs F):=⟨λhb h=>Rs.below h hb⟩
theorem Rs.slice (h:Rs φ w v xs F):∃A c,v= .slice A xs.length c/\xs.length<=c:=by
 obtain⟨A,c,rfl,a,_⟩:=h;exact⟨A,c,rfl,a⟩
theorem Rs.form (h:Rs φ w v xs F):(∃A c,v= .slice A 0 c/\xs=[])\/∃b o c,v= .slice (some ⟨b,o,none⟩) xs.length c/\xs.length<=c/\0<xs.length/\b<w.heap.size∧
  ∀j x,xs[j]? =some x->∃us,(∀i,i<φ.k->w.cell? ⟨b,o+j*φ.k+i,none⟩=us[i]?)/\φ.R w us x F:=by
 obtain⟨A,c,rfl,e,h⟩:=h
 by_cases a:0<xs.length
 ·obtain⟨b,o,rfl,d,h⟩:=h a;exact .inr ⟨b,o,c,rfl,e,a,d,h⟩
 ·obtain rfl:xs=[]:=yV (by omega);exact .inl ⟨A,c,rfl,rfl⟩
theorem Rs.rows (h:Rs φ w v xs F):∃uss:List (List Value),uss.length=xs.length/\(∀j x,xs[j]? =some x->φ.R w (uss.getD j []) x F)∧
  (0<xs.length->∃b o c,v= .slice (some ⟨b,o,none⟩) xs.length c/\b<w.heap.size/\∀j i,j<xs.length->i<φ.k->w.cell? ⟨b,o+j*φ.k+i,none⟩=(uss.getD j [])[i]?):=by
 rcases h.form with⟨A,c,rfl,rfl⟩|⟨b,o,c,rfl,u,y,m,g⟩
 ·exact⟨[],rfl,λj x h=>by simp at h,λh=>by simp at h⟩
 ·have q:∀n,n<=xs.length->∃uss:List (List Value),uss.length=n/\∀j x,j<n->xs[j]? =some x->φ.R w (uss.getD j []) x F/\∀i,i<φ.k->w.cell? ⟨b,o+j*φ.k+i,none⟩=(uss.getD j [])[i]? :=by
   intro n
   induction n with
   |zero=>intro _;exact⟨[],rfl,λj x h=>by omega⟩
   |succ n ih=>
    intro z;obtain⟨uss,d,t⟩:=ih (by omega);obtain⟨us,r,s⟩:=g n _ (yp (by omega));refine⟨uss++[us],by simp[d],λj x l a=> ?_⟩
    by_cases e:j<n
    ·rw[show(uss++[us]).getD j []=uss.getD j [] by simp[yj,yP (show j<uss.length by omega)]];exact t j x e a
    ·obtain rfl:j=n:=by omega
     rw[show(uss++[us]).getD j []=us by rw[<-d];simp[yj]];rw[yp (by omega),yy] at a;subst a;exact⟨s,r⟩
  obtain⟨uss,p,f⟩:=q xs.length (yq _);exact⟨uss,p,λj x a=>(f j x (by have:=(yJ.1 a).1;exact this) a).1,λ_=>⟨b,o,c,rfl,m,λj i l hi=>(f j _ l (yp l)).2 i hi⟩⟩
end
theorem iN {k:Nat}:∀{uss:List (List Value)},(∀us∈uss,us.length=k)->uss.flatten.length=uss.length*k
 |[],_=>by simp
 |us::r,h=>by
  rw[Ce,yu,iN (λu a=>h u (yT _ a)),h us (by simp),yr,Nat.add_mul,Nat.one_mul,Nat.add_comm]
theorem eb {k:Nat}:∀{uss:List (List Value)},(∀us∈uss,us.length=k)->∀j i,i<k->uss.flatten[j*k+i]? =(uss[j]?).bind (λus=>us[i]?)
 |[],_,j,i,_=>by simp
 |us::r,h,0,i,hi=>by
  rw[Ce,Nat.zero_mul,yH,yP (by rw[h us (by simp)];exact hi)];simp
 |us::r,h,j+1,i,hi=>by
  have a:=h us (by simp);rw[Ce,yG (by rw[a,Nat.add_mul];omega),a,show(j+1)*k+i-k=j*k+i by rw[Nat.add_mul];omega,eb (λu a=>h u (yT _ a)) j i hi];simp
def Ty (w:World) (B:Nat) (ts:List TypeId) (b:Nat):Prop:=b<B\/∃cs e a,w.heap[b]? =some (.cells cs e a)/\e∈ts
theorem kV {w:World} {b:Nat} {o:Obj} (h:w.heap[b]? =some o):b<w.heap.size:=(Bu.1 h).1
theorem Ty.keep {w w':World} {B:Nat} {ts:List TypeId} {b:Nat} (h:Ty w B ts b) (hk:b<w.heap.size->w'.heap[b]? =w.heap[b]?):Ty w' B ts b:=by
 rcases h with h|⟨cs,e,c,a,d⟩
 ·exact .inl h
 ·exact .inr ⟨cs,e,c,(hk (kV a)).trans a,d⟩
theorem Ty.box {w:World} {B g:Nat} {ts:List TypeId} {T:TypeId} {cs:Array Value} {b:Nat} (h:Ty w B ts b) (c:Box w g cs T) (f:T∉ts) (k:B<=g):b≠g:=λe=>by
 subst e;rcases h with h|⟨d,e,j,a,i⟩
 ·omega
 ·unfold Box at c;rw[c] at a;simp only[yy,Bw] at a;exact f (a.2.1▸i)
theorem Ty.row {w:World} {B C:Nat} {ts:List TypeId} {T:TypeId} {size:Nat} {v:Value} {n:Nat} {xs:List Value} {b:Nat} (h:Ty w C ts b) (i:T∉ts) (f:C<=B) (d:w.ownsRow B T size v n xs):v.ownBlock≠some b:=λe=>by
 have o:=iJ d b e;rcases h with m|⟨cs,k,l,a,j⟩
 ·omega
 ·rcases d.2 with⟨rfl,_⟩|⟨g,cap,cur,rfl,_,c,_⟩
  ·simp[Value.ownBlock] at e
  ·simp only[Value.ownBlock,yy] at e;subst e;rw[c] at a;simp only[yy,Bw] at a;exact i (a.2.1▸j)
section
variable {α:Type} {φ:Rd α} {w w':World} {B C:Nat} {T:TypeId} {v v':Value} {xs ys:List α}
def OG (φ:Rd α) (w:World) (B C:Nat) (T:TypeId) (v:Value) (xs:List α):Prop:=
 (T∉φ.ts/\C<=B)/\∃uss:List (List Value),uss.length=xs.length/\w.ownsRow B T φ.k v xs.length uss.flatten/\∀j x,xs[j]? =some x->φ.R w (uss.getD j []) x (Ty w C φ.ts)
theorem OG.nil (φ:Rd α) (w:World) (B C:Nat) (T:TypeId) (b:T∉φ.ts) (a:C<=B):OG φ w B C T (.slice none 0 0) []:=⟨⟨b,a⟩,[],rfl,World.ownsRow_nil _ _ _ _,λj x h=>by simp at h⟩
theorem OG.slice (h:OG φ w B C T v xs):∃A c,v= .slice A xs.length c:=by
 obtain⟨_,uss,_,b,_⟩:=h;rcases b.2 with⟨rfl,a⟩|⟨g,cap,cur,rfl,_⟩
 ·exact⟨none,0,by rw[a]⟩
 ·exact⟨_,cap,rfl⟩
theorem OG.blk (h:OG φ w B C T v xs):∀q,v.ownBlock=some q->B<=q:=by
 obtain⟨_,uss,_,a,_⟩:=h;exact λq b=>iJ a q b
theorem i8 {us:List Value} {x:α} (h:φ.R w us x (Ty w C φ.ts)) (d:w.heap.size<=w'.heap.size) (hk:∀b,b<w.heap.size->Ty w C φ.ts b->w'.heap[b]? =w.heap[b]?):φ.R w' us x (Ty w' C φ.ts):=
 φ.mono (φ.same h d hk) λb a=>a.keep λc=>hk b c a
theorem OG.below (h:OG φ w B C T v xs) (a:Below w.heap.size w w'):OG φ w' B C T v xs:=by
 obtain⟨d,uss,g,i,e⟩:=h;exact⟨d,uss,g,lQ i a,λj x f=>i8 (e j x f) a.size λb c _=>a.block b c⟩
instance:Zm w w' (OG φ w B C T v xs) (OG φ w' B C T v xs):=⟨λhb h=>OG.below h hb⟩
theorem OG.rs (h:OG φ w B C T v xs):Rs φ w v xs (Ty w C φ.ts):=by
 obtain⟨r,uss,t,m,e⟩:=h;have l:=m
 have d:∀us∈uss,us.length=φ.k:=λus p=>by
  obtain⟨j,b,rfl⟩:=yS.1 p;have:=φ.len (e j _ (yp (by omega)))
  rwa [yj,yp b] at this
 rcases m.2 with⟨rfl,n⟩|⟨g,cap,cur,rfl,s,o,f,_⟩
 ·obtain rfl:xs=[]:=yV n;exact Rs.nil φ w _
 ·refine⟨_,cap,rfl,f,λhp=>⟨g,0,rfl,kV o,λj x b=>⟨uss.getD j [],λi hi=> ?_,e j x b⟩⟩⟩;have c:j<uss.length:=by have:=(yJ.1 b).1;omega
  have q:(uss.getD j []).length=φ.k:=φ.len (e j x b)
  have a:uss.flatten[j*φ.k+i]? =some ((uss.getD j [])[i]'(by omega)):=by
   rw[eb d j i hi,yp c];simp only[yj,yp c,AV,Option.bind_some];exact yp _
  have:=l.cells (g:=g) rfl (j*φ.k+i) _ a;rw[dq,<-Nat.add_assoc] at this;rw[this];exact(yp _).symm
theorem OG.any (h:OG φ w B C T v xs):Rs φ w v xs ah:=h.rs.mono λ_ _=>trivial
theorem OG.grow (h:OG φ w B C T v xs) {i:Value} {t size:Nat} {s:List Value} {k:TypeId} {B1:Nat} (c:k∉φ.ts) (a:C<=B1) (r:w.ownsRow B1 k size i t s) (d:w.grownBy w' i.ownBlock) (g:v.ownBlock=none\/v.ownBlock≠i.ownBlock):OG φ w' B C T v xs:=by
 obtain⟨l,uss,p,q,n⟩:=h;exact⟨l,uss,p,q.kept d g,λj x o=>i8 (n j x o) d.size λb f m=>d.block b f λe=>m.row c a r e.symm⟩
theorem OG.pushes {uss us2:List (List Value)} (f:T∉φ.ts/\C<=B) (m:uss.length=xs.length) (p:w.ownsRow B T φ.k v xs.length uss.flatten) (o:∀j x,xs[j]? =some x->φ.R w (uss.getD j []) x (Ty w C φ.ts))
  (d:us2.length=ys.length) (q:∀j x,ys[j]? =some x->φ.R w (us2.getD j []) x (Ty w C φ.ts)) (i:w'.ownsRow B T φ.k v' (xs.length+ys.length) (uss.flatten++us2.flatten)) (l:w.grownBy w' v.ownBlock):OG φ w' B C T v' (xs++ys):=by
 have a:∀us x,φ.R w us x (Ty w C φ.ts)->φ.R w' us x (Ty w' C φ.ts):=λus x h=>i8 h l.size λb g n=>l.block b g λe=>n.row f.1 f.2 p e.symm;refine⟨f,uss++us2,by simp[m,d],by simpa using i,λj x c=> ?_⟩
 by_cases e:j<xs.length
 ·rw[yP e] at c;rw[show(uss++us2).getD j []=uss.getD j [] by simp[yj,yP (show j<uss.length by omega)]];exact a _ _ (o j x c)
 ·rw[yG (by omega)] at c;rw[show(uss++us2).getD j []=us2.getD (j-xs.length) [] by simp[yj,yG (show uss.length<=j by omega),m]];exact a _ _ (q _ x c)
theorem OG.setBox (h:OG φ w B C T v xs) {g:Nat} {cs:Array Value} {T':TypeId} (m:Box w g cs T') (a:T'∉φ.ts) (o:C<=g) (l:T'≠T) (i:Nat) (u:Value):OG φ (w.setCell ⟨g,i,none⟩ u) B C T v xs:=by
 obtain⟨p,uss,s,n,q⟩:=h;have hk:∀b,b≠g->(w.setCell ⟨g,i,none⟩ u).heap[b]? =w.heap[b]? :=λb c=>Aj w ⟨g,i,none⟩ u b c;refine⟨p,uss,s,n.kept (row:=some g) ⟨rfl,rfl,rfl,by simp[World.setCell],λk _ f=>hk k (λe=>f (by rw[e]))⟩ (.inr λe=> ?_),λj x r=>i8 (q j x r) (by simp[World.setCell]) λb _ c=>hk b (c.box m a o)⟩;rcases n.2 with⟨rfl,_⟩|⟨t,cap,cur,rfl,_,d,_⟩
 ·simp[Value.ownBlock] at e
 ·simp only[Value.ownBlock,yy] at e;subst e;unfold Box at m;rw[m] at d;simp only[yy,Bw] at d;exact l d.2.1
theorem rR {n size:Nat} {v:Value} {ls:List Value} (h:w.ownsRow B T size v n ls) (hk:∀b,v.ownBlock=some b->w'.heap[b]? =w.heap[b]?):w'.ownsRow B T size v n ls:=by
 refine⟨h.1, ?_⟩;rcases h.2 with a|⟨g,cap,cur,rfl,d,e,c⟩
 ·exact .inl a
 ·exact .inr ⟨g,cap,cur,rfl,d,(hk g rfl).trans e,c⟩
theorem kI {B' n size:Nat} {v:Value} {ls:List Value} (h:w.ownsRow B T size v n ls) (d:B'<=B):w.ownsRow B' T size v n ls:=by
 refine⟨h.1, ?_⟩;rcases h.2 with b|⟨g,cap,cur,rfl,a,c⟩
 ·exact .inl b
 ·exact .inr ⟨g,cap,cur,rfl,yK d a,c⟩
theorem tH {n size:Nat} {v:Value} {d:List Value} (h:w.ownsRow B T size v n d):∀b,v.ownBlock=some b->b<w.heap.size:=λb a=>by
 rcases h.2 with⟨rfl,_⟩|⟨g,cap,cur,rfl,_,c,_⟩
 ·simp[Value.ownBlock] at a
 ·simp only[Value.ownBlock,yy] at a;subst a;exact kV c
theorem OG.growO {β:Type} {ψ:Rd β} {B1 o:Nat} {c:TypeId} {n:Value} {zs:List β} (h:OG φ w B C T v xs) (p:OG ψ w B1 o c n zs) (q:w.grownBy w' n.ownBlock) (i:T≠c) (f:c∉φ.ts) (d:C<=B1):OG φ w' B C T v xs:=by
 obtain⟨_,m,_,b,_⟩:=p;refine h.grow f d b q ?_;obtain⟨_,uss,_,r,_⟩:=h;rcases r.2 with⟨rfl,_⟩|⟨g,cap,cur,rfl,_,j,_⟩
 ·exact .inl rfl
 ·refine .inr λe=> ?_;rcases b.2 with⟨rfl,_⟩|⟨s,k,l,rfl,_,a,_⟩
  ·simp[Value.ownBlock] at e
  ·simp only[Value.ownBlock,yy] at e;subst e;rw[j] at a;simp only[yy,Bw] at a;exact i a.2.1
theorem OG.keepBut (h:OG φ w B C T v xs) (s:w.heap.size<=w'.heap.size) (X:Nat->Prop) (m:∀b,X b->∃cs T',Box w b cs T'/\T'∉φ.ts/\C<=b/\T'≠T) (hk:∀b,b<w.heap.size->¬X b->w'.heap[b]? =w.heap[b]?):OG φ w' B C T v xs:=by
 obtain⟨o,uss,r,i,p⟩:=h;refine⟨o,uss,r,rR i λb c=>hk b (tH i b c) λl=> ?_,λj x q=>i8 (p j x q) s λb f k=>hk b f λl=> ?_⟩
 ·obtain⟨cs,T',a,_,_,g⟩:=m b l;rcases i.2 with⟨rfl,_⟩|⟨t,cap,cur,rfl,_,e,_⟩
  ·simp[Value.ownBlock] at c
  ·simp only[Value.ownBlock,yy] at c;subst c;unfold Box at a;rw[e] at a;simp only[yy,Bw] at a;exact g a.2.1.symm
 ·obtain⟨cs,T',a,d,n,_⟩:=m b l;exact k.box a d n rfl
def cU (X:Nat->Prop) (w w':World):Prop:=w.heap.size<=w'.heap.size/\∀b,b<w.heap.size->¬X b->w'.heap[b]? =w.heap[b]?
theorem cU.mono {X Y:Nat->Prop} (h:cU X w w') (a:∀b,X b->Y b):cU Y w w':=⟨h.1,λb c e=>h.2 b c λd=>e (a b d)⟩
theorem cU.refl (X:Nat->Prop) (w:World):cU X w w:=⟨yq _,λ_ _ _=>rfl⟩
theorem cU.below {X:Nat->Prop} {w2:World} (h:cU X w w') (a:Below w'.heap.size w' w2):cU X w w2:=⟨yK h.1 a.size,λb c d=>(a.block b (yE c h.1)).trans (h.2 b c d)⟩
instance {X:Nat->Prop} {w2:World}:Zm w' w2 (cU X w w') (cU X w w2):=⟨λhb h=>cU.below h hb⟩
theorem cU.set {X:Nat->Prop} (h:cU X w w') {p:Addr} (hp:X p.block\/w.heap.size<=p.block) (u:Value):cU X w (w'.setCell p u):=by
 refine⟨by simpa [World.setCell] using h.1,λb c a=>(Aj w' p u b λe=> ?_).trans (h.2 b c a)⟩;subst e;rcases hp with hp|hp
 ·exact a hp
 ·omega
theorem cU.grown {X:Nat->Prop} {w2:World} {row:Option Nat} (h:cU X w w') (a:w'.grownBy w2 row) (f:∀q,row=some q->X q\/w.heap.size<=q):cU X w w2:=by
 refine⟨yK h.1 a.size,λb c d=>(a.block b (yE c h.1) λe=> ?_).trans (h.2 b c d)⟩;rcases f b e.symm with hp|hp
 ·exact d hp
 ·omega
theorem OG.boxKept (h:OG φ w B C T v xs) (f:w.grownBy w' v.ownBlock) {g:Nat} {cs:Array Value} {T':TypeId} (c:Box w g cs T') (a:T'≠T\/g<B):Box w' g cs T':=by
 refine(f.block g c.lt λe=> ?_).trans c;obtain⟨j,uss,l,d,k⟩:=h;rcases a with a|a
 ·rcases d.2 with⟨rfl,_⟩|⟨i,cap,cur,rfl,_,b,_⟩
  ·simp[Value.ownBlock] at e
  ·simp only[Value.ownBlock,yy] at e;subst e;unfold Box at c;rw[c] at b;simp only[yy,Bw] at b;exact a b.2.1
 ·have:=iJ d g e.symm;omega
theorem OG.belowG (h:OG φ w B C T v xs) (d:w.grownBy w' v.ownBlock) {a:Nat} {w0:World} (c:Below a w0 w) (f:a<=w.heap.size) (b:a<=B):Below a w0 w':=
 c.grown d f λq e=>yK b (h.blk q e)
theorem Rs.one {F:Nat->Prop} {us:List Value} {x:α} (h:φ.R w us x F) (t:TypeId):Rs φ (w.alloc (.cells us.toArray t)) (.slice (some ⟨w.heap.size,0,none⟩) 1 1) [x] F:=by
 refine⟨_,1,rfl,yq _,λ_=>⟨_,_,rfl,by simp,λj y a=>⟨us,λi hi=> ?_, ?_⟩⟩⟩
 ·obtain rfl:j=0:=by have:=(yJ.1 a).1;simp at this;exact this
  have:=heap_alloc_new w (.cells us.toArray t);rw[cell_of_row _ _ _ us.toArray t (0,0) this];simp
 ·obtain rfl:j=0:=by have:=(yJ.1 a).1;simp at this;exact this
  obtain rfl:x=y:=by simpa using a
  exact φ.same h (by simp) λb c _=>heap_alloc_old _ _ c
theorem lM {P:Program} {w:World} (base:Nat) (t ty e:TypeId) (i:TypeInfo) (size c:Nat) (d:P.underlying t=some (.slice e)) (hi:P.info? e=some i)
  (v:Value) (n:Nat) (xs:List Value) (a:w.ownsRow base e size v n xs):(Builtin.append_ #[t,t] ty #[v,.slice none 0 c]).run P w= .ok v w:=by
 rcases a.2 with⟨rfl,rfl⟩|⟨g,cap,cur,rfl,_,_,b,_⟩
 ·simp[Builtin.append_,run_underlying d,sizeOf,typeInfo,hi,Builtin.lenOf,Builtin.firstCells]
 ·simp[Builtin.append_,run_underlying d,sizeOf,typeInfo,hi,Builtin.lenOf,Builtin.firstCells,b,storeCells]
section
variable {P:Program} {ops:Array Oper} {rest:List Oper} {o:Oper} {a:Act} {Q:Exit->Act->World->Prop}
theorem aC (E:o.guard=none) (s x:Operand) (t:TypeId) (ho:o.op= .call {callee:= .builtin .append,args:=#[s,x],argTypes:=#[t,t]})
  (i:TypeInfo) (z:Value) (bytes:Nat) (ht:P.underlying t=some (.slice T)) (hi:P.info? T=some i) (hz:i.zero=some z) (y:i.size=φ.k) (L:i.bytes=bytes) (U:z.cells.size=φ.k)
  (hs:a.eval s=v) (G:OG φ w B C T v xs) (sv:Value) (hx:a.eval x=sv) (I:Rs φ w sv ys (Ty w C φ.ts))
  (f:((xs.length+ys.length)+(xs.length+ys.length)/4+192)*bytes<=281474976710656) (J:xs.length+ys.length<=maxLen) (p:B<=w.heap.size)
  (h:∀v' w',Hid (OG φ w' B C T v' (xs++ys))->Hid (w.grownBy w' v.ownBlock)->wpList P ops Q rest (a.put o.dst v') w'):wpList P ops Q (o::rest) a w:=by
 obtain⟨W,uss,hl,g,X⟩:=G;obtain⟨us2,n,m,D⟩:=I.rows
 have c:∀us∈us2,us.length=φ.k:=λus R=>by
  obtain⟨j,A,rfl⟩:=yS.1 R;have:=φ.len (m j _ (yp (by omega)))
  rwa [yj,yp A] at this
 have F:∀u∈us2.flatten,u.oneCell'=true:=λu R=>by
  obtain⟨us,h1,h2⟩:=List.mem_flatten.1 R;obtain⟨j,A,rfl⟩:=yS.1 h1;have:=φ.one (m j _ (yp (by omega)));rw[yj,yp A] at this;exact this u h2
 obtain⟨A2,c2,rfl,aa⟩:=I.slice
 cases A2 with
 |none=>
  obtain rfl:ys=[]:=by
   rcases Nat.eq_zero_or_pos ys.length with d|d
   ·exact yV d
   ·obtain⟨b,o',c',e,_⟩:=D d;cases e
  refine wpList_plain E λK hK=> ?_;have H:=lM (P:=P) (w:=w) B t o.type T i φ.k c2 ht hi v xs.length uss.flatten g;have:=h v w (by simpa using zh (show OG φ w B C T v xs from⟨W,uss,hl,g,X⟩)) (zh ⟨rfl,rfl,rfl,yq _,λ_ _ _=>rfl⟩);have S:a.eval x= .slice none 0 c2:=hx;unfold Oper.wp;simp[execOp,ho,resolve,invoke,builtin,hs,S,H,Result.andThen];exact hK _ _ this
 |some ad=>
  refine wpList_append_own_wide w E s x t ho B T i z φ.k bytes ht hi hz y L U φ.pos v xs.length uss.flatten hs g ad ys.length c2 us2.flatten hx ?_ ?_ F J f p λv' w' N Z _=> ?_
  ·rw[iN c,n]
  ·intro j u A;have r:j<us2.flatten.length:=(yJ.1 A).1;rw[iN c,n] at r;have hk:=φ.pos
   have d:0<ys.length:=by
    rcases Nat.eq_zero_or_pos ys.length with d|d
    ·rw[d,Nat.zero_mul] at r;omega
    ·exact d
   obtain⟨b,o',c',e,_,q⟩:=D d;simp only[yA,yy] at e;obtain⟨rfl,_,_⟩:=e;have Y:j=j/φ.k*φ.k+j%φ.k:=by rw[BY];exact(Nat.div_add_mod j φ.k).symm
   have l:j%φ.k<φ.k:=Cf _ hk;have M:j/φ.k<ys.length:=Nat.div_lt_of_lt_mul (by rw[BY];exact r);have V:=q (j/φ.k) (j%φ.k) M l;rw[Nat.add_assoc,<-Y] at V;rw[dq,V,<-A]
   conv=>rhs;rw[Y]
   rw[eb c _ _ l];have:j/φ.k<us2.length:=by omega
   simp[yj,yp this]
  ·exact h v' w' (zh (OG.pushes W hl g X n m N Z)) (zh Z)
end
end
def iq (j:Nat) (D:List Nat) (v:Value):FOp:=⟨j,D,λu=>u=v,λu w=>u=v⟩
theorem cO (j:Nat) (D:List Nat) (v:Value):∀u w w',(iq j D v).Φ u w->Below w.heap.size w w'->(iq j D v).Φ u w':=λu w w' h _=>h
theorem cP (j:Nat) (D:List Nat) (v:Value):(∀u w,(iq j D v).Φ u w->(iq j D v).S u)/\∃u,(iq j D v).S u:=⟨λu w h=>h,v,rfl⟩
def mw (j:Nat) (D:List Nat) (B n c:Nat) (cs:Array Value) (T:TypeId):FOp:=⟨j,D,λv=>∃g,v= .slice (some ⟨g,0,none⟩) n c,λv w=>∃g,v= .slice (some ⟨g,0,none⟩) n c/\Box w g cs T/\B<=g⟩
theorem ox (j:Nat) (D:List Nat) (B n c:Nat) (cs:Array Value) (T:TypeId):∀u w w',(mw j D B n c cs T).Φ u w->Below w.heap.size w w'->(mw j D B n c cs T).Φ u w':=λu w w' ⟨g,e,h,hB⟩ hb=>⟨g,e,h.below hb,hB⟩
theorem oy (j:Nat) (D:List Nat) (B n c:Nat) (cs:Array Value) (T:TypeId):(∀u w,(mw j D B n c cs T).Φ u w->(mw j D B n c cs T).S u)/\∃u,(mw j D B n c cs T).S u:=⟨λu w ⟨g,e,_⟩=>⟨g,e⟩,_,0,rfl⟩
theorem sx {v:Value} {g n c:Nat} {w:World} {cs:Array Value} {T:TypeId} {B:Nat} (e:v= .slice (some ⟨g,0,none⟩) n c) (h:∃a,v= .slice (some ⟨a,0,none⟩) n c/\Box w a cs T/\B<=a):Box w g cs T/\B<=g:=by
 obtain⟨a,b,h⟩:=h;rw[e] at b;simp at b;rw[b];exact h
section
variable {P:Program} {K:Kit} {w0:World} {γ:Nat->Value}
theorem kX {j:Nat} {o:Oper} {a:Act} {n c:Nat} {T:TypeId} {cs:Array Value} (d:o.guard=none) (e:∀w,(execOp a.eval o).run P w= .ok (.value (.slice (some ⟨w.heap.size,0,none⟩) n c)) (w.alloc (.cells cs T)))
  (h:∀w g,w0.heap.size<=g->Box w g cs T->K.Φ j (.slice (some ⟨g,0,none⟩) n c) w):jh P K w0 γ j o a:=by
 refine⟨d,λw b f=> ?_⟩;rw[e];exact⟨h _ _ b.size (Box.new _ _ _),ac _ _⟩
theorem xO {a:Act} {o:Oper} {t:TypeId} {x y:Operand} {l c:Int} (b:o.op= .makeSlice t x y) (d:a.eval x= .int .i64 l) (e:a.eval y= .int .i64 c) {v:Value} {w w':World} (h:(Instr.makeSlice t (.int .i64 l) (.int .i64 c)).run P w= .ok v w'):
  (execOp a.eval o).run P w= .ok (.value v) w':=by
 simp[execOp,b,d,e,h,Result.andThen]
end
theorem af {w:World} {g g':Nat} {cs b:Array Value} {T T':TypeId} (h:Box w g cs T) (a:Box w g' b T') (c:T≠T'):g≠g':=λe=>by
 subst e;unfold Box at h a;rw[h] at a;simp only[yy,Bw] at a;exact c a.2.1
theorem bK {w w':World} {g b:Nat} {cs:Array Value} {T:TypeId} (h:Box w g cs T) (c:w.grownBy w' (some b)) (a:g≠b):Box w' g cs T:=
 (c.block g h.lt (by simpa using a)).trans h
theorem bf {a:Nat} {w w2 w3:World} {g:Nat} (h:Below a w w2) (d:a<=w2.heap.size) (e:a<=g) (b:w2.grownBy w3 (some g)):Below a w w3:=
 h.grown b d λq c=>by simp only[yy] at c;omega
def jn:Rd ByteArray where
 k:=1
 ts:=[]
 pos:=by decide
 R:=λw us s F=>us=[.string s]
 len:=λh=>by rw[h];rfl
 one:=λh u a=>by rw[h] at a;simp at a;subst a;rfl
 mono:=λh _=>h
 same:=λh _ _=>h
theorem Rs.sl {w:World} {v:Value} {l:List ByteArray} {F:Nat->Prop} (h:Rs jn w v l F):SL w v l:=by
 obtain⟨A,c,rfl,n,h⟩:=h;refine⟨A,c,rfl,n,λp=> ?_⟩;obtain⟨b,o,rfl,m,h⟩:=h p;refine⟨⟨b,o,none⟩,rfl,m,λj f=> ?_⟩;obtain⟨us,g,i⟩:=h j _ (yp f);have d:=g 0 (by decide);have a:us=[.string l[j]]:=i;rw[a,yU] at d;have e:jn.k=1:=rfl;rw[e,Nat.mul_one] at d;rw[dq,d,yj,yp f];rfl
theorem il_same {w w':World} {u:Value} {l:List Int} (h:IL w u l) (k:w.heap.size<=w'.heap.size) (hk:∀b,u.ownBlock=some b->w'.heap[b]? =w.heap[b]?):IL w' u l:=by
 obtain⟨A,c,rfl,f,h⟩:=h;refine⟨A,c,rfl,f,λi=> ?_⟩;obtain⟨a,rfl,e,d⟩:=h i;exact⟨a,rfl,yE e k,λj g=>(World.cell?_of_block (by rw[aP];exact hk a.block rfl)).trans (d j g)⟩
def In (F:Nat->Prop) (u:Value) (n:Nat):Prop:=0<n->∀b,u.ownBlock=some b->F b
theorem il_same0 {w w':World} {u:Value} {l:List Int} (h:IL w u l) (i:w.heap.size<=w'.heap.size) (hk:0<l.length->∀b,b<w.heap.size->u.ownBlock=some b->w'.heap[b]? =w.heap[b]?):IL w' u l:=by
 by_cases d:0<l.length
 ·refine il_same h i λb e=>hk d b ?_ e;obtain⟨A,c,rfl,_,h⟩:=h;obtain⟨a,rfl,g,_⟩:=h d;simp only[Value.ownBlock,yy] at e;omega
 ·obtain⟨A,c,rfl,f,_⟩:=h;exact⟨A,c,rfl,f,λh=>absurd h d⟩
theorem km (u:Value) (n:Nat):In ah u n:=λ_ _ _=>trivial
def ilR:Rd (List Int) where
 k:=1
 ts:=[3]
 pos:=by decide
 R:=λw us r F=>∃u,us=[u]/\IL w u r/\In F u r.length
 len:=λ⟨_,h,_⟩=>by rw[h];rfl
 one:=λ⟨u,h,a,_⟩ x i=>by
  obtain⟨A,c,e1,_⟩:=a;rw[h,e1] at i;simp at i;subst i;rfl
 mono:=λ⟨u,h,a,d⟩ j=>⟨u,h,a,λf b e=>j b (d f b e)⟩
 same:=λ⟨u,h,a,d⟩ l hk=>⟨u,h,il_same0 a l λf b g e=>hk b g (d f b e),d⟩
section
variable {w w':World} {v:Value} {rs:List (List Int)} {F:Nat->Prop}
theorem Rs.ils (h:Rs ilR w v rs F):∃(A:Option Addr) (c:Nat),v= .slice A rs.length c/\rs.length<=c/\∀k,k<rs.length->∃b o u,A=some ⟨b,o,none⟩/\b<w.heap.size/\w.cell? ⟨b,o+k,none⟩=some u∧
  IL w u (rs.getD k [])/\In F u (rs.getD k []).length:=by
 obtain⟨A,c,rfl,j,h⟩:=h;refine⟨A,c,rfl,j,λk hk=> ?_⟩;obtain⟨b,o,rfl,i,h⟩:=h (by omega);obtain⟨us,f,u,rfl,g⟩:=h k _ (yp hk);have e:rs.getD k []=rs[k]:=by rw[yj,yp hk];rfl
 rw[e];have a:=f 0 (by decide);have d:ilR.k=1:=rfl;rw[d,Nat.mul_one,yU] at a;exact⟨b,o,u,rfl,i,a,g⟩
end
def fF {α:Type} (p:α->Bool) (l:List α):Int:=if l.findIdx p<l.length then(l.findIdx p:Int) else -1
theorem gL {α:Type} {p:α->Bool} {l:List α} {k:Nat} (d:α) (hk:k<l.length) (a:∀j,j<k->p (l.getD j d)=false) (h:p (l.getD k d)=true):fF p l=k:=by
 have e:l.findIdx p=k:=by
  rw[List.findIdx_eq hk];refine⟨by rwa [yj,yp hk] at h,λj b=> ?_⟩;have:=a j b
  rwa [yj,yp (by omega)] at this
 unfold fF;rw[e,yz hk]
theorem fQ {α:Type} {p:α->Bool} {l:List α} (d:α) (b:∀j,j<l.length->p (l.getD j d)=false):fF p l= -1:=by
 unfold fF;rw[yw];intro h;have c:=List.findIdx_getElem (w:=h);have a:=b _ h;rw[yj,yp h] at a;simp only[AV] at a;rw[c] at a;cases a
theorem iO {α:Type} (p:α->Bool) (l:List α):decide (0<=fF p l)=l.any p:=by
 unfold fF
 by_cases h:l.findIdx p<l.length
 ·rw[yz h,yB (by omega)];have:=List.findIdx_getElem (w:=h);exact(AE.2 ⟨_,AJ h,this⟩).symm
 ·rw[yw h,yv (by decide)];symm;rw[List.any_eq_false];intro x a hp;exact h (List.findIdx_lt_length.2 ⟨x,a,hp⟩)
end
section
inductive Ex where
 |mk (op n:Int) (name:ByteArray) (args:List Ex)
def Ex.op:Ex->Int| .mk o _ _ _=>o
def Ex.n:Ex->Int| .mk _ n _ _=>n
def Ex.name:Ex->ByteArray| .mk _ _ s _=>s
def Ex.args:Ex->List Ex| .mk _ _ _ l=>l
def ex0:Ex:= .mk 0 0 ⟨#[]⟩ []
def tN (q:Bool):Nat:=if q=true then 1 else 0
def mH (x:Nat):List Nat->Bool
 |lo::hi::r=>(decide (lo<=x)&&decide (x<=hi))||mH x r
 |_=>false
def mG (x:Nat):Nat:=((List.range 16).map λk=>tN (x.testBit k)).sum
def op1 (op:Int) (a:Nat):Nat:=if op=4 then tN (decide (a=0)) else if op=5 then 65535-a else if op=6 then(65536-a)%65536 else mG a
def op2 (op:Int) (a b:Nat):Nat:=
 if op=7 then(a+b)%65536
 else if op=8 then(a+(65536-b))%65536
 else if op=9 then(a*b)%65536
 else if op=10 then a&&&b
 else if op=11 then a|||b
 else if op=12 then a^^^b
 else if op=13 then(if b<16 then(a*2^b)%65536 else 0)
 else if op=14 then(if b<16 then a/2^b else 0)
 else if op=15 then tN (decide (a=b))
 else if op=16 then tN (!decide (a=b))
 else if op=17 then tN (decide (a<b))
 else if op=18 then tN (!decide (b<a))
 else if op=19 then tN (decide (a≠0)&&decide (b≠0))
 else if op=20 then tN (decide (a≠0)||decide (b≠0))
 else tN (!decide (a≠0)||decide (b≠0))
def opT (op:Int) (l:List Nat):Nat:=
 if op=22 then(if l.getD 0 0≠0 then l.getD 1 0 else l.getD 2 0)
 else if op=23 then tN (mH (l.getD 0 0) l.tail)
 else if l.length=1 then op1 op (l.getD 0 0)
 else op2 op (l.getD 0 0) (l.getD 1 0)
def evT (σ:ByteArray->Nat):Nat->Ex->Nat
 |0,_=>0
 |k+1,.mk op n name args=>if op=1 then n.toNat else if op=2 then σ name else opT op (args.map (evT σ k))
def eY (op:Int) (m:Nat):Bool:=
 if op=1\/op=2 then decide (m=0)
 else if op=4\/op=5\/op=6\/op=25 then decide (m=1)
 else if op=22 then decide (m=3)
 else if op=23 then decide (m%2=1)&&decide (3<=m)&&decide (m<=33)
 else decide (7<=op)&&decide (op<=21)&&decide (m=2)
def okE (a:ByteArray->Bool):Nat->Ex->Bool
 |0,_=>false
 |k+1,.mk op n name args=>eY op args.length&&(decide (op=1)||decide (n=0))&&decide (0<=n)&&decide (n<=65535)&&(!decide (op=2)||a name)&&args.all (okE a k)
theorem lS {b:ByteArray->Bool} {k:Nat} {op n:Int} {c:ByteArray} {args:List Ex} (h:okE b (k+1) (.mk op n c args)=true):
  eY op args.length=true/\(op=1\/n=0)/\0<=n/\n<=65535/\(op=2->b c=true)/\∀a∈args,okE b k a=true:=by
 unfold okE at h;simp only[yF,Cl,yY,Bool.not_eq_true',Cg,Bj] at h;obtain⟨⟨⟨⟨⟨d,f⟩,g⟩,i⟩,j⟩,l⟩:=h;exact⟨d,f,g,i,λe=>j.resolve_left (λh=>h e),l⟩
theorem tN_lt (q:Bool):tN q<65536:=by unfold tN;split<;>omega
theorem uU (x:Nat):mG x<65536:=by
 have b:∀(l:List Nat),((l.map λk=>tN (x.testBit k)).sum)<=l.length:=by
  intro l
  induction l with
  |nil=>simp
  |cons a l ih=>
   rw[Cm,List.sum_cons,yr];have:tN (x.testBit a)<=1:=by unfold tN;split<;>omega
   omega
 have:=b (List.range 16);rw[A8] at this;unfold mG;omega
end
section
open Go.RowKit Go.WideShapes Go.ChangeShapes
section
variable {α:Type} {φ:Rd α} {w w':World} {v:Value} {xs:List α} {F:Nat->Prop}
theorem iz (h:Rs φ w v xs F) (g:w.heap.size<=w'.heap.size) (i:0<xs.length->∀b,b<w.heap.size->v.ownBlock=some b->w'.heap[b]? =w.heap[b]?) (hk:∀b,b<w.heap.size->F b->w'.heap[b]? =w.heap[b]?):Rs φ w' v xs F:=by
 by_cases a:0<xs.length
 ·refine h.same g (λb d=>i a b ?_ d) hk;obtain⟨A,c,rfl,_,h⟩:=h;obtain⟨j,o,rfl,f,_⟩:=h a;simp only[Value.ownBlock,yy] at d;omega
 ·obtain⟨A,c,rfl,e,_⟩:=h;exact⟨A,c,rfl,e,λh=>absurd h a⟩
end
def exL (v:Value) (e:Ex):List Value:=[.int .i64 e.op,.int .i64 e.n,.string e.name,v]
def exBase:Rd Ex where
 k:=4
 ts:=[79]
 pos:=by decide
 R:=λ_ _ _ _=>False
 len:=λh=>h.elim
 one:=λh=>h.elim
 mono:=λh _=>h.elim
 same:=λh _ _=>h.elim
def exStep (φ:Rd Ex):Rd Ex where
 k:=4
 ts:=[79]
 pos:=by decide
 R:=λw us e F=>∃v,us=exL v e/\Rs φ w v e.args F/\In F v e.args.length
 len:=λ⟨_,h,_⟩=>by rw[h];rfl
 one:=λ⟨v,h,a,_⟩ u f=>by
  obtain⟨A,c,e1,_⟩:=a.slice;rw[h,e1] at f;unfold exL at f;simp only[yC,yI,AH] at f;rcases f with rfl|rfl|rfl|rfl<;>rfl
 mono:=λ⟨v,h,a,d⟩ l=>⟨v,h,a.mono l,λi b g=>l b (d i b g)⟩
 same:=λ⟨v,h,a,d⟩ m hk=>⟨v,h,iz a m (λi b j g=>hk b j (d i b g)) hk,d⟩
def exR:Nat->Rd Ex
 |0=>exBase
 |d+1=>exStep (exR d)
theorem ei (d:Nat):(exR d).k=4:=by cases d<;>rfl
theorem Rs.weak {α:Type} {φ ψ:Rd α} {w:World} {v:Value} {xs:List α} {F:Nat->Prop} (hk:φ.k=ψ.k) (f:∀us x,x∈xs->φ.R w us x F->ψ.R w us x F) (h:Rs φ w v xs F):Rs ψ w v xs F:=by
 obtain⟨A,c,rfl,l,h⟩:=h;refine⟨A,c,rfl,l,λm=> ?_⟩;obtain⟨b,o,rfl,g,h⟩:=h m;refine⟨b,o,rfl,g,λj x a=> ?_⟩;obtain⟨us,d,e⟩:=h j x a;exact⟨us,λi hi=>by rw[<-hk];exact d i (by rw[hk];exact hi),f us x (List.mem_of_getElem? a) e⟩
theorem exR_up {w:World} {F:Nat->Prop}:∀(d:Nat) {us:List Value} {e:Ex},(exR d).R w us e F->(exR (d+1)).R w us e F
 |0,_,_,h=>h.elim
 |d+1,us,e,⟨v,h1,h2,h3⟩=>⟨v,h1,h2.weak (by rw[ei,ei]) (λus x _ h=>exR_up d h),h3⟩
theorem exR_le {w:World} {F:Nat->Prop} {us:List Value} {e:Ex} {d a:Nat} (b:d<=a) (h:(exR d).R w us e F):(exR a).R w us e F:=by
 obtain⟨k,rfl⟩:=Ch b
 induction k with
 |zero=>exact h
 |succ k ih=>exact exR_up _ (ih (by omega))
theorem Rs.exle {w:World} {v:Value} {l:List Ex} {F:Nat->Prop} {d a:Nat} (b:d<=a) (h:Rs (exR d) w v l F):Rs (exR a) w v l F:=
 h.weak (by rw[ei,ei]) λ_ _ _ h=>exR_le b h
theorem Rs.exs {w:World} {v:Value} {l:List Ex} {F:Nat->Prop} {d:Nat} (h:Rs (exR d) w v l F):∃(A:Option Addr) (c:Nat),v= .slice A l.length c/\l.length<=c/\∀k,k<l.length->∃b o p f,A=some ⟨b,o,none⟩/\b<w.heap.size/\d=f+1/\(∀i u,(exL p (l.getD k ex0))[i]? =some u->w.cell? ⟨b,o+k*4+i,none⟩=some u)∧
  Rs (exR f) w p (l.getD k ex0).args F/\In F p (l.getD k ex0).args.length:=by
 obtain⟨A,c,rfl,n,h⟩:=h;refine⟨A,c,rfl,n,λk hk=> ?_⟩;obtain⟨b,o,rfl,m,h⟩:=h (by omega)
 cases d with
 |zero=>
  obtain⟨us,_,a⟩:=h k _ (yp hk);exact a.elim
 |succ d=>
  obtain⟨us,j,p,rfl,a⟩:=h k _ (yp hk);have e:l.getD k ex0=l[k]:=by rw[yj,yp hk];rfl
  rw[e];refine⟨b,o,p,d,rfl,m,rfl,λi u g=> ?_,a⟩;have hi:i<4:=by have:=(yJ.1 g).1;exact this
  exact(j i hi).trans g
theorem dE {α H:Type} {enc:TypeId×Value->H} {P:Program} {w:World} {base:Nat} {spare:Nat->Bool} {held:Bool} (φ:Rd α) (Z:α->Prop) {t e:TypeId} {l:Nat} {cs:List Value} {y:DataW H×List MemPlace}
  (N:P.underlying t=some (.slice e)) (hk:P.cellsOf e=φ.k) (B:∀n us z,us.length=φ.k->SizeOf.sizeOf z.1<SizeOf.sizeOf y.1->DataW.trod enc P w base spare held n e us=some z->∃x,φ.R w us x ah/\Z x)
  (h:DataW.trod enc P w base spare held l t cs=some y):
  ∃(v:Value) (xs:List α),cs=[v]/\Rs φ w v xs ah/\xs.length<=maxLen/\∀x∈xs,Z x:=by
 rcases Go.Deep.open_slice N h with⟨rfl,S⟩|⟨a,len,cap,m,n,D,Q,rfl,_,K,hm,C,rfl,G⟩
 ·exact⟨_,[],rfl,Rs.nil φ w _,by simp,by simp⟩
 have L:len<=m:=by rw[C];split<;>omega
 have J:∀i,i<=len->∃xs:List α,xs.length=i/\∀j x,xs[j]? =some x->∃us,w.cells? base (a.add (j*φ.k)) φ.k=some us/\φ.R w us x ah/\Z x:=by
  intro i
  induction i with
  |zero=>intro _;exact⟨[],rfl,λj x h=>by simp at h⟩
  |succ i ih=>
   intro hi;obtain⟨xs,u,c⟩:=ih (by omega);obtain⟨us,d,p⟩:=G i (by omega);rw[hk] at d
   have E:SizeOf.sizeOf (D i)<SizeOf.sizeOf (DataW.slice ((List.range len).map D) ((List.range (m-len)).map λj=>D (len+j))):=by
    have q:D i∈(List.range len).map D:=AP.2 ⟨i,BI.2 (by omega),rfl⟩;have:=List.sizeOf_lt_of_mem q;rw[DataW.slice.sizeOf_spec];omega
   obtain⟨x,M,I⟩:=B n us _ (World.cells?_some d).2.1 E p;refine⟨xs++[x],by simp[u],λj y f=> ?_⟩
   by_cases e:j<i
   ·rw[yP (by omega)] at f;exact c j y f
   ·obtain rfl:j=i:=by have:=(yJ.1 f).1;simp at this;omega
    rw[<-u] at f;simp only[List.getElem?_concat_length,yy] at f;subst f;exact⟨us,d,M,I⟩
 obtain⟨xs,rfl,c⟩:=J len (yq _);refine⟨_,xs,rfl,⟨some a,cap,rfl,K,λhp=> ?_⟩,by omega,λx G=> ?_⟩
 ·have r:a.spot=none:=by
   obtain⟨us,d,p,_⟩:=c 0 _ (yp hp);have F:=(World.cells?_some d).2.1;have g:=(World.cells?_some d).2.2 0 φ.pos;rw[Nat.zero_mul] at g;have A:us[0]? =some (us[0]'(by rw[F];exact φ.pos)):=yp _;rw[A] at g;exact wM g
  obtain⟨b,o,s⟩:=a;simp only at r;subst r;refine⟨b,o,rfl, ?_,λj x f=> ?_⟩
  ·obtain⟨us,d,p,_⟩:=c 0 _ (yp hp);have F:=(World.cells?_some d).2.1;have g:=(World.cells?_some d).2.2 0 φ.pos;have A:us[0]? =some (us[0]'(by rw[F];exact φ.pos)):=yp _;rw[A] at g;have:=BG _ _ g
   rwa [Nat.zero_mul] at this
  ·obtain⟨us,d,p,_⟩:=c j x f;refine⟨us,λi hi=> ?_,p⟩;have:=(World.cells?_some d).2.2 i hi;rw[dq,dq] at this;exact this
 ·obtain⟨j,f,rfl⟩:=yS.1 G;obtain⟨us,_,_,I⟩:=c j _ (yp f);exact I
inductive ExZ:Ex->Prop
 |mk {op n:Int} {name:ByteArray} {args:List Ex}:I64 op->I64 n->name.size<=maxLen->args.length<=maxLen->(∀a∈args,ExZ a)->ExZ (.mk op n name args)
section
variable {H:Type} {enc:TypeId×Value->H} {w:World} {base:Nat} {spare:Nat->Bool} {held:Bool}
theorem kt:∀(N:Nat) {a:Nat} {us:List Value} {z:DataW H×List MemPlace},SizeOf.sizeOf z.1<=N->us.length=4->DataW.trod enc Tryz.prog w base spare held a 79 us=some z->∃e,(exR N).R w us e ah/\ExZ e
 |0,_,_,z,hz,_,_=>by
  have:0<SizeOf.sizeOf z.1:=by cases z.1<;>simp<;>omega
  omega
 |N+1,a,us,z,hz,g,h=>by
  have o:Tryz.prog.cellsOf 9=1:=by kernel_rfl
  have c3:Tryz.prog.cellsOf 3=1:=by kernel_rfl
  have cE:Tryz.prog.cellsOf 23=1:=by kernel_rfl
  obtain⟨xs,m,rfl,rfl, -,j,d⟩:=DataW.trod_struct Tryz.underlying79 h
  match us,g with
  |[u0,u1,u2,u3],_=>
   have b:∀i,i<4->xs[i]? =some (xs.getD i (.nil,[])):=λi hi=>by
    have f:i<xs.length:=by rw[j];exact hi
    rw[yj,yp f];rfl
   have q:DataW.trod enc Tryz.prog w base spare held m 3 [u0]=some (xs.getD 0 (.nil,[])):=by
    have:=d 0 _ rfl;rw[b 0 (by decide)] at this;change DataW.trod enc Tryz.prog w base spare held m 3 (([u0,u1,u2,u3].drop 0).take (Tryz.prog.cellsOf 3))=_ at this;rw[c3] at this;exact this
   have r:DataW.trod enc Tryz.prog w base spare held m 3 [u1]=some (xs.getD 1 (.nil,[])):=by
    have:=d 1 _ rfl;rw[b 1 (by decide)] at this;change DataW.trod enc Tryz.prog w base spare held m 3 (([u0,u1,u2,u3].drop 1).take (Tryz.prog.cellsOf 3))=_ at this;rw[c3] at this;exact this
   have s:DataW.trod enc Tryz.prog w base spare held m 9 [u2]=some (xs.getD 2 (.nil,[])):=by
    have:=d 2 _ rfl;rw[b 2 (by decide)] at this;change DataW.trod enc Tryz.prog w base spare held m 9 (([u0,u1,u2,u3].drop 2).take (Tryz.prog.cellsOf 9))=_ at this;rw[o] at this;exact this
   have t:DataW.trod enc Tryz.prog w base spare held m 23 [u3]=some (xs.getD 3 (.nil,[])):=by
    have:=d 3 _ rfl;rw[b 3 (by decide)] at this;change DataW.trod enc Tryz.prog w base spare held m 23 (([u0,u1,u2,u3].drop 3).take (Tryz.prog.cellsOf 23))=_ at this;rw[cE] at this;exact this
   have y:SizeOf.sizeOf (xs.getD 3 (.nil,[])).1<N+1:=by
    have c:(xs.getD 3 (.nil,[])).1∈xs.map (·.1):=AP.2 ⟨_,List.mem_of_getElem? (b 3 (by decide)),rfl⟩;have:=List.sizeOf_lt_of_mem c;simp only[DataW.agg.sizeOf_spec] at hz;omega
   obtain⟨A,e0, -,D⟩:=Ca Tryz.underlying3 q;obtain⟨B,e1, -,E⟩:=Ca Tryz.underlying3 r;obtain⟨C,k, -,F⟩:=DataW.trod_string Tryz.underlying9 s;obtain⟨v,p,l,x,hm,u⟩:=dE (exR N) ExZ Tryz.underlying23 (by rw[ei];kernel_rfl) (λn us z g G h=>kt N (by omega) (by rw[g,ei]) h) t;simp only[By,B9] at e0 e1 k l;subst e0 e1 k l;exact⟨.mk A B C p,⟨_,rfl,x,km _ _⟩,.mk (bounds_i64 D) (bounds_i64 E) F hm u⟩
end
structure Vr where
 name:ByteArray
 width:Int
 mode:Int
 value:Int
structure Wt where
 lo:Int
 hi:Int
 weight:Int
 each:Bool
structure Ds where
 var:Int
 ws:List Wt
structure Pb where
 vars:List Vr
 hard:List Ex
 soft:List Ex
 dists:List Ds
 groups:List (List Int)
def vr0:Vr:=⟨⟨#[]⟩,0,0,0⟩
def wt0:Wt:=⟨0,0,0,false⟩
def ds0:Ds:=⟨0,[]⟩
def vrL (x:Vr):List Value:=[.string x.name,.int .i64 x.width,.int .i64 x.mode,.int .i64 x.value]
def wtL (x:Wt):List Value:=[.int .i64 x.lo,.int .i64 x.hi,.int .i64 x.weight,.bool x.each]
def vrR:Rd Vr where
 k:=4
 ts:=[]
 pos:=by decide
 R:=λw us x F=>us=vrL x
 len:=λh=>by rw[h];rfl
 one:=λh u a=>by
  rw[h] at a;unfold vrL at a;simp only[yC,yI,AH] at a;rcases a with rfl|rfl|rfl|rfl<;>rfl
 mono:=λh _=>h
 same:=λh _ _=>h
def wtR:Rd Wt where
 k:=4
 ts:=[]
 pos:=by decide
 R:=λw us x F=>us=wtL x
 len:=λh=>by rw[h];rfl
 one:=λh u a=>by
  rw[h] at a;unfold wtL at a;simp only[yC,yI,AH] at a;rcases a with rfl|rfl|rfl|rfl<;>rfl
 mono:=λh _=>h
 same:=λh _ _=>h
def dsR:Rd Ds where
 k:=2
 ts:=[133]
 pos:=by decide
 R:=λw us x F=>∃v,us=[.int .i64 x.var,v]/\Rs wtR w v x.ws F/\In F v x.ws.length
 len:=λ⟨_,h,_⟩=>by rw[h];rfl
 one:=λ⟨v,h,a,_⟩ u i=>by
  obtain⟨A,c,e1,_⟩:=a.slice;rw[h,e1] at i;simp only[yC,yI,AH] at i;rcases i with rfl|rfl<;>rfl
 mono:=λ⟨v,h,a,d⟩ j=>⟨v,h,a.mono j,λf b e=>j b (d f b e)⟩
 same:=λ⟨v,h,a,d⟩ l hk=>⟨v,h,iz a l (λf b g e=>hk b g (d f b e)) hk,d⟩
section
variable {w:World} {v:Value} {F:Nat->Prop}
theorem Rs.vrs {l:List Vr} (h:Rs vrR w v l F):∃(A:Option Addr) (c:Nat),v= .slice A l.length c/\l.length<=c/\∀k,k<l.length->∃b o,A=some ⟨b,o,none⟩/\b<w.heap.size/\∀i u,(vrL (l.getD k vr0))[i]? =some u->w.cell? ⟨b,o+k*4+i,none⟩=some u:=by
 obtain⟨A,c,rfl,m,h⟩:=h;refine⟨A,c,rfl,m,λk hk=> ?_⟩;obtain⟨b,o,rfl,j,h⟩:=h (by omega);obtain⟨us,f,g⟩:=h k _ (yp hk);have a:us=vrL l[k]:=g;subst a;have e:l.getD k vr0=l[k]:=by rw[yj,yp hk];rfl
 rw[e];refine⟨b,o,rfl,j,λi u d=> ?_⟩;have hi:i<4:=by have:=(yJ.1 d).1;exact this
 exact(f i hi).trans d
theorem Rs.wts {l:List Wt} (h:Rs wtR w v l F):∃(A:Option Addr) (c:Nat),v= .slice A l.length c/\l.length<=c/\∀k,k<l.length->∃b o,A=some ⟨b,o,none⟩/\b<w.heap.size/\∀i u,(wtL (l.getD k wt0))[i]? =some u->w.cell? ⟨b,o+k*4+i,none⟩=some u:=by
 obtain⟨A,c,rfl,m,h⟩:=h;refine⟨A,c,rfl,m,λk hk=> ?_⟩;obtain⟨b,o,rfl,j,h⟩:=h (by omega);obtain⟨us,f,g⟩:=h k _ (yp hk);have a:us=wtL l[k]:=g;subst a;have e:l.getD k wt0=l[k]:=by rw[yj,yp hk];rfl
 rw[e];refine⟨b,o,rfl,j,λi u d=> ?_⟩;have hi:i<4:=by have:=(yJ.1 d).1;exact this
 exact(f i hi).trans d
theorem Rs.dss {l:List Ds} (h:Rs dsR w v l F):∃(A:Option Addr) (c:Nat),v= .slice A l.length c/\l.length<=c/\∀k,k<l.length->∃b o p,A=some ⟨b,o,none⟩/\b<w.heap.size/\w.cell? ⟨b,o+k*2,none⟩=some (.int .i64 (l.getD k ds0).var)/\w.cell? ⟨b,o+k*2+1,none⟩=some p/\Rs wtR w p (l.getD k ds0).ws F:=by
 obtain⟨A,c,rfl,g,h⟩:=h;refine⟨A,c,rfl,g,λk hk=> ?_⟩;obtain⟨b,o,rfl,f,h⟩:=h (by omega);obtain⟨us,a,p,rfl,d, -⟩:=h k _ (yp hk);have e:l.getD k ds0=l[k]:=by rw[yj,yp hk];rfl
 rw[e];exact⟨b,o,p,rfl,f,a 0 (by decide),a 1 (by decide),d⟩
end
structure PbZ (p:Pb):Prop where
 vl:p.vars.length<=maxLen
 vs:∀x∈p.vars,x.name.size<=maxLen/\I64 x.width/\I64 x.mode/\I64 x.value
 hl:p.hard.length<=maxLen
 hs:∀x∈p.hard,ExZ x
 sl:p.soft.length<=maxLen
 ss:∀x∈p.soft,ExZ x
 dl:p.dists.length<=maxLen
 ds:∀x∈p.dists,I64 x.var/\x.ws.length<=maxLen/\∀y∈x.ws,I64 y.lo/\I64 y.hi/\I64 y.weight
 gl:p.groups.length<=maxLen
 gs:∀x∈p.groups,x.length<=maxLen/\∀y∈x,I64 y
end
section
structure Nd where
 lv:Nat
 lo:Nat
 hi:Nat
deriving DecidableEq
def nd0:Nd:=⟨20,0,0⟩
def bT:List Nd:=[⟨20,0,0⟩,⟨20,1,1⟩]
def ndA (d:List Nd) (i:Nat):Nd:=d.getD i nd0
def lvA (d:List Nd) (i:Nat):Nat:=(ndA d i).lv
def uB (d:List Nd) (i:Nat):Prop:=lvA d i<20/\(ndA d i).lo<i/\(ndA d i).hi<i/\(ndA d i).lo≠(ndA d i).hi/\lvA d i<lvA d (ndA d i).lo/\lvA d i<lvA d (ndA d i).hi
structure DV (d:List Nd):Prop where
 two:2<=d.length
 top:d.length<=8192
 e0:ndA d 0=⟨20,0,0⟩
 e1:ndA d 1=⟨20,1,1⟩
 pl:∀i,2<=i->i<d.length->uB d i
 nodup:d.Nodup
theorem dv0:DV bT:=⟨by decide,by decide,rfl,rfl,λi a b=>by have:bT.length=2:=rfl;omega,by decide⟩
def evF (d:List Nd) (b:Nat->Bool):Nat->Nat->Bool
 |0,f=>f==1
 |k+1,f=>if f<=1 then f==1 else evF d b k (if b (lvA d f)=true then(ndA d f).hi else(ndA d f).lo)
def ev (d:List Nd) (b:Nat->Bool) (f:Nat):Bool:=evF d b f f
theorem dM {d a:List Nd} {i:Nat} (h:i<d.length):ndA (d++a) i=ndA d i:=by
 unfold ndA;rw[yj,yj,yP h]
theorem nU {d:List Nd} {n:Nd}:ndA (d++[n]) d.length=n:=by
 unfold ndA;rw[yj,yG (yq _),AG];rfl
section
variable {d:List Nd} {b:Nat->Bool}
theorem DV.lv0 (h:DV d):lvA d 0=20:=by unfold lvA;rw[h.e0]
theorem DV.lv1 (h:DV d):lvA d 1=20:=by unfold lvA;rw[h.e1]
theorem DV.lvle (h:DV d) {i:Nat} (hi:i<d.length):lvA d i<=20:=by
 by_cases a:i=0
 ·rw[a,h.lv0];exact yq _
 ·by_cases b:i=1
  ·rw[b,h.lv1];exact yq _
  ·exact Nat.le_of_lt (h.pl i (by omega) hi).1
theorem DV.lvlt (h:DV d) {i:Nat} (hi:i<d.length):lvA d i<20↔2<=i:=by
 constructor
 ·intro a
  by_cases b:i=0
  ·rw[b,h.lv0] at a;omega
  ·by_cases c:i=1
   ·rw[c,h.lv1] at a;omega
   ·omega
 ·intro e;exact(h.pl i e hi).1
theorem sN (h:DV d):∀(k f:Nat),f<d.length->f<=k->evF d b k f=evF d b f f:=by
 intro k
 induction k using Nat.strongRecOn with
 |_ k ih=>
  intro f j hk
  by_cases c:f<=1
  ·have e:∀m,evF d b m f=(f==1):=λm=>by cases m<;>simp[evF,c]
   rw[e,e]
  ·obtain⟨i,rfl⟩:∃m,k=m+1:=⟨k-1,by omega⟩;obtain⟨f',rfl⟩:∃m,f=m+1:=⟨f-1,by omega⟩;obtain⟨_,l,n,_⟩:=h.pl (f'+1) (by omega) j;simp only[evF,yw c];have g:(if b (lvA d (f'+1))=true then(ndA d (f'+1)).hi else(ndA d (f'+1)).lo)<=f':=by split<;>omega
   generalize(if b (lvA d (f'+1))=true then(ndA d (f'+1)).hi else(ndA d (f'+1)).lo)=x at g⊢
   by_cases a:i=f'
   ·rw[a]
   ·rw[ih i (by omega) x (by omega) (by omega),ih f' (by omega) x (by omega) g]
theorem ev_0:ev d b 0=false:=rfl
theorem fL (h:DV d) {f:Nat} (g:2<=f) (e:f<d.length):ev d b f=if b (lvA d f)=true then ev d b (ndA d f).hi else ev d b (ndA d f).lo:=by
 obtain⟨a,rfl⟩:∃m,f=m+1:=⟨f-1,by omega⟩;obtain⟨_,i,j,_⟩:=h.pl (a+1) (by omega) e;have c:¬a+1<=1:=by omega
 unfold ev;simp only[evF,yw c]
 split
 ·exact sN h a _ (by omega) (by omega)
 ·exact sN h a _ (by omega) (by omega)
theorem gN {g:List Nd} (h:DV d) (i:DV (d++g)):∀(f:Nat),f<d.length->ev (d++g) b f=ev d b f:=by
 intro f
 induction f using Nat.strongRecOn with
 |_ f ih=>
  intro c
  by_cases a:2<=f
  ·obtain⟨_,j,k,_⟩:=h.pl f a c;have e:f<(d++g).length:=by rw[yu];omega
   rw[fL i a e,fL h a c];unfold lvA;rw[dM c,ih _ j (by omega),ih _ k (by omega)]
  ·have:f=0\/f=1:=by omega
   rcases this with rfl|rfl
   ·rfl
   ·rfl
theorem ev_from (h:DV d) {b g:Nat->Bool}:∀(f:Nat),f<d.length->(∀k,lvA d f<=k->k<20->b k=g k)->ev d b f=ev d g f:=by
 intro f
 induction f using Nat.strongRecOn with
 |_ f ih=>
  intro e c
  by_cases a:2<=f
  ·obtain⟨i,j,l,_,m,n⟩:=h.pl f a e;rw[fL h a e,fL h a e,c _ (yq _) i];rw[ih _ j (by omega) (λk hk=>c k (by omega)),ih _ l (by omega) (λk hk=>c k (by omega))]
  ·have:f=0\/f=1:=by omega
   rcases this with rfl|rfl
   ·rfl
   ·rfl
end
structure Bd where
 d:List Nd
 full:Bool
def b6 (s:Bd) (l lo hi:Nat):Bd×Nat:=
 if lo=hi then(s,lo)
 else if⟨l,lo,hi⟩∈s.d then(s,s.d.idxOf ⟨l,lo,hi⟩)
 else if 8192<=s.d.length then(⟨s.d,true⟩,0)
 else(⟨s.d++[⟨l,lo,hi⟩],s.full⟩,s.d.length)
theorem dv_snoc {d:List Nd} {l lo hi:Nat} (h:DV d) (s:l<20) (m:lo<d.length) (n:hi<d.length) (k:lo≠hi) (j:l<lvA d lo) (e:l<lvA d hi) (t:⟨l,lo,hi⟩∉d) (p:d.length<8192):DV (d++[⟨l,lo,hi⟩]):=by
 have q:=h.two;refine⟨by rw[yu];omega,by rw[yu,y7];omega,by rw[dM (by omega)];exact h.e0,by rw[dM (by omega)];exact h.e1,λi f g=> ?_, ?_⟩
 ·rw[yu,y7] at g
  by_cases b:i<d.length
  ·obtain⟨u,v,w,x,y,z⟩:=h.pl i f b;unfold uB lvA;rw[dM b,dM (show(ndA d i).lo<d.length by omega),dM (show(ndA d i).hi<d.length by omega)];exact⟨u,v,w,x,y,z⟩
  ·obtain rfl:i=d.length:=by omega
   unfold uB lvA;rw[nU];simp only;rw[dM m,dM n];exact⟨s,m,n,k,j,e⟩
 ·rw[List.nodup_append];refine⟨h.nodup,by simp,λa r c o=> ?_⟩;rw[AW] at o;rintro rfl;exact t (o▸r)
structure NodeOk (s s':Bd) (l lo hi i:Nat):Prop where
 ext:∃ns,s'.d=s.d++ns
 full:s.full=true->s'.full=true
 ok:s'.full=false->DV s'.d/\i<s'.d.length/\l<=lvA s'.d i/\∀b,ev s'.d b i=if b l=true then ev s.d b hi else ev s.d b lo
theorem qr {s:Bd} {l lo hi:Nat} (h:DV s.d) (q:l<20) (m:lo<s.d.length) (p:hi<s.d.length) (i:l<lvA s.d lo) (o:l<lvA s.d hi):NodeOk s (b6 s l lo hi).1 l lo hi (b6 s l lo hi).2:=by
 unfold b6
 split
 ·rename_i e;subst e;exact⟨⟨[],by simp⟩,λh=>h,λ_=>⟨h,m,Nat.le_of_lt i,λb=>by split<;>rfl⟩⟩
 ·rename_i hne
  split
  ·rename_i hm;refine⟨⟨[],by simp⟩,λh=>h,λ_=> ?_⟩;have f:s.d.idxOf ⟨l,lo,hi⟩<s.d.length:=List.idxOf_lt_length_of_mem hm
   have j:ndA s.d (s.d.idxOf ⟨l,lo,hi⟩)=⟨l,lo,hi⟩:=by
    unfold ndA;rw[yj,yp f,AV,List.getElem_idxOf]
   have a:lvA s.d (s.d.idxOf ⟨l,lo,hi⟩)=l:=by unfold lvA;rw[j]
   have n:=(h.lvlt f).1 (by rw[a];exact q);refine⟨h,f,by rw[a];exact yq _,λb=> ?_⟩;simp only;rw[fL h n f,a,j]
  ·rename_i hn
   split
   ·exact⟨⟨[],by simp⟩,λ_=>rfl,λh=>by cases h⟩
   ·rename_i hlen;have k:=dv_snoc h q m p hne i o hn (by omega);refine⟨⟨_,rfl⟩,λh=>h,λ_=> ?_⟩;have c:ndA (s.d++[⟨l,lo,hi⟩]) s.d.length=⟨l,lo,hi⟩:=nU;have a:lvA (s.d++[⟨l,lo,hi⟩]) s.d.length=l:=by unfold lvA;rw[c]
    have g:s.d.length<(s.d++[(⟨l,lo,hi⟩:Nd)]).length:=by simp
    refine⟨k,g,by rw[a];exact yq _,λb=> ?_⟩;simp only;rw[fL k h.two g,a,c];simp only;rw[gN h k _ m,gN h k _ p]
structure T3 where
 f:Nat
 g:Nat
 h:Nat
deriving DecidableEq
def cK (d:List Nd) (f l:Nat) (a:Bool):Nat:=if lvA d f≠l then f else if a=true then(ndA d f).hi else(ndA d f).lo
def lv3 (d:List Nd) (x:T3):Nat:=min (min (lvA d x.f) (lvA d x.g)) (lvA d x.h)
def bH (d:List Nd) (x:T3) (l:Nat) (a:Bool):T3:=⟨cK d x.f l a,cK d x.g l a,cK d x.h l a⟩
structure Ap3 where
 b:Bd
 known:List (T3×Nat)
def jc (l:List (T3×Nat)) (x:T3):Option Nat:=(l.find? λp=>decide (p.1=x)).map (·.2)
def bN (q:Bool):Nat:=if q=true then 1 else 0
def aQ (op:Bool->Bool->Bool->Bool):Nat->Ap3->T3->Ap3×Nat
 |0,s,_=>(s,0)
 |k+1,s,x=>
  if s.b.full=true then(s,0)
  else if lv3 s.b.d x=20 then(s,bN (op (x.f==1) (x.g==1) (x.h==1)))
  else match jc s.known x with
   |some i=>(s,i)
   |none=>
    let r1:=aQ op k s (bH s.b.d x (lv3 s.b.d x) false)
    let r2:=aQ op k r1.1 (bH r1.1.b.d x (lv3 s.b.d x) true)
    let r3:=b6 r2.1.b (lv3 s.b.d x) r1.2 r2.2
    (⟨r3.1,(x,r3.2)::r2.1.known⟩,r3.2)
def ed (op:Bool->Bool->Bool->Bool) (d:List Nd) (x:T3):Option (List Nd×Nat):=
 if(aQ op 21 ⟨⟨d,false⟩,[]⟩ x).1.b.full=true then none else some ((aQ op 21 ⟨⟨d,false⟩,[]⟩ x).1.b.d,(aQ op 21 ⟨⟨d,false⟩,[]⟩ x).2)
def In3 (d:List Nd) (x:T3):Prop:=x.f<d.length/\x.g<d.length/\x.h<d.length
def Is3 (op:Bool->Bool->Bool->Bool) (d:List Nd) (x:T3) (i:Nat):Prop:=i<d.length/\lv3 d x<=lvA d i/\∀b,ev d b i=op (ev d b x.f) (ev d b x.g) (ev d b x.h)
structure uC (op:Bool->Bool->Bool->Bool) (s:Ap3):Prop where
 dv:DV s.b.d
 kn:∀p∈s.known,In3 s.b.d p.1/\Is3 op s.b.d p.1 p.2
theorem In3.app {d a:List Nd} {x:T3} (h:In3 d x):In3 (d++a) x:=by
 unfold In3 at h⊢;rw[yu];omega
theorem fJ {d a:List Nd} {x:T3} (h:In3 d x):lv3 (d++a) x=lv3 d x:=by
 unfold lv3 lvA;rw[dM h.1,dM h.2.1,dM h.2.2]
theorem Is3.app {op:Bool->Bool->Bool->Bool} {d j:List Nd} {x:T3} {i:Nat} (c:DV d) (a:DV (d++j)) (e:In3 d x) (h:Is3 op d x i):Is3 op (d++j) x i:=by
 obtain⟨f,g,k⟩:=h;refine⟨by rw[yu];omega, ?_,λb=> ?_⟩
 ·rw[fJ e];unfold lvA at g⊢;rw[dM f];exact g
 ·rw[gN c a _ f,gN c a _ e.1,gN c a _ e.2.1,gN c a _ e.2.2];exact k b
section
variable {d:List Nd}
theorem qB (h:DV d) {f l:Nat} (a:f<d.length) (j:l<=lvA d f) (i:l<20) (q:Bool):cK d f l q<d.length/\l<lvA d (cK d f l q)/\∀b:Nat->Bool,b l=q->ev d b (cK d f l q)=ev d b f:=by
 unfold cK
 split
 ·rename_i hne;exact⟨a,by omega,λ_ _=>rfl⟩
 ·rename_i g;have g:lvA d f=l:=by omega
  have c:=(h.lvlt a).1 (by omega);obtain⟨k,m,n,_,o,p⟩:=h.pl f c a;cases q
  ·refine⟨by simp only[Ck,Cc];omega,by simp only[Ck,Cc];omega,λb e=> ?_⟩;rw[fL h c a,g,e];simp
  ·refine⟨by simp only[if_true];omega,by simp only[if_true];omega,λb e=> ?_⟩;rw[fL h c a,g,e];simp
theorem jC (h:DV d) {x:T3} (e:In3 d x) (a:lv3 d x<20) (q:Bool):In3 d (bH d x (lv3 d x) q)/\lv3 d x<lv3 d (bH d x (lv3 d x) q)/\∀b:Nat->Bool,b (lv3 d x)=q→
  ev d b (bH d x (lv3 d x) q).f=ev d b x.f/\ev d b (bH d x (lv3 d x) q).g=ev d b x.g/\ev d b (bH d x (lv3 d x) q).h=ev d b x.h:=by
 have m:lv3 d x<=lvA d x.f:=by unfold lv3;omega
 have n:lv3 d x<=lvA d x.g:=by unfold lv3;omega
 have o:lv3 d x<=lvA d x.h:=by unfold lv3;omega
 obtain⟨i,p,j⟩:=qB h e.1 m a q;obtain⟨k,r,l⟩:=qB h e.2.1 n a q;obtain⟨c1,c2,c3⟩:=qB h e.2.2 o a q;refine⟨⟨i,k,c1⟩, ?_,λb c=>⟨j b c,l b c,c3 b c⟩⟩;show lv3 d x<min (min (lvA d (cK d x.f (lv3 d x) q)) (lvA d (cK d x.g (lv3 d x) q))) (lvA d (cK d x.h (lv3 d x) q));omega
theorem nY (h:DV d) {x:T3} (a:In3 d x):lv3 d x<=20:=by
 have:=h.lvle a.1;unfold lv3;omega
end
theorem n9 {l:List (T3×Nat)} {x:T3} {i:Nat} (h:jc l x=some i):(x,i)∈l:=by
 unfold jc at h
 cases hq:l.find? λp=>decide (p.1=x) with
 |none=>rw[hq] at h;cases h
 |some p=>
  rw[hq] at h;simp only[AX,yy] at h;have a:=List.find?_some hq;have b:=List.mem_of_find?_eq_some hq;obtain⟨y,j⟩:=p;simp only[yY] at a;subst a h;exact b
structure ApRes (op:Bool->Bool->Bool->Bool) (s s':Ap3) (x:T3) (i:Nat):Prop where
 ext:∃ns,s'.b.d=s.b.d++ns
 full:s.b.full=true->s'.b.full=true
 ok:s'.b.full=false->uC op s'/\Is3 op s'.b.d x i
theorem ly (op:Bool->Bool->Bool->Bool):∀(k:Nat) (s:Ap3) (x:T3),(s.b.full=false->uC op s/\In3 s.b.d x/\21<=k+lv3 s.b.d x)->ApRes op s (aQ op k s x).1 x (aQ op k s x).2
 |0,s,x,h=>by
  refine⟨⟨[],by simp[aQ]⟩,λh=>h,λc=> ?_⟩;have z:s.b.full=false:=c;obtain⟨h1,h2,h3⟩:=h z;have:=nY h1.dv h2;omega
 |k+1,s,x,h=>by
  unfold aQ
  by_cases a:s.b.full=true
  ·rw[yz a];exact⟨⟨[],by simp⟩,λh=>h,λc=>by rw[a] at c;cases c⟩
  rw[yw a];obtain⟨v,q,hk⟩:=h (by simpa using a);have e:=v.dv
  by_cases D:lv3 s.b.d x=20
  ·rw[yz D];refine⟨⟨[],by simp⟩,λh=>h,λc=>⟨v, ?_⟩⟩
   have F:∀f,f<s.b.d.length->lvA s.b.d f=20->f=0\/f=1:=λf c Q=>by
    have:=(e.lvlt c);omega
   have l1:=e.lvle q.1;have l2:=e.lvle q.2.1;have l3:=e.lvle q.2.2;have Q:lvA s.b.d x.f=20/\lvA s.b.d x.g=20/\lvA s.b.d x.h=20:=by unfold lv3 at D;omega
   have e1:∀f,f=0\/f=1->∀b,ev s.b.d b f=(f==1):=λf c b=>by
    rcases c with rfl|rfl<;>rfl
   have g1:=e1 _ (F _ q.1 Q.1);have g2:=e1 _ (F _ q.2.1 Q.2.1);have g3:=e1 _ (F _ q.2.2 Q.2.2);have ab:=e.two;cases hq:op (x.f==1) (x.g==1) (x.h==1)
   ·refine⟨by show 0<s.b.d.length;omega,by show lv3 s.b.d x<=lvA s.b.d 0;rw[e.lv0];omega,λb=> ?_⟩;show ev s.b.d b 0=_;rw[g1,g2,g3,hq];rfl
   ·refine⟨by show 1<s.b.d.length;omega,by show lv3 s.b.d x<=lvA s.b.d 1;rw[e.lv1];omega,λb=> ?_⟩;show ev s.b.d b 1=_;rw[g1,g2,g3,hq];rfl
  rw[yw D];have r:lv3 s.b.d x<20:=by have:=nY e q;omega
  cases hkn:jc s.known x with
  |some i=>
   refine⟨⟨[],by simp⟩,λh=>h,λc=>⟨v, ?_⟩⟩;exact(v.kn _ (n9 hkn)).2
  |none=>
   simp only;obtain⟨K,a2,a3⟩:=jC e q r false;have N:=ly op k s (bH s.b.d x (lv3 s.b.d x) false) (λ_=>⟨v,K,by omega⟩);generalize aQ op k s (bH s.b.d x (lv3 s.b.d x) false)=r1 at N⊢;obtain⟨G,e1⟩:=N.ext
   have P:=ly op k r1.1 (bH r1.1.b.d x (lv3 s.b.d x) true) (λc=>by
    obtain⟨L,q2⟩:=N.ok c;have t:In3 r1.1.b.d x:=by rw[e1];exact q.app
    have u:lv3 r1.1.b.d x=lv3 s.b.d x:=by rw[e1];exact fJ q
    obtain⟨A,U,V⟩:=jC L.dv t (by rw[u];exact r) true;rw[u] at A U
    exact⟨L,A,by omega⟩)
   generalize aQ op k r1.1 (bH r1.1.b.d x (lv3 s.b.d x) true)=r2 at P⊢;obtain⟨H,C⟩:=P.ext;have n:r2.1.b.d=s.b.d++(G++H):=by rw[C,e1,yZ]
   by_cases o:r2.1.b.full=true
   ·have Z:∃ns,(b6 r2.1.b (lv3 s.b.d x) r1.2 r2.2).1.d=r2.1.b.d++ns/\(b6 r2.1.b (lv3 s.b.d x) r1.2 r2.2).1.full=true:=by
     unfold b6
     split
     ·exact⟨[],by simp,o⟩
     ·split
      ·exact⟨[],by simp,o⟩
      ·split
       ·exact⟨[],by simp,rfl⟩
       ·exact⟨_,rfl,o⟩
    obtain⟨ns,M,R⟩:=Z
    exact⟨⟨G++H++ns,by show(b6 _ _ _ _).1.d=_;rw[M,n,yZ]⟩,λ_=>R,λc=>by
     have z:(b6 r2.1.b (lv3 s.b.d x) r1.2 r2.2).1.full=false:=c
     rw[R] at z;cases z⟩
   ·have o:r2.1.b.full=false:=by simpa using o
    have W:r1.1.b.full=false:=by
     cases hq:r1.1.b.full
     ·rfl
     ·rw[P.full hq] at o;cases o
    obtain⟨L,q2⟩:=N.ok W;obtain⟨I,p2⟩:=P.ok o;have t:In3 r1.1.b.d x:=by rw[e1];exact q.app
    have u:lv3 r1.1.b.d x=lv3 s.b.d x:=by rw[e1];exact fJ q
    have w:In3 r2.1.b.d x:=by rw[n];exact q.app
    have Y:lv3 r2.1.b.d x=lv3 s.b.d x:=by rw[n];exact fJ q
    obtain⟨A,U,V⟩:=jC L.dv t (by rw[u];exact r) true;rw[u] at A U V;have T:In3 r1.1.b.d (bH s.b.d x (lv3 s.b.d x) false):=by rw[e1];exact K.app
    have J:Is3 op r2.1.b.d (bH s.b.d x (lv3 s.b.d x) false) r1.2:=by
     rw[C];exact Is3.app L.dv (by rw[<-C];exact I.dv) T q2
    have c1:lv3 s.b.d x<lvA r2.1.b.d r1.2:=by
     have:=J.2.1;rw[n,fJ K,<-n] at this;omega
    have c2:lv3 s.b.d x<lvA r2.1.b.d r2.2:=by
     have:=p2.2.1;rw[C,fJ A,<-C] at this;omega
    have S:=qr (s:=r2.1.b) (l:=lv3 s.b.d x) (lo:=r1.2) (hi:=r2.2) I.dv r J.1 p2.1 c1 c2;generalize b6 r2.1.b (lv3 s.b.d x) r1.2 r2.2=r3 at S⊢;obtain⟨aa,y⟩:=S.ext;refine⟨⟨G++H++aa,by show r3.1.d=_;rw[y,n,yZ]⟩,λhs=>absurd hs a,λc=> ?_⟩;have X:r3.1.full=false:=c;obtain⟨M,R,n3,n4⟩:=S.ok X
    have B:Is3 op r3.1.d x r3.2:=by
     refine⟨R, ?_,λb=> ?_⟩
     ·rw[y,fJ w,Y];rw[<-y];exact n3
     ·rw[n4 b]
      have E:∀f,f<r2.1.b.d.length->ev r3.1.d b f=ev r2.1.b.d b f:=λf c=>by
       rw[y];exact gN I.dv (by rw[<-y];exact M) f c
      rw[E _ w.1,E _ w.2.1,E _ w.2.2]
      have j:∀f,f<s.b.d.length->ev r2.1.b.d b f=ev s.b.d b f:=λf c=>by
       rw[n];exact gN e (by rw[<-n];exact I.dv) f c
      have m:∀f,f<r1.1.b.d.length->ev r2.1.b.d b f=ev r1.1.b.d b f:=λf c=>by
       rw[C];exact gN L.dv (by rw[<-C];exact I.dv) f c
      cases hb:b (lv3 s.b.d x)
      ·simp only[Ck,Cc];rw[J.2.2 b];obtain⟨t1,t2,t3⟩:=a3 b hb;rw[j _ K.1,j _ K.2.1,j _ K.2.2,t1,t2,t3,j _ q.1,j _ q.2.1,j _ q.2.2]
      ·simp only[if_true];rw[p2.2.2 b];obtain⟨t1,t2,t3⟩:=V b hb;rw[m _ A.1,m _ A.2.1,m _ A.2.2,t1,t2,t3,m _ t.1,m _ t.2.1,m _ t.2.2]
    refine⟨⟨M,λp hp=> ?_⟩,B⟩;rcases yC.1 hp with rfl|hp
    ·exact⟨by show In3 r3.1.d x;rw[y];exact w.app,B⟩
    ·obtain⟨y1,y2⟩:=I.kn p hp
     exact⟨by show In3 r3.1.d p.1;rw[y];exact y1.app,by
      show Is3 op r3.1.d p.1 p.2;rw[y]
      exact Is3.app I.dv (by rw[<-y];exact M) y1 y2⟩
theorem kr {op:Bool->Bool->Bool->Bool} {d c:List Nd} {x:T3} {i:Nat} (l:DV d) (j:In3 d x) (h:ed op d x=some (c,i)):
  (∃ns,c=d++ns)/\DV c/\i<c.length/\lv3 d x<=lvA c i/\∀b,ev c b i=op (ev d b x.f) (ev d b x.g) (ev d b x.h):=by
 unfold ed at h;have R:=ly op 21 ⟨⟨d,false⟩,[]⟩ x (λ_=>⟨⟨l,λp hp=>by cases hp⟩,j,by omega⟩);generalize aQ op 21 ⟨⟨d,false⟩,[]⟩ x=r at R h
 split at h
 ·cases h
 ·rename_i k;simp only[yy,B4] at h;obtain⟨rfl,rfl⟩:=h;obtain⟨ns,e⟩:=R.ext;obtain⟨m,o,n,q⟩:=R.ok (by simpa using k);have e:r.1.b.d=d++ns:=e;refine⟨⟨ns,e⟩,m.dv,o,by rw[e,fJ j] at n;rw[e];exact n,λb=> ?_⟩;rw[q b]
  have a:∀f,f<d.length->ev r.1.b.d b f=ev d b f:=λf k=>by
   rw[e];exact gN l (by rw[<-e];exact m.dv) f k
  rw[a _ j.1,a _ j.2.1,a _ j.2.2]
def blL:Nat->List (List Bool)
 |0=>[[]]
 |m+1=>(blL m).map (false:: ·)++(blL m).map (true:: ·)
theorem lr (m:Nat):blL (m+1)=(blL m).map (false:: ·)++(blL m).map (true:: ·):=rfl
theorem mZ:∀(m:Nat),∀l∈blL m,l.length=m
 |0,l,h=>by simp[blL] at h;rw[h];rfl
 |m+1,l,h=>by
  simp only[blL,AQ,AP] at h;rcases h with⟨a,ha,rfl⟩|⟨a,ha,rfl⟩<;>rw[yr,mZ m a ha]
theorem oR:∀(m:Nat),(blL m).length=2^m
 |0=>rfl
 |m+1=>by
  unfold blL;rw[yu,yD,yD,oR m,BR];omega
def dj (l:List Bool):Nat:=l.foldl (λn b=>2*n+bN b) 0
theorem qP:∀(l:List Bool) (n:Nat),l.foldl (λn b=>2*n+bN b) n=n*2^l.length+dj l
 |[],n=>by simp[dj]
 |b::l,n=>by
  unfold dj;rw[AM,AM,qP l (2*n+bN b),qP l (2*0+bN b),yr,BR];generalize 2^l.length=q;generalize dj l=r;rw[Nat.add_mul,show n*(q*2)=2*n*q by rw[BY q 2,<-Nat.mul_assoc,BY n 2]];simp only[Nat.mul_zero,yH];omega
theorem mc (b:Bool) (l:List Bool):dj (b::l)=bN b*2^l.length+dj l:=by
 unfold dj;rw[AM,qP];simp[dj]
theorem nW:∀(m:Nat),(blL m).map dj=List.range (2^m)
 |0=>rfl
 |m+1=>by
  unfold blL;rw[Bx,Bo,Bo]
  have e1:(blL m).map (dj∘(false:: ·))=List.range (2^m):=by
   rw[<-nW m];refine Bl λl _=> ?_;show dj (false::l)=_;rw[mc];simp[bN]
  have a:(blL m).map (dj∘(true:: ·))=(List.range (2^m)).map (2^m+ ·):=by
   rw[<-nW m,Bo];refine Bl λl b=> ?_;show dj (true::l)=2^m+dj l;rw[mc,mZ m l b];simp[bN]
  rw[e1,a,BR,Nat.mul_two,List.range_add]
theorem wu:∀(a m:Nat),blL (a+m)=(blL a).flatMap λx=>(blL m).map (x++ ·)
 |0,m=>by simp[blL]
 |a+1,m=>by
  rw[show a+1+m=(a+m)+1 by omega,lr,lr,wu a m,List.flatMap_append];simp only[List.map_flatMap,List.flatMap_map,Bo]
  rfl
structure Wd where
 w:Nat
 fixed:Option Nat
def aD:List Wd->Nat
 |[]=>0
 |v::vs=>(if v.fixed=none then v.w else 0)+aD vs
def aR (v:Wd):List Nat:=match v.fixed with
 |some x=>[x]
 |none=>List.range (2^v.w)
def aK:List Wd->List (List Nat)
 |[]=>[[]]
 |v::vs=>(aR v).flatMap λx=>(aK vs).map (x:: ·)
def ej:List Wd->List Bool->List Nat
 |[],_=>[]
 |v::vs,l=>match v.fixed with
  |some x=>x::ej vs l
  |none=>dj (l.take v.w)::ej vs (l.drop v.w)
theorem fd {v:Wd} {x:Nat} (h:v.fixed=some x) (a:List Wd) (l:List Bool):ej (v::a) l=x::ej a l:=by
 show(match v.fixed with |some x=>x::ej a l|none=>dj (l.take v.w)::ej a (l.drop v.w))=_;rw[h]
theorem ff {v:Wd} (h:v.fixed=none) (a:List Wd) (l:List Bool):ej (v::a) l=dj (l.take v.w)::ej a (l.drop v.w):=by
 show(match v.fixed with |some x=>x::ej a l|none=>dj (l.take v.w)::ej a (l.drop v.w))=_;rw[h]
theorem qK:∀(c:List Wd),(blL (aD c)).map (ej c)=aK c
 |[]=>rfl
 |v::c=>by
  have ih:=qK c;unfold aK aD aR
  cases hf:v.fixed with
  |some x=>
   simp only[reduceCtorEq,Cc,yH,AS,List.flatMap_nil,AT];rw[<-ih,Bo];refine Bl λl _=> ?_;show ej (v::c) l=x::ej c l;exact fd hf c l
  |none=>
   simp only[if_true];rw[wu,List.map_flatMap,<-nW v.w,List.flatMap_map];refine flatMap_congr' λa d=> ?_;rw[<-ih,Bo,Bo];refine Bl λl _=> ?_;show ej (v::c) (a++l)=dj a::ej c l;have i:=mZ _ a d;rw[ff hf,<-i,List.take_left,List.drop_left] where
 flatMap_congr' {α β:Type} {l:List α} {f g:α->List β} (h:∀a∈l,f a=g a):l.flatMap f=l.flatMap g:=by
  induction l with
  |nil=>rfl
  |cons a l ih=>
   rw[AS,AS,h a (by simp),ih (λb e=>h b (yT _ e))]
theorem tZ (a:List Wd) (P:List Nat->Bool):(aK a).filter P=((blL (aD a)).filter λl=>P (ej a l)).map (ej a):=by
 rw[<-qK,BJ];rfl
def Lim (d:List Nd) (n:Nat):Prop:=∀i,lvA d i<20->lvA d i<n
theorem lim0 (n:Nat):Lim bT n:=λi h=>by
 have:lvA bT i=20:=by
  unfold lvA ndA bT
  match i with
  |0=>rfl
  |1=>rfl
  |i+2=>rfl
 omega
theorem lim_snoc {d:List Nd} {n:Nat} {x:Nd} (h:Lim d n) (c:x.lv<20->x.lv<n):Lim (d++[x]) n:=λi hi=>by
 by_cases a:i<d.length
 ·unfold lvA at hi⊢;rw[dM a] at hi⊢;exact h i hi
 ·by_cases b:i=d.length
  ·subst b;unfold lvA at hi⊢;rw[nU] at hi⊢;exact c hi
  ·have:ndA (d++[x]) i=nd0:=by
    unfold ndA;rw[yj,AK (by rw[yu,y7];omega)];rfl
   unfold lvA at hi;rw[this] at hi;exact absurd hi (by decide)
theorem rV {s:Bd} {l lo hi n:Nat} (h:Lim s.d n) (a:l<20->l<n):Lim (b6 s l lo hi).1.d n:=by
 unfold b6
 split
 ·exact h
 ·split
  ·exact h
  ·split
   ·exact h
   ·exact lim_snoc h a
theorem mf (op:Bool->Bool->Bool->Bool) {n:Nat}:∀(k:Nat) (s:Ap3) (x:T3),Lim s.b.d n->Lim (aQ op k s x).1.b.d n
 |0,s,x,h=>h
 |k+1,s,x,h=>by
  unfold aQ
  split
  ·exact h
  ·split
   ·exact h
   ·split
    ·exact h
    ·have c:=mf op k s (bH s.b.d x (lv3 s.b.d x) false) h;have i:=mf op k (aQ op k s (bH s.b.d x (lv3 s.b.d x) false)).1 (bH (aQ op k s (bH s.b.d x (lv3 s.b.d x) false)).1.b.d x (lv3 s.b.d x) true) c;refine rV i λa=> ?_;have e:lv3 s.b.d x=lvA s.b.d x.f\/lv3 s.b.d x=lvA s.b.d x.g\/lv3 s.b.d x=lvA s.b.d x.h:=by unfold lv3;omega
     rcases e with e|e|e<;> · rw[e] at a⊢;exact h _ a
theorem ext_lim {op:Bool->Bool->Bool->Bool} {d b:List Nd} {x:T3} {i n:Nat} (h:Lim d n) (a:ed op d x=some (b,i)):Lim b n:=by
 unfold ed at a
 split at a
 ·cases a
 ·simp only[yy,B4] at a;rw[<-a.1];exact mf op 21 _ x h
def evL (d:List Nd) (l0:Nat) (l:List Bool) (f:Nat):Bool:=ev d (λk=>l.getD (k-l0) false) f
def fX (d:List Nd) (l0 m f:Nat):List (List Bool):=(blL m).filter λl=>evL d l0 l f
section
variable {d:List Nd} {l0 f:Nat}
theorem jF (h:DV d) (a:f<d.length) (b:l0<lvA d f) (x:Bool) (l:List Bool):evL d l0 (x::l) f=evL d (l0+1) l f:=
 ev_from h f a λk hk _=>by
  rw[show k-l0=(k-(l0+1))+1 by omega];rfl
theorem oF (h:DV d) (a:2<=f) (b:f<d.length) (c:l0=lvA d f) (x:Bool) (l:List Bool):evL d l0 (x::l) f=if x=true then evL d (l0+1) l (ndA d f).hi else evL d (l0+1) l (ndA d f).lo:=by
 obtain⟨e,g,i,_,j,k⟩:=h.pl f a b;rw[<-jF h (show(ndA d f).hi<d.length by omega) (by omega) x l,<-jF h (show(ndA d f).lo<d.length by omega) (by omega) x l];unfold evL;rw[fL h a b,<-c,AG]
 rfl
theorem pg (h:DV d) (a:f<d.length) (b:l0<lvA d f) (m:Nat):fX d l0 (m+1) f=(fX d (l0+1) m f).map (false:: ·)++(fX d (l0+1) m f).map (true:: ·):=by
 unfold fX;rw[lr,List.filter_append,BJ,BJ];congr 2
 ·exact Bp λl _=>jF h a b _ l
 ·exact Bp λl _=>jF h a b _ l
theorem ph (h:DV d) (a:2<=f) (b:f<d.length) (c:l0=lvA d f) (m:Nat):fX d l0 (m+1) f=(fX d (l0+1) m (ndA d f).lo).map (false:: ·)++(fX d (l0+1) m (ndA d f).hi).map (true:: ·):=by
 unfold fX;rw[lr,List.filter_append,BJ,BJ];congr 2
 ·exact Bp λl _=>(oF h a b c false l).trans (by simp)
 ·exact Bp λl _=>(oF h a b c true l).trans (by simp)
end
def aW (d:List Nd) (n f:Nat):Nat:=min (lvA d f) n
def gR (d:List Nd) (n:Nat):Nat->Nat->Nat
 |0,f=>bN (f==1)
 |k+1,f=>if f<=1 then bN (f==1) else gR d n k (ndA d f).lo*2^(aW d n (ndA d f).lo-lvA d f-1)+gR d n k (ndA d f).hi*2^(aW d n (ndA d f).hi-lvA d f-1)
def cD (d:List Nd) (n f:Nat):Nat:=gR d n f f
def dG (d:List Nd) (n f l:Nat):Nat:=cD d n f*2^(aW d n f-l)
theorem qj {d:List Nd} {l0:Nat} {f:Nat} (b:f<=1):∀(m:Nat),(fX d l0 m f).length=bN (f==1)*2^m:=λm=>by
 have a:∀l,evL d l0 l f=(f==1):=λl=>by
  have:f=0\/f=1:=by omega
  rcases this with rfl|rfl<;>rfl
 unfold fX;rw[Bp (q:=λ_=>f==1) (λl _=>a l)];cases hq:(f==1)
 ·simp[bN]
 ·rw[List.filter_eq_self.2 (λ_ _=>rfl),oR];simp[bN]
theorem lL {d:List Nd} {n:Nat} (h:DV d) (v:n<=20) (l:Lim d n):∀(k f m l0:Nat),f<d.length->f<=k->l0<=aW d n f->n=l0+m->(fX d l0 m f).length=gR d n k f*2^(aW d n f-l0):=by
 intro k
 induction k with
 |zero=>
  intro f m l0 a hk g hm;obtain rfl:f=0:=by omega
  rw[qj (by omega)];have:aW d n 0=n:=by unfold aW;rw[h.lv0];omega
  rw[this,show n-l0=m by omega];rfl
 |succ k ih=>
  intro f m
  induction m with
  |zero=>
   intro l0 a hk g hm
   by_cases b:f<=1
   ·rw[qj b];simp only[gR,yz b];have:aW d n f<=n:=by unfold aW;omega
    rw[show aW d n f-l0=0 by omega]
   ·have:=l f (h.pl f (by omega) a).1;unfold aW at g;omega
  |succ m ihm=>
   intro l0 a hk g hm
   by_cases b:f<=1
   ·rw[qj b];simp only[gR,yz b]
    have e:aW d n f=n:=by
     unfold aW;have:f=0\/f=1:=by omega
     rcases this with rfl|rfl
     ·rw[h.lv0];omega
     ·rw[h.lv1];omega
    rw[e,show n-l0=m+1 by omega]
   ·have j:2<=f:=by omega
    obtain⟨u,w,x,_,y,z⟩:=h.pl f j a;have s:=l f u;have c:aW d n f=lvA d f:=by unfold aW;omega
    by_cases i:l0<lvA d f
    ·rw[pg h a i,yu,yD,yD,ihm (l0+1) a hk (by omega) (by omega)];rw[show aW d n f-l0=(aW d n f-(l0+1))+1 by omega,BR];generalize gR d n (k+1) f=q;generalize 2^(aW d n f-(l0+1))=r;rw[<-Nat.mul_assoc];omega
    ·have o:l0=lvA d f:=by omega
     rw[ph h j a o,yu,yD,yD];have t:=h.lvle (show(ndA d f).lo<d.length by omega);have p:=h.lvle (show(ndA d f).hi<d.length by omega);rw[ih (ndA d f).lo m (l0+1) (by omega) (by omega) (by unfold aW;omega) (by omega),ih (ndA d f).hi m (l0+1) (by omega) (by omega) (by unfold aW;omega) (by omega)];simp only[gR,yw b];rw[c,o,AG,Nat.pow_zero,Nat.mul_one,Nat.sub_sub,Nat.sub_sub]
theorem kp {d:List Nd} {n f m l0:Nat} (h:DV d) (e:n<=20) (a:Lim d n) (b:f<d.length) (c:l0<=aW d n f) (hm:n=l0+m):(fX d l0 m f).length=dG d n f l0:=lL h e a f f m l0 b (yq _) c hm
def ja (d:List Nd) (n:Nat):Nat->Nat->Nat->Nat->List Bool
 |0,_,_,_=>[]
 |m+1,l,f,k=>
  let lo:=if lvA d f=l then(ndA d f).lo else f
  let hi:=if lvA d f=l then(ndA d f).hi else f
  if dG d n lo (l+1)<=k then true::ja d n m (l+1) hi (k-dG d n lo (l+1)) else false::ja d n m (l+1) lo k
theorem qp {d:List Nd} {n:Nat} (h:DV d) (q:n<=20) (j:Lim d n):∀(m l f k:Nat),f<d.length->l<=aW d n f->n=l+m->k<(fX d l m f).length->(fX d l m f)[k]? =some (ja d n m l f k)
 |0,l,f,k,hf,hl,hm,hk=>by
  have t:(fX d l 0 f).length<=1:=by
   unfold fX;exact yK (List.length_filter_le _ _) (by simp[blL])
  have i:fX d l 0 f=[[]]:=by
   unfold fX at hk t⊢;cases hq:evL d l [] f
   ·simp[blL,hq] at hk
   ·simp[blL,hq]
  obtain rfl:k=0:=by omega
  rw[i];rfl
 |m+1,l,f,k,hf,hl,hm,hk=>by
  have a:∃lo hi,lo=(if lvA d f=l then(ndA d f).lo else f)/\hi=(if lvA d f=l then(ndA d f).hi else f)/\lo<d.length/\hi<d.length/\l+1<=aW d n lo/\l+1<=aW d n hi/\fX d l (m+1) f=(fX d (l+1) m lo).map (false:: ·)++(fX d (l+1) m hi).map (true:: ·):=by
   refine⟨_,_,rfl,rfl, ?_⟩
   by_cases c:lvA d f=l
   ·rw[yz c,yz c];have e:lvA d f<20:=by omega
    have i:=(h.lvlt hf).1 e;obtain⟨w,x,y,_,z,A⟩:=h.pl f i hf;exact⟨by omega,by omega,by unfold aW;omega,by unfold aW;omega,ph h i hf c.symm m⟩
   ·rw[yw c,yw c];have p:l<lvA d f:=by unfold aW at hl;omega
    exact⟨hf,hf,by unfold aW;omega,by unfold aW;omega,pg h hf p m⟩
  obtain⟨lo,hi,e1,s,g,o,r,v,u⟩:=a;have c1:=kp h q j g r (show n=(l+1)+m by omega);rw[u] at hk⊢;show _=some (if dG d n (if lvA d f=l then(ndA d f).lo else f) (l+1)<=k then true::ja d n m (l+1) (if lvA d f=l then(ndA d f).hi else f) (k-dG d n (if lvA d f=l then(ndA d f).lo else f) (l+1)) else false::ja d n m (l+1) (if lvA d f=l then(ndA d f).lo else f) k);rw[<-e1,<-s];rw[yu,yD,yD] at hk
  by_cases b:dG d n lo (l+1)<=k
  ·rw[yz b,yG (by rw[yD,c1];exact b),yD,c1,yW,qp h q j m (l+1) hi (k-dG d n lo (l+1)) o v (by omega) (by omega)]
   rfl
  ·rw[yw b,yP (by rw[yD,c1];omega),yW,qp h q j m (l+1) lo k g r (by omega) (by omega)]
   rfl
abbrev bb:=Nat->Bool
def Bm (α:Type):=List Nd->Option (α×List Nd)
def Bm.ret {α:Type} (a:α):Bm α:=λd=>some (a,d)
def Bm.bind {α β:Type} (m:Bm α) (f:α->Bm β):Bm β:=λd=>match m d with
 |none=>none
 |some (a,d')=>f a d'
def opB (op:Bool->Bool->Bool->Bool) (x:T3):Bm Nat:=λd=>(ed op d x).map λr=>(r.2,r.1)
def fE (f:Nat):Bm Nat:=opB (λf _ _=> !f) ⟨f,f,f⟩
def dJ (f g:Nat):Bm Nat:=opB (λf g _=>f&&g) ⟨f,g,g⟩
def orB (f g:Nat):Bm Nat:=opB (λf g _=>f||g) ⟨f,g,g⟩
def gU (f g:Nat):Bm Nat:=opB (λf g _=>f !=g) ⟨f,g,g⟩
def eR (f g h:Nat):Bm Nat:=opB (λf g h=>f&&g|| !f&&h) ⟨f,g,h⟩
def oT (l:Nat):Bm Nat:=λd=>if(b6 ⟨d,false⟩ l 0 1).1.full=true then none else some ((b6 ⟨d,false⟩ l 0 1).2,(b6 ⟨d,false⟩ l 0 1).1.d)
structure Gd (n:Nat) (d:List Nd):Prop where
 dv:DV d
 lim:Lim d n
def Ext (d a:List Nd):Prop:=∃b,a=d++b
theorem Ext.refl (d:List Nd):Ext d d:=⟨[],by simp⟩
theorem Ext.trans {d c d'':List Nd} (h:Ext d c) (e:Ext c d''):Ext d d'':=by
 obtain⟨a,rfl⟩:=h;obtain⟨b,rfl⟩:=e;exact⟨a++b,by rw[yZ]⟩
structure Fn (d:List Nd) (f:Nat) (φ:bb->Bool):Prop where
 lt:f<d.length
 val:∀b,ev d b f=φ b
theorem Fn.ext {d a:List Nd} {f:Nat} {φ:bb->Bool} (h:Fn d f φ) (e:DV d) (c:DV a) (g:Ext d a):Fn a f φ:=by
 obtain⟨i,rfl⟩:=g;exact⟨by rw[yu];have:=h.lt;omega,λb=>by rw[gN e c f h.lt,h.val]⟩
theorem Fn.congr {d:List Nd} {f:Nat} {φ ψ:bb->Bool} (h:Fn d f φ) (a:∀b,φ b=ψ b):Fn d f ψ:=⟨h.lt,λb=>(h.val b).trans (a b)⟩
theorem fn0 {d:List Nd} (h:DV d):Fn d 0 λ_=>false:=⟨by have:=h.two;omega,λb=>rfl⟩
theorem fn1 {d:List Nd} (h:DV d):Fn d 1 λ_=>true:=⟨by have:=h.two;omega,λb=>rfl⟩
def Tr {α:Type} (n:Nat) (d:List Nd) (m:Bm α) (Q:List Nd->α->Prop):Prop:=∀a b,m d=some (a,b)->Ext d b/\Gd n b/\Q b a
section
variable {α β:Type} {n:Nat} {d:List Nd}
theorem Tr.ret {a:α} {Q:List Nd->α->Prop} (b:Gd n d) (h:Q d a):Tr n d (Bm.ret a) Q:=λc f e=>by
 unfold Bm.ret at e;simp only[yy,B4] at e;obtain⟨rfl,rfl⟩:=e;exact⟨Ext.refl _,b,h⟩
theorem Tr.bind {m:Bm α} {f:α->Bm β} {Q:List Nd->α->Prop} {R:List Nd->β->Prop} (h:Tr n d m Q) (q:∀a c,Ext d c->Gd n c->Q c a->Tr n c (f a) R):Tr n d (m.bind f) R:=λb g e=>by
 unfold Bm.bind at e
 cases hm:m d with
 |none=>rw[hm] at e;cases e
 |some r=>
  obtain⟨a,c⟩:=r;rw[hm] at e;obtain⟨i,o,p⟩:=h a c hm;obtain⟨j,k,l⟩:=q a c i o p b g e;exact⟨i.trans j,k,l⟩
theorem Tr.mono {m:Bm α} {Q R:List Nd->α->Prop} (h:Tr n d m Q) (hQ:∀a b,Ext d b->Gd n b->Q b a->R b a):Tr n d m R:=λa b e=>by
 obtain⟨c,f,g⟩:=h a b e;exact⟨c,f,hQ a b c f g⟩
theorem rT {op:Bool->Bool->Bool->Bool} {f g h:Nat} {φ ψ χ:bb->Bool} (l:Gd n d) (c:Fn d f φ) (j:Fn d g ψ) (k:Fn d h χ):Tr n d (opB op ⟨f,g,h⟩) λa i=>Fn a i λb=>op (φ b) (ψ b) (χ b):=λi a e=>by
 unfold opB at e
 cases hx:ed op d ⟨f,g,h⟩ with
 |none=>rw[hx] at e;cases e
 |some r=>
  obtain⟨s,t⟩:=r;rw[hx] at e;simp only[AX,yy,B4] at e;obtain⟨rfl,rfl⟩:=e;obtain⟨m,o,p,_,q⟩:=kr l.dv ⟨c.lt,j.lt,k.lt⟩ hx;exact⟨m,⟨o,ext_lim l.lim hx⟩,p,λb=>by rw[q b,c.val,j.val,k.val]⟩
theorem io {f:Nat} {φ:bb->Bool} (c:Gd n d) (h:Fn d f φ):Tr n d (fE f) λa i=>Fn a i λb=> !(φ b):=rT c h h h
theorem gS {f g:Nat} {φ ψ:bb->Bool} (e:Gd n d) (h:Fn d f φ) (a:Fn d g ψ):Tr n d (dJ f g) λc i=>Fn c i λb=>φ b&&ψ b:=rT e h a a
theorem mr {f g:Nat} {φ ψ:bb->Bool} (e:Gd n d) (h:Fn d f φ) (a:Fn d g ψ):Tr n d (orB f g) λc i=>Fn c i λb=>φ b||ψ b:=rT e h a a
theorem m9 {f g:Nat} {φ ψ:bb->Bool} (e:Gd n d) (h:Fn d f φ) (a:Fn d g ψ):Tr n d (gU f g) λc i=>Fn c i λb=>φ b !=ψ b:=rT e h a a
theorem yc {f g h:Nat} {φ ψ χ:bb->Bool} (k:Gd n d) (c:Fn d f φ) (e:Fn d g ψ) (j:Fn d h χ):Tr n d (eR f g h) λa i=>Fn a i λb=>if φ b=true then ψ b else χ b:=
 (rT k c e j).mono λi a _ _ q=>q.congr λb=>by cases φ b<;>simp
theorem bit_tr {l:Nat} (a:Gd n d) (k:l<n) (t:n<=20):Tr n d (oT l) λf i=>Fn f i λb=>b l:=λi f e=>by
 unfold oT at e;have o:=a.dv.lv0;have p:=a.dv.lv1;have q:=a.dv.two;have R:=qr (s:=⟨d,false⟩) (l:=l) (lo:=0) (hi:=1) a.dv (by omega) (by show 0<d.length;omega) (by show 1<d.length;omega) (by show l<lvA d 0;omega) (by show l<lvA d 1;omega);have c:=rV (s:=⟨d,false⟩) (l:=l) (lo:=0) (hi:=1) (n:=n) a.lim (λ_=>k);generalize b6 ⟨d,false⟩ l 0 1=r at R c e
 split at e
 ·cases e
 ·rename_i hf;simp only[yy,B4] at e;obtain⟨rfl,rfl⟩:=e;obtain⟨g,h,m,j⟩:=R.ok (by simpa using hf);refine⟨R.ext,⟨g,c⟩,h,λb=> ?_⟩;rw[j b];cases b l<;>rfl
end
abbrev Fs:=List (bb->Bool)
def Wn (d:List Nd) (w:List Nat) (a:Fs):Prop:=w.length=a.length/\∀k,k<w.length->Fn d (w.getD k 0) (a.getD k λ_=>false)
theorem Wn.nil (d:List Nd):Wn d [] []:=⟨rfl,λk hk=>absurd hk (by simp)⟩
theorem Wn.cons {d:List Nd} {f:Nat} {w:List Nat} {φ:bb->Bool} {a:Fs} (h:Fn d f φ) (b:Wn d w a):Wn d (f::w) (φ::a):=by
 refine⟨by rw[yr,yr,b.1],λk hk=> ?_⟩
 cases k with
 |zero=>exact h
 |succ k=>exact b.2 k (by simp at hk;omega)
theorem Wn.head {d:List Nd} {f:Nat} {w:List Nat} {φ:bb->Bool} {φs:Fs} (h:Wn d (f::w) (φ::φs)):Fn d f φ/\Wn d w φs:=
 ⟨h.2 0 (by simp),⟨by have:=h.1;simp at this;exact this,λk hk=>h.2 (k+1) (by simp;omega)⟩⟩
theorem Wn.ext {d a:List Nd} {w:List Nat} {φs:Fs} (h:Wn d w φs) (c:DV d) (b:DV a) (e:Ext d a):Wn a w φs:=⟨h.1,λk hk=>(h.2 k hk).ext c b e⟩
def lU:List Bool->Nat
 |[]=>0
 |b::l=>bN b+2*lU l
def wvl (a:Fs) (b:bb):Nat:=lU (a.map (· b))
theorem dW (φ:bb->Bool) (a:Fs) (b:bb):wvl (φ::a) b=bN (φ b)+2*wvl a b:=rfl
theorem qt:∀(l:List Bool),lU l<2^l.length
 |[]=>by simp[lU]
 |b::l=>by
  have:=qt l;rw[yr,BR];unfold lU bN
  split<;>omega
theorem ke (a:Fs) (b:bb):wvl a b<2^a.length:=by
 have:=qt (a.map (· b))
 rwa [yD] at this
theorem oV (b:Bool):bN b<2:=by unfold bN;split<;>omega
theorem sc:∀(l:List Bool) (i:Nat),(lU l).testBit i=l.getD i false
 |[],i=>by simp[lU]
 |b::l,0=>by
  have:=qt l;show(bN b+2*lU l).testBit 0=b;rw[Nat.testBit_zero];cases b<;>simp[bN,Nat.add_mod]
 |b::l,i+1=>by
  have ih:=sc l i;show(bN b+2*lU l).testBit (i+1)=l.getD i false;rw[Nat.testBit_succ,show(bN b+2*lU l)/2=lU l by have:=oV b;omega,ih]
def bE:List Nat->Nat->Bm Nat
 |[],t=>Bm.ret t
 |f::r,t=>(orB t f).bind λa=>bE r a
theorem rc {n:Nat}:∀(w:List Nat) (a:Fs) {d:List Nd} {t:Nat} {τ:bb->Bool},Gd n d->Wn d w a->Fn d t τ->Tr n d (bE w t) λe i=>Fn e i λb=>τ b||decide (wvl a b≠0)
 |[],[],d,t,τ,hg,hw,ht=>Tr.ret hg (ht.congr λb=>by simp[wvl,lU])
 |[],φ::a,d,t,τ,hg,hw,ht=>by have:=hw.1;simp at this
 |f::w,[],d,t,τ,hg,hw,ht=>by have:=hw.1;simp at this
 |f::w,φ::a,d,t,τ,hg,hw,ht=>by
  obtain⟨j,k⟩:=hw.head;refine(mr hg ht j).bind λm e l c h=> ?_;refine(rc w a c (k.ext hg.dv c.dv l) h).mono λi g _ _ q=>q.congr λb=> ?_;rw[dW];cases τ b<;>cases hφ:φ b<;>simp[bN]<;>omega
def fk:List Nat->List Nat->Nat->Bm (List Nat)
 |x::xs,y::ys,c=>(gU x y).bind λa=>(gU a c).bind λo=>
  if xs=[] then Bm.ret [o]
  else(dJ x y).bind λg=>(dJ a c).bind λh=>(orB g h).bind λb=>(fk xs ys b).bind λr=>Bm.ret (o::r)
 |_,_,_=>Bm.ret []
theorem mod_two {a b M:Nat} (g:a<2) (c:0<M):(a+2*b)%(M*2)=a+2*(b%M):=by
 have d:=Nat.div_add_mod b M;have f:=Cf b c
 have e:a+2*b=(a+2*(b%M))+(M*2)*(b/M):=by
  have:(M*2)*(b/M)=2*(M*(b/M)):=by rw[BY M 2,Nat.mul_assoc]
  omega
 rw[e,Nat.add_mul_mod_self_left,Bi (by omega)]
def Sw (d:List Nd) (w:List Nat) (len:Nat) (ν:bb->Nat):Prop:=∃a:Fs,Wn d w a/\a.length=len/\∀b,wvl a b=ν b
theorem Sw.ext {d a:List Nd} {w:List Nat} {len:Nat} {ν:bb->Nat} (h:Sw d w len ν) (i:DV d) (b:DV a) (j:Ext d a):Sw a w len ν:=by
 obtain⟨c,e,f,g⟩:=h;exact⟨c,e.ext i b j,f,g⟩
theorem Sw.congr {d:List Nd} {w:List Nat} {len:Nat} {ν μ:bb->Nat} (h:Sw d w len ν) (g:∀b,ν b=μ b):Sw d w len μ:=by
 obtain⟨a,c,e,f⟩:=h;exact⟨a,c,e,λb=>(f b).trans (g b)⟩
theorem Sw.lt {d:List Nd} {w:List Nat} {len:Nat} {ν:bb->Nat} (h:Sw d w len ν) (b:bb):ν b<2^len:=by
 obtain⟨a,f,c,e⟩:=h;rw[<-e,<-c];exact ke a b
theorem sum_tr {n:Nat}:∀(xs ys:List Nat) (a e:Fs) {d:List Nd} {c:Nat} {κ:bb->Bool},Gd n d->Wn d xs a->Wn d ys e->a.length=e.length->Fn d c κ→
  Tr n d (fk xs ys c) λS w=>Sw S w a.length λb=>(wvl a b+wvl e b+bN (κ b))%2^a.length
 |[],ys,[],e,d,c,κ,hg,hx,hy,hl,hc=>by
  refine Tr.ret hg ⟨[],Wn.nil d,rfl,λb=> ?_⟩;show 0=_%2^0;rw[Nat.pow_zero,Nat.mod_one]
 |[],ys,φ::a,e,d,c,κ,hg,hx,hy,hl,hc=>by have:=hx.1;simp at this
 |x::xs,ys,[],e,d,c,κ,hg,hx,hy,hl,hc=>by have:=hx.1;simp at this
 |x::xs,ys,φ::a,[],d,c,κ,hg,hx,hy,hl,hc=>by simp at hl
 |x::xs,[],φ::a,ψ::e,d,c,κ,hg,hx,hy,hl,hc=>by have:=hy.1;simp at this
 |x::xs,y::ys,φ::a,ψ::e,d,c,κ,hg,hx,hy,hl,hc=>by
  obtain⟨N,P⟩:=hx.head;obtain⟨Q,y2⟩:=hy.head;have i:a.length=e.length:=by simpa using hl
  refine(m9 hg N Q).bind λJ d1 e1 s K=> ?_;refine(m9 s K (hc.ext hg.dv s.dv e1)).bind λo d2 E f L=> ?_;have k:=e1.trans E
  split
  ·rename_i hnil;subst hnil;have A:a=[]:=yV (by have:=P.1;simpa using this.symm);subst A;have B:e=[]:=yV (by simpa using i.symm);subst B;refine Tr.ret f ⟨_,Wn.cons L (Wn.nil _),rfl,λb=> ?_⟩;show bN ((φ b !=ψ b) !=κ b)+2*0=(bN (φ b)+2*0+(bN (ψ b)+2*0)+bN (κ b))%2^1;generalize φ b=p;generalize ψ b=q;generalize κ b=r;cases p<;>cases q<;>cases r<;>rfl
  ·refine(gS f (N.ext hg.dv f.dv k) (Q.ext hg.dv f.dv k)).bind λg d3 l j v=> ?_;have C:=k.trans l;refine(gS j (K.ext s.dv j.dv (E.trans l)) (hc.ext hg.dv j.dv C)).bind λh d4 m G z=> ?_;have R:=C.trans m;refine(mr G (v.ext j.dv G.dv m) z).bind λc' d5 F t u=> ?_;have D:=R.trans F;refine(sum_tr xs ys a e t (P.ext hg.dv t.dv D) (y2.ext hg.dv t.dv D) i u).bind λr d6 T H U=> ?_;obtain⟨aa,V,W,Z⟩:=U;refine Tr.ret H ⟨_,Wn.cons (L.ext f.dv H.dv (l.trans (m.trans (F.trans T)))) V,by rw[yr,yr,W],λb=> ?_⟩;rw[dW,Z b];show bN ((φ b !=ψ b) !=κ b)+2*((wvl a b+wvl e b+bN ((φ b&&ψ b)||((φ b !=ψ b)&&κ b)))%2^a.length)=(bN (φ b)+2*wvl a b+(bN (ψ b)+2*wvl e b)+bN (κ b))%(2^a.length*2);have I:0<2^a.length:=BD (by simp);generalize 2^a.length=M at I;generalize wvl a b=X;generalize wvl e b=Y;generalize φ b=p;generalize ψ b=q;generalize κ b=r;rw[<-mod_two (oV _) I];congr 1;cases p<;>cases q<;>cases r<;>simp[bN]<;>omega
section
variable {n:Nat} {d:List Nd}
def iS:List Nat->Bm (List Nat)
 |[]=>Bm.ret []
 |f::r=>(fE f).bind λa=>(iS r).bind λb=>Bm.ret (a::b)
theorem vY:∀(w:List Nat) (a:Fs) {d:List Nd},Gd n d->Wn d w a->Tr n d (iS w) λg w'=>Sw g w' a.length λb=>2^a.length-1-wvl a b
 |[],[],d,hg,hw=>Tr.ret hg ⟨[],Wn.nil d,rfl,λb=>rfl⟩
 |[],φ::a,d,hg,hw=>by have:=hw.1;simp at this
 |f::w,[],d,hg,hw=>by have:=hw.1;simp at this
 |f::w,φ::a,d,hg,hw=>by
  obtain⟨i,j⟩:=hw.head;refine(io hg i).bind λu s e1 c k=> ?_;refine(vY w a c (j.ext hg.dv c.dv e1)).bind λv t h e l=> ?_;obtain⟨r,m,o,q⟩:=l;refine Tr.ret e ⟨_,Wn.cons (k.ext c.dv e.dv h) m,by rw[yr,yr,o],λb=> ?_⟩;rw[dW,q b];show bN (!(φ b))+2*(2^a.length-1-wvl a b)=2^a.length*2-1-(bN (φ b)+2*wvl a b);have:=ke a b;generalize φ b=p;cases p<;>simp[bN]<;>omega
def eqB:List Nat->List Nat->Nat->Bm Nat
 |x::xs,y::ys,t=>(gU x y).bind λu=>(fE u).bind λv=>(dJ t v).bind λa=>eqB xs ys a
 |_,_,t=>Bm.ret t
theorem eq_bit (p q:Bool) (X Y:Nat):decide (bN p+2*X=bN q+2*Y)=((p==q)&&decide (X=Y)):=by
 cases p<;>cases q<;>simp[bN]<;>omega
theorem eq_tr:∀(xs ys:List Nat) (c a:Fs) {d:List Nd} {t:Nat} {τ:bb->Bool},Gd n d->Wn d xs c->Wn d ys a->c.length=a.length->Fn d t τ→
  Tr n d (eqB xs ys t) λk i=>Fn k i λb=>τ b&&decide (wvl c b=wvl a b)
 |[],[],[],[],d,t,τ,hg,hx,hy,hl,ht=>Tr.ret hg (ht.congr λb=>by simp)
 |[],y::ys,[],[],d,t,τ,hg,hx,hy,hl,ht=>by have:=hy.1;simp at this
 |[],ys,φ::c,a,d,t,τ,hg,hx,hy,hl,ht=>by have:=hx.1;simp at this
 |[],ys,[],ψ::a,d,t,τ,hg,hx,hy,hl,ht=>by simp at hl
 |x::xs,ys,[],a,d,t,τ,hg,hx,hy,hl,ht=>by have:=hx.1;simp at this
 |x::xs,ys,φ::c,[],d,t,τ,hg,hx,hy,hl,ht=>by simp at hl
 |x::xs,[],φ::c,ψ::a,d,t,τ,hg,hx,hy,hl,ht=>by have:=hy.1;simp at this
 |x::xs,y::ys,φ::c,ψ::a,d,t,τ,hg,hx,hy,hl,ht=>by
  obtain⟨A,B⟩:=hx.head;obtain⟨C,D⟩:=hy.head;refine(m9 hg A C).bind λu E e1 s w=> ?_;refine(io s w).bind λv F l j z=> ?_;have g:=e1.trans l;refine(gS j (ht.ext hg.dv j.dv g) z).bind λK G o e f=> ?_;have h:=g.trans o;refine(eq_tr xs ys c a e (B.ext hg.dv e.dv h) (D.ext hg.dv e.dv h) (by simpa using hl) f).mono λi H I J q=>q.congr λb=> ?_;rw[dW,dW];rw[eq_bit];generalize decide (wvl c b=wvl a b)=m;generalize φ b=p;generalize ψ b=q;generalize τ b=r;cases p<;>cases q<;>cases r<;>cases m<;>rfl
def ltB:List Nat->List Nat->Nat->Bm Nat
 |x::xs,y::ys,t=>(fE x).bind λa=>(dJ a y).bind λu=>(gU x y).bind λz=>(fE z).bind λb=>(dJ b t).bind λv=>(orB u v).bind λc=>ltB xs ys c
 |_,_,t=>Bm.ret t
theorem lt_tr:∀(xs ys:List Nat) (c a:Fs) {d:List Nd} {t:Nat} {τ:bb->Bool},Gd n d->Wn d xs c->Wn d ys a->c.length=a.length->Fn d t τ→
  Tr n d (ltB xs ys t) λK i=>Fn K i λb=>decide (wvl c b<wvl a b)||(decide (wvl c b=wvl a b)&&τ b)
 |[],[],[],[],d,t,τ,hg,hx,hy,hl,ht=>Tr.ret hg (ht.congr λb=>by simp)
 |[],y::ys,[],[],d,t,τ,hg,hx,hy,hl,ht=>by have:=hy.1;simp at this
 |[],ys,φ::c,a,d,t,τ,hg,hx,hy,hl,ht=>by have:=hx.1;simp at this
 |[],ys,[],ψ::a,d,t,τ,hg,hx,hy,hl,ht=>by simp at hl
 |x::xs,ys,[],a,d,t,τ,hg,hx,hy,hl,ht=>by have:=hx.1;simp at this
 |x::xs,ys,φ::c,[],d,t,τ,hg,hx,hy,hl,ht=>by simp at hl
 |x::xs,[],φ::c,ψ::a,d,t,τ,hg,hx,hy,hl,ht=>by have:=hy.1;simp at this
 |x::xs,y::ys,φ::c,ψ::a,d,t,τ,hg,hx,hy,hl,ht=>by
  obtain⟨G,R⟩:=hx.head;obtain⟨H,S⟩:=hy.head;refine(io hg G).bind λnx T e1 C k=> ?_;refine(gS C k (H.ext hg.dv C.dv e1)).bind λu U g e N=> ?_;have f:=e1.trans g;refine(m9 e (G.ext hg.dv e.dv f) (H.ext hg.dv e.dv f)).bind λz V w M Q=> ?_;have I:=f.trans w;refine(io M Q).bind λnz W A D l=> ?_;have o:=I.trans A;refine(gS D l (ht.ext hg.dv D.dv o)).bind λv Z B E P=> ?_;have J:=o.trans B;refine(mr E (N.ext e.dv E.dv (w.trans (A.trans B))) P).bind λt' d6 L h m=> ?_;have s:=J.trans L;refine(lt_tr xs ys c a h (R.ext hg.dv h.dv s) (S.ext hg.dv h.dv s) (by simpa using hl) m).mono λi d7 e7 g7 q=>q.congr λb=> ?_;rw[dW,dW];generalize wvl c b=X;generalize wvl a b=Y;generalize φ b=p;generalize ψ b=q;generalize τ b=r
  by_cases j:X<Y
  ·have e1:bN p+2*X<bN q+2*Y:=by have:=oV p;omega
   rw[yB j,yB e1];rfl
  ·by_cases F:X=Y
   ·subst F;rw[yv j,yB (rfl:X=X)];cases p<;>cases q<;>cases r<;>simp[bN]<;>omega
   ·have e1:¬bN p+2*X<bN q+2*Y:=by have:=oV q;omega
    have g:¬bN p+2*X=bN q+2*Y:=by have:=oV q;have:=oV p;omega
    rw[yv j,yv F,yv e1,yv g];rfl
def cY (f:Nat->Nat->Bm Nat):List Nat->List Nat->Bm (List Nat)
 |x::xs,y::ys=>(f x y).bind λz=>(cY f xs ys).bind λr=>Bm.ret (z::r)
 |_,_=>Bm.ret []
theorem dK (a:Fs) (b:bb) (k:Nat):(wvl a b).testBit k=(a.getD k λ_=>false) b:=by
 unfold wvl;rw[sc,yj,yW,yj];cases a[k]? <;>rfl
theorem hJ {a:Fs} {b:bb} {v:Nat} (c:v<2^a.length) (h:∀k,k<a.length->(a.getD k λ_=>false) b=v.testBit k):wvl a b=v:=by
 refine Nat.eq_of_testBit_eq λk=> ?_;rw[dK]
 by_cases hk:k<a.length
 ·exact h k hk
 ·rw[yj,AK (by omega)];refine(Nat.testBit_lt_two_pow ?_).symm;exact yE c (AC (by decide) (by omega))
end
def au (v:Nat) (len:Nat):List Nat:=(List.range len).map λk=>bN (v.testBit k)
def eB (v:Nat) (len:Nat):Fs:=(List.range len).map λk=>λ_=>v.testBit k
theorem sU {d:List Nd} (b:DV d) (v len:Nat):Wn d (au v len) (eB v len):=by
 refine⟨by simp[au,eB],λk hk=> ?_⟩;have a:k<len:=by simpa [au] using hk
 have e1:(au v len).getD k 0=bN (v.testBit k):=by
  unfold au;rw[yj,yW,Be a];rfl
 have c:((eB v len).getD k λ_=>false)=λ_=>v.testBit k:=by
  unfold eB;rw[yj,yW,Be a];rfl
 rw[e1,c];cases v.testBit k
 ·exact fn0 b
 ·exact fn1 b
theorem pN (v len:Nat) (b:bb) (c:v<2^len):wvl (eB v len) b=v:=by
 have a:(eB v len).length=len:=by simp[eB]
 refine hJ (by rw[a];exact c) λk hk=> ?_;rw[a] at hk;unfold eB;rw[yj,yW,Be hk];rfl
theorem ft {d:List Nd} (a:DV d) {v len:Nat} (c:v<2^len):Sw d (au v len) len λ_=>v:=⟨eB v len,sU a v len,by simp[eB],λb=>pN v len b c⟩
theorem mM {d:List Nd} {f:Nat} {φ:bb->Bool} {w:List Nat} {len:Nat} {ν:bb->Nat} (h:Fn d f φ) (i:Sw d w len ν):Sw d (f::w) (len+1) λb=>bN (φ b)+2*ν b:=by
 obtain⟨a,c,e,g⟩:=i;exact⟨φ::a,Wn.cons h c,by rw[yr,e],λb=>by rw[dW,g]⟩
def aH (t:Nat):List Nat:=t::au 0 15
theorem dX {d:List Nd} (a:DV d) {t:Nat} {τ:bb->Bool} (h:Fn d t τ):Sw d (aH t) 16 λb=>bN (τ b):=
 (mM h (ft a (v:=0) (len:=15) (by decide))).congr λb=>by simp
section
variable {n:Nat} {d:List Nd}
theorem qc {xs ys:List Nat} {len c:Nat} {μ ν:bb->Nat} {κ:bb->Bool} (h:Gd n d) (i:Sw d xs len μ) (j:Sw d ys len ν) (g:Fn d c κ):Tr n d (fk xs ys c) λf w=>Sw f w len λb=>(μ b+ν b+bN (κ b))%2^len:=by
 obtain⟨a,k,l,m⟩:=i;obtain⟨e,o,r,p⟩:=j;refine(sum_tr xs ys a e h k o (by omega) g).mono λw f _ _ q=> ?_;rw[l] at q;exact q.congr λb=>by rw[m,p]
theorem vZ {xs:List Nat} {len:Nat} {μ:bb->Nat} (e:Gd n d) (f:Sw d xs len μ):Tr n d (iS xs) λc w=>Sw c w len λb=>2^len-1-μ b:=by
 obtain⟨a,g,h,i⟩:=f;refine(vY xs a e g).mono λw c _ _ q=> ?_;rw[h] at q;exact q.congr λb=>by rw[i]
def oI (xs ys:List Nat):Bm (List Nat):=(iS ys).bind λz=>fk xs z 1
theorem vR {xs ys:List Nat} {len:Nat} {μ ν:bb->Nat} (c:Gd n d) (g:Sw d xs len μ) (e:Sw d ys len ν):Tr n d (oI xs ys) λf w=>Sw f w len λb=>(μ b+(2^len-ν b))%2^len:=by
 refine(vZ c e).bind λz i e1 a h=> ?_;refine(qc a (g.ext c.dv a.dv e1) h (fn1 a.dv)).mono λw j _ _ q=>q.congr λb=> ?_;have:=e.lt b;show(μ b+(2^len-1-ν b)+1)%2^len=_;congr 1;omega
theorem eq_sw {xs ys:List Nat} {len:Nat} {μ ν:bb->Nat} (f:Gd n d) (g:Sw d xs len μ) (h:Sw d ys len ν):Tr n d (eqB xs ys 1) λe i=>Fn e i λb=>decide (μ b=ν b):=by
 obtain⟨a,j,o,k⟩:=g;obtain⟨c,l,p,m⟩:=h;exact(eq_tr xs ys a c f j l (by omega) (fn1 f.dv)).mono λi e _ _ q=>q.congr λb=>by rw[k,m,B5]
theorem vv {xs ys:List Nat} {len:Nat} {μ ν:bb->Nat} (f:Gd n d) (g:Sw d xs len μ) (h:Sw d ys len ν):Tr n d (ltB xs ys 0) λe i=>Fn e i λb=>decide (μ b<ν b):=by
 obtain⟨a,j,o,k⟩:=g;obtain⟨c,l,p,m⟩:=h;exact(lt_tr xs ys a c f j l (by omega) (fn0 f.dv)).mono λi e _ _ q=>q.congr λb=>by rw[k,m,Bool.and_false,Bool.or_false]
theorem eL {xs:List Nat} {len:Nat} {μ:bb->Nat} (e:Gd n d) (f:Sw d xs len μ):Tr n d (bE xs 0) λc i=>Fn c i λb=>decide (μ b≠0):=by
 obtain⟨a,g,j,h⟩:=f;exact(rc xs a e g (fn0 e.dv)).mono λi c _ _ q=>q.congr λb=>by rw[h,B7]
theorem kH {f:Nat->Nat->Bm Nat} {ω:bb->Bool->Bool->Bool} {xs ys:List Nat} {len:Nat} {μ ν ρ:bb->Nat} (K:∀{g:List Nd} {x y:Nat} {φ ψ:bb->Bool},Ext d g->Gd n g->Fn g x φ->Fn g y ψ->Tr n g (f x y) λg i=>Fn g i λb=>ω b (φ b) (ψ b))
  (m:Gd n d) (h:Sw d xs len μ) (l:Sw d ys len ν) (u:∀b,ρ b<2^len) (v:∀b k,(ρ b).testBit k=ω b ((μ b).testBit k) ((ν b).testBit k)):Tr n d (cY f xs ys) λg w=>Sw g w len ρ:=by
 obtain⟨a,E,F,N⟩:=h;obtain⟨c,G,I,P⟩:=l
 have A:∀(xs ys:List Nat) (a c:Fs) {j:List Nd},Ext d j->Gd n j->Wn j xs a->Wn j ys c->a.length=c.length->Tr n j (cY f xs ys) λg w=>∃e:Fs,Wn g w e/\e.length=a.length/\∀k,k<a.length->∀b,(e.getD k λ_=>false) b=ω b ((a.getD k λ_=>false) b) ((c.getD k λ_=>false) b):=by
  intro xs
  induction xs with
  |nil=>
   intro ys a c j t m h l o;have:a=[]:=yV (by have:=h.1;simpa using this.symm);subst this;unfold cY;exact Tr.ret m ⟨[],Wn.nil j,rfl,λk hk=>absurd hk (by simp)⟩
  |cons x xs ih=>
   intro ys a c j t m h l o
   match a,c,ys,h,l,o with
   |[],_,_,h,_,_=>have:=h.1;simp at this
   |φ::a,[],_,_,_,o=>simp at o
   |φ::a,ψ::c,[],_,l,_=>have:=l.1;simp at this
   |φ::a,ψ::c,y::ys,h,l,o=>
    obtain⟨E,F⟩:=h.head;obtain⟨G,I⟩:=l.head;refine(K t m E G).bind λz Q s p M=> ?_;refine(ih ys a c (t.trans s) p (F.ext m.dv p.dv s) (I.ext m.dv p.dv s) (by simpa using o)).bind λr R J H L=> ?_;obtain⟨e,B,C,D⟩:=L;refine Tr.ret H ⟨_,Wn.cons (M.ext p.dv H.dv J) B,by rw[yr,yr,C],λk hk b=> ?_⟩
    cases k with
    |zero=>rfl
    |succ k=>exact D k (by simp at hk;omega) b
 refine(A xs ys a c (Ext.refl d) m E G (by omega)).mono λw g _ _ q=> ?_;obtain⟨e,B,C,D⟩:=q;refine⟨e,B,by omega,λb=>hJ (by rw[C,F];exact u b) λk hk=> ?_⟩;rw[D k (by omega) b,v b k,<-N b,<-P b,dK,dK]
def j7:List Nat->List Nat->Bm (List Nat)
 |[],s=>Bm.ret s
 |f::r,s=>(fk s (aH f) 0).bind λa=>j7 r a
def tF (l:List Bool):Nat:=(l.map bN).sum
theorem uY:∀(w:List Nat) (a:Fs) {d:List Nd} {s:List Nat} {σ:bb->Nat},Gd n d->Wn d w a->Sw d s 16 σ->Tr n d (j7 w s) λg r=>Sw g r 16 λb=>(σ b+tF (a.map (· b)))%2^16
 |[],[],d,s,σ,hg,hw,hs=>Tr.ret hg (hs.congr λb=>(Bi (by have:=hs.lt b;simpa [tF] using this)).symm)
 |[],φ::a,d,s,σ,hg,hw,hs=>by have:=hw.1;simp at this
 |f::w,[],d,s,σ,hg,hw,hs=>by have:=hw.1;simp at this
 |f::w,φ::a,d,s,σ,hg,hw,hs=>by
  obtain⟨h,i⟩:=hw.head;refine(qc hg hs (dX hg.dv h) (fn0 hg.dv)).bind λl j e1 e c=> ?_;refine(uY w a e (i.ext hg.dv e.dv e1) c).mono λr k _ _ q=>q.congr λb=> ?_;show((σ b+bN (φ b)+0)%2^16+tF (a.map (· b)))%2^16=(σ b+(bN (φ b)+tF (a.map (· b))))%2^16;omega
def dN (x:List Nat):List (List Nat)->Nat->Bm Nat
 |lo::hi::r,t=>(ltB x lo 0).bind λu=>(fE u).bind λa=>(ltB hi x 0).bind λv=>(fE v).bind λq=>(dJ a q).bind λz=>(orB t z).bind λb=>dN x r b
 |_,t=>Bm.ret t
def qx (x:Nat):List Nat->Bool
 |lo::hi::r=>(decide (lo<=x)&&decide (x<=hi))||qx x r
 |_=>false
inductive Sws (d:List Nd) (len:Nat):List (List Nat)->List (bb->Nat)->Prop
 |nil:Sws d len [] []
 |cons {w:List Nat} {ws:List (List Nat)} {ν:bb->Nat} {νs:List (bb->Nat)}:Sw d w len ν->Sws d len ws νs->Sws d len (w::ws) (ν::νs)
theorem Sws.ext {d a:List Nd} {len:Nat} {ws:List (List Nat)} {νs:List (bb->Nat)} (h:Sws d len ws νs) (c:DV d) (b:DV a) (e:Ext d a):Sws a len ws νs:=by
 induction h with
 |nil=>exact .nil
 |cons h _ ih=>exact .cons (h.ext c b e) ih
theorem pA {x:List Nat} {len:Nat} {ξ:bb->Nat}:∀(ws:List (List Nat)) (a:List (bb->Nat)) {d:List Nd} {t:Nat} {τ:bb->Bool},Gd n d->Sw d x len ξ->Sws d len ws a->Fn d t τ->Tr n d (dN x ws t) λy i=>Fn y i λb=>τ b||qx (ξ b) (a.map (· b))
 |[],[],d,t,τ,hg,hx,hw,ht=>Tr.ret hg (ht.congr λb=>by simp[qx])
 |[w],a,d,t,τ,hg,hx,hw,ht=>by
  cases hw with
  |cons h h'=>
   cases h';exact Tr.ret hg (ht.congr λb=>by simp[qx])
 |lo::hi::ws,a,d,t,τ,hg,hx,hw,ht=>by
  cases hw with
  |cons h h'=>
   cases h' with
   |@cons _ _ ν2 a h2 h3=>
    rename_i ν1;refine(vv hg hx h).bind λu K e1 D H=> ?_;refine(io D H).bind λS L A c F=> ?_;have e:=e1.trans A;refine(vv c (h2.ext hg.dv c.dv e) (hx.ext hg.dv c.dv e)).bind λv M l E I=> ?_;refine(io E I).bind λq N m o G=> ?_;refine(gS o (F.ext c.dv o.dv (l.trans m)) G).bind λz P B p J=> ?_;have j:=e.trans (l.trans (m.trans B));refine(mr p (ht.ext hg.dv p.dv j) J).bind λT Q C f g=> ?_;have k:=j.trans C;refine(pA ws a f (hx.ext hg.dv f.dv k) (h3.ext hg.dv f.dv k) g).mono λi R _ _ q=>q.congr λb=> ?_;show(τ b||(!decide (ξ b<ν1 b)&& !decide (ν2 b<ξ b))||qx (ξ b) (a.map (· b)))=(τ b||((decide (ν1 b<=ξ b)&&decide (ξ b<=ν2 b))||qx (ξ b) (a.map (· b))))
    have r:(!decide (ξ b<ν1 b))=decide (ν1 b<=ξ b):=by
     rw[<-decide_not];exact decide_eq_decide.2 Nat.not_lt
    have s:(!decide (ν2 b<ξ b))=decide (ξ b<=ν2 b):=by
     rw[<-decide_not];exact decide_eq_decide.2 Nat.not_lt
    rw[r,s,Bool.or_assoc]
end
section
variable {n:Nat} {d:List Nd}
def kL:List Nat->Nat->Bm (List Nat)
 |[],_=>Bm.ret []
 |f::r,y=>(dJ f y).bind λz=>(kL r y).bind λa=>Bm.ret (z::a)
theorem vi:∀(w:List Nat) (a:Fs) {d:List Nd} {y:Nat} {υ:bb->Bool},Gd n d->Wn d w a->Fn d y υ->Tr n d (kL w y) λg r=>Sw g r a.length λb=>wvl a b*bN (υ b)
 |[],[],d,y,υ,hg,hw,hy=>Tr.ret hg ⟨[],Wn.nil d,rfl,λb=>by simp[wvl,lU]⟩
 |[],φ::a,d,y,υ,hg,hw,hy=>by have:=hw.1;simp at this
 |f::w,[],d,y,υ,hg,hw,hy=>by have:=hw.1;simp at this
 |f::w,φ::a,d,y,υ,hg,hw,hy=>by
  obtain⟨i,j⟩:=hw.head;refine(gS hg i hy).bind λz m e1 c l=> ?_;refine(vi w a c (j.ext hg.dv c.dv e1) (hy.ext hg.dv c.dv e1)).bind λr o h e k=> ?_;refine Tr.ret e ((mM (l.ext c.dv e.dv h) k).congr λb=> ?_);rw[dW];generalize φ b=p;generalize υ b=q;cases p<;>cases q<;>simp[bN]<;>omega
theorem sw_pad {w:List Nat} {len:Nat} {ν:bb->Nat} (a:DV d) (h:Sw d w len ν):∀(k:Nat),Sw d (List.replicate k 0++w) (k+len) λb=>2^k*ν b
 |0=>by
  rw[yH];exact h.congr λb=>by simp
 |k+1=>by
  have ih:=sw_pad a h k;have:=mM (fn0 a) ih;rw[show k+1+len=k+len+1 by omega]
  exact this.congr λb=>by
   show bN false+2*(2^k*ν b)=2^(k+1)*ν b;rw[BR,BY (2^k) 2,Nat.mul_assoc];simp[bN]
theorem uF {w:List Nat} {len m:Nat} {ν:bb->Nat} (h:Sw d w len ν) (hm:m<=len):Sw d (w.take m) m λb=>ν b%2^m:=by
 obtain⟨a,g,j,i⟩:=h;have f:(a.take m).length=m:=by rw[yM];omega
 have c:∀k,k<m->(a.take m).getD k (λ_=>false)=a.getD k λ_=>false:=λk hk=>by
  rw[yj,yj,Bc hk]
 refine⟨a.take m,⟨by rw[yM,yM,g.1],λk hk=> ?_⟩,f,λb=> ?_⟩
 ·have e:k<m:=by rw[yM] at hk;omega
  rw[c k e,yj,Bc e,<-yj];exact g.2 k (by rw[yM] at hk;omega)
 ·refine hJ (by rw[f];exact Cf _ (BD (by simp))) λk hk=> ?_;rw[f] at hk;rw[c k hk,Nat.testBit_mod_two_pow,<-i b,dK];simp[hk]
theorem sw_drop {w:List Nat} {len m:Nat} {ν:bb->Nat} (h:Sw d w len ν) (hm:m<=len):Sw d (w.drop m) (len-m) λb=>ν b/2^m:=by
 obtain⟨a,e,j,f⟩:=h;have i:(a.drop m).length=len-m:=by rw[AY];omega
 have c:∀k,(a.drop m).getD k (λ_=>false)=a.getD (m+k) λ_=>false:=λk=>by
  rw[yj,yj,Br]
 refine⟨a.drop m,⟨by rw[AY,AY,e.1],λk hk=> ?_⟩,i,λb=> ?_⟩
 ·rw[c k,yj,Br,<-yj];exact e.2 (m+k) (by rw[AY] at hk;omega)
 ·show wvl _ b=ν b/2^m;refine hJ ?_ λk hk=> ?_
  ·rw[i];have g:=ke a b;rw[j] at g;rw[<-f b];refine(Nat.div_lt_iff_lt_mul (BD (by simp))).2 ?_;rw[<-Nat.pow_add,show len-m+m=len by omega];exact g
  ·rw[c k,<-f b,Nat.testBit_div_two_pow,dK,Nat.add_comm]
def iE (x:List Nat):List Nat->Nat->List Nat->Bm (List Nat)
 |[],_,s=>Bm.ret s
 |y::ys,k,s=>(kL (x.take (16-k)) y).bind λp=>(fk s (List.replicate k 0++p) 0).bind λa=>iE x ys (k+1) a
theorem uT {x:List Nat} {χ:bb->Nat}:∀(ys:List Nat) (a:Fs) {d:List Nd} {k:Nat} {s:List Nat} {σ:bb->Nat},Gd n d->Sw d x 16 χ->Wn d ys a->Sw d s 16 σ->k+ys.length=16->Tr n d (iE x ys k s) λo r=>Sw o r 16 λb=>(σ b+2^k*χ b*wvl a b)%65536
 |[],[],d,k,s,σ,hg,hx,hy,hs,hk=>Tr.ret hg (hs.congr λb=>by
  have:=hs.lt b;show σ b=(σ b+2^k*χ b*0)%65536;rw[Nat.mul_zero,yU]
  exact(Bi (by simpa using this)).symm)
 |[],ψ::a,d,k,s,σ,hg,hx,hy,hs,hk=>by have:=hy.1;simp at this
 |y::ys,[],d,k,s,σ,hg,hx,hy,hs,hk=>by have:=hy.1;simp at this
 |y::ys,ψ::a,d,k,s,σ,hg,hx,hy,hs,hk=>by
  obtain⟨u,v⟩:=hy.head;have t:k+ys.length+1=16:=by simpa [Nat.add_assoc] using hk
  obtain⟨j,c1,c2,c3⟩:=uF hx (m:=16-k) (by omega);refine(vi _ j hg c1 u).bind λp w e1 f hp=> ?_;rw[c2] at hp;have c:=sw_pad f.dv hp k;rw[show k+(16-k)=16 by omega] at c;refine(qc f (hs.ext hg.dv f.dv e1) c (fn0 f.dv)).bind λD z g h i=> ?_;have l:=e1.trans g;refine(uT ys a h (hx.ext hg.dv h.dv l) (v.ext hg.dv h.dv l) i (by omega)).mono λr B _ _ q=>q.congr λb=> ?_;rw[dW,c3 b]
  have e:2^k*(χ b%2^(16-k))=(2^k*χ b)%65536:=by
   rw[show(65536:Nat)=2^k*2^(16-k) by rw[<-Nat.pow_add,show k+(16-k)=16 by omega],Nat.mul_mod_mul_left]
  have g:2^(k+1)*χ b*wvl a b=2*(2^k*χ b*wvl a b):=by
   rw[BR,BY (2^k) 2,Nat.mul_assoc 2,Nat.mul_assoc 2]
  show((σ b+2^k*(χ b%2^(16-k)*bN (ψ b))+bN false)%2^16+2^(k+1)*χ b*wvl a b)%65536=(σ b+2^k*χ b*(bN (ψ b)+2*wvl a b))%65536;rw[<-Nat.mul_assoc,e,g,Nat.mul_add,show 2^k*χ b*(2*wvl a b)=2*(2^k*χ b*wvl a b) by rw[Nat.mul_left_comm]];generalize 2^k*χ b*wvl a b=C;generalize 2^k*χ b=A;cases ψ b<;>simp[bN]<;>omega
theorem prod_sw {xs ys:List Nat} {μ ν:bb->Nat} (e:Gd n d) (g:Sw d xs 16 μ) (h:Sw d ys 16 ν):Tr n d (iE xs ys 0 (au 0 16)) λc w=>Sw c w 16 λb=>(μ b*ν b)%65536:=by
 obtain⟨a,f,j,i⟩:=h;refine(uT ys a e g f (ft e.dv (v:=0) (by decide)) (by have:=f.1;omega)).mono λw c _ _ q=>q.congr λb=> ?_;rw[i b];simp
def cA (t:Nat):List Nat->List (Option Nat)->Bm (List Nat)
 |o::os,some f::fs=>(dJ t f).bind λz=>(orB o z).bind λa=>(cA t os fs).bind λr=>Bm.ret (a::r)
 |o::os,none::fs=>(cA t os fs).bind λr=>Bm.ret (o::r)
 |_,_=>Bm.ret []
def On (d:List Nd):Option Nat->(bb->Bool)->Prop
 |some f,φ=>Fn d f φ
 |none,φ=>∀b,φ b=false
inductive Os (d:List Nd):List (Option Nat)->Fs->Prop
 |nil:Os d [] []
 |cons {o:Option Nat} {os:List (Option Nat)} {φ:bb->Bool} {φs:Fs}:On d o φ->Os d os φs->Os d (o::os) (φ::φs)
theorem On.ext {d a:List Nd} {o:Option Nat} {φ:bb->Bool} (h:On d o φ) (c:DV d) (b:DV a) (e:Ext d a):On a o φ:=by
 cases o with
 |none=>exact h
 |some f=>exact Fn.ext h c b e
theorem Os.ext {d a:List Nd} {os:List (Option Nat)} {φs:Fs} (h:Os d os φs) (c:DV d) (b:DV a) (e:Ext d a):Os a os φs:=by
 induction h with
 |nil=>exact .nil
 |cons h _ ih=>exact .cons (h.ext c b e) ih
theorem Os.some {w:List Nat}:∀{a:Fs},Wn d w a->Os d (w.map some) a:=by
 induction w with
 |nil=>
  intro a h;have:a=[]:=yV (by have:=h.1;simpa using this.symm);subst this;exact .nil
 |cons f w ih=>
  intro a h
  match a,h with
  |[],h=>have:=h.1;simp at this
  |φ::a,h=>
   obtain⟨b,c⟩:=h.head;exact .cons b (ih c)
theorem Os.app {a b:List (Option Nat)} {c e:Fs} (h:Os d a c) (f:Os d b e):Os d (a++b) (c++e):=by
 induction h with
 |nil=>exact f
 |cons h _ ih=>exact .cons h ih
theorem Os.none (k:Nat):Os d (List.replicate k none) (List.replicate k λ_=>false):=by
 induction k with
 |zero=>exact .nil
 |succ k ih=>exact .cons (λ_=>rfl) ih
theorem nP {t:Nat} {τ:bb->Bool}:∀(w:List Nat) (os:List (Option Nat)) (a c:Fs) {d:List Nd},Gd n d->Wn d w a->Os d os c->a.length=c.length->Fn d t τ->Tr n d (cA t w os) λy r=>∃e:Fs,Wn y r e/\e.length=a.length/\∀k,k<a.length->∀b,(e.getD k λ_=>false) b=((a.getD k λ_=>false) b||(τ b&&(c.getD k λ_=>false) b))
 |[],os,a,c,d,hg,hw,ho,hl,ht=>by
  have:a=[]:=yV (by have:=hw.1;simpa using this.symm);subst this;unfold cA;exact Tr.ret hg ⟨[],Wn.nil d,rfl,λk hk=>absurd hk (by simp)⟩
 |x::w,os,[],c,d,hg,hw,ho,hl,ht=>by have:=hw.1;simp at this
 |x::w,os,φ::a,[],d,hg,hw,ho,hl,ht=>by simp at hl
 |x::w,[],φ::a,ψ::c,d,hg,hw,ho,hl,ht=>by cases ho
 |x::w,none::os,φ::a,ψ::c,d,hg,hw,ho,hl,ht=>by
  obtain⟨s,u⟩:=hw.head
  cases ho with
  |cons h h'=>
   refine(nP w os a c hg u h' (by simpa using hl) ht).bind λr A e1 g m=> ?_;obtain⟨e,o,p,q⟩:=m;refine Tr.ret g ⟨_,Wn.cons (s.ext hg.dv g.dv e1) o,by rw[yr,yr,p],λk hk b=> ?_⟩
   cases k with
   |zero=>
    show φ b=(φ b||(τ b&&ψ b));have D:ψ b=false:=h b;rw[D,Bool.and_false,Bool.or_false]
   |succ k=>exact q k (by simp at hk;omega) b
 |x::w,some f::os,φ::a,ψ::c,d,hg,hw,ho,hl,ht=>by
  obtain⟨s,u⟩:=hw.head
  cases ho with
  |cons h h'=>
   refine(gS hg ht h).bind λz A e1 g E=> ?_;refine(mr g (s.ext hg.dv g.dv e1) E).bind λH F B i l=> ?_;have j:=e1.trans B;refine(nP w os a c i (u.ext hg.dv i.dv j) (h'.ext hg.dv i.dv j) (by simpa using hl) (ht.ext hg.dv i.dv j)).bind λr G C v m=> ?_;obtain⟨e,o,p,q⟩:=m;refine Tr.ret v ⟨_,Wn.cons (l.ext i.dv v.dv C) o,by rw[yr,yr,p],λk hk b=> ?_⟩
   cases k with
   |zero=>rfl
   |succ k=>exact q k (by simp at hk;omega) b
def fI (left:Bool) (s:Nat) (x:List Nat):List (Option Nat):=if left=true then List.replicate s none++(x.take (16-s)).map some else(x.drop s).map some++List.replicate s none
def shT (left:Bool) (s x:Nat):Nat:=if left=true then(x*2^s)%65536 else x/2^s
theorem shOpt_os {x:List Nat} {χ:bb->Nat} (left:Bool) {s:Nat} (o:s<16) (h:Sw d x 16 χ):∃a:Fs,Os d (fI left s x) a/\a.length=16/\∀b,wvl a b=shT left s (χ b):=by
 cases left
 ·obtain⟨a,j,n,f⟩:=sw_drop h (m:=s) (by omega);have i:∀b,wvl a b=χ b/2^s:=λb=>f b;clear f;have g:(a++List.replicate s λ_=>false).length=16:=by rw[yu,Ax];omega
  refine⟨a++List.replicate s λ_=>false,(Os.some j).app (Os.none s),g,λb=> ?_⟩;show wvl _ b=χ b/2^s;refine hJ ?_ λk hk=> ?_
  ·rw[g,<-i b];have:=ke a b;exact yE this (AC (by decide) (by omega))
  ·rw[<-i b,dK]
   by_cases c:k<a.length
   ·rw[yj,yP c,<-yj]
   ·rw[yj,yG (by omega),yj (l:=a),AK (l:=a) (by omega),Bg]
    split<;>rfl
 ·obtain⟨a,j,n,f⟩:=uF h (m:=16-s) (by omega);have i:∀b,wvl a b=χ b%2^(16-s):=λb=>f b;clear f;have g:((List.replicate s λ_=>false)++a:Fs).length=16:=by rw[yu,Ax];omega
  refine⟨(List.replicate s λ_=>false)++a,(Os.none s).app (Os.some j),g,λb=> ?_⟩
  have e:(χ b*2^s)%65536=2^s*(χ b%2^(16-s)):=by
   rw[show(65536:Nat)=2^s*2^(16-s) by rw[<-Nat.pow_add,show s+(16-s)=16 by omega],BY,Nat.mul_mod_mul_left]
  show _=(χ b*2^s)%65536;refine hJ (by rw[g];exact Cf _ (by decide)) λk hk=> ?_;rw[e,<-i b,Nat.testBit_two_pow_mul,dK]
  by_cases c:k<s
  ·rw[yj,yP (by rw[Ax];exact c),Bg,yz c];simp[show¬s<=k by omega]
  ·rw[yj,yG (by rw[Ax];omega),Ax,<-yj];simp[show s<=k by omega]
def bP (left:Bool) (x y:List Nat):Nat->Nat->List Nat->Bm (List Nat)
 |0,_,out=>Bm.ret out
 |r+1,s,out=>(eqB y (au s 16) 1).bind λt=>(cA t out (fI left s x)).bind λa=>bP left x y r (s+1) a
theorem ro {left:Bool} {x y:List Nat} {χ υ:bb->Nat}:∀(r s:Nat) {d:List Nd} {a:List Nat} {ν:bb->Nat},Gd n d->Sw d x 16 χ->Sw d y 16 υ->Sw d a 16 ν->s+r=16->(∀b,s<=υ b->ν b=0)->Tr n d (bP left x y r s a) λA w=>Sw A w 16 λb=>if s<=υ b/\υ b<16 then shT left (υ b) (χ b) else ν b
 |0,s,d,a,ν,hg,hx,hy,ho,hs,h0=>Tr.ret hg (ho.congr λb=>by rw[yw (by omega)])
 |r+1,s,d,a,ν,hg,hx,hy,ho,hs,h0=>by
  refine(eq_sw hg hy (ft hg.dv (v:=s) (len:=16) (by omega))).bind λt M e1 i E=> ?_;obtain⟨h,G,H,z⟩:=shOpt_os left (s:=s) (by omega) (hx.ext hg.dv i.dv e1);obtain⟨e,I,J,o⟩:=ho.ext hg.dv i.dv e1;refine(nP a _ e h i I G (by omega) E).bind λg B C j D=> ?_;obtain⟨c,K,Q,L⟩:=D;have p:=e1.trans C
  have f:Sw B g 16 λb=>if υ b=s then shT left s (χ b) else ν b:=by
   refine⟨c,K,by omega,λb=> ?_⟩;show wvl c b=if υ b=s then shT left s (χ b) else ν b
   have m:(if υ b=s then shT left s (χ b) else ν b)<2^c.length:=by
    rw[show c.length=16 by omega]
    split
    ·rw[<-z b];have:=ke h b;rwa [H] at this
    ·rw[<-o b];have:=ke e b;rwa [J] at this
   refine hJ m λk hk=> ?_;rw[L k (by omega) b]
   split
   ·rename_i he;rw[<-z b,dK]
    have F:(e.getD k λ_=>false) b=false:=by
     rw[<-dK,o b,h0 b (by omega)];simp
    rw[F,yB he];simp
   ·rename_i he;rw[<-o b,dK,yv he];simp
  refine(ro r (s+1) j (hx.ext hg.dv j.dv p) (hy.ext hg.dv j.dv p) f (by omega) (λb P=> ?_)).mono λw N _ _ q=>q.congr λb=> ?_
  ·show(if υ b=s then _ else ν b)=0;rw[yw (by omega)];exact h0 b (by omega)
  ·show(if s+1<=υ b/\υ b<16 then shT left (υ b) (χ b) else if υ b=s then shT left s (χ b) else ν b)=_
   by_cases l:υ b=s
   ·rw[yw (by omega),yz l,yz (by omega),l]
   ·rw[yw l]
    by_cases u:s+1<=υ b/\υ b<16
    ·rw[yz u,yz (by omega)]
    ·rw[yw u,yw (by omega)]
theorem rp {left:Bool} {xs ys:List Nat} {μ ν:bb->Nat} (c:Gd n d) (f:Sw d xs 16 μ) (g:Sw d ys 16 ν):Tr n d (bP left xs ys 16 0 (au 0 16)) λa w=>Sw a w 16 λb=>if ν b<16 then shT left (ν b) (μ b) else 0:=
 (ro 16 0 c f g (ft c.dv (v:=0) (by decide)) rfl (λ_ _=>rfl)).mono λw a _ _ q=>q.congr λb=>by
  by_cases h:ν b<16
  ·rw[yz h,yz ⟨yt _,h⟩]
  ·rw[yw h,yw (λe=>h e.2)]
def kB (l:Nat):Nat->Bm (List Nat)
 |0=>Bm.ret []
 |w+1=>(oT (l+w)).bind λf=>(kB l w).bind λr=>Bm.ret (f::r)
def gP (b:bb) (l w:Nat):List Bool:=(List.range w).map λj=>b (l+j)
theorem ma (l:List Bool) (c:Bool):dj (l++[c])=2*dj l+bN c:=by
 unfold dj;rw[BA];rfl
theorem sY (b:bb) (l w:Nat):dj (gP b l (w+1))=bN (b (l+w))+2*dj (gP b l w):=by
 unfold gP;rw[List.range_succ,Bx,Cm,List.map_nil,ma,Nat.add_comm]
theorem var_tr (e:n<=20) {l:Nat}:∀(w:Nat) {d:List Nd},Gd n d->l+w<=n->Tr n d (kB l w) λg r=>Sw g r w λb=>dj (gP b l w)
 |0,d,hg,hl=>Tr.ret hg ⟨[],Wn.nil d,rfl,λb=>rfl⟩
 |w+1,d,hg,hl=>by
  refine(bit_tr hg (by omega) e).bind λf k e1 a i=> ?_;refine(var_tr e w a (by omega)).bind λr m h c j=> ?_;exact Tr.ret c ((mM (i.ext a.dv c.dv h) j).congr λb=>(sY b l w).symm)
theorem sw_high {w:List Nat} {len:Nat} {ν:bb->Nat} (q:DV d) (h:Sw d w len ν) (m:Nat):Sw d (w++au 0 m) (len+m) ν:=by
 obtain⟨a,e,o,i⟩:=h;have j:=sU q 0 m;have f:(eB 0 m).length=m:=by simp[eB]
 have n:(a++eB 0 m).length=len+m:=by rw[yu,o,f]
 refine⟨a++eB 0 m,⟨by rw[yu,yu,e.1,j.1],λk hk=> ?_⟩,n,λb=> ?_⟩
 ·by_cases c:k<w.length
  ·have g:k<a.length:=by rw[<-e.1];exact c
   rw[yj,yP c,<-yj,yj (l:=a++_),yP g,<-yj];exact e.2 k c
  ·rw[yu] at hk;have p:=e.1;rw[yj,yG (by omega),<-yj,yj (l:=a++_),yG (by omega),<-yj,p];exact j.2 _ (by omega)
 ·refine hJ ?_ λk hk=> ?_
  ·rw[<-i b,n];have:=ke a b;exact yE this (AC (by decide) (by omega))
  ·rw[<-i b,dK]
   by_cases c:k<a.length
   ·rw[yj,yP c,<-yj]
   ·rw[yj,yG (by omega),yj (l:=a),AK (l:=a) (by omega)];have r:=pN 0 m b (BD (by simp));have:=dK (eB 0 m) b (k-a.length);rw[r,yj] at this;rw[<-this];simp
end
end
end Go.Proofs.YtdahpdnhkflnnaaGreatDoor
