/-
  Contracts and laws for the law TopBounds, part 3 of 12; made small by a program of mine out of longer texts.
-/
import Derived.Test.YtdahpdnhkflnnaaGreatDoorZ02
set_option linter.unusedVariables false
set_option linter.unusedSimpArgs false
set_option linter.unusedSectionVars false
set_option linter.defProp false
set_option maxRecDepth 100000
set_option maxHeartbeats 64000000
namespace Go.Proofs.YtdahpdnhkflnnaaGreatDoor
open Value renaming int → zI, slice → zU, string → zV, bool → zW, agg → zX, tuple → zY
open IntKind renaming i64 → zi
open Ending renaming returned → zE
open Obj renaming cells → zC
open List renaming length → zN, getD → zG
open Or renaming inl → zQ, inr → zO
open Go.Proofs.Tryz
section
section
variable (d:Nat) {e:Ex} {k:Nat}
def goW {S:Type} (f:S->Ex->S×Bool):S->List Ex->S×Bool
 |s,[]=>(s,true)
 |s,e::l=>if(f s e).2=true then goW f (f s e).1 l else((f s e).1,false)
theorem s8 {S:Type} (f:S->Ex->S×Bool):∀(l m:List Ex) (s:S),goW f s (l++m)=if(goW f s l).2=true then goW f (goW f s l).1 m else goW f s l
 |[],m,s=>by simp[goW]
 |e::l,m,s=>by
  have e1:goW f s (e::l++m)=if(f s e).2=true then goW f (f s e).1 (l++m) else((f s e).1,false):=rfl
  have a:goW f s (e::l)=if(f s e).2=true then goW f (f s e).1 l else((f s e).1,false):=rfl
  rw[e1,a,s8 f l m];by_cases h:(f s e).2=true
  .rw[DP h,DP h]
  rw[DK h,DK h,DK (by simp)]
theorem uU {S:Type} {f:S->Ex->S×Bool} {G:S->Nat->Prop} (b:∀s m e,G s (m+1)->G (f s e).1 m):∀(l:List Ex) (m:Nat) (s:S),G s (zN l+m)->(goW f s l).2=true->G (goW f s l).1 m
 |[],m,s,h,_=>by simpa [goW] using h
 |e::l,m,s,h,ht=>by
  have c:goW f s (e::l)=if(f s e).2=true then goW f (f s e).1 l else((f s e).1,false):=rfl
  rw[c] at ht⊢;by_cases a:(f s e).2=true
  .rw[DP a] at ht⊢;exact uU b l m _ (b _ _ _ (by rw[DF] at h;rw[show zN l+m+1=zN l+1+m by omega];exact h)) ht
  rw[DK a] at ht;cases ht
def br (d:Nat) (e:Ex) (k:Nat):List Ex:=(e.a.take k).flatMap (ax d)
def vN (e:Ex):br d e 0=[]:=by simp[br]
def iK {d:Nat} (h:k<zN e.a):br d e (k+1)=br d e k++ax d (zG e.a k ex0):=by unfold br;rw[Ep,DD h,List.flatMap_append,DC,DD h];simp
def xU (e:Ex):e::br d e (zN e.a)=ax (d+1) e:=by unfold br ax;rw[Et]
theorem xT {d:Nat} {e:Ex} {k:Nat} (h:k<zN e.a):(br d e k).length+(ax d (zG e.a k ex0)).length<=(br d e (zN e.a)).length:=by
 have a:∀j,k+1+j<=zN e.a->(br d e (k+1)).length<=(br d e (k+1+j)).length:=by
  intro j;induction j with
  |zero=>intro _;exact DE _
  |succ j ih=>intro b;have:=ih (by omega);rw[show k+1+(j+1)=(k+1+j)+1 by omega,iK (k:=k+1+j) (by omega),DI];omega
 have:=a (zN e.a-(k+1)) (by omega);rw[show k+1+(zN e.a-(k+1))=zN e.a by omega,iK h,DI] at this;exact this
theorem xS {d:Nat} {e:Ex} {j k:Nat} (h:j<=k) (hk:k<=zN e.a):∃r,br d e k=br d e j++r:=by
 induction k with
 |zero=>
  obtain rfl:j=0:=by omega
  exact⟨[],by simp⟩
 |succ k ih=>
  by_cases e1:j=k+1
  .subst e1;exact⟨[],by simp⟩
  have⟨r,a⟩:=ih (by omega) (by omega);exact⟨r++ax d (zG e.a k ex0),by rw[iK (by omega),a,Eg]⟩
def QJ {S:Type} {f:S->Ex->S×Bool} {s:S} {d:Nat} {j k:Nat} (h:j<=k/\k<=zN e.a) (a:(goW f s (br d e j)).2=false):goW f s (br d e k)=goW f s (br d e j):=by have⟨r,b⟩:=xS (d:=d) h.1 h.2;rw[b,s8,DK (by rw[a];simp)]
def Un (s:Int) (e:Ex):Int×Bool:=(aT e,decide (aT e=0))
theorem AA:∀(l:List Ex) (s:Int),0<zN l->(goW Un s l).1=aZ aT l
 |[],s,h=>by simp at h
 |[e],s,_=>by
  show(if decide (aT e=0)=true then goW Un (aT e) [] else(aT e,false)).1=if aT e=0 then aZ aT [] else aT e
  by_cases h:aT e=0
  .rw[DP (DR h),DP h];show aT e=0;exact h
  rw[DK (by simpa using h),DK h]
 |e::a::l,s,_=>by
  have ih:=AA (a::l) (aT e) (by simp);show(if decide (aT e=0)=true then goW Un (aT e) (a::l) else(aT e,false)).1=if aT e=0 then aZ aT (a::l) else aT e
  by_cases h:aT e=0
  .rw[DP (DR h),DP h,ih]
  rw[DK (by simpa using h),DK h]
def WG (s:Nat) (e:Ex):Nat×Bool:=(s+1,true)
theorem Az:∀(l:List Ex) (s:Nat),goW WG s l=(s+zN l,true)
 |[],s=>rfl
 |e::l,s=>by show(if(true=true) then goW WG (s+1) l else _)=_;rw[DP rfl,Az l (s+1),DF];congr 1;omega
def QV (ops:Int->Bool) (a:List ByteArray) (e:Ex):List ByteArray×Bool:=(if ops e.op=true/\e.s∉a then a++[e.s] else a,true)
theorem Ay (ops:Int->Bool):∀(l:List Ex) (a:List ByteArray),goW (QV ops) a l=(pL ops a l,true)
 |[],a=>rfl
 |e::l,a=>by show(if(true=true) then goW (QV ops) (if ops e.op=true/\e.s∉a then a++[e.s] else a) l else _)=_;rw[DP rfl,Ay ops l];rfl
def pE (e:Ex):0<(ax (d+1) e).length:=by unfold ax;simp
end
section
open Go.RowKit
def Tab (w:World):Prop:=Lib.TabIs zz w "internal/strconv.uint64pow10" .u64 Lib.pow10Tab
def Wx:zz.globalNamed "internal/strconv.uint64pow10"=some 2:=by kernel_rfl
def Tab.lt {w:World} (h:Tab w):2<w.heap.size:=by have:=Lib.TabIs.cell h Wx 0 (by decide);exact Fu _ _ this
def Cq (n:Int):ByteArray:=⟨(Lib.itoa n).toArray⟩
end
section
open Go.RowKit
def qD {b c:ByteArray} (h:b.data.toList=c.data.toList):b=c:=by obtain⟨⟨l⟩⟩:=b;obtain⟨⟨m⟩⟩:=c;simp at h;rw[h]
def nN (n:Int):(Cq n).data.toList=Lib.itoa n:=by simp[Cq]
def UE {u:Nat} (h:u<=9223372036854775808):(Lib.decDigits u).length<=21:=by
 by_cases c:u=0
 .subst c;rw[Lib.decDigits,dif_pos (by decide)];simp
 have b:=Lib.itoa_neg u (by omega);have a:=Lib.itoa_length_le (-(u:Int)) (by omega) (by omega);rw[b] at a;simp at a;omega
def BZ (n:Int) (w:World) (J: -9223372036854775808<=n) (K:n<=9223372036854775807):Calls zz 189 #[zI zi n] w (zR (zV (Cq n)) w):=by
 have⟨u,z⟩:=zv (n.natAbs);have v:u<=9223372036854775808:=by omega
 have C:=zh z;have D:∀w,Calls zz 259 #[zI zi n] w (zS (zI zi (-(u:Int))) w):=λw=>by rw[z];exact Pw n w J K
 have I:=zh D;clear D z;go_enter func189,ntmps189;go_wp2;refine(I _).mono ?_;rintro e w' ⟨rfl,rfl⟩;go_wp2;go_loopw [3,4] (λs m wr=>∃(x:Nat) (b:ByteArray),x<=9223372036854775808/\m=zI zi (-(x:Int))/\s=zV b/\Lib.decDigits u=Lib.decDigits x++b.data.toList/\zL w wr) (λ_ m _=>(-(intOf m)).toNat)
 .exact⟨u,⟨#[]⟩,v,rfl,rfl,by simp,DM _ _⟩
 obtain⟨x,b,W,rfl,rfl,i,t⟩:=hrel;have M:b.size<=21:=by have E:=UE v;rw[i] at E;have L:b.size=zN b.data.toList:=EW b;rw[L];simp at E⊢;omega
 have⟨l,d⟩:=zk2 i t;clear i t;have⟨r,G⟩:=zv (x%10);have⟨q,F⟩:=zv (x/10);have T:r<=9:=by omega
 have e1:(-(x:Int)).tmod 10= -(r:Int):=by rw[Int.neg_tmod,Int.tmod_eq_emod_of_nonneg (by omega)];omega
 have U:(-(x:Int)).tdiv 10= -(q:Int):=by rw[Int.neg_tdiv,Int.tdiv_eq_ediv_of_nonneg (by omega)];omega
 have S:q<=922337203685477580:=by omega
 have⟨c,h⟩:=zv (UInt8.ofNat (48+r));have Q:(convert 305 9 (zU (some ⟨wr.heap.size,0,none⟩) 1 1)).run zz (wr.alloc (zC #[.int .u8 (48+r)] 5))= .ok (zV ⟨#[c]⟩) (wr.alloc (zC #[.int .u8 (48+r)] 5)):=by
  have N:((c.toNat:Nat):Int)=48+r:=by
   have:c.toNat=48+r:=by rw[h];simp;omega
   rw[this];omega
  have:=run_convert_bytes_back (P:=zz) (wr.alloc (zC #[.int .u8 (48+r)] 5)) 305 9 5 ⟨wr.heap.size,0,none⟩ 1 [c] underlying305 underlying5 underlying9 (λj R=>by
   obtain rfl:j=0:=by simpa using R
   simp[Addr.add,go_sem,N]);simpa using this
 have⟨B,p⟩:=zk2 G F;have k:=zh h;have g:(ByteArray.mk #[c]++b).data.toList=c::b.data.toList:=by simp
 have A:=zh g;clear G F h g;by_cases H:q=0
 .have y:(-(q:Int)==0)=true:=by simp;omega
  have a:Lib.decDigits u=(ByteArray.mk #[c]++b).data.toList:=by rw[A,l,Lib.decDigits,dif_pos (by have:=p.out;omega),k,B,E9 (by have:=p.out;omega)];rfl
  by_cases V:n<0
  .have f:(ByteArray.mk #[45]++(ByteArray.mk #[c]++b))=Cq n:=by
    refine qD ?_;rw[nN];have e:n= -(u:Int):=by have:=C.out;omega
    rw[e,Lib.itoa_neg u (by omega),a];simp
   have o:=zh f;clear f a H;go_wp2;go_ret;exact⟨by rw[<-o];rfl,d.alloc d.size _⟩
  have f:(ByteArray.mk #[c]++b)=Cq n:=by
   refine qD ?_;rw[nN];have e:n=(u:Int):=by have:=C.out;omega
   rw[e,Lib.itoa_nonneg u,a]
  have o:=zh f;clear f a H;go_wp2;go_ret;exact⟨by rw[<-o];rfl,d.alloc d.size _⟩
 have y:(-(q:Int)==0)=false:=by simp;omega
 have a:Lib.decDigits u=Lib.decDigits q++(ByteArray.mk #[c]++b).data.toList:=by rw[A,l,Lib.decDigits,dif_neg (by have:=p.out;omega),k,B,p];simp
 have o:=zh a;clear a;go_wp2;go_roundw
 .exact⟨q,ByteArray.mk #[c]++b,by omega,rfl,rfl,o,d.alloc d.size _⟩
 simp[intOf];have:=p.out;omega
end
section
variable {s:ChangeSpec} {W:World}
section
open Go.RowKit Go.WideShapes Go.ChangeShapes
section
variable {H:Type} {enc:TypeId×Value->H} {P:Program}
def post_of_below3 {f:Func} {c e d:Bool} {W W':World} {args:Array Value} {v:Value} {j gs:List (DataW H)} {a n:List MemPlace} (q:DataW.Whole enc P f.params.toList s.vars c W args.toList j gs a) (k:∀(b:Nat) (o:Nat->Bool) (t:Bool),DataW.TrodAll enc P W' b o t f.resultTypes.toList (v.resultList f.resultTypes.size) (s.fn H (j++gs)).results []) (g:DataW.TrodAll enc P W' 0 (λb=>decide (b<W.heap.size)) true f.params.toList args.toList (s.fn H (j++gs)).args n) (i:∀o:Nat->Bool,DataW.TrodVars enc P W' o s.vars (s.fn H (j++gs)).vars []) (m:a=n++[]) (r:zL W W'):s.post enc P f c e d false W args v W':=by refine⟨j,gs,a,[],n,[],q,k _ _ _,g,i _,World.keptBut_mono (λp l=>⟨l, ?_⟩) (r.frame (· ∈a)),λh=>by cases h⟩;rw[m,EK] at l;exact zO l
end
theorem pV {P:Program} {w:World}:∀{b:List (String×DataW Unit)} {e:List MemPlace},DataW.LaidVars P w b e->∀x∈b,
  ∃g t cs a p,P.globalNamed x.1=some g/\(P.globals[g]?).map (·.type)=some t/\w.var? P x.1=some cs/\DataW.trod (λ_=>()) P w 0 (λ_=>true) false a t cs.toList=some (x.2,p)
 |[],_,_,x,c=>by cases c
 |(n,d)::r,e,⟨g,t,cs,a,p,q,h1,h2,h3,h4,h5,_⟩,x,c=>by
  rcases DS.1 c with rfl|c
  .exact⟨g,t,cs,a,p,h1,h2,h3,h4⟩
  exact pV h5 x c
def tab_of_laid (h:laidMetH zz [("math/bits.deBruijn32tab",Rows.laid_math_bits_deBruijn32tab),("math/bits.deBruijn64tab",Rows.laid_math_bits_deBruijn64tab),("internal/strconv.uint64pow10",Rows.laid_internal_strconv_uint64pow10),("testbench/lexer.keywords",Rows.laid_testbench_lexer_keywords)] W):Tab W:=by
 rw[MakeChecks.laidMetH_plain _ _ _ (by kernel_rfl)] at h;obtain⟨ps,hl,_⟩:=h
 have⟨g,t,cs,fuel,p,hg,hty,hv,hd⟩:=pV hl ("internal/strconv.uint64pow10",Rows.laid_internal_strconv_uint64pow10) (by simp)
 obtain rfl:=Eu (Wx.symm.trans hg);have hty':(zz.globals[2]?).map (·.type)=some 367:=by kernel_rfl
 obtain rfl:=Eu (hty'.symm.trans hty);unfold Tab Lib.TabIs;rw[hv,<-Lib.cells_of_tab (zs:=Lib.pow10Tab) (k:= .u64) underlying367 underlying55 (by kernel_rfl) (by kernel_rfl) hd]
end
section
variable {H:Type} {enc:TypeId×Value->H}
def handed_and_shaped {a:Assume} {C:Checked} {os:Go.Os} {f:FuncId} {fn:Func} {h:List PathCond} {b m g l:Bool} {X:World->Array Value->Prop} (I:∀(w w':World) (args:Array Value),w.heap=w'.heap->X w args->X w' args) (F:ownKnob C.prog.godebug=none) (n:os.Started) (q:C.prog.inits.idxOf? f=none) (A:C.prog.funcs[f]? =some fn) (o:∃(w:World) (c:Tape) (i:Input),w.os=os/\(w.forCall c i).Shaped C.prog/\i.vars=[]/\Input.okWide C.prog (w.forCall c i) .any w.heap.size f i∧((s.pre enc C.prog fn h b (w.forCall c i).memory i.args/\X (w.forCall c i).memory i.args)/\sizedMet enc C.prog fn (OpenSpec.ofChange s) b (w.forCall c i).memory i.args)/\a.holds C.prog (lone (Frame.enter C.prog f i.args .normal) [] (w.forCall c i))) (k:∀(W:World) (base:Nat) (args:Array Value) (r gs:List (DataW H)) (d:List MemPlace),(∀(j:Nat) t v,fn.params[j]? =some t->args[j]? =some v->Value.okWide C.prog W .any base t v)→DataW.Whole enc C.prog fn.params.toList s.vars b W args.toList r gs d→h.all (PathCond.test C.prog ⟨fn.params.toList,r,s.plain.varTypes C.prog,gs⟩)=true→(DataW.weightsEach C.prog (fn.params.toList++s.plain.varTypes C.prog) (r++gs)).all (· ≤reachBytes)=true->X W args->W.ShapedOpen C.prog→a.holds C.prog (lone (Frame.enter C.prog f args .normal) [] W)→Calls C.prog f args W λe W'=>∃v,e=zE v/\s.post enc C.prog fn b m g l W args v W'):ReturnsInHanded a C os f .any (λw args=>(s.pre enc C.prog fn h b w args/\X w args)/\sizedMet enc C.prog fn (OpenSpec.ofChange s) b w args) (s.post enc C.prog fn b m g l):=by refine returnsInHanded_of_calls F n q o ?_;intro w c i _ D _ B x p;obtain⟨_,_,_,z,u,_,_,_,_,y⟩:=B;have e:z=fn:=Eu (u.symm.trans A);subst e;obtain⟨⟨⟨r,gs,d,G,J⟩,K⟩,L⟩:=x;have E:=DataW.Whole.of_heap (w':=w.forCall c i) (by rfl) G;refine(k (w.forCall c i) w.heap.size i.args r gs d y E J (L.weights G) (I _ _ _ (by rfl) K) D p).mono λe W' ⟨v,he,hp⟩=> ?_;subst he;exact ChangeSpec.post_blind hp
end
end
end
end Go.Proofs.YtdahpdnhkflnnaaGreatDoor
