/-
  Contracts and laws for the law TopChoices, part 6 of 14; made small by a program of mine out of longer texts.
-/
import Derived.Test.YtdahpdnhkflnnaaGreatDoorZ05
namespace Go.Proofs.YtdahpdnhkflnnaaGreatDoor
set_option linter.unusedVariables false
set_option linter.unusedSimpArgs false
set_option linter.defProp false
set_option maxRecDepth 100000
set_option maxHeartbeats 64000000
section
open Go.RowKit Go.Maps
def SB3 (b d c:Nat) (B1 cs a:Array Value) (W:World):Prop:=Box W b B1 140/\Box W d cs 146/\Box W c a 79
def WordC (g:Nat) (C:BC) (vars:List Vr) (b:List Int) (V:ByteArray->Vl) (a:List ByteArray) (k:Nat):Prop:=∀(w:World) (d:List Nd),BB w g C d->BK w g C vars b V a->∀(c:Nat) (e:Ex) (x:Value),okE (λs=>decide (s∈a)) k e=true->Rs (exR c) w x e.args (NG g)->In (NG g) x e.args.length→
 Calls Tryz.prog 74 #[.pointer (some ⟨g,0,none⟩),.agg #[.int .i64 e.op,.int .i64 e.n,.string e.name,x]] w (eT cH okW w g C d (iu V k e d))
theorem opOk_le {op:Int} {m:Nat} (h:eY op m=true):m<=40:=by
 unfold eY at h
 split at h
 ·simp at h;omega
 split at h
 ·simp at h;omega
 split at h
 ·simp at h;omega
 split at h
 ·simp at h;omega
 ·simp at h;omega
theorem tI {op:Int} {m:Nat} (h:eY op m=true):op=1\/op=2\/op=4\/op=5\/op=6\/op=25\/op=23\/op=22\/(7<=op/\op<=21):=by
 unfold eY at h
 split at h
 ·omega
 split at h
 ·omega
 split at h
 ·omega
 split at h
 ·omega
 ·simp at h;omega
theorem un (g:Nat) (C:BC) (vars:List Vr) (a6:List Int) (V:ByteArray->Vl) (av:List ByteArray) (k:Nat) (IH:WordC g C vars a6 V av k):WordC g C vars a6 V av (k+1):=by
 intro w d hb hk dd e x bM hr a5;obtain⟨op,n,name,args⟩:=e;change Rs (exR dd) w x args (NG g) at hr;change In (NG g) x args.length at a5;show Calls Tryz.prog 74 #[.pointer (some ⟨g,0,none⟩),.agg #[.int .i64 op,.int .i64 n,.string name,x]] w (eT cH okW w g C d (iu V (k+1) (.mk op n name args) d));obtain⟨p1,p2,p3,p4,p5,p6⟩:=lS bM;have bK:args.length<=40:=opOk_le p1;have aB:=zh p1;have bp:=zh (And.intro p3 p4);have b2:=zh p5;have cl:=zl hb;obtain⟨l,HK,HI⟩:=zk3 hb hk IH
 have bq:Hid (∀i,i<args.length->okE (λs=>decide (s∈av)) k (args.getD i ex0)=true):=zh λi hi=>by
  rw[yj,yp hi];exact p6 _ (AJ hi)
 obtain⟨F,hF⟩:=zv (λws=>if op=1 then Bm.ret (au n.toNat 16) else if op=2 then vlB (V name) else opW op ws:List (List Nat)->Bm (List Nat));have HF:=zh hF
 have bb:Hid (iu V (k+1) (.mk op n name args) d=((kE (nX (iu V k) (args.drop 0)) []).bind F) d):=zh (by
  rw[<-tP,hF]
  rfl)
 obtain⟨PQ,bC⟩:=zv (iu V (k+1) (.mk op n name args) d);rw[<-bC] at bb⊢;obtain⟨b3,bW⟩:=zk2 hr a5;obtain⟨A,c,rfl,cf⟩:=hr.slice;obtain⟨m,hm⟩:=zv (args.length);have HM:=zh hm;have bV:Hid (∀W,w.grownBy W (some g)->Rs (exR dd) W (.slice A m c) args (NG g)):=zh λW Q=>by rw[hm];exact rs_ng hr a5 Q
 have MK:=nD m (by omega);rw[<-hm] at bq cf bK aB⊢;have ay:Hid ((wv z16).size=16):=zh (by rw[ak];rfl);have bZ:Hid ((madeCells (wv z16) (m*16)).size=m*16):=zh (size_madeCells _ _);clear hb hk IH bM p1 p2 p3 p4 p5 p6 hF bC hr a5 hm b3 bW;generalize madeCells (wv z16) (m*16)=MC at*;go_enter Tryz.func74,Tryz.ntmps74;go_upto_region 1 with fail;rw[<-dr];generalize aw:w.alloc _=zw1 at*;generalize bT:zw1.alloc _=zw2 at*;generalize bU:zw2.alloc _=w1 at*;obtain⟨HB,G,D,I⟩:=zB3 aw bT bU;clear aw bT bU;replace l:=zh (l.out.below HB);have br:=zh I.out.lt;have b7:=MK w1;clear MK;have aX:=za D 3 rfl;go_upto_region 2 with fail;clear aX;clear b7;generalize aw:w1.alloc _=w2 at*;obtain⟨X,H⟩:=zA1 aw;clear aw;replace l:=zb l X;replace G:=zb G X;replace D:=zb D X;replace I:=zb I X;replace HB:=zb HB X;clear X;have cm:=br.out;generalize w1.heap.size=gw at*;have z:=zh (aI (row:=some g) HB);clear HB br;have aX:=za D 3 rfl;go_wp2_with fail;clear aX
 go_loopw [16] (λi wr=>∃(j:Nat) (T:List (List Nat)) (cs:Array Value) (d1:List Nd),j<=m/\i= .int .i64 (j:Nat)/\BB wr g C d1/\Ext d d1/\T.length=j/\(∀b∈T,okW d1 b)/\WA cs T/\cs.size=m*16/\Box wr gw cs 146/\Box wr w.heap.size #[.pointer (some ⟨g,0,none⟩)] 140/\Box wr (w.heap.size+1) #[.int .i64 op,.int .i64 n,.string name,.slice A m c] 79/\Box wr (w.heap.size+1+1) (wv z16) 146/\w.grownBy wr (some g)/\PQ=((kE (nX (iu V k) (args.drop j)) T).bind F) d1) (λi _=>m-(intOf i).toNat)
 case atStart=>exact⟨0,[],MC,d,yt _,rfl,l,Ext.refl d,rfl,λb hb=>by simp at hb,λj hj=>by simp at hj,bZ,H,G,D,I,z,bb⟩
 case round=>
  obtain⟨j,T,cs,d1,hj,rfl,hb,he,bD,bF,bN,a4,bS,bP,bQ,bR,L,hq⟩:=hrel;clear l H G D I z bb;obtain⟨l,HE,an,ao,ap,a9⟩:=zk6 hb he bD bF bN a4;obtain⟨H,G,D,I,z,P⟩:=zk6 bS bP bQ bR L hq;clear hb he bD bF bN a4 bS bP bQ bR L hq
  by_cases bk:j<m
  ·have bJ:(j:Int)<(m:Int):=by omega
   have j0:(0:Int)<=(j:Int):=by omega
   have bH:j<args.length:=by rw[<-HM.out];exact bk
   obtain⟨A',c',e1,_,bO⟩:=(bV wr z).exs;obtain⟨b,o,p,d',e2,ck,_,ar,bn,bG⟩:=bO j bH
   have e3:A=some ⟨b,o,none⟩:=by
    simp only[yA] at e1;rw[e1.1,e2]
   subst e3;have v0:=ar 0 _ rfl;have v1:=ar 1 _ rfl;have v2:=ar 2 _ rfl;have v3:=ar 3 _ rfl;rw[yU] at v0;have a7:=zh (bq j bk);replace P:=zh (P.out.trans (congrFun (xw (x0:=ex0) bH) d1));obtain⟨aS,ba⟩:=zk2 bn bG;generalize args.getD j ex0=e at*;obtain⟨Ap,cp,rfl,cc⟩:=bn.slice;clear bO ar e1 e2 bn bG;obtain⟨eo,bh⟩:=zv (e.op);obtain⟨en,bg⟩:=zv (e.n);obtain⟨em,bf⟩:=zv (e.name);obtain⟨el,be⟩:=zv (e.args.length);rw[<-bh] at v0;rw[<-bg] at v1;rw[<-bf] at v2;rw[<-be] at v3 aS ba;have CW:=zh fun(W:World) (ca:BB W g C d1) (cb:BK W g C vars a6 V av) (hR:Rs (exR d') W (.slice Ap el cp) e.args (NG g))=>HI.out W d1 ca cb d' e (.slice Ap el cp) a7 hR (by rw[<-be];exact ba);rw[<-bh,<-bg,<-bf] at CW;clear bh bg bf be cc;go_upto_region 5 with fail;clear v0 v1 v2 v3;have XA:=zh (Box.new wr 79 #[.int .i64 eo,.int .i64 en,.string em,.slice Ap el cp]);have ci:w.heap.size<=wr.heap.size:=z.out.size;have X:=ac wr (.cells #[.int .i64 eo,.int .i64 en,.string em,.slice Ap el cp] 79);replace l:=zb l X;replace H:=zb H X;replace G:=zb G X;replace D:=zb D X;replace I:=zb I X;replace z:=zh (aj z X);replace aS:=zb aS X;clear X;generalize wr.alloc (.cells #[.int .i64 eo,.int .i64 en,.string em,.slice Ap el cp] 79)=w3 at*;generalize wr.heap.size=ga at*;have aU:=za G 0 rfl;have bv:=za XA 0 rfl;have bw:=za XA 1 rfl;have bx:=za XA 2 rfl;have bz:=za XA 3 rfl;have CO:=zh (CW w3 l (HK.out.step z) aS);go_wp2_with fail;refine CO.out.mono λe w4 N=> ?_;have hz:=zo P HE z N;clear P l HE z N CO;rcases hz with⟨rfl,hn⟩|⟨r,d2,rfl,P,l,he,ad,L,HE,z⟩
   ·exact⟨rfl,zn hn⟩
   replace H:=zg H L (by omega);replace G:=zg G L (by omega);replace D:=zg D L (by omega);replace I:=zg I L (by omega);have aL:=zh he;clear he L;clear aU bv bw bx bz;clear CW aS ba a7;unfold cH;have K:Hid ((wv r).size=16):=zh (by rw[ak,ad.out.1]);have H1:Hid ((wv r).all (·.oneCell')=true):=zh (bo _);have b1:Hid (j*16+16<=cs.size):=zh (by rw[a9.out];omega);obtain⟨CR,J⟩:=zv (wv r);have af:=zh J;rw[<-J] at K H1⊢;clear J;go_wp2_with(refine wm_store rfl _ _ rfl gw (j*16) CR (by rfl) (by rfl) H b1 K H1 ?_;intro w5 b8 aR);go_roundw
   ·refine⟨j+1,T++[r],dt cs (j*16) CR.toList,d2,by omega,by go_num,l.out.grownBox H (by decide) (by omega) aR,HE,by rw[yu,an.out];rfl,λb hb=> ?_, ?_,by rw[mo];exact a9,b8,ai G aR (by omega),ai D aR (by omega),ai I aR (by omega),aG z aR (by omega),P⟩
    ·rcases AQ.1 hb with hb|hb
     ·exact(ao b hb).ext aL.out
     ·rw[AW.1 hb];exact ad
    ·have:=ap.out.snoc ad.out.1 (by rw[an.out,a9.out];omega);rw[an.out,<-af.out] at this;exact this
   ·simp[intOf];omega
  ·have bJ:¬(j:Int)<(m:Int):=by omega
   have bj:j=m:=by omega
   replace P:=zh (show PQ=F T d1 by rw[P.out,bj,HM.out,mapB_end]);replace an:=zh (show T.length=m by rw[an.out,bj]);rw[HF.out] at P;clear bj bk hj;have a4:=tI aB;rcases a4 with rfl|rfl|rfl|rfl|rfl|rfl|rfl|rfl|⟨h7,b9⟩
   ·skip
    obtain⟨nn,rfl⟩:=BW bp.out.1;have hn:nn<65536:=by have:=bp.out.2;omega
    replace P:Hid (PQ=(Bm.ret (au nn 16)) d1):=zh P;have ab:=za D 0 rfl;have bA:=za D 1 rfl;go_wp2_with fail;refine(dc wr nn hn).mono ?_;rintro e w3 ⟨rfl,hb⟩;clear ab bA;replace l:=zb l hb;replace I:=zb I hb;replace z:=zh (aj z hb);clear hb;have K:Hid ((wv (au nn 16)).size=16):=zh (by rw[ak];exact(dm l.out.2 nn).1);have H1:Hid ((wv (au nn 16)).all (·.oneCell')=true):=zh (bo _);unfold cH;obtain⟨CR,J⟩:=zv (wv (au nn 16));have af:=zh J;rw[<-J] at K H1⊢;clear J;go_wp2_with(refine aM rfl _ _ rfl (w.heap.size+1+1) CR (by rfl) (by rfl) I ay K H1 ?_;intro w9 am E);refine yQ (v:= .agg CR) (aV Tryz.results74 _ rfl am K) rfl ?_;have al:PQ=some (au nn 16,d1):=P.out;rw[al,af.out];exact⟨aG z E (by omega),rfl,l.out.grownBox I (by decide) (by omega) E,HE,dm l.out.2 nn⟩
   ·skip
    have b0:=zh (AD (b2 rfl));have aU:=za G 0 rfl;have ab:=za D 0 rfl;have bB:=za D 2 rfl;replace P:Hid (PQ=((vlB (V name)).bind λr=>Bm.ret r) d1):=zh (by simp only[dH];exact P);have CO:=zh (uo wr g C d1 l vars a6 V av (HK.out.step z) name b0);go_wp2_with fail;refine CO.out.mono λe w3 N=> ?_;have hz:=zo P HE z N;clear P l HE z N CO;rcases hz with⟨rfl,hn⟩|⟨r,d2,rfl,P,l,he,ad,L,HE,z⟩
    ·exact⟨rfl,zn hn⟩
    replace I:=zg I L (by omega);clear he L;clear aU ab bB;have K:Hid ((wv (r)).size=16):=zh (by rw[ak];exact(ad).1);have H1:Hid ((wv (r)).all (·.oneCell')=true):=zh (bo _);unfold cH;obtain⟨CR,J⟩:=zv (wv (r));have af:=zh J;rw[<-J] at K H1⊢;clear J;go_wp2_with(refine aM rfl _ _ rfl (w.heap.size+1+1) CR (by rfl) (by rfl) I ay K H1 ?_;intro w9 am E);refine yQ (v:= .agg CR) (aV Tryz.results74 _ rfl am K) rfl ?_;have al:PQ=some (r,d2):=P.out;rw[al,af.out];exact⟨aG z E (by omega),rfl,l.out.grownBox I (by decide) (by omega) E,HE,ad⟩
   ·skip
    have Y:Hid (m=1):=zh (by have p1:=aB.out;simpa [eY] using p1);replace P:Hid (PQ=((bE (T.getD 0 []) 0).bind λt=>(fE t).bind λu=>Bm.ret (aH u)) d1):=zh (by exact P);have R:0<T.length:=by rw[an.out,Y.out];decide
    have aP:0<m:=by rw[Y.out];decide
    have aA:(0:Int)<(m:Int):=by omega
    have ag:Hid (okW d1 (T.getD 0 [])):=zh (by
     rw[yj,yp R];exact ao _ (AJ R))
    have aa:∀W,Box W gw cs 146->W.rangeAt gw (0*16) (wv (T.getD 0 [])).toList:=λW h=>ap.out.range h R;generalize T.getD 0 []=x0 at*;obtain⟨Z,M⟩:=zv (wv x0);have U:=zh M;have ah:Hid (Z.size=16):=zh (by rw[U.out,ak,ag.out.1]);rw[<-M] at aa;have R0:Hid (∀W,Box W gw cs 146->W.rangeAt gw 0 Z.toList):=zh aa;clear M aa R;have ab:=za D 0 rfl;go_upto_region 13 with fail;clear ab;refine Ab (S:=SB3 w.heap.size gw (w.heap.size+1) #[.pointer (some ⟨g,0,none⟩)] cs #[.int .i64 4,.int .i64 n,.string name,.slice A m c]) (by kernel_rfl) ⟨G,H,D⟩ (λhS=> ?_);have B:Below wr.heap.size wr wr.drew:=ae _;replace G:=zb G B;replace H:=zb H B;replace D:=zb D B;replace I:=zb I B;replace l:=zb l B;replace z:=zh (aj z B);clear B;generalize wr.drew=w3 at*;refine zt 0 (.pointer (some ⟨g,0,none⟩)) rfl (Or.inl ⟨by rfl,λW Q=>by obtain⟨s1,s2,s3⟩:=Q;have q:=s1.at_ 0 _ rfl;go_simp⟩) ?_;simp only[zp];refine zt 1 (.pointer (some ⟨g,0,none⟩)) rfl (Or.inl ⟨by rfl,λW Q=>by obtain⟨s1,s2,s3⟩:=Q;have q:=s1.at_ 0 _ rfl;go_simp⟩) ?_;simp only[zp];refine zt 2 (.slice (some ⟨gw,0,none⟩) m m) rfl (Or.inl ⟨by rfl,λW Q=>by go_simp⟩) ?_;simp only[zp];refine zt 3 (.pointer (some ⟨gw,0,none⟩)) rfl (Or.inl ⟨by rfl,λW Q=>by go_simp⟩) ?_;simp only[zp];refine zt 4 (.agg Z) rfl (dy (by rfl) _ (by rfl) gw 0 (by rfl) (λW Q=>R0.out W Q.2.1) ah) ?_;simp only[zp];clear hS;refine ax (i:=5) (by kernel_rfl) rfl ?_;go_wp2_with fail;have CO:=zh (jX w3 g C d1 l x0 ag);rw[<-U.out] at CO;refine CO.out.mono λe w4 N=> ?_;have hz:=zo P HE z N;clear P l HE z N CO;rcases hz with⟨rfl,hn⟩|⟨t,d2,rfl,P,l,he,aJ,L,HE,z⟩
    ·exact⟨rfl,zn hn⟩
    replace G:=zg G L (by omega);replace H:=zg H L (by omega);replace D:=zg D L (by omega);replace I:=zg I L (by omega);clear he L;unfold bI;go_wp2_with fail;refine⟨⟨G,H,D⟩, ?_⟩;refine ax (i:=6) (by kernel_rfl) rfl ?_;go_wp2_with fail;have CO:=zh (kc w4 g C d2 l t aJ);refine CO.out.mono λe w5 N=> ?_;have hz:=zo P HE z N;clear P l HE z N CO;rcases hz with⟨rfl,hn⟩|⟨u,d3,rfl,P,l,he,bu,L,HE,z⟩
    ·exact⟨rfl,zn hn⟩
    replace G:=zg G L (by omega);replace H:=zg H L (by omega);replace D:=zg D L (by omega);replace I:=zg I L (by omega);clear he L;unfold bI;go_wp2_with fail;refine⟨⟨G,H,D⟩, ?_⟩;refine ax (i:=7) (by kernel_rfl) rfl ?_;go_wp2_with fail;refine(gO w5 u).mono ?_;rintro e w6 ⟨rfl,hb⟩;replace G:=zb G hb;replace H:=zb H hb;replace D:=zb D hb;replace I:=zb I hb;replace l:=zb l hb;replace z:=zh (aj z hb);clear hb;have K:Hid ((wv (aH u)).size=16):=zh (by rw[ak];exact(eZ l.out.2 bu).1);have H1:Hid ((wv (aH u)).all (·.oneCell')=true):=zh (bo _);unfold cH;obtain⟨CR,J⟩:=zv (wv (aH u));have af:=zh J;rw[<-J] at K H1⊢;clear J;go_wp2_with fail;refine⟨⟨G,H,D⟩, ?_⟩;refine ax (i:=8) (by kernel_rfl) rfl ?_;go_wp2_with(refine aM rfl _ _ rfl (w.heap.size+1+1) CR (by rfl) (by rfl) I ay K H1 ?_;intro w9 am E);refine⟨⟨ai G E (by omega),ai H E (by omega),ai D E (by omega)⟩,AN (by kernel_rfl) ?_ _⟩;go_wp2_with fail;refine yQ (v:= .agg CR) (aV Tryz.results74 _ rfl am K) rfl ?_;have al:PQ=some (aH u,d3):=P.out;rw[al,af.out];exact⟨aG z E (by omega),rfl,l.out.grownBox I (by decide) (by omega) E,HE,eZ l.out.2 bu⟩
   ·skip
    have Y:Hid (m=1):=zh (by have p1:=aB.out;simpa [eY] using p1);replace P:Hid (PQ=((iS (T.getD 0 [])).bind λr=>Bm.ret r) d1):=zh (by simp only[dH];exact P);have R:0<T.length:=by rw[an.out,Y.out];decide
    have aP:0<m:=by rw[Y.out];decide
    have aA:(0:Int)<(m:Int):=by omega
    have ag:Hid (okW d1 (T.getD 0 [])):=zh (by
     rw[yj,yp R];exact ao _ (AJ R))
    have aa:∀W,Box W gw cs 146->W.rangeAt gw (0*16) (wv (T.getD 0 [])).toList:=λW h=>ap.out.range h R;generalize T.getD 0 []=x0 at*;obtain⟨Z,M⟩:=zv (wv x0);have U:=zh M;have ah:Hid (Z.size=16):=zh (by rw[U.out,ak,ag.out.1]);rw[<-M] at aa;have R0:Hid (∀W,Box W gw cs 146->W.rangeAt gw 0 Z.toList):=zh aa;clear M aa R;have ab:=za D 0 rfl;go_upto_region 15 with fail;clear ab;refine Ab (S:=SB3 w.heap.size gw (w.heap.size+1) #[.pointer (some ⟨g,0,none⟩)] cs #[.int .i64 5,.int .i64 n,.string name,.slice A m c]) (by kernel_rfl) ⟨G,H,D⟩ (λhS=> ?_);have B:Below wr.heap.size wr wr.drew:=ae _;replace G:=zb G B;replace H:=zb H B;replace D:=zb D B;replace I:=zb I B;replace l:=zb l B;replace z:=zh (aj z B);clear B;generalize wr.drew=w3 at*;refine zt 0 (.pointer (some ⟨g,0,none⟩)) rfl (Or.inl ⟨by rfl,λW Q=>by obtain⟨s1,s2,s3⟩:=Q;have q:=s1.at_ 0 _ rfl;go_simp⟩) ?_;simp only[zp];refine zt 1 (.slice (some ⟨gw,0,none⟩) m m) rfl (Or.inl ⟨by rfl,λW Q=>by go_simp⟩) ?_;simp only[zp];refine zt 2 (.pointer (some ⟨gw,0,none⟩)) rfl (Or.inl ⟨by rfl,λW Q=>by go_simp⟩) ?_;simp only[zp];refine zt 3 (.agg Z) rfl (dy (by rfl) _ (by rfl) gw 0 (by rfl) (λW Q=>R0.out W Q.2.1) ah) ?_;simp only[zp];clear hS;refine ax (i:=4) (by kernel_rfl) rfl ?_;go_wp2_with fail;have CO:=zh (lw w3 g C d1 l x0 ag);rw[<-U.out] at CO;refine CO.out.mono λe w4 N=> ?_;have hz:=zo P HE z N;clear P l HE z N CO;rcases hz with⟨rfl,hn⟩|⟨r,d2,rfl,P,l,he,ad,L,HE,z⟩
    ·exact⟨rfl,zn hn⟩
    replace G:=zg G L (by omega);replace H:=zg H L (by omega);replace D:=zg D L (by omega);replace I:=zg I L (by omega);clear he L;have K:Hid ((wv (r)).size=16):=zh (by rw[ak];exact(ad).1);have H1:Hid ((wv (r)).all (·.oneCell')=true):=zh (bo _);unfold cH;obtain⟨CR,J⟩:=zv (wv (r));have af:=zh J;rw[<-J] at K H1⊢;clear J;go_wp2_with fail;refine⟨⟨G,H,D⟩, ?_⟩;refine ax (i:=5) (by kernel_rfl) rfl ?_;go_wp2_with(refine aM rfl _ _ rfl (w.heap.size+1+1) CR (by rfl) (by rfl) I ay K H1 ?_;intro w9 am E);refine⟨⟨ai G E (by omega),ai H E (by omega),ai D E (by omega)⟩,AN (by kernel_rfl) ?_ _⟩;go_wp2_with fail;refine yQ (v:= .agg CR) (aV Tryz.results74 _ rfl am K) rfl ?_;have al:PQ=some (r,d2):=P.out;rw[al,af.out];exact⟨aG z E (by omega),rfl,l.out.grownBox I (by decide) (by omega) E,HE,ad⟩
   ·skip
    have Y:Hid (m=1):=zh (by have p1:=aB.out;simpa [eY] using p1);replace P:Hid (PQ=((oI (au 0 16) (T.getD 0 [])).bind λr=>Bm.ret r) d1):=zh (by simp only[dH];exact P);have R:0<T.length:=by rw[an.out,Y.out];decide
    have aP:0<m:=by rw[Y.out];decide
    have aA:(0:Int)<(m:Int):=by omega
    have ag:Hid (okW d1 (T.getD 0 [])):=zh (by
     rw[yj,yp R];exact ao _ (AJ R))
    have aa:∀W,Box W gw cs 146->W.rangeAt gw (0*16) (wv (T.getD 0 [])).toList:=λW h=>ap.out.range h R;generalize T.getD 0 []=x0 at*;obtain⟨Z,M⟩:=zv (wv x0);have U:=zh M;have ah:Hid (Z.size=16):=zh (by rw[U.out,ak,ag.out.1]);rw[<-M] at aa;have R0:Hid (∀W,Box W gw cs 146->W.rangeAt gw 0 Z.toList):=zh aa;clear M aa R;have ab:=za D 0 rfl;go_upto_region 17 with fail;clear ab;refine Ab (S:=SB3 w.heap.size gw (w.heap.size+1) #[.pointer (some ⟨g,0,none⟩)] cs #[.int .i64 6,.int .i64 n,.string name,.slice A m c]) (by kernel_rfl) ⟨G,H,D⟩ (λhS=> ?_);have B:Below wr.heap.size wr wr.drew:=ae _;replace G:=zb G B;replace H:=zb H B;replace D:=zb D B;replace I:=zb I B;replace l:=zb l B;replace z:=zh (aj z B);clear B;generalize wr.drew=w3 at*;refine zt 0 (.pointer (some ⟨g,0,none⟩)) rfl (Or.inl ⟨by rfl,λW Q=>by obtain⟨s1,s2,s3⟩:=Q;have q:=s1.at_ 0 _ rfl;go_simp⟩) ?_;simp only[zp];refine zt 2 (.slice (some ⟨gw,0,none⟩) m m) rfl (Or.inl ⟨by rfl,λW Q=>by go_simp⟩) ?_;simp only[zp];refine zt 3 (.pointer (some ⟨gw,0,none⟩)) rfl (Or.inl ⟨by rfl,λW Q=>by go_simp⟩) ?_;simp only[zp];refine zt 4 (.agg Z) rfl (dy (by rfl) _ (by rfl) gw 0 (by rfl) (λW Q=>R0.out W Q.2.1) ah) ?_;simp only[zp];clear hS;refine ax (i:=1) (by kernel_rfl) rfl ?_;go_wp2_with fail;refine(dc w3 0 (by decide)).mono ?_;rintro e ch ⟨rfl,hb⟩;replace G:=zb G hb;replace H:=zb H hb;replace D:=zb D hb;replace I:=zb I hb;replace l:=zb l hb;replace z:=zh (aj z hb);clear hb;unfold cH;obtain⟨KS,bi⟩:=zv (wv (au 0 16));have bY:=zh bi;rw[<-bi];clear bi;go_wp2_with fail;refine⟨⟨G,H,D⟩, ?_⟩;refine ax (i:=5) (by kernel_rfl) rfl ?_;go_wp2_with fail;have CO:=zh (lu ch g C d1 l (au 0 16) x0 (dm l.out.2 0) ag);rw[<-bY.out,<-U.out] at CO;refine CO.out.mono λe w4 N=> ?_;have hz:=zo P HE z N;clear P l HE z N CO;rcases hz with⟨rfl,hn⟩|⟨r,d2,rfl,P,l,he,ad,L,HE,z⟩
    ·exact⟨rfl,zn hn⟩
    replace G:=zg G L (by omega);replace H:=zg H L (by omega);replace D:=zg D L (by omega);replace I:=zg I L (by omega);clear he L;have K:Hid ((wv (r)).size=16):=zh (by rw[ak];exact(ad).1);have H1:Hid ((wv (r)).all (·.oneCell')=true):=zh (bo _);unfold cH;obtain⟨CR,J⟩:=zv (wv (r));have af:=zh J;rw[<-J] at K H1⊢;clear J;go_wp2_with fail;refine⟨⟨G,H,D⟩, ?_⟩;refine ax (i:=6) (by kernel_rfl) rfl ?_;go_wp2_with(refine aM rfl _ _ rfl (w.heap.size+1+1) CR (by rfl) (by rfl) I ay K H1 ?_;intro w9 am E);refine⟨⟨ai G E (by omega),ai H E (by omega),ai D E (by omega)⟩,AN (by kernel_rfl) ?_ _⟩;go_wp2_with fail;refine yQ (v:= .agg CR) (aV Tryz.results74 _ rfl am K) rfl ?_;have al:PQ=some (r,d2):=P.out;rw[al,af.out];exact⟨aG z E (by omega),rfl,l.out.grownBox I (by decide) (by omega) E,HE,ad⟩
   ·skip
    have Y:Hid (m=1):=zh (by have p1:=aB.out;simpa [eY] using p1);replace P:Hid (PQ=((j7 (T.getD 0 []) (au 0 16)).bind λr=>Bm.ret r) d1):=zh (by simp only[dH];exact P);have R:0<T.length:=by rw[an.out,Y.out];decide
    have aP:0<m:=by rw[Y.out];decide
    have aA:(0:Int)<(m:Int):=by omega
    have ag:Hid (okW d1 (T.getD 0 [])):=zh (by
     rw[yj,yp R];exact ao _ (AJ R))
    have aa:∀W,Box W gw cs 146->W.rangeAt gw (0*16) (wv (T.getD 0 [])).toList:=λW h=>ap.out.range h R;generalize T.getD 0 []=x0 at*;obtain⟨Z,M⟩:=zv (wv x0);have U:=zh M;have ah:Hid (Z.size=16):=zh (by rw[U.out,ak,ag.out.1]);rw[<-M] at aa;have R0:Hid (∀W,Box W gw cs 146->W.rangeAt gw 0 Z.toList):=zh aa;clear M aa R;have ab:=za D 0 rfl;go_upto_region 19 with fail;clear ab;refine Ab (S:=SB3 w.heap.size gw (w.heap.size+1) #[.pointer (some ⟨g,0,none⟩)] cs #[.int .i64 25,.int .i64 n,.string name,.slice A m c]) (by kernel_rfl) ⟨G,H,D⟩ (λhS=> ?_);have B:Below wr.heap.size wr wr.drew:=ae _;replace G:=zb G B;replace H:=zb H B;replace D:=zb D B;replace I:=zb I B;replace l:=zb l B;replace z:=zh (aj z B);clear B;generalize wr.drew=w3 at*;refine zt 0 (.pointer (some ⟨g,0,none⟩)) rfl (Or.inl ⟨by rfl,λW Q=>by obtain⟨s1,s2,s3⟩:=Q;have q:=s1.at_ 0 _ rfl;go_simp⟩) ?_;simp only[zp];refine zt 1 (.slice (some ⟨gw,0,none⟩) m m) rfl (Or.inl ⟨by rfl,λW Q=>by go_simp⟩) ?_;simp only[zp];refine zt 2 (.pointer (some ⟨gw,0,none⟩)) rfl (Or.inl ⟨by rfl,λW Q=>by go_simp⟩) ?_;simp only[zp];refine zt 3 (.agg Z) rfl (dy (by rfl) _ (by rfl) gw 0 (by rfl) (λW Q=>R0.out W Q.2.1) ah) ?_;simp only[zp];clear hS;refine ax (i:=4) (by kernel_rfl) rfl ?_;go_wp2_with fail;have CO:=zh (blOnes w3 g C d1 l x0 ag);rw[<-U.out] at CO;refine CO.out.mono λe w4 N=> ?_;have hz:=zo P HE z N;clear P l HE z N CO;rcases hz with⟨rfl,hn⟩|⟨r,d2,rfl,P,l,he,ad,L,HE,z⟩
    ·exact⟨rfl,zn hn⟩
    replace G:=zg G L (by omega);replace H:=zg H L (by omega);replace D:=zg D L (by omega);replace I:=zg I L (by omega);clear he L;have K:Hid ((wv (r)).size=16):=zh (by rw[ak];exact(ad).1);have H1:Hid ((wv (r)).all (·.oneCell')=true):=zh (bo _);unfold cH;obtain⟨CR,J⟩:=zv (wv (r));have af:=zh J;rw[<-J] at K H1⊢;clear J;go_wp2_with fail;refine⟨⟨G,H,D⟩, ?_⟩;refine ax (i:=5) (by kernel_rfl) rfl ?_;go_wp2_with(refine aM rfl _ _ rfl (w.heap.size+1+1) CR (by rfl) (by rfl) I ay K H1 ?_;intro w9 am E);refine⟨⟨ai G E (by omega),ai H E (by omega),ai D E (by omega)⟩,AN (by kernel_rfl) ?_ _⟩;go_wp2_with fail;refine yQ (v:= .agg CR) (aV Tryz.results74 _ rfl am K) rfl ?_;have al:PQ=some (r,d2):=P.out;rw[al,af.out];exact⟨aG z E (by omega),rfl,l.out.grownBox I (by decide) (by omega) E,HE,ad⟩
   ·skip
    have Y:Hid (3<=m/\m<=33):=zh (by have p1:=aB.out;simp[eY] at p1;omega);replace P:Hid (PQ=((dN (T.getD 0 []) T.tail 0).bind λt=>Bm.ret (aH t)) d1):=zh (by exact P);have R:0<T.length:=by rw[an.out];have:=Y.out;omega
    have aP:0<m:=by have:=Y.out;omega
    have aA:(0:Int)<(m:Int):=by omega
    have ag:Hid (okW d1 (T.getD 0 [])):=zh (by
     rw[yj,yp R];exact ao _ (AJ R))
    have aa:∀W,Box W gw cs 146->W.rangeAt gw (0*16) (wv (T.getD 0 [])).toList:=λW h=>ap.out.range h R;have b5:Hid (∀ws∈T.tail,okW d1 ws):=zh λws cg=>ao.out ws (List.mem_of_mem_tail cg);have b4:Hid (T.tail.length=m-1):=zh (by rw[List.length_tail,an.out]);have b6:Hid (∀W,Box W gw cs 146->WL W gw 16 T.tail):=zh λW h=>ap.out.wl h;have m1:1<=m:=by have:=Y.out;omega
    have co:(1:Int)<=(m:Int):=by omega
    have cq:¬m=1:=by have:=Y.out;omega
    generalize T.tail=bt at*;generalize T.getD 0 []=x0 at*;obtain⟨Z,M⟩:=zv (wv x0);have U:=zh M;have ah:Hid (Z.size=16):=zh (by rw[U.out,ak,ag.out.1]);rw[<-M] at aa;have R0:Hid (∀W,Box W gw cs 146->W.rangeAt gw 0 Z.toList):=zh aa;clear M aa R;have ab:=za D 0 rfl;go_upto_region 21 with fail;clear ab;refine Ab (S:=SB3 w.heap.size gw (w.heap.size+1) #[.pointer (some ⟨g,0,none⟩)] cs #[.int .i64 23,.int .i64 n,.string name,.slice A m c]) (by kernel_rfl) ⟨G,H,D⟩ (λhS=> ?_);have B:Below wr.heap.size wr wr.drew:=ae _;replace G:=zb G B;replace H:=zb H B;replace D:=zb D B;replace I:=zb I B;replace l:=zb l B;replace z:=zh (aj z B);clear B;generalize wr.drew=w3 at*;refine zt 0 (.pointer (some ⟨g,0,none⟩)) rfl (Or.inl ⟨by rfl,λW Q=>by obtain⟨s1,s2,s3⟩:=Q;have q:=s1.at_ 0 _ rfl;go_simp⟩) ?_;simp only[zp];refine zt 1 (.slice (some ⟨gw,0,none⟩) m m) rfl (Or.inl ⟨by rfl,λW Q=>by go_simp⟩) ?_;simp only[zp];refine zt 2 (.pointer (some ⟨gw,0,none⟩)) rfl (Or.inl ⟨by rfl,λW Q=>by go_simp⟩) ?_;simp only[zp];refine zt 3 (.agg Z) rfl (dy (by rfl) _ (by rfl) gw 0 (by rfl) (λW Q=>R0.out W Q.2.1) ah) ?_;simp only[zp];refine zt 4 (.slice (some ⟨gw,0,none⟩) m m) rfl (Or.inl ⟨by rfl,λW Q=>by go_simp⟩) ?_;simp only[zp];refine zt 5 (.slice (some ⟨gw,16,none⟩) (m-1) (m-1)) rfl (Or.inl ⟨by rfl,λW Q=>by go_simp⟩) ?_;simp only[zp];clear hS;refine ax (i:=6) (by kernel_rfl) rfl ?_;go_wp2_with fail;have CO:=zh (blInside w3 g C d1 l x0 ag gw 16 (m-1) (m-1) bt (b6 _ H) b4 (yq _) (by omega) b5 (by omega));rw[<-U.out] at CO;refine CO.out.mono λe w4 N=> ?_;have hz:=zo P HE z N;clear P l HE z N CO;rcases hz with⟨rfl,hn⟩|⟨t,d2,rfl,P,l,he,aJ,L,HE,z⟩
    ·exact⟨rfl,zn hn⟩
    replace G:=zg G L (by omega);replace H:=zg H L (by omega);replace D:=zg D L (by omega);replace I:=zg I L (by omega);clear he L;unfold bI;go_wp2_with fail;refine⟨⟨G,H,D⟩, ?_⟩;refine ax (i:=7) (by kernel_rfl) rfl ?_;go_wp2_with fail;refine(gO w4 t).mono ?_;rintro e w6 ⟨rfl,hb⟩;replace G:=zb G hb;replace H:=zb H hb;replace D:=zb D hb;replace I:=zb I hb;replace l:=zb l hb;replace z:=zh (aj z hb);clear hb;have K:Hid ((wv (aH t)).size=16):=zh (by rw[ak];exact(eZ l.out.2 aJ).1);have H1:Hid ((wv (aH t)).all (·.oneCell')=true):=zh (bo _);unfold cH;obtain⟨CR,J⟩:=zv (wv (aH t));have af:=zh J;rw[<-J] at K H1⊢;clear J;go_wp2_with fail;refine⟨⟨G,H,D⟩, ?_⟩;refine ax (i:=8) (by kernel_rfl) rfl ?_;go_wp2_with(refine aM rfl _ _ rfl (w.heap.size+1+1) CR (by rfl) (by rfl) I ay K H1 ?_;intro w9 am E);refine⟨⟨ai G E (by omega),ai H E (by omega),ai D E (by omega)⟩,AN (by kernel_rfl) ?_ _⟩;go_wp2_with fail;refine yQ (v:= .agg CR) (aV Tryz.results74 _ rfl am K) rfl ?_;have al:PQ=some (aH t,d2):=P.out;rw[al,af.out];exact⟨aG z E (by omega),rfl,l.out.grownBox I (by decide) (by omega) E,HE,eZ l.out.2 aJ⟩
   ·skip
    have Y:Hid (m=3):=zh (by have p1:=aB.out;simpa [eY] using p1);replace P:Hid (PQ=((bE (T.getD 0 []) 0).bind λt=>(cY (λf g=>eR t f g) (T.getD 1 []) (T.getD 2 [])).bind λr=>Bm.ret r) d1):=zh (by simp only[dH];exact P);have R:0<T.length:=by rw[an.out,Y.out];decide
    have aP:0<m:=by rw[Y.out];decide
    have aA:(0:Int)<(m:Int):=by omega
    have ag:Hid (okW d1 (T.getD 0 [])):=zh (by
     rw[yj,yp R];exact ao _ (AJ R))
    have aa:∀W,Box W gw cs 146->W.rangeAt gw (0*16) (wv (T.getD 0 [])).toList:=λW h=>ap.out.range h R;have aC:1<T.length:=by rw[an.out,Y.out];decide
    have ce:1<m:=by rw[Y.out];decide
    have bL:(1:Int)<(m:Int):=by omega
    have aO:Hid (okW d1 (T.getD 1 [])):=zh (by
     rw[yj,yp aC];exact ao _ (AJ aC))
    have aK:∀W,Box W gw cs 146->W.rangeAt gw (1*16) (wv (T.getD 1 [])).toList:=λW h=>ap.out.range h aC;have a3:2<T.length:=by rw[an.out,Y.out];decide
    have cn:2<m:=by rw[Y.out];decide
    have cj:(2:Int)<(m:Int):=by omega
    have bc:Hid (okW d1 (T.getD 2 [])):=zh (by
     rw[yj,yp a3];exact ao _ (AJ a3))
    have bd:∀W,Box W gw cs 146->W.rangeAt gw (2*16) (wv (T.getD 2 [])).toList:=λW h=>ap.out.range h a3;generalize T.getD 0 []=x0 at*;obtain⟨Z,M⟩:=zv (wv x0);have U:=zh M;have ah:Hid (Z.size=16):=zh (by rw[U.out,ak,ag.out.1]);rw[<-M] at aa;have R0:Hid (∀W,Box W gw cs 146->W.rangeAt gw 0 Z.toList):=zh aa;clear M aa R;generalize T.getD 1 []=x1 at*;obtain⟨aD,aq⟩:=zv (wv x1);have az:=zh aq;have aN:Hid (aD.size=16):=zh (by rw[az.out,ak,aO.out.1]);rw[<-aq] at aK;have R1:Hid (∀W,Box W gw cs 146->W.rangeAt gw 16 aD.toList):=zh aK;clear aq aK aC;generalize T.getD 2 []=x2 at*;obtain⟨a2,a1⟩:=zv (wv x2);have aQ:=zh a1;have a8:Hid (a2.size=16):=zh (by rw[aQ.out,ak,bc.out.1]);rw[<-a1] at bd;have R2:Hid (∀W,Box W gw cs 146->W.rangeAt gw 32 a2.toList):=zh bd;clear a1 bd a3;have ab:=za D 0 rfl;go_upto_region 23 with fail;clear ab;refine Ab (S:=SB3 w.heap.size gw (w.heap.size+1) #[.pointer (some ⟨g,0,none⟩)] cs #[.int .i64 22,.int .i64 n,.string name,.slice A m c]) (by kernel_rfl) ⟨G,H,D⟩ (λhS=> ?_);have B:Below wr.heap.size wr wr.drew:=ae _;replace G:=zb G B;replace H:=zb H B;replace D:=zb D B;replace I:=zb I B;replace l:=zb l B;replace z:=zh (aj z B);clear B;generalize wr.drew=w3 at*;refine zt 0 (.pointer (some ⟨g,0,none⟩)) rfl (Or.inl ⟨by rfl,λW Q=>by obtain⟨s1,s2,s3⟩:=Q;have q:=s1.at_ 0 _ rfl;go_simp⟩) ?_;simp only[zp];refine zt 1 (.slice (some ⟨gw,0,none⟩) m m) rfl (Or.inl ⟨by rfl,λW Q=>by go_simp⟩) ?_;simp only[zp];refine zt 2 (.pointer (some ⟨gw,0,none⟩)) rfl (Or.inl ⟨by rfl,λW Q=>by go_simp⟩) ?_;simp only[zp];refine zt 3 (.agg Z) rfl (dy (by rfl) _ (by rfl) gw 0 (by rfl) (λW Q=>R0.out W Q.2.1) ah) ?_;simp only[zp];clear hS;refine heldTwoP (i:=4) (j:=5) (by kernel_rfl) rfl rfl ?_ ?_
    ·skip
     go_wp2_with fail;have CO:=zh (jX w3 g C d1 l x0 ag);rw[<-U.out] at CO;refine CO.out.mono λe w4 N=> ?_;have hz:=zo P HE z N;clear P l HE z N CO;rcases hz with⟨rfl,hn⟩|⟨t,d2,rfl,P,l,he,aJ,L,HE,z⟩
     ·exact⟨rfl,zn hn⟩
     replace G:=zg G L (by omega);replace H:=zg H L (by omega);replace D:=zg D L (by omega);replace I:=zg I L (by omega);have aL:=zh he;clear he L;unfold bI;go_wp2_with fail;refine⟨⟨G,H,D⟩, ?_⟩;refine ax (i:=5) (by kernel_rfl) rfl ?_;go_wp2_with fail;generalize aw:w4.alloc _=w5 at*;obtain⟨X,XT⟩:=zA1 aw;clear aw;have cd:gw<w4.heap.size:=H.out.lt;replace G:=zb G X;replace H:=zb H X;replace D:=zb D X;replace I:=zb I X;replace l:=zb l X;replace z:=zh (aj z X);clear X;generalize w4.heap.size=gt at*;refine⟨⟨G,H,D⟩, ?_⟩;have xt:=za XT 0 rfl;have xz:=XT.out.frozen 0;have xl:=XT.out.lt;refine ax (i:=6) (by kernel_rfl) rfl ?_;go_wp2_with fail;have aE:=zh (l.out.setBox XT (by decide) (by omega) 0 (.int .i64 (t:Nat)));have aT:=zh (G.out.setNe (p:=⟨gt,0,none⟩) (by show gt≠_;omega) (.int .i64 (t:Nat)));have a0:=zh (H.out.setNe (p:=⟨gt,0,none⟩) (by show gt≠_;omega) (.int .i64 (t:Nat)));have aW:=zh (D.out.setNe (p:=⟨gt,0,none⟩) (by show gt≠_;omega) (.int .i64 (t:Nat)));have aY:=zh (I.out.setNe (p:=⟨gt,0,none⟩) (by show gt≠_;omega) (.int .i64 (t:Nat)));have aZ:=zh (XT.out.set_ 0 (.int .i64 (t:Nat)));have aF:=zh (bX (i:=0) (u:= .int .i64 (t:Nat)) z (b:=gt) (by omega));clear l G H D I XT z xt xz xl;generalize w5.setCell ⟨gt,0,none⟩ (.int .i64 (t:Nat))=w7 at*;have l:=aE;have G:=aT;have H:=a0;have D:=aW;have I:=aY;have XT:Hid (Box w7 gt #[.int .i64 (t:Nat)] 3):=aZ;have z:=aF;clear aE aT a0 aW aY aZ aF;refine⟨⟨G,H,D⟩,AN (by kernel_rfl) ?_ _⟩;have bl:=zm;go_upto_region 24 with fail;refine Ab (S:=SB3 w.heap.size gw (w.heap.size+1) #[.pointer (some ⟨g,0,none⟩)] cs #[.int .i64 22,.int .i64 n,.string name,.slice A m c]) (by kernel_rfl) ⟨G,H,D⟩ (λhS=> ?_);have B:Below w7.heap.size w7 w7.drew:=ae _;replace G:=zb G B;replace H:=zb H B;replace D:=zb D B;replace I:=zb I B;replace XT:=zb XT B;replace l:=zb l B;replace z:=zh (aj z B);clear B;generalize w7.drew=w8 at*;refine zt 0 (.slice (some ⟨gw,0,none⟩) m m) rfl (Or.inl ⟨by rfl,λW Q=>by go_simp⟩) ?_;simp only[zp];refine zt 1 (.pointer (some ⟨gw,16,none⟩)) rfl (Or.inl ⟨by rfl,λW Q=>by go_simp⟩) ?_;simp only[zp];refine zt 2 (.agg aD) rfl (dy (by rfl) _ (by rfl) gw 16 (by rfl) (λW Q=>R1.out W Q.2.1) aN) ?_;simp only[zp];refine zt 3 (.slice (some ⟨gw,0,none⟩) m m) rfl (Or.inl ⟨by rfl,λW Q=>by go_simp⟩) ?_;simp only[zp];refine zt 4 (.pointer (some ⟨gw,32,none⟩)) rfl (Or.inl ⟨by rfl,λW Q=>by go_simp⟩) ?_;simp only[zp];refine zt 5 (.agg a2) rfl (dy (by rfl) _ (by rfl) gw 32 (by rfl) (λW Q=>R2.out W Q.2.1) a8) ?_;simp only[zp];refine zt 6 (.func (.func 133) #[] #[.pointer (some ⟨w.heap.size,0,none⟩),.pointer (some ⟨gt,0,none⟩)]) rfl (Or.inl ⟨by rfl,λW Q=>by go_simp⟩) ?_;simp only[zp];clear hS bl;refine ax (i:=7) (by kernel_rfl) rfl ?_;go_wp2_with fail;have CO:=zh (lq w8 g C d2 l x1 x2 (aO.out.ext aL.out) (bc.out.ext aL.out) 133 #[] #[.pointer (some ⟨w.heap.size,0,none⟩),.pointer (some ⟨gt,0,none⟩)] (λf g=>eR t f g) (λx y W=>by kernel_rfl) (λW d4 x y hb he L hx hy=>wi W g C d4 hb w.heap.size gt t x y (ai G L (by omega)) (ai XT L (by omega)) (aJ.out.ext he) hx hy));rw[<-az.out,<-aQ.out] at CO;refine CO.out.mono λe w9 N=> ?_;have hz:=zo P HE z N;clear P l HE z N CO;rcases hz with⟨rfl,hn⟩|⟨r,d3,rfl,P,l,he,ad,L,HE,z⟩
     ·exact⟨rfl,zn hn⟩
     replace G:=zg G L (by omega);replace H:=zg H L (by omega);replace D:=zg D L (by omega);replace I:=zg I L (by omega);clear he L;have K:Hid ((wv (r)).size=16):=zh (by rw[ak];exact(ad).1);have H1:Hid ((wv (r)).all (·.oneCell')=true):=zh (bo _);unfold cH;obtain⟨CR,J⟩:=zv (wv (r));have af:=zh J;rw[<-J] at K H1⊢;clear J;go_wp2_with fail;refine⟨⟨G,H,D⟩, ?_⟩;refine ax (i:=8) (by kernel_rfl) rfl ?_;go_wp2_with(refine aM rfl _ _ rfl (w.heap.size+1+1) CR (by rfl) (by rfl) I ay K H1 ?_;intro w9 am E);refine⟨⟨ai G E (by omega),ai H E (by omega),ai D E (by omega)⟩,AN (by kernel_rfl) ?_ _⟩;go_wp2_with fail;refine yQ (v:= .agg CR) (aV Tryz.results74 _ rfl am K) rfl ?_;have al:PQ=some (r,d3):=P.out;rw[al,af.out];exact⟨aG z E (by omega),rfl,l.out.grownBox I (by decide) (by omega) E,HE,ad⟩
    ·skip
     go_wp2_with fail;generalize aw:w3.alloc _=w4 at*;obtain⟨X,XT⟩:=zA1 aw;clear aw;have cd:gw<w3.heap.size:=H.out.lt;replace G:=zb G X;replace H:=zb H X;replace D:=zb D X;replace I:=zb I X;replace l:=zb l X;replace z:=zh (aj z X);clear X;generalize w3.heap.size=gt at*;refine⟨⟨G,H,D⟩, ?_⟩;refine ax (i:=4) (by kernel_rfl) rfl ?_;go_wp2_with fail;have CO:=zh (jX w4 g C d1 l x0 ag);rw[<-U.out] at CO;refine CO.out.mono λe w5 N=> ?_;have hz:=zo P HE z N;clear P l HE z N CO;rcases hz with⟨rfl,hn⟩|⟨t,d2,rfl,P,l,he,aJ,L,HE,z⟩
     ·exact⟨rfl,zn hn⟩
     replace G:=zg G L (by omega);replace H:=zg H L (by omega);replace D:=zg D L (by omega);replace I:=zg I L (by omega);replace XT:=zg XT L (by omega);have aL:=zh he;clear he L;unfold bI;go_wp2_with fail;refine⟨⟨G,H,D⟩, ?_⟩;have xt:=za XT 0 rfl;have xz:=XT.out.frozen 0;have xl:=XT.out.lt;refine ax (i:=6) (by kernel_rfl) rfl ?_;go_wp2_with fail;have aE:=zh (l.out.setBox XT (by decide) (by omega) 0 (.int .i64 (t:Nat)));have aT:=zh (G.out.setNe (p:=⟨gt,0,none⟩) (by show gt≠_;omega) (.int .i64 (t:Nat)));have a0:=zh (H.out.setNe (p:=⟨gt,0,none⟩) (by show gt≠_;omega) (.int .i64 (t:Nat)));have aW:=zh (D.out.setNe (p:=⟨gt,0,none⟩) (by show gt≠_;omega) (.int .i64 (t:Nat)));have aY:=zh (I.out.setNe (p:=⟨gt,0,none⟩) (by show gt≠_;omega) (.int .i64 (t:Nat)));have aZ:=zh (XT.out.set_ 0 (.int .i64 (t:Nat)));have aF:=zh (bX (i:=0) (u:= .int .i64 (t:Nat)) z (b:=gt) (by omega));clear l G H D I XT z xt xz xl;generalize w5.setCell ⟨gt,0,none⟩ (.int .i64 (t:Nat))=w7 at*;have l:=aE;have G:=aT;have H:=a0;have D:=aW;have I:=aY;have XT:Hid (Box w7 gt #[.int .i64 (t:Nat)] 3):=aZ;have z:=aF;clear aE aT a0 aW aY aZ aF;refine⟨⟨G,H,D⟩,AN (by kernel_rfl) ?_ _⟩;have bl:=zm;go_upto_region 24 with fail;refine Ab (S:=SB3 w.heap.size gw (w.heap.size+1) #[.pointer (some ⟨g,0,none⟩)] cs #[.int .i64 22,.int .i64 n,.string name,.slice A m c]) (by kernel_rfl) ⟨G,H,D⟩ (λhS=> ?_);have B:Below w7.heap.size w7 w7.drew:=ae _;replace G:=zb G B;replace H:=zb H B;replace D:=zb D B;replace I:=zb I B;replace XT:=zb XT B;replace l:=zb l B;replace z:=zh (aj z B);clear B;generalize w7.drew=w8 at*;refine zt 0 (.slice (some ⟨gw,0,none⟩) m m) rfl (Or.inl ⟨by rfl,λW Q=>by go_simp⟩) ?_;simp only[zp];refine zt 1 (.pointer (some ⟨gw,16,none⟩)) rfl (Or.inl ⟨by rfl,λW Q=>by go_simp⟩) ?_;simp only[zp];refine zt 2 (.agg aD) rfl (dy (by rfl) _ (by rfl) gw 16 (by rfl) (λW Q=>R1.out W Q.2.1) aN) ?_;simp only[zp];refine zt 3 (.slice (some ⟨gw,0,none⟩) m m) rfl (Or.inl ⟨by rfl,λW Q=>by go_simp⟩) ?_;simp only[zp];refine zt 4 (.pointer (some ⟨gw,32,none⟩)) rfl (Or.inl ⟨by rfl,λW Q=>by go_simp⟩) ?_;simp only[zp];refine zt 5 (.agg a2) rfl (dy (by rfl) _ (by rfl) gw 32 (by rfl) (λW Q=>R2.out W Q.2.1) a8) ?_;simp only[zp];refine zt 6 (.func (.func 133) #[] #[.pointer (some ⟨w.heap.size,0,none⟩),.pointer (some ⟨gt,0,none⟩)]) rfl (Or.inl ⟨by rfl,λW Q=>by go_simp⟩) ?_;simp only[zp];clear hS bl;refine ax (i:=7) (by kernel_rfl) rfl ?_;go_wp2_with fail;have CO:=zh (lq w8 g C d2 l x1 x2 (aO.out.ext aL.out) (bc.out.ext aL.out) 133 #[] #[.pointer (some ⟨w.heap.size,0,none⟩),.pointer (some ⟨gt,0,none⟩)] (λf g=>eR t f g) (λx y W=>by kernel_rfl) (λW d4 x y hb he L hx hy=>wi W g C d4 hb w.heap.size gt t x y (ai G L (by omega)) (ai XT L (by omega)) (aJ.out.ext he) hx hy));rw[<-az.out,<-aQ.out] at CO;refine CO.out.mono λe w9 N=> ?_;have hz:=zo P HE z N;clear P l HE z N CO;rcases hz with⟨rfl,hn⟩|⟨r,d3,rfl,P,l,he,ad,L,HE,z⟩
     ·exact⟨rfl,zn hn⟩
     replace G:=zg G L (by omega);replace H:=zg H L (by omega);replace D:=zg D L (by omega);replace I:=zg I L (by omega);clear he L;have K:Hid ((wv (r)).size=16):=zh (by rw[ak];exact(ad).1);have H1:Hid ((wv (r)).all (·.oneCell')=true):=zh (bo _);unfold cH;obtain⟨CR,J⟩:=zv (wv (r));have af:=zh J;rw[<-J] at K H1⊢;clear J;go_wp2_with fail;refine⟨⟨G,H,D⟩, ?_⟩;refine ax (i:=8) (by kernel_rfl) rfl ?_;go_wp2_with(refine aM rfl _ _ rfl (w.heap.size+1+1) CR (by rfl) (by rfl) I ay K H1 ?_;intro w9 am E);refine⟨⟨ai G E (by omega),ai H E (by omega),ai D E (by omega)⟩,AN (by kernel_rfl) ?_ _⟩;go_wp2_with fail;refine yQ (v:= .agg CR) (aV Tryz.results74 _ rfl am K) rfl ?_;have al:PQ=some (r,d3):=P.out;rw[al,af.out];exact⟨aG z E (by omega),rfl,l.out.grownBox I (by decide) (by omega) E,HE,ad⟩
   ·skip
    have Y:Hid (m=2):=zh (by have p1:=aB.out;unfold eY at p1;rw[yw (by omega),yw (by omega),yw (by omega),yw (by omega)] at p1;simp at p1;omega);have n1:((op:Int)==1)=false:=by rw[Bk];omega
    have n2:((op:Int)==2)=false:=by rw[Bk];omega
    have n4:((op:Int)==4)=false:=by rw[Bk];omega
    have n5:((op:Int)==5)=false:=by rw[Bk];omega
    have n6:((op:Int)==6)=false:=by rw[Bk];omega
    have cu:((op:Int)==25)=false:=by rw[Bk];omega
    have ct:((op:Int)==23)=false:=by rw[Bk];omega
    have cr:((op:Int)==22)=false:=by rw[Bk];omega
    have e1:¬op=1:=by omega
    have e2:¬op=2:=by omega
    have bm:PQ=(if op=1 then Bm.ret (au n.toNat 16) else if op=2 then vlB (V name) else opW op T) d1:=P.out;rw[yw e1,yw e2] at bm;clear e1 e2
    replace P:=zh (show PQ=((opW op [T.getD 0 [],T.getD 1 []]).bind λr=>Bm.ret r) d1 by
     have e:T=[T.getD 0 [],T.getD 1 []]:=by
      have h2:=an.out;rw[Y.out] at h2
      match T,h2 with
      |[a,b],_=>rfl
     simp only[dH]
     rw[<-e];exact bm)
    clear bm;have R:0<T.length:=by rw[an.out,Y.out];decide
    have aP:0<m:=by rw[Y.out];decide
    have aA:(0:Int)<(m:Int):=by omega
    have ag:Hid (okW d1 (T.getD 0 [])):=zh (by
     rw[yj,yp R];exact ao _ (AJ R))
    have aa:∀W,Box W gw cs 146->W.rangeAt gw (0*16) (wv (T.getD 0 [])).toList:=λW h=>ap.out.range h R;have aC:1<T.length:=by rw[an.out,Y.out];decide
    have ce:1<m:=by rw[Y.out];decide
    have bL:(1:Int)<(m:Int):=by omega
    have aO:Hid (okW d1 (T.getD 1 [])):=zh (by
     rw[yj,yp aC];exact ao _ (AJ aC))
    have aK:∀W,Box W gw cs 146->W.rangeAt gw (1*16) (wv (T.getD 1 [])).toList:=λW h=>ap.out.range h aC;generalize T.getD 0 []=x0 at*;obtain⟨Z,M⟩:=zv (wv x0);have U:=zh M;have ah:Hid (Z.size=16):=zh (by rw[U.out,ak,ag.out.1]);rw[<-M] at aa;have R0:Hid (∀W,Box W gw cs 146->W.rangeAt gw 0 Z.toList):=zh aa;clear M aa R;generalize T.getD 1 []=x1 at*;obtain⟨aD,aq⟩:=zv (wv x1);have az:=zh aq;have aN:Hid (aD.size=16):=zh (by rw[az.out,ak,aO.out.1]);rw[<-aq] at aK;have R1:Hid (∀W,Box W gw cs 146->W.rangeAt gw 16 aD.toList):=zh aK;clear aq aK aC;have ab:=za D 0 rfl;go_upto_region 25 with fail;clear ab;refine Ab (S:=SB3 w.heap.size gw (w.heap.size+1) #[.pointer (some ⟨g,0,none⟩)] cs #[.int .i64 op,.int .i64 n,.string name,.slice A m c]) (by kernel_rfl) ⟨G,H,D⟩ (λhS=> ?_);have B:Below wr.heap.size wr wr.drew:=ae _;replace G:=zb G B;replace H:=zb H B;replace D:=zb D B;replace I:=zb I B;replace l:=zb l B;replace z:=zh (aj z B);clear B;generalize wr.drew=w3 at*;refine zt 0 (.pointer (some ⟨g,0,none⟩)) rfl (Or.inl ⟨by rfl,λW Q=>by obtain⟨s1,s2,s3⟩:=Q;have q:=s1.at_ 0 _ rfl;go_simp⟩) ?_;simp only[zp];refine zt 1 (.pointer (some ⟨w.heap.size+1,0,none⟩)) rfl (Or.inl ⟨by rfl,λW Q=>by go_simp⟩) ?_;simp only[zp];refine zt 2 (.int .i64 op) rfl (Or.inl ⟨by rfl,λW Q=>by obtain⟨s1,s2,s3⟩:=Q;have q:=s3.at_ 0 _ rfl;go_simp⟩) ?_;simp only[zp];refine zt 3 (.slice (some ⟨gw,0,none⟩) m m) rfl (Or.inl ⟨by rfl,λW Q=>by go_simp⟩) ?_;simp only[zp];refine zt 4 (.pointer (some ⟨gw,0,none⟩)) rfl (Or.inl ⟨by rfl,λW Q=>by go_simp⟩) ?_;simp only[zp];refine zt 5 (.agg Z) rfl (dy (by rfl) _ (by rfl) gw 0 (by rfl) (λW Q=>R0.out W Q.2.1) ah) ?_;simp only[zp];refine zt 6 (.slice (some ⟨gw,0,none⟩) m m) rfl (Or.inl ⟨by rfl,λW Q=>by go_simp⟩) ?_;simp only[zp];refine zt 7 (.pointer (some ⟨gw,16,none⟩)) rfl (Or.inl ⟨by rfl,λW Q=>by go_simp⟩) ?_;simp only[zp];refine zt 8 (.agg aD) rfl (dy (by rfl) _ (by rfl) gw 16 (by rfl) (λW Q=>R1.out W Q.2.1) aN) ?_;simp only[zp];clear hS;refine ax (i:=9) (by kernel_rfl) rfl ?_;go_wp2_with fail;have CO:=zh (blBinary w3 g C d1 l x0 x1 ag aO op h7 b9);rw[<-U.out,<-az.out] at CO;refine CO.out.mono λe w4 N=> ?_;have hz:=zo P HE z N;clear P l HE z N CO;rcases hz with⟨rfl,hn⟩|⟨r,d2,rfl,P,l,he,ad,L,HE,z⟩
    ·exact⟨rfl,zn hn⟩
    replace G:=zg G L (by omega);replace H:=zg H L (by omega);replace D:=zg D L (by omega);replace I:=zg I L (by omega);clear he L;have K:Hid ((wv (r)).size=16):=zh (by rw[ak];exact(ad).1);have H1:Hid ((wv (r)).all (·.oneCell')=true):=zh (bo _);unfold cH;obtain⟨CR,J⟩:=zv (wv (r));have af:=zh J;rw[<-J] at K H1⊢;clear J;go_wp2_with fail;refine⟨⟨G,H,D⟩, ?_⟩;refine ax (i:=10) (by kernel_rfl) rfl ?_;go_wp2_with(refine aM rfl _ _ rfl (w.heap.size+1+1) CR (by rfl) (by rfl) I ay K H1 ?_;intro w9 am E);refine⟨⟨ai G E (by omega),ai H E (by omega),ai D E (by omega)⟩,AN (by kernel_rfl) ?_ _⟩;go_wp2_with fail;refine yQ (v:= .agg CR) (aV Tryz.results74 _ rfl am K) rfl ?_;have al:PQ=some (r,d2):=P.out;rw[al,af.out];exact⟨aG z E (by omega),rfl,l.out.grownBox I (by decide) (by omega) E,HE,ad⟩
theorem blWord (g:Nat) (C:BC) (vars:List Vr) (b:List Int) (V:ByteArray->Vl) (a:List ByteArray):∀k,WordC g C vars b V a k
 |0=>λw d j hk i e x c l h=>by
  obtain⟨op,n,f,args⟩:=e;exact absurd c (by simp[okE])
 |k+1=>un g C vars b V a k (blWord g C vars b V a k)
def SB2 (b c:Nat) (B1 a:Array Value) (W:World):Prop:=Box W b B1 140/\Box W c a 79
def TRes (a:Nat) (w:World) (g:Nat) (C:BC) (d:List Nd) (r:Option (Nat×List Nd)) (e:Ending) (w':World):Prop:=match r with
 |some (t,d')=>∃w1,w.grownBy w1 (some g)/\BB w1 g C d'/\Ext d d'/\okN d' t/\e= .returned (.tuple #[])/\w'=w1.setCell ⟨a,0,none⟩ (.int .i64 (t:Nat))
 |none=>w.grownBy w' (some g)/\e= .panicked (my 2)
def fB (V:ByteArray->Vl) (k:Nat) (e:Ex):Bm Nat:=(iu V k e).bind λws=>bE ws 0
theorem blTruth1 (g:Nat) (C:BC) (vars:List Vr) (I:List Int) (V:ByteArray->Vl) (c:List ByteArray) (k:Nat) (w:World) (d:List Nd) (hb:BB w g C d) (hk:BK w g C vars I V c) (dd:Nat) (e:Ex) (x:Value)
  (U:okE (λs=>decide (s∈c)) k e=true) (hr:Rs (exR dd) w x e.args (NG g)) (R:In (NG g) x e.args.length) (M N B:Nat) (ak:M≠g) (al:N≠g) (am:B≠g) (ah:B≠M) (X:B≠N)
  (hB:Box w M #[.pointer (some ⟨g,0,none⟩)] 140) (hE:Box w N #[.int .i64 e.op,.int .i64 e.n,.string e.name,x] 79) (hT:Box w B #[.int .i64 0] 3):
  Calls Tryz.prog 72 #[.pointer (some ⟨M,0,none⟩),.pointer (some ⟨N,0,none⟩),.pointer (some ⟨B,0,none⟩)] w (TRes B w g C d (fB V k e d)):=by
 obtain⟨b,o,m,h,u⟩:=zk5 hb hr hB hE hT;have a:=zh (cm (some g) w);have D:=zh (Ext.refl d);have A:Hid (fB V k e d=((iu V k e).bind λws=>(bE ws 0).bind λt=>Bm.ret t) d):=zh (by unfold fB;simp only[dH]);obtain⟨PQ,P⟩:=zv (fB V k e d);rw[<-P] at A⊢;clear P;obtain⟨Y,Z,rfl,ag⟩:=hr.slice;have E:=zh R;have HW:=zh (blWord g C vars I V c k);obtain⟨eo,H⟩:=zv (e.op);obtain⟨en,G⟩:=zv (e.n);obtain⟨em,F⟩:=zv (e.name);obtain⟨el,y⟩:=zv (e.args.length);rw[<-H,<-G,<-F,<-y] at h;rw[<-y] at o E;have CW:=zh fun(W:World) (ad:BB W g C d) (af:BK W g C vars I V c) (hR:Rs (exR dd) W (.slice Y el Z) e.args (NG g))=>HW.out W d ad af dd e (.slice Y el Z) U hR (by rw[<-y];exact E);rw[<-H,<-G,<-F] at CW;have HK:=zh hk;clear H G F y ag hb hk hr R hB hE hT HW E U;go_enter Tryz.func72,Tryz.ntmps72;go_upto_region 0 with fail;refine Ab (S:=SB2 M N #[.pointer (some ⟨g,0,none⟩)] #[.int .i64 eo,.int .i64 en,.string em,.slice Y el Z]) (by kernel_rfl) ⟨m,h⟩ (λhS=> ?_);replace o:=zh (o.out.below (show Below w.heap.size w w.drew from ae _));have f:Below w.heap.size w w.drew:=ae _;replace m:=zb m f;replace h:=zb h f;replace u:=zb u f;replace b:=zb b f;replace a:=zh (aj a f);clear f;generalize w.drew=w3 at*;refine zt 0 (.pointer (some ⟨g,0,none⟩)) rfl (Or.inl ⟨by rfl,λW Q=>by obtain⟨s1,K⟩:=Q;have q:=s1.at_ 0 _ rfl;go_simp⟩) ?_;simp only[zp];refine zt 1 (.pointer (some ⟨g,0,none⟩)) rfl (Or.inl ⟨by rfl,λW Q=>by obtain⟨s1,K⟩:=Q;have q:=s1.at_ 0 _ rfl;go_simp⟩) ?_;simp only[zp];refine zt 2 (.agg #[.int .i64 eo,.int .i64 en,.string em,.slice Y el Z]) rfl (Or.inl ⟨by rfl,λW Q=>by obtain⟨s1,K⟩:=Q;have q0:=K.at_ 0 _ rfl;have q1:=K.at_ 1 _ rfl;have q2:=K.at_ 2 _ rfl;have q3:=K.at_ 3 _ rfl;go_simp⟩) ?_;simp only[zp];clear hS;refine ax (i:=3) (by kernel_rfl) rfl ?_;go_wp2_with fail;have J:=zh (CW w3 b (HK.out.step a) o);refine J.out.mono λe w4 l=> ?_;have hz:=zo A D a l;clear A b D a l J;rcases hz with⟨rfl,T⟩|⟨r,d2,rfl,A,b,he,ab,z,D,a⟩
 ·exact⟨rfl,by rw[T.2];exact⟨T.1,rfl⟩⟩
 replace m:=zg m z (by omega);replace h:=zg h z (by omega);replace u:=zg u z (by omega);clear he z;unfold cH;go_wp2_with fail;refine⟨⟨m,h⟩, ?_⟩;obtain⟨ai,j⟩:=zv (wv r);have L:=zh j;rw[<-j];clear j;refine ax (i:=4) (by kernel_rfl) rfl ?_;go_wp2_with fail;have J:=zh (jX w4 g C d2 b r ab);rw[<-L.out] at J;refine J.out.mono λe w5 l=> ?_;have hz:=zo A D a l;clear A b D a l J;rcases hz with⟨rfl,T⟩|⟨t,d3,rfl,A,b,he,ac,z,D,a⟩
 ·exact⟨rfl,by rw[T.2];exact⟨T.1,rfl⟩⟩
 replace m:=zg m z (by omega);replace h:=zg h z (by omega);replace u:=zg u z (by omega);clear he z;unfold bI;go_wp2_with fail;refine⟨⟨m,h⟩, ?_⟩;have xt:=za u 0 rfl;have xz:=u.out.frozen 0;have xl:=u.out.lt;refine ax (i:=5) (by kernel_rfl) rfl ?_;go_wp2_with fail;refine⟨⟨m.out.setNe (p:=⟨B,0,none⟩) ah _,h.out.setNe (p:=⟨B,0,none⟩) X _⟩,AN (by kernel_rfl) ?_ _⟩;go_wp2_with fail;refine yQ (v:= .tuple #[]) (by simp[results,Tryz.results72]) rfl ?_;have aa:PQ=some (t,d3):=A.out;rw[aa];exact⟨w5,a,b,D,ac,rfl,rfl⟩
theorem mO {α:Type} {φ:Rd α} {w:World} {v:Value} {xs:List α} (e:∀us x,φ.R w us x ah->φ.R w us x (λb=>b<w.heap.size)) (h:Rs φ w v xs ah):Rs φ w v xs (λb=>b<w.heap.size):=by
 obtain⟨A,c,rfl,g,h⟩:=h;refine⟨A,c,rfl,g,λk=> ?_⟩;obtain⟨b,o,rfl,f,h⟩:=h k;refine⟨b,o,rfl,f,λj x i=> ?_⟩;obtain⟨us,a,d⟩:=h j x i;exact⟨us,a,e us x d⟩
theorem rA {α:Type} {φ:Rd α} {w:World} {v:Value} {xs:List α} {F:Nat->Prop} (h:Rs φ w v xs F):In (λb=>b<w.heap.size) v xs.length:=by
 intro a q d;obtain⟨A,c,rfl,f,h⟩:=h;obtain⟨b,o,rfl,e,h⟩:=h a;simp[Value.ownBlock] at d;omega
theorem qE {w:World}:∀(d:Nat) (us:List Value) (x:Ex),(exR d).R w us x ah->(exR d).R w us x (λb=>b<w.heap.size)
 |0,_,_,h=>h.elim
 |d+1,us,x,⟨v,h,h1,h2⟩=>⟨v,h,mO (qE d) h1,rA h1⟩
theorem exs_ng {w W:World} {d g:Nat} {v:Value} {l:List Ex} (h:Rs (exR d) w v l ah) (a:Below w.heap.size w W) (i:w.heap.size<=g):Rs (exR d) W v l (NG g)/\In (NG g) v l.length:=by
 have c:=mO (qE d) h;refine⟨(c.mono λb a=> ?_).below a,λe q f=> ?_⟩
 ·show b≠g;have:b<w.heap.size:=a;omega
 ·have:=rA h e q f;show q≠g;omega
def SRes (d:List Nd) (vars:List Vr) (b:List Int) (V:ByteArray->Vl) (a:List ByteArray) (w:World) (e:Ending) (w':World):Prop:=
 ∃g C,w.heap.size<=g/\g<w'.heap.size/\Below w.heap.size w w'/\BB w' g C d/\BK w' g C vars b V a/\e= .returned (.tuple #[.pointer (some ⟨g,0,none⟩),.int .i64 0])
def mD (w:World) (d:List Nd) (r:Option (Nat×List Nd)) (e:Ending) (w':World):Prop:=Below w.heap.size w w'/\match r with
 |some (t,d')=>∃x,e= .returned (.tuple #[.agg #[x],.int .i64 (t:Nat),.int .i64 0])/\Rs ndR w' x d' ah/\NR w' x/\DV d'/\Ext d d'/\okN d' t
 |none=>e= .returned (.tuple #[.agg #[.slice none 0 0],.int .i64 0,.int .i64 2])
def TQ (a:Nat) (w:World) (g:Nat) (C:BC) (d:List Nd) (r:Option (Nat×List Nd)) (er:Int) (w':World):Prop:=match r with
 |some (t,d')=>er=0/\∃w1,w.grownBy w1 (some g)/\BB w1 g C d'/\Ext d d'/\okN d' t/\w'=w1.setCell ⟨a,0,none⟩ (.int .i64 (t:Nat))
 |none=>er=2/\w.grownBy w' (some g)
structure K2 (w w':World) (g gt:Nat):Prop where
 os:w'.os=w.os
 tape:w'.tape=w.tape
 output:w'.output=w.output
 size:w.heap.size<=w'.heap.size
 block:∀b,b<w.heap.size->b≠g->b≠gt->w'.heap[b]? =w.heap[b]?
theorem K2.box {w w':World} {g a b:Nat} {cs:Array Value} {T:TypeId} (h:K2 w w' g a) (c:Box w b cs T) (d:b≠g) (e:b≠a):Box w' b cs T:=(h.block b c.lt d e).trans c
def wH (a:Nat) (w:World) (g:Nat) (C:BC) (d:List Nd) (r:Option (Nat×List Nd)) (e:Ending) (w':World):Prop:=K2 w w' g a/\match r with
 |some (t,d')=>e= .returned (.int .i64 0)/\BB w' g C d'/\Ext d d'/\okN d' t/\Box w' a #[.int .i64 (t:Nat)] 3
 |none=>e= .returned (.int .i64 2)
theorem wH.of {w w0 w':World} {g e:Nat} {C:BC} {d:List Nd} {r:Option (Nat×List Nd)} {er:Int} (y:g<w.heap.size) (z:e<w.heap.size) (k:e≠g) (s:Box w e #[.int .i64 0] 3)
  (h:TQ e (w.alloc (.cells #[.int .i64 0] 29)) g C d r er w0) (c:w0.grownBy w' (some w.heap.size)):wH e w g C d r (.returned (.int .i64 er)) w':=by
 have a:=ac w (.cells #[.int .i64 0] 29);have v:=Box.new w 29 #[.int .i64 0];have x:=s.below a;generalize w.alloc (.cells #[.int .i64 0] 29)=wa at*
 match r,h with
 |some (t,d'),⟨he,w1,h1,h2,h3,h4,h5⟩=>
  subst he;subst h5;have o:=ai v h1 (by omega);have l:=ai x h1 k;have u:(w1.setCell ⟨e,0,none⟩ (.int .i64 (t:Nat))).heap.size=w1.heap.size:=by simp[World.setCell]
  refine⟨⟨c.os.trans (h1.os.trans a.os),c.tape.trans (h1.tape.trans a.tape),c.output.trans (h1.output.trans a.output), ?_,λb i f j=> ?_⟩,rfl, ?_,h3,h4, ?_⟩
  ·have:=c.size;have:=h1.size;have:=a.size;omega
  ·have e1:=a.block b i;have m:=h1.block b (yE i a.size) (by simpa using f);have q:=Aj w1 ⟨e,0,none⟩ (.int .i64 (t:Nat)) b j;have n:=c.block b (by have:=h1.size;have:=a.size;omega) (by simp;omega);rw[n,q,m,e1]
  ·exact(h2.setBox l (by decide) k 0 _).grownBox (o.setNe (p:=⟨e,0,none⟩) (by show e≠_;omega) _) (by decide) (by omega) c
  ·exact ai (l.set_ 0 (.int .i64 (t:Nat))) c (by omega)
 |none,⟨he,h1⟩=>
  subst he;refine⟨⟨c.os.trans (h1.os.trans a.os),c.tape.trans (h1.tape.trans a.tape),c.output.trans (h1.output.trans a.output), ?_,λb i f j=> ?_⟩,rfl⟩
  ·have:=c.size;have:=h1.size;have:=a.size;omega
  ·have e1:=a.block b i;have m:=h1.block b (yE i a.size) (by simpa using f);have n:=c.block b (by have:=h1.size;have:=a.size;omega) (by simp;omega);rw[n,m,e1]
theorem blTry (g:Nat) (C:BC) (vars:List Vr) (m:List Int) (V:ByteArray->Vl) (a:List ByteArray) (k:Nat) (w:World) (d:List Nd) (G:BB w g C d) (hk:BK w g C vars m V a) (B:Nat) (e:Ex) (x:Value)
  (z:okE (λs=>decide (s∈a)) k e=true) (J:Rs (exR B) w x e.args (NG g)) (y:In (NG g) x e.args.length) (f i c:Nat) (q:f≠g) (u:i≠g) (j:c≠g) (A:c≠f) (l:c≠i) (H:g<w.heap.size)
  (E:Box w f #[.pointer (some ⟨g,0,none⟩)] 140) (F:Box w i #[.int .i64 e.op,.int .i64 e.n,.string e.name,x] 79) (o:Box w c #[.int .i64 0] 3):
  Calls Tryz.prog 71 #[.func (.func 72) #[] #[.pointer (some ⟨f,0,none⟩),.pointer (some ⟨i,0,none⟩),.pointer (some ⟨c,0,none⟩)]] w (wH c w g C d (fB V k e d)):=by
 have v:=o.lt;have b:=ac w (.cells #[.int .i64 0] 29);have D:=Box.new w 29 #[.int .i64 0];refine(s6 w 72 #[.pointer (some ⟨f,0,none⟩),.pointer (some ⟨i,0,none⟩),.pointer (some ⟨c,0,none⟩)] (TQ c (w.alloc (.cells #[.int .i64 0] 29)) g C d (fB V k e d)) (λW=>by kernel_rfl) ((blTruth1 g C vars m V a k _ d (G.below b) (hk.below b) B e x z (J.below b) y f i c q u j A l (E.below b) (F.below b) (o.below b)).mono ?_)).mono ?_
 ·intro e1 w' h;generalize fB V k e d=r at h⊢
  match r,h with
  |some (t,d'),⟨w1,h1,h2,h3,h4,h5,h6⟩=>
   refine⟨.inl ⟨h5,rfl,w1,h1,h2,h3,h4,h6⟩, ?_⟩;rw[h6];exact(ai D h1 (by omega)).setNe (p:=⟨c,0,none⟩) (by show c≠_;omega) _
  |none,⟨h1,h2⟩=>exact⟨.inr ⟨2,by decide,h2,rfl,h1⟩,ai D h1 (by omega)⟩
 ·rintro e1 w' ⟨er,w0,rfl,I,K⟩;exact wH.of H v j o I K
theorem yf (w:World) (d:List Nd) (vars:List Vr) (S:List Int) (V:ByteArray->Vl) (f:List ByteArray) (k dd:Nat) (e:Ex) (Ad A1 A2 A3 A4 A5 Ap:Option Addr) (nd cd n1 c1 n2 c2 n3 c3 n4 c4 n5 c5 cp:Nat)
  (hs:∀W,Below w.heap.size w W->Calls Tryz.prog 70 #[.agg #[.slice Ad nd cd],.agg #[.slice A1 n1 c1,.slice A2 n2 c2,.slice A3 n3 c3,.slice A4 n4 c4,.slice A5 n5 c5],.agg #[.int .i64 e.op,.int .i64 e.n,.string e.name,.slice Ap e.args.length cp]] W (SRes d vars S V f W))
  (ak:okE (λs=>decide (s∈f)) k e=true) (hr:Rs (exR dd) w (.slice Ap e.args.length cp) e.args ah):
  Calls Tryz.prog 37 #[.agg #[.slice Ad nd cd],.agg #[.slice A1 n1 c1,.slice A2 n2 c2,.slice A3 n3 c3,.slice A4 n4 c4,.slice A5 n5 c5],.agg #[.int .i64 e.op,.int .i64 e.n,.string e.name,.slice Ap e.args.length cp]] w (mD w d (fB V k e d)):=by
 have aS:=zm;obtain⟨HS,J⟩:=zk2 hs hr;have HT:=zh (λg C W (a1:BB W g C d) (a2:BK W g C vars S V f) x (a3:Rs (exR dd) W x e.args (NG g)) (a4:In (NG g) x e.args.length)=>blTry g C vars S V f k W d a1 a2 dd e x ak a3 a4);obtain⟨PQ,ad⟩:=zv (fB V k e d);rw[<-ad] at HT⊢;obtain⟨eo,N⟩:=zv (e.op);obtain⟨en,M⟩:=zv (e.n);obtain⟨em,L⟩:=zv (e.name);obtain⟨el,E⟩:=zv (e.args.length);rw[<-N,<-M,<-L] at HT;rw[<-N,<-M,<-L,<-E] at HS⊢;rw[<-E] at J;have aO:=zh E;clear hs hr ak ad N M L E;go_enter Tryz.func37,Tryz.ntmps37;go_upto_region 1 with fail;generalize z:w.alloc _=zw1 at*;generalize B:zw1.alloc _=zw2 at*;generalize an:zw2.alloc _=zw3 at*;generalize ao:zw3.alloc _=w1 at*;obtain⟨m,XD,U,y,K⟩:=zB4 z B an ao;clear z B an ao;have ay:=za XD 0 rfl;have aE:=za U 0 rfl;have aF:=za U 1 rfl;have aG:=za U 2 rfl;have aH:=za U 3 rfl;have aI:=za U 4 rfl;have az:=za y 0 rfl;have aA:=za y 1 rfl;have aB:=za y 2 rfl;have aC:=za y 3 rfl;go_wp2_with fail;clear ay aE aF aG aH aI az aA aB aC;refine(HS w1 m).mono ?_;rintro e1 w2 ⟨g,C,aw,ax,P,l,af,rfl⟩;obtain⟨p,D⟩:=zk2 l af;have ar:=zh K.out.lt;have aq:=zh y.out.lt;replace y:=zb y P;replace K:=zb K P;replace m:=zb m P;clear P l af XD U;have aK:=aw;have aL:=ax;go_upto_region 5 with fail;have X:=m;clear m;generalize z:w2.alloc _=zw1 at*;generalize B:zw1.alloc _=w4 at*;obtain⟨m,XB,XT⟩:=zB2 z B;clear z B;replace p:=zh (p.out.below m);replace D:=zh (D.out.below m);replace y:=zh (y.out.below m);replace K:=zh (K.out.below m);have aQ:=zh m.out.size;have i:=zh (ab X m);have aR:=aq.out;have aT:=ar.out;have I:=zh (exs_ng (g:=g) J i (by omega));clear m X J;generalize ai:w2.heap.size=gb at*;have aN:=zh ai;clear ai;go_wp2_with fail;refine(HT g C w4 p D (.slice Ap el cp) I.out.1 I.out.2 gb (w.heap.size+1+1) (gb+1) (by omega) (by omega) (by omega) (by omega) (by omega) (by have:=p.out;obtain⟨⟨A,c,hx,_⟩,_⟩:=this;exact hx.lt) XB y XT).mono ?_;intro e1 T h;clear HT D I;obtain⟨j,hm⟩:=h;have a:=zh (j.box K (by omega) (by omega));have au:=zh (j.box XB (by omega) (by omega));have o:Hid (Below w.heap.size w T):=zh ⟨j.os.trans i.out.os,j.tape.trans i.out.tape,j.output.trans i.out.output,yK i.out.size j.size,λb P=>(j.block b (yE P i.out.size) (by omega) (by omega)).trans (i.out.block b P)⟩;clear j XB y K XT i p;have Z:Hid (∀u,Below w.heap.size w (T.setCell ⟨w.heap.size+1+1+1,0,none⟩ u)):=zh λu=>⟨o.out.os,o.out.tape,o.out.output,by simpa [World.setCell] using o.out.size,λk hk=>(Aj T ⟨w.heap.size+1+1+1,0,none⟩ u k (λe=>by have e:k=w.heap.size+1+1+1:=e;omega)).trans (o.out.block k hk)⟩;have aV:=za a 0 rfl;have aX:=a.out.frozen 0;have aW:=a.out.lt;rcases PQ with _|⟨t,d'⟩
 ·replace hm:e1= .returned (.int .i64 2):=hm;subst hm;have r0:=(a.out.set_ 0 (.slice none 0 0)).at_ 0 _ rfl;have rz:=(a.out.set_ 0 (.slice none 0 0)).frozen 0;go_wp2_with fail;refine yQ (v:= .tuple #[.agg #[.slice none 0 0],.int .i64 0,.int .i64 2]) (by simp[results,Tryz.results37,go_sem,r0,rz]) rfl ?_;exact⟨Z _,rfl⟩
 ·obtain⟨av,l,G,H,am⟩:e1= .returned (.int .i64 0)/\BB T g C d'/\Ext d d'/\okN d' t/\Box T (gb+1) #[.int .i64 (t:Nat)] 3:=hm;subst av;obtain⟨ac,aa⟩:=zk2 H G;have aY:=am.at_ 0 _ rfl;have Y:=zh (l.setBox a (by decide) (by omega) 0 (.int .i64 0));have aP:=zh (λu=>l.setBox a (by decide) (by omega) 0 u);have aJ:=zh l;obtain⟨⟨A,c,hx,al,aj⟩,ag⟩:=l;obtain⟨F,r,ap⟩:=zk3 al aj ag;have aD:=hx.at_ 0 _ rfl;have aU:=za au 0 rfl;clear al aj ag G H hx am Y;obtain⟨dn,Q⟩:=zv (d'.length);have aM:=zh Q;rw[<-Q] at aD F r;clear Q;go_upto_region 8 with fail;have r0:=(a.out.set_ 0 (.slice A dn c)).at_ 0 _ rfl;have rz:=(a.out.set_ 0 (.slice A dn c)).frozen 0
  go_region
  all_goals
   go_wp2_with fail;refine yQ (v:= .tuple #[.agg #[.slice A dn c],.int .i64 (t:Nat),.int .i64 0]) (by simp[results,Tryz.results37,go_sem,r0,rz]) rfl ?_;have hq:=r.out.box a (by decide);refine⟨ab (Z _) (ae _),_,rfl, ?_, ?_,ap,aa,ac⟩
   ·exact(eu ((eu F λ_=>False).same (by simp[World.setCell]) (λq R=>Aj T ⟨w.heap.size+1+1+1,0,none⟩ (.slice A dn c) q (hq q R)) (λ_ _ h=>h.elim)) _).below (ae _)
   ·exact(r.out.keep λq R _=>Aj T ⟨w.heap.size+1+1+1,0,none⟩ (.slice A dn c) q (hq q R)).below (ae _)
def DgR (w:World) (d:List Nd) (e:Ending) (w':World):Prop:=∃x,e= .returned (.agg #[x])/\Rs ndR w' x d ah/\NR w' x/\Below w.heap.size w w'
theorem dagNewR (w:World):Calls Tryz.prog 36 #[] w (DgR w bT):=by
 go_enter Tryz.func36,Tryz.ntmps36;go_upto_region 1 with fail;generalize e:w.alloc _=w1 at*;obtain⟨f,b⟩:=zB1 e;clear e;have h:=zh b.out.lt;have d:=ac w1 (.cells #[.int .i64 20,.int .i64 0,.int .i64 0,.int .i64 20,.int .i64 1,.int .i64 1] 95);have i:=zh (Box.new w1 95 #[.int .i64 20,.int .i64 0,.int .i64 0,.int .i64 20,.int .i64 1,.int .i64 1]);replace b:=zb b d;replace f:=zb f d;have k:=b.out.lt;have x0:=za b 0 rfl;have m:=b.out.frozen 0;go_wp2_with fail;refine yQ (v:= .agg #[.slice (some ⟨w1.heap.size,0,none⟩) 2 2]) (by simp[results,Tryz.results36,go_sem,x0]) rfl ?_;have l:w.heap.size<w1.heap.size:=by have:=h.out;omega
 have c:=i.out.setNe (p:=⟨w.heap.size,0,none⟩) (by show w.heap.size≠_;omega) (.slice (some ⟨w1.heap.size,0,none⟩) 2 2);refine⟨_,rfl, ?_, ?_,f.out.setCell (p:=⟨w.heap.size,0,none⟩) (yq _) _⟩
 ·exact jN (φ:=ndR) (xs:=bT) (uss:=[ndL ⟨20,0,0⟩,ndL ⟨20,1,1⟩]) c rfl (λj x a=>by
   match j,a with
   |0,a=>
    obtain rfl:(⟨20,0,0⟩:Nd)=x:=by simpa [bT] using a
    rfl
   |1,a=>
    obtain rfl:(⟨20,1,1⟩:Nd)=x:=by simpa [bT] using a
    rfl
   |j+2,a=>simp[bT] at a)
 ·intro q g;simp[Value.ownBlock] at g;subst g;exact⟨_,_,c⟩
def TrC (w:World) (P:Value) (V:ByteArray->Vl) (l:List Ex):Prop:=∀W,Below w.heap.size w W->∀(d:List Nd) (A:Option Addr) (n c:Nat),DV d->Rs ndR W (.slice A n c) d ah->NR W (.slice A n c)->∀e∈l,∀(g:Nat) (a:Option Addr) (f b:Nat),Rs (exR g) W (.slice a f b) e.args ah→
 Calls Tryz.prog 37 #[.agg #[.slice A n c],P,.agg #[.int .i64 e.op,.int .i64 e.n,.string e.name,.slice a f b]] W (mD W d (fB V dep e d))
theorem all_step {V:ByteArray->Vl} {l:List Ex} {k t:Nat} (hk:k<l.length):dC V (l.drop k) t=(fB V dep (l.getD k ex0)).bind λf=>(dJ t f).bind λa=>dC V (l.drop (k+1)) a:=by
 rw[Aq hk,yj,yp hk]
 rfl
theorem all_end {V:ByteArray->Vl} {l:List Ex} {k t:Nat} (hk:l.length<=k):dC V (l.drop k) t=Bm.ret t:=by
 rw[AF hk]
 rfl
theorem blAllOf (w:World) (V:ByteArray->Vl) (l:List Ex) (dd:Nat) (A1 A2 A3 A4 A5 Al:Option Addr) (n1 c1 n2 c2 n3 c3 n4 c4 n5 c5 cl:Nat)
  (hT:TrC w (.agg #[.slice A1 n1 c1,.slice A2 n2 c2,.slice A3 n3 c3,.slice A4 n4 c4,.slice A5 n5 c5]) V l) (hr:Rs (exR dd) w (.slice Al l.length cl) l ah) (hl:l.length<=1000):
  Calls Tryz.prog 10 #[.agg #[.slice A1 n1 c1,.slice A2 n2 c2,.slice A3 n3 c3,.slice A4 n4 c4,.slice A5 n5 c5],.slice Al l.length cl] w (mD w bT (dC V l 1 bT)):=by
 obtain⟨HT,aA⟩:=zk2 hT hr;obtain⟨PQ,ao⟩:=zv (dC V l 1 bT);have ay:Hid (PQ=dC V (l.drop 0) 1 bT):=zh (by rw[ao];rfl);rw[<-ao];obtain⟨m,hm⟩:=zv (l.length);have HM:=zh hm;rw[<-hm] at hl aA⊢;clear hT hr ao hm;go_enter Tryz.func10,Tryz.ntmps10;go_upto_region 1 with fail;generalize B:w.alloc _=zw1 at*;generalize aU:zw1.alloc _=w1 at*;obtain⟨HB,C,j⟩:=zB2 B aU;clear B aU;have ar:=HB;have aZ:=zh j.out.lt;go_wp2_with fail;refine(dagNewR w1).mono ?_;rintro e w2 ⟨x,rfl,D,J,U⟩;obtain⟨A0,c0,rfl, -⟩:=D.slice;obtain⟨u,s⟩:=zk2 D J;have a3:=zh U.size;replace C:=zb C U;replace j:=zb j U;have aa:=zh (ab ar U);clear HB ar D J U;obtain⟨N0,aC⟩:=zv (bT.length);rw[<-aC] at u s⊢;clear aC;go_upto_region 2 with fail;generalize B:w2.alloc _=w3 at*;obtain⟨HB,E⟩:=zB1 B;clear B;replace C:=zh (C.out.below HB);replace j:=zh (j.out.below HB);replace u:=zh (u.out.below HB);replace s:=zh (s.out.below HB);replace aa:=zh (ab aa HB);have bl:w.heap.size+1<w2.heap.size:=by have:=a3.out;have:=aZ.out;omega
 clear HB;generalize w2.heap.size=gd at*;go_wp2_with fail
 go_loopw [8,17] (λt i wr=>∃(k Q:Nat) (S:List Nd) (A:Option Addr) (n c:Nat),k<=m/\i= .int .i64 (k:Nat)/\t= .int .i64 (Q:Nat)/\Box wr gd #[.slice A n c] 38/\Box wr (w.heap.size+1) #[.slice none 0 0] 38/\Box wr w.heap.size #[.slice A1 n1 c1,.slice A2 n2 c2,.slice A3 n3 c3,.slice A4 n4 c4,.slice A5 n5 c5] 27/\Rs ndR wr (.slice A n c) S ah/\NR wr (.slice A n c)/\DV S/\Q<S.length/\Ext bT S/\Below w.heap.size w wr/\PQ=dC V (l.drop k) Q S) (λ_ i _=>m+1-(intOf i).toNat)
 case atStart=>exact⟨0,1,bT,A0,N0,c0,yt _,rfl,rfl,E,j,C,u,s,dv0,by decide,Ext.refl _,aa,ay⟩
 case round=>
  obtain⟨k,Q,S,A,n,c,hk,rfl,rfl,aN,aP,aQ,D,J,aE,aL,aF,aD,hq⟩:=hrel;clear E j C u s aa ay;obtain⟨E,j,C,u,s,au⟩:=zk6 aN aP aQ D J aE;obtain⟨aB,aw,d,G⟩:=zk4 aL aF aD hq;clear aN aP aQ D J aE aL aF aD hq
  by_cases a7:k<m
  ·have aG:(k:Int)<(m:Int):=by omega
   have k0:(0:Int)<=(k:Int):=by omega
   have ad:k<l.length:=by rw[<-HM.out];exact a7
   obtain⟨A',c',e1,_,aM⟩:=(aA.out.below d).exs;obtain⟨b,o,p,d',e2,bk,_,z,aq,a6⟩:=aM k ad
   have e3:Al=some ⟨b,o,none⟩:=by
    simp only[yA] at e1;rw[e1.1,e2]
   subst e3;have v0:=z 0 _ rfl;have v1:=z 1 _ rfl;have v2:=z 2 _ rfl;have v3:=z 3 _ rfl;rw[yU] at v0;have ae:Hid (l.getD k ex0∈l):=zh (by rw[yj,yp ad];exact AJ ad);replace G:=zh (G.out.trans (congrFun (all_step ad) S));have T:=zh aq;generalize l.getD k ex0=e at*;obtain⟨Ap,cp,rfl,a4⟩:=aq.slice;clear aM z e1 e2 aq a6;have CT:=zh fun(W:World) (hW:Below w.heap.size w W) (h1:Rs ndR W (.slice A n c) S ah) (h2:NR W (.slice A n c)) (hR:Rs (exR d') W (.slice Ap e.args.length cp) e.args ah)=>HT.out W hW S A n c au h1 h2 e ae d' Ap e.args.length cp hR;obtain⟨eo,an⟩:=zv (e.op);obtain⟨en,am⟩:=zv (e.n);obtain⟨em,al⟩:=zv (e.name);obtain⟨el,ak⟩:=zv (e.args.length);rw[<-an] at v0;rw[<-am] at v1;rw[<-al] at v2;rw[<-ak] at v3 T;rw[<-an,<-am,<-al,<-ak] at CT;clear an am al ak a4;go_upto_region 5 with fail;clear v0 v1 v2 v3;generalize B:wr.alloc _=wa at*;obtain⟨a,XA⟩:=zA1 B;clear B;replace E:=zb E a;replace j:=zb j a;replace C:=zb C a;replace u:=zb u a;replace s:=zb s a;replace T:=zb T a;replace d:=zb d a;clear a;generalize wr.heap.size=ga at*;have aR:=za E 0 rfl;have be:=za C 0 rfl;have bf:=za C 1 rfl;have bg:=za C 2 rfl;have bh:=za C 3 rfl;have bi:=za C 4 rfl;have a9:=za XA 0 rfl;have ba:=za XA 1 rfl;have bb:=za XA 2 rfl;have bc:=za XA 3 rfl;go_wp2_with fail;clear aR be bf bg bh bi a9 ba bb bc;refine(CT wa d u s T).mono ?_;rintro e1 w5 ⟨U,hm⟩;replace E:=zb E U;replace j:=zb j U;replace C:=zb C U;replace d:=zb d U;clear U CT T XA u s ae;rcases hr:fB V dep e S with _|⟨f,L⟩
   ·rw[hr] at hm;replace hm:e1= .returned (.tuple #[.agg #[.slice none 0 0],.int .i64 0,.int .i64 2]):=hm;subst hm;replace G:=zh (G.out.trans (bU hr));clear hr;go_upto_region 6 with fail;have a:=ac w5 (.cells #[.slice none 0 0] 38);replace j:=zb j a;replace d:=zb d a;clear a;generalize w5.alloc (.cells #[.slice none 0 0] 38)=w6 at*;have aO:=j.out.lt;have aT:=j.out.frozen 0;have aS:=za j 0 rfl;have r0:=(j.out.set_ 0 (.slice none 0 0)).at_ 0 _ rfl;have rz:=(j.out.set_ 0 (.slice none 0 0)).frozen 0;go_wp2_with fail;refine yQ (v:= .tuple #[.agg #[.slice none 0 0],.int .i64 0,.int .i64 2]) (by simp[results,Tryz.results10,go_sem,r0,rz]) rfl ?_;rw[G.out];exact⟨d.out.setCell (p:=⟨w.heap.size+1,0,none⟩) (by show w.heap.size<=w.heap.size+1;omega) _,rfl⟩
   ·rw[hr] at hm;replace G:=zh (G.out.trans (bind_some hr));obtain⟨x,a5,D,J,X,Y,M⟩:∃x,e1= .returned (.tuple #[.agg #[x],.int .i64 (f:Nat),.int .i64 0])/\Rs ndR w5 x L ah/\NR w5 x/\DV L/\Ext S L/\okN L f:=hm;subst a5;obtain⟨An,cn,rfl, -⟩:=D.slice;have av:Hid (dJ Q f L=(ed (λf g _=>f&&g) L ⟨Q,f,f⟩).map λr=>(r.2,r.1)):=zh rfl;have Z:Q<L.length:=by obtain⟨ns,a8⟩:=Y;have:=aB.out;rw[a8,yu];omega
    have af:=zh fun(d':List Nd) (i:Nat) (h:ed (λf g _=>f&&g) L ⟨Q,f,f⟩=some (d',i))=>kr X (show In3 L ⟨Q,f,f⟩ from⟨Z,M,M⟩) h;have CO:=zh fun(W:World) (h:Rs ndR W (.slice An L.length cn) L ah)=>dagAnd W _ L X h Q f Z M;have N:=zh D;have aW:=zh (aw.out.trans Y);generalize ed (λf g _=>f&&g) L ⟨Q,f,f⟩=q at*;obtain⟨nn,aI⟩:=zv (L.length);rw[<-aI] at CO N⊢;clear hr D J X Y M Z aI;go_upto_region 6 with fail;generalize B:w5.alloc _=w6 at*;obtain⟨a,R⟩:=zA1 B;clear B;have bm:gd<w5.heap.size:=E.out.lt;have bn:w.heap.size+1<w5.heap.size:=j.out.lt;replace E:=zb E a;replace j:=zb j a;replace C:=zb C a;replace N:=zb N a;replace d:=zb d a;clear a;generalize w5.heap.size=gn at*;have bd:=za R 0 rfl;go_wp2_with fail;clear bd;refine(CO w6 N).mono ?_;intro e1 w7 ap;have bj:w.heap.size<=gn:=by omega
    rcases ap.cases with⟨d3,i,H,I,P,rfl,h1,h2,y⟩|⟨P,rfl,y⟩
    ·obtain⟨q1,q2,q3, -⟩:=af.out d3 i P;replace G:=zh (show PQ=dC V (l.drop (k+1)) i d3 by rw[G.out];exact bind_some (by rw[av.out,P];rfl));replace E:=zb E y;replace j:=zb j y;replace C:=zb C y;replace R:=zb R y;replace d:=zb d y;have aJ:=h2.box E (by decide);have aK:=h2.box R (by decide);obtain⟨az,ax,aV,aY⟩:=zk4 h1 h2 q2 q3;have aX:=zh (aW.out.trans q1);obtain⟨ag,ai⟩:=zk2 aJ aK;obtain⟨K,aH⟩:∃n,n=d3.length:=⟨_,rfl⟩;rw[<-aH] at az ax ag ai⊢;clear h1 h2 q1 q2 q3 y P aH aJ aK ap af CO N;have a0:=za R 0 rfl;have a1:=R.out.frozen 0;have a2:=R.out.lt;have b0:=za E 0 rfl;have b1:=E.out.frozen 0;have b2:=E.out.lt;go_wp2_with fail;go_roundw
     ·refine⟨k+1,i,d3,H,K,I,by omega,by go_num,rfl,(E.out.setNe (p:=⟨gn,0,none⟩) (by show gn≠gd;omega) _).set_ 0 _,(j.out.setNe (p:=⟨gn,0,none⟩) (by show gn≠_;omega) _).setNe (p:=⟨gd,0,none⟩) (by show gd≠_;omega) _,(C.out.setNe (p:=⟨gn,0,none⟩) (by show gn≠_;omega) _).setNe (p:=⟨gd,0,none⟩) (by show gd≠_;omega) _, ?_, ?_,aV,aY,aX,(d.out.setCell (p:=⟨gn,0,none⟩) (by show w.heap.size<=gn;omega) _).setCell (p:=⟨gd,0,none⟩) (by show w.heap.size<=gd;omega) _,G⟩
      ·exact eu ((eu az λ_=>False).same (by simp[World.setCell]) (λq F=>(Aj (w7.setCell ⟨gn,0,none⟩ (.slice H K I)) ⟨gd,0,none⟩ (.slice H K I) q (ag q F)).trans (Aj w7 ⟨gn,0,none⟩ (.slice H K I) q (ai q F))) (λ_ _ h=>h.elim)) _
      ·exact ax.out.keep λq F _=>(Aj (w7.setCell ⟨gn,0,none⟩ (.slice H K I)) ⟨gd,0,none⟩ (.slice H K I) q (ag q F)).trans (Aj w7 ⟨gn,0,none⟩ (.slice H K I) q (ai q F))
     ·simp[intOf];omega
    ·replace G:=zh (show PQ=none by rw[G.out];exact bU (by rw[av.out,P];rfl));replace j:=zb j y;replace R:=zb R y;replace d:=zb d y;clear P y ap af CO N;have a0:=za R 0 rfl;have a1:=R.out.frozen 0;have a2:=R.out.lt;have aO:=j.out.lt;have aT:=j.out.frozen 0;have aS:=za j 0 rfl;have aj:=j.out.setNe (p:=⟨gn,0,none⟩) (by show gn≠_;omega) (.slice none 0 0);have r0:=(aj.set_ 0 (.slice none 0 0)).at_ 0 _ rfl;have rz:=(aj.set_ 0 (.slice none 0 0)).frozen 0;clear aj;go_wp2_with fail;refine yQ (v:= .tuple #[.agg #[.slice none 0 0],.int .i64 0,.int .i64 2]) (by simp[results,Tryz.results10,go_sem,r0,rz]) rfl ?_;rw[G.out];exact⟨(d.out.setCell (p:=⟨gn,0,none⟩) (by show w.heap.size<=gn;omega) _).setCell (p:=⟨w.heap.size+1,0,none⟩) (by show w.heap.size<=w.heap.size+1;omega) _,rfl⟩
  ·have aG:¬(k:Int)<(m:Int):=by omega
   replace G:=zh (show PQ=some (Q,S) by rw[G.out,all_end (by rw[<-HM.out];omega)];rfl);have aO:=j.out.lt;have aT:=j.out.frozen 0;have aS:=za j 0 rfl;have aR:=za E 0 rfl;have r0:=(j.out.set_ 0 (.slice A n c)).at_ 0 _ rfl;have rz:=(j.out.set_ 0 (.slice A n c)).frozen 0;go_wp2_with fail;refine yQ (v:= .tuple #[.agg #[.slice A n c],.int .i64 (Q:Nat),.int .i64 0]) (by simp[results,Tryz.results10,go_sem,r0,rz]) rfl ?_;have hq:=s.out.box j (by decide);rw[G.out];refine⟨d.out.setCell (p:=⟨w.heap.size+1,0,none⟩) (by show w.heap.size<=w.heap.size+1;omega) _,_,rfl, ?_, ?_,au,aw,aB⟩
   ·exact eu ((eu u λ_=>False).same (by simp[World.setCell]) (λq F=>Aj wr ⟨w.heap.size+1,0,none⟩ (.slice A n c) q (hq q F)) (λ_ _ h=>h.elim)) _
   ·exact s.out.keep λq F _=>Aj wr ⟨w.heap.size+1,0,none⟩ (.slice A n c) q (hq q F)
theorem getD_in {α:Type} {l:List α} {k:Nat} (d:α) (h:k<l.length):l.getD k d∈l:=by
 rw[yj,yp h];exact AJ h
def bW (vars:List Vr) (s:List Int×Int) (v:Int):List Int×Int:=(s.1.set v.toNat s.2,s.2+(vars.getD v.toNat vr0).width)
def cC (p:Pb):List Int:=((p.groups.flatten).foldl (bW p.vars) (List.replicate p.vars.length (-1),0)).1
theorem eH (vars:List Vr):∀(l:List Int) (s:List Int×Int),(l.foldl (bW vars) s).1.length=s.1.length
 |[],s=>rfl
 |v::l,s=>by
  show(l.foldl (bW vars) (bW vars s v)).1.length=s.1.length;rw[eH vars l];show(s.1.set v.toNat s.2).length=_;rw[As]
theorem se (p:Pb):(cC p).length=p.vars.length:=by
 unfold cC;rw[eH,Ax]
theorem jz:(Tryz.prog.info? 3).map (λi=>(i.zero,i.size,i.bytes))=some (some (.int .i64 0),1,8):=by kernel_rfl
theorem ik (n:Nat) (e:n<=1000) (W:World):(Instr.makeSlice 32 (.int .i64 (n:Int)) (.int .i64 (n:Int))).run Tryz.prog W= .ok (.slice (some ⟨W.heap.size,0,none⟩) n n) (W.alloc (.cells (madeCells (Value.int .i64 0).cells (n*1)) 3)):=by
 cases hq:Tryz.prog.info? 3 with
 |none=>have:=jz;rw[hq] at this;cases this
 |some i=>
  have h:=jz;rw[hq] at h;simp only[AX,yy,B4] at h;obtain⟨b,c,d⟩:=h;have a:=run_make (P:=Tryz.prog) W 32 3 i (.int .i64 0) Tryz.underlying32 hq b .i64 .i64 n n (by omega) (by omega) (by rw[d];omega) (by omega);rw[c] at a;simp only[y5] at a;exact a
def iA (l:List Int):Array Value:=(l.map (Value.int .i64)).toArray
theorem gG (l:List Int) (k:Nat) (v:Int):(iA l).setIfInBounds k (.int .i64 v)=iA (l.set k v):=by
 unfold iA;rw[Bf,List.map_set]
theorem kU (l:List Int):(iA l).size=l.length:=by simp[iA]
theorem du {l:List Int} {k:Nat} (h:k<l.length):(iA l)[k]? =some (.int .i64 (l.getD k 0)):=by
 simp[iA,yj,yp h]
theorem mR (n:Nat):madeCells (Value.int .i64 0).cells (n*1)=iA (List.replicate n 0):=by
 apply Array.ext
 ·simp[madeCells,iA]
 ·intro i a b;simp[madeCells,iA,Value.cells,Nat.mod_one]
def LvRes (p:Pb) (w:World) (e:Ending) (w':World):Prop:=∃g,e= .returned (.slice (some ⟨g,0,none⟩) p.vars.length p.vars.length)/\w.heap.size<=g/\Box w' g (iA (cC p)) 3/\Below w.heap.size w w'
def EvC (w:World) (P:Value):Prop:=∀W,Below w.heap.size w W->Calls Tryz.prog 48 #[P] W λe w'=>e= .returned (.int .i64 0)/\Below W.heap.size W w'
theorem lev_fill {n k:Nat} (h:k<n):(List.replicate k (-1:Int)++List.replicate (n-k) 0).set k (-1)=List.replicate (k+1) (-1)++List.replicate (n-(k+1)) 0:=by
 have e:n-k=(n-(k+1))+1:=by omega
 rw[BO _ _ (by rw[Ax];exact yq _),Ax,AG,e,List.replicate_succ,Bq,List.replicate_succ',yZ]
 rfl
theorem lY {α β:Type} {f:β->α->β} {l:List α} {x0:α} {q:Nat} {s:β} (h:q<l.length):(l.take (q+1)).foldl f s=f ((l.take q).foldl f s) (l.getD q x0):=by
 rw[Am,yp h,BA,yj,yp h]
 rfl
theorem xJ {α β:Type} {f:β->α->β} {l:List (List α)} {q:Nat} {s:β} (h:q<l.length):(l.take (q+1)).flatten.foldl f s=(l.getD q []).foldl f ((l.take q).flatten.foldl f s):=by
 rw[Am,yp h,List.flatten_append,BA,yj,yp h];simp
theorem lV {vars:List Vr} (b:∀x∈vars,0<=x.width/\x.width<=65536):∀(l:List Int) (s:List Int×Int),(∀v∈l,0<=v/\v<vars.length)->0<=s.2->0<=(l.foldl (bW vars) s).2/\(l.foldl (bW vars) s).2<=s.2+65536*l.length
 |[],s,_,h=>⟨h,by simp⟩
 |v::l,s,hl,h=>by
  have d:=hl v (by simp);have f:=b (vars.getD v.toNat vr0) (by rw[yj,yp (by omega)];exact AJ _);have:=lV b l (bW vars s v) (λa c=>hl a (yT _ c)) (by show 0<=s.2+_;omega);have e:(bW vars s v).2=s.2+(vars.getD v.toNat vr0).width:=rfl;rw[e] at this;rw[yr,AM];omega
theorem sX (w:World) (p:Pb) (A1 A2 A3 A4 A5:Option Addr) (n2 c1 c2 n3 c3 n4 c4 c5:Nat) (H:Rs vrR w (.slice A1 p.vars.length c1) p.vars ah) (I:Rs ilR w (.slice A5 p.groups.length c5) p.groups ah)
  (hE:EvC w (.agg #[.slice A1 p.vars.length c1,.slice A2 n2 c2,.slice A3 n3 c3,.slice A4 n4 c4,.slice A5 p.groups.length c5])) (aK:p.vars.length<=1000) (aF:p.groups.length<=1000) (af:∀g∈p.groups,g.length<=1000/\∀v∈g,0<=v/\v<p.vars.length) (hw:∀x∈p.vars,0<=x.width/\x.width<=65536):
  Calls Tryz.prog 77 #[.agg #[.slice A1 p.vars.length c1,.slice A2 n2 c2,.slice A3 n3 c3,.slice A4 n4 c4,.slice A5 p.groups.length c5]] w (LvRes p w):=by
 obtain⟨HV,HG,L⟩:=zk3 H I hE;obtain⟨n,hn⟩:=zv (p.vars.length);obtain⟨m,hm⟩:=zv (p.groups.length);obtain⟨X,HM,M,HW⟩:=zk4 hn hm af hw;have MK:=ik n (by omega);rw[mR] at MK;rw[<-hn] at HV L aK⊢;rw[<-hm] at HG L aF⊢;clear H I hE af hw hn hm;go_enter Tryz.func77,Tryz.ntmps77;go_upto_region 1 with fail;generalize F:w.alloc _=w1 at*;obtain⟨f,c⟩:=zB1 F;clear F;have A:=za c 0 rfl;have aM:=za c 1 rfl;have aN:=za c 2 rfl;have aO:=za c 3 rfl;have U:=za c 4 rfl;go_wp2_with fail;clear A aM aN aO U;refine(L w1 f).mono ?_;rintro e w2 ⟨rfl,hb⟩;have au:=zh c.out.lt;have aw:=zh hb.size;replace c:=zb c hb;replace f:=zb f hb;clear hb;have A:=za c 0 rfl;have aC:=MK w2;clear MK;go_upto_region 4 with fail;clear A aC;generalize F:w2.alloc _=w3 at*;obtain⟨P,d⟩:=zA1 F;clear F;replace c:=zb c P;replace f:=zb f P;clear P;have aT:w.heap.size<w2.heap.size:=by have:=aw.out;have:=au.out;omega
 generalize w2.heap.size=gr at*;go_wp2_with fail
 go_loopw [19] (λi wr=>∃(k:Nat),k<=n/\i= .int .i64 (k:Nat)/\Box wr gr (iA (List.replicate k (-1)++List.replicate (n-k) 0)) 3/\Box wr w.heap.size #[.slice A1 n c1,.slice A2 n2 c2,.slice A3 n3 c3,.slice A4 n4 c4,.slice A5 m c5] 27/\Below w.heap.size w wr) (λi _=>n+1-(intOf i).toNat)
 case atStart=>exact⟨0,yt _,rfl,d,c,f⟩
 case round=>
  obtain⟨k,hk,rfl,t,s,h⟩:=hrel;clear d c f;obtain⟨d,c,f⟩:=zk3 t s h;clear t s h
  by_cases R:k<n
  ·have D:(k:Int)<(n:Int):=by omega
   have k0:(0:Int)<=(k:Int):=by omega
   have x0:=d.out.at_ k _ (du (by rw[yu,Ax,Ax];omega));have x1:=d.out.frozen k;have x2:=d.out.lt;go_wp2_with fail;go_roundw
   ·refine⟨k+1,by omega,by go_num, ?_,c.out.setNe (p:=⟨gr,k,none⟩) (by show gr≠_;omega) _,f.out.setCell (p:=⟨gr,k,none⟩) (by show w.heap.size<=gr;omega) _⟩;have:=d.out.set_ k (.int .i64 (-1));rw[gG,lev_fill R] at this;exact this
   ·simp[intOf];omega
  ·have D:¬(k:Int)<(n:Int):=by omega
   have ag:k=n:=by omega
   replace d:=zh (show Box wr gr (iA (List.replicate n (-1))) 3 by
    have:=d.out;rw[ag,AG,List.replicate_zero,AT] at this
    exact this)
   clear ag hk;obtain⟨S,hS⟩:=zv (λj=>(p.groups.take j).flatten.foldl (bW p.vars) (List.replicate n (-1),0):Nat->List Int×Int);have HS:=zh hS;have Z:Hid (S 0=(List.replicate n (-1),0)):=zh (by rw[hS];rfl);clear hS;have U:=za c 4 rfl;have ad:=zh (show Box wr gr (iA (S 0).1) 3 by rw[Z.out];exact d);have HZ:Hid ((S 0).2=0):=zh (by rw[Z.out]);clear d;go_upto_region 11 with fail;clear U
   have ar:Hid (∀j,j<=m->0<=(S j).2/\(S j).2<=65536*(1000*j)):=zh (by
    intro j hj;rw[HS.out]
    have aj:∀l:List (List Int),(∀g∈l,g.length<=1000)->l.flatten.length<=1000*l.length:=by
     intro l hl
     induction l with
     |nil=>simp
     |cons a r ih=>
      rw[Ce,yu,yr];have:=hl a (by simp);have:=ih λg I=>hl g (yT _ I);omega
    have h1:=lV HW ((p.groups.take j).flatten) (List.replicate n (-1),0) (λv H=>by
     obtain⟨g,I,aJ⟩:=List.mem_flatten.1 H
     exact(M g (List.mem_of_mem_take I)).2 v aJ) (Int.le_refl _)
    have h2:=aj (p.groups.take j) (λg I=>(M g (List.mem_of_mem_take I)).1);have h3:(p.groups.take j).length<=j:=List.length_take_le _ _;have h4:(0:Int)+65536*((p.groups.take j).flatten.length:Int)<=65536*(1000*j):=by omega
    exact⟨h1.1,Int.le_trans h1.2 h4⟩)
   go_loopw [5,29] (λJ i wr=>∃(j:Nat),j<=m/\i= .int .i64 (j:Nat)/\J= .int .i64 (S j).2/\Box wr gr (iA (S j).1) 3/\Box wr w.heap.size #[.slice A1 n c1,.slice A2 n2 c2,.slice A3 n3 c3,.slice A4 n4 c4,.slice A5 m c5] 27/\Below w.heap.size w wr) (λ_ i _=>m+1-(intOf i).toNat)
   case atStart=>exact⟨0,yt _,rfl,by rw[HZ.out],ad,c,f⟩
   case round=>
    obtain⟨j,hj,rfl,rfl,t,s,h⟩:=hrel;clear ad c f;obtain⟨d,c,f⟩:=zk3 t s h;clear t s h
    by_cases R:j<m
    ·have D:(j:Int)<(m:Int):=by omega
     have j0:(0:Int)<=(j:Int):=by omega
     have Q:j<p.groups.length:=by rw[<-HM.out];exact R
     obtain⟨A',c',e1,_,E⟩:=HG.out.ils;obtain⟨b,o,u,e2,B,hu,aG, -⟩:=E j Q
     have e3:A5=some ⟨b,o,none⟩:=by
      simp only[yA] at e1;rw[e1.1,e2]
     subst e3;have y:=zh (M (p.groups.getD j []) (getD_in [] Q));have aa:Hid (S (j+1)=(p.groups.getD j []).foldl (bW p.vars) (S j)):=zh (by rw[HS.out];exact xJ Q);have K:=zh (ar j hj);have ab:Hid ((S j).1.length=n):=zh (by rw[HS.out];exact(eH _ _ _).trans (Ax));have ap:=(f.out.cell B).trans hu;clear e1 e2 E B hu;generalize p.groups.getD j []=row at*;obtain⟨Ar,cr,rfl,aE,ao⟩:=aG;have av:=zh ao;obtain⟨rl,G⟩:=zv (row.length);have N:=zh G;have aQ:rl<=1000:=by rw[G];exact y.out.1
     rw[<-G] at ap aE;clear ao G;obtain⟨T,V⟩:=zv (λq=>(row.take q).foldl (bW p.vars) (S j):Nat->List Int×Int);have ax:Hid (T 0=S j):=zh (by rw[V];rfl);have az:Hid (T rl=S (j+1)):=zh (by rw[V,aa.out];simp only;rw[Ai (by rw[<-N.out];exact yq _)]);have aB:Hid (∀q,q<rl->T (q+1)=bW p.vars (T q) (row.getD q 0)):=zh λq hq=>by rw[V];exact lY (by rw[<-N.out];exact hq)
     have aA:Hid (∀q,(T q).1.length=n):=zh λq=>by rw[V];exact(eH _ _ _).trans ab
     have ay:Hid (∀q,q<=rl->0<=(T q).2/\(T q).2<=100000000000):=zh λq hq=>by
      have h1:=lV HW (row.take q) (S j) (λv H=>y.out.2 v (List.mem_of_mem_take H)) K.out.1;have h2:(row.take q).length<=1000:=yK (by rw[yM];omega) y.out.1;have h3:=K.out.2;rw[V];simp only;omega
     clear V aa K ab;rw[<-ax.out] at d⊢;go_upto_region 14 with fail;clear ap
     go_loopw [5,35] (λJ i wq=>∃(q:Nat),q<=rl/\i= .int .i64 (q:Nat)/\J= .int .i64 (T q).2/\Box wq gr (iA (T q).1) 3/\Box wq w.heap.size #[.slice A1 n c1,.slice A2 n2 c2,.slice A3 n3 c3,.slice A4 n4 c4,.slice (some ⟨b,o,none⟩) m c5] 27/\Below w.heap.size w wq) (λ_ i _=>rl+1-(intOf i).toNat)
     case atStart=>exact⟨0,yt _,rfl,rfl,d,c,f⟩
     case round=>
      obtain⟨q,hq,rfl,rfl,t,s,h⟩:=hrel;clear d c f;obtain⟨d,c,f⟩:=zk3 t s h;clear t s h
      by_cases al:q<rl
      ·have am:(q:Int)<(rl:Int):=by omega
       have q0:(0:Int)<=(q:Int):=by omega
       have ak:q<row.length:=by rw[<-N.out];exact al
       obtain⟨a1,rfl,ai,an⟩:=av.out (by omega);have y0:wr.cell? (a1.add q)=some (.int .i64 (row.getD q 0)):=by rw[f.out.cell (by rw[aP];exact ai)];exact an q ak
       have H:=y.out.2 (row.getD q 0) (getD_in 0 ak);have z:=zh (aB q al);have aH:=ay.out q hq;have Y:=zh (aA q);generalize row.getD q 0=v at*;obtain⟨vn,rfl⟩:∃vn:Nat,v=vn:=⟨v.toNat,by omega⟩;rw[<-X.out] at H;obtain⟨aR,aS,e1,_,E⟩:=HV.out.vrs;obtain⟨bv,ov,e2,B,C⟩:=E vn (by rw[<-X.out];omega)
       have e3:A1=some ⟨bv,ov,none⟩:=by
        simp only[yA] at e1;rw[e1.1,e2]
       subst e3;have aD:=B;have aq:=C 1 _ rfl;have aL:=HW.out (p.vars.getD vn vr0) (getD_in vr0 (by rw[<-X.out];omega));unfold bW at z;rw[y5] at z;generalize p.vars.getD vn vr0=vr at*;obtain⟨nm,wd,md,vl⟩:=vr;simp only at aL aq z;generalize T q=tq at*;obtain⟨l1,J⟩:=tq;simp only at aH z Y d;have v0:(0:Int)<=(vn:Int):=by omega
       have v1:(vn:Int)<(n:Int):=by omega
       have x0:=d.out.at_ vn _ (du (by rw[Y.out];omega));have x1:=d.out.frozen vn;have x2:=d.out.lt;have A:=za c 0 rfl;clear e1 e2 E B C ai an H;go_upto_region 17 with fail;have ae:=zh (d.out.set_ vn (.int .i64 J));have ac:=zh (c.out.setNe (p:=⟨gr,vn,none⟩) (by show gr≠_;omega) (.int .i64 J));have W:=zh (f.out.setCell (p:=⟨gr,vn,none⟩) (by show w.heap.size<=gr;omega) (.int .i64 J));rw[gG] at ae;have y2:=(W.out.cell aD).trans aq;clear A x0 x1 x2 d c f y0;generalize wr.setCell ⟨gr,vn,none⟩ (.int .i64 J)=w5 at*;have A:=za ac 0 rfl;go_wp2_with fail;go_roundw
       ·exact⟨q+1,by omega,by go_num,by rw[z.out],by rw[z.out];exact ae,ac,W⟩
       ·simp[intOf];omega
      ·have am:¬(q:Int)<(rl:Int):=by omega
       have aI:q=rl:=by omega
       rw[aI,az.out] at d⊢;go_wp2_with fail;go_roundw
       ·exact⟨j+1,by omega,by go_num,rfl,d,c,f⟩
       ·simp[intOf];omega
    ·have D:¬(j:Int)<(m:Int):=by omega
     have HE:Hid ((S j).1=cC p):=zh (by
      rw[HS.out];unfold cC;simp only
      rw[Ai (by rw[<-HM.out];omega),<-X.out])
     rw[HE.out] at d;go_wp2_with fail;go_ret;exact⟨gr,by rw[<-X.out];rfl,by omega,d,f⟩
end
section
def goW {S:Type} (f:S->Ex->S×Bool):S->List Ex->S×Bool
 |s,[]=>(s,true)
 |s,e::l=>if(f s e).2=true then goW f (f s e).1 l else((f s e).1,false)
theorem qC {S:Type} (f:S->Ex->S×Bool):∀(l m:List Ex) (s:S),goW f s (l++m)=if(goW f s l).2=true then goW f (goW f s l).1 m else goW f s l
 |[],m,s=>by simp[goW]
 |e::l,m,s=>by
  have e1:goW f s (e::l++m)=if(f s e).2=true then goW f (f s e).1 (l++m) else((f s e).1,false):=rfl
  have a:goW f s (e::l)=if(f s e).2=true then goW f (f s e).1 l else((f s e).1,false):=rfl
  rw[e1,a,qC f l m]
  by_cases h:(f s e).2=true
  ·rw[yz h,yz h]
  ·rw[yw h,yw h,yw (by simp)]
theorem sw {S:Type} {f:S->Ex->S×Bool} {G:S->Nat->Prop} (b:∀s m e,G s (m+1)->G (f s e).1 m):∀(l:List Ex) (m:Nat) (s:S),G s (l.length+m)->(goW f s l).2=true->G (goW f s l).1 m
 |[],m,s,h,_=>by simpa [goW] using h
 |e::l,m,s,h,ht=>by
  have c:goW f s (e::l)=if(f s e).2=true then goW f (f s e).1 l else((f s e).1,false):=rfl
  rw[c] at ht⊢
  by_cases a:(f s e).2=true
  ·rw[yz a] at ht⊢;exact sw b l m _ (b _ _ _ (by rw[yr] at h;rw[show l.length+m+1=l.length+1+m by omega];exact h)) ht
  ·rw[yw a] at ht;cases ht
def bi (d:Nat) (e:Ex) (k:Nat):List Ex:=(e.args.take k).flatMap (aq d)
theorem s7 (d:Nat) (e:Ex):bi d e 0=[]:=by simp[bi]
theorem ie {d:Nat} {e:Ex} {k:Nat} (h:k<e.args.length):bi d e (k+1)=bi d e k++aq d (e.args.getD k ex0):=by
 unfold bi;rw[Am,yp h,List.flatMap_append,yj,yp h];simp
theorem uv (d:Nat) (e:Ex):e::bi d e e.args.length=aq (d+1) e:=by
 unfold bi aq;rw[Ay]
theorem uu {d:Nat} {e:Ex} {k:Nat} (h:k<e.args.length):(bi d e k).length+(aq d (e.args.getD k ex0)).length<=(bi d e e.args.length).length:=by
 have a:∀j,k+1+j<=e.args.length->(bi d e (k+1)).length<=(bi d e (k+1+j)).length:=by
  intro j
  induction j with
  |zero=>intro _;exact yq _
  |succ j ih=>
   intro b;have:=ih (by omega);rw[show k+1+(j+1)=(k+1+j)+1 by omega,ie (k:=k+1+j) (by omega),yu];omega
 have:=a (e.args.length-(k+1)) (by omega);rw[show k+1+(e.args.length-(k+1))=e.args.length by omega,ie h,yu] at this;exact this
theorem ut {d:Nat} {e:Ex} {j k:Nat} (h:j<=k) (hk:k<=e.args.length):∃r,bi d e k=bi d e j++r:=by
 induction k with
 |zero=>
  obtain rfl:j=0:=by omega
  exact⟨[],by simp⟩
 |succ k ih=>
  by_cases e1:j=k+1
  ·subst e1;exact⟨[],by simp⟩
  ·obtain⟨r,a⟩:=ih (by omega) (by omega);exact⟨r++aq d (e.args.getD k ex0),by rw[ie (by omega),a,yZ]⟩
theorem goW_stop {S:Type} {f:S->Ex->S×Bool} {s:S} {d:Nat} {e:Ex} {j k:Nat} (h:j<=k/\k<=e.args.length) (a:(goW f s (bi d e j)).2=false):goW f s (bi d e k)=goW f s (bi d e j):=by
 obtain⟨r,b⟩:=ut (d:=d) h.1 h.2;rw[b,qC,yw (by rw[a];simp)]
def fChk (s:Int) (e:Ex):Int×Bool:=(aT e,decide (aT e=0))
theorem vE:∀(l:List Ex) (s:Int),0<l.length->(goW fChk s l).1=aY aT l
 |[],s,h=>by simp at h
 |[e],s,_=>by
  show(if decide (aT e=0)=true then goW fChk (aT e) [] else(aT e,false)).1=if aT e=0 then aY aT [] else aT e
  by_cases h:aT e=0
  ·rw[yz (yB h),yz h];show aT e=0;exact h
  ·rw[yw (by simpa using h),yw h]
 |e::a::l,s,_=>by
  have ih:=vE (a::l) (aT e) (by simp);show(if decide (aT e=0)=true then goW fChk (aT e) (a::l) else(aT e,false)).1=if aT e=0 then aY aT (a::l) else aT e
  by_cases h:aT e=0
  ·rw[yz (yB h),yz h,ih]
  ·rw[yw (by simpa using h),yw h]
def fCnt (s:Nat) (e:Ex):Nat×Bool:=(s+1,true)
theorem vD:∀(l:List Ex) (s:Nat),goW fCnt s l=(s+l.length,true)
 |[],s=>rfl
 |e::l,s=>by
  show(if(true=true) then goW fCnt (s+1) l else _)=_;rw[yz rfl,vD l (s+1),yr];congr 1;omega
def fNms (ops:Int->Bool) (a:List ByteArray) (e:Ex):List ByteArray×Bool:=(if ops e.op=true/\e.name∉a then a++[e.name] else a,true)
theorem vC (ops:Int->Bool):∀(l:List Ex) (a:List ByteArray),goW (fNms ops) a l=(nT ops a l,true)
 |[],a=>rfl
 |e::l,a=>by
  show(if(true=true) then goW (fNms ops) (if ops e.op=true/\e.name∉a then a++[e.name] else a) l else _)=_;rw[yz rfl,vC ops l]
  rfl
theorem nM (d:Nat) (e:Ex):0<(aq (d+1) e).length:=by unfold aq;simp
end
section
open Go.RowKit Go.Maps
def cR (ts:List TypeId) (w w':World):Prop:=w.heap.size<=w'.heap.size/\∀b cs T,Box w b cs T->T∉ts->Box w' b cs T
theorem cR.trans {ts:List TypeId} {w w' w2:World} (h:cR ts w w') (a:cR ts w' w2):cR ts w w2:=⟨yK h.1 a.1,λb cs T d c=>a.2 b cs T (h.2 b cs T d c) c⟩
theorem cR.of_below (ts:List TypeId) {w w':World} (h:Below w.heap.size w w'):cR ts w w':=⟨h.size,λ_ _ _ a _=>a.below h⟩
theorem cR.below {ts:List TypeId} {w w' w2:World} (h:cR ts w w') (a:Below w'.heap.size w' w2):cR ts w w2:=h.trans (.of_below ts a)
instance {ts:List TypeId} {w w' w2:World}:Zm w' w2 (cR ts w w') (cR ts w w2):=⟨λhb h=>cR.below h hb⟩
theorem ExZ.args {e:Ex} (h:ExZ e):∀a∈e.args,ExZ a:=by cases h;assumption
theorem ExZ.len {e:Ex} (h:ExZ e):e.args.length<=maxLen:=by cases h;assumption
theorem ExZ.name {e:Ex} (h:ExZ e):e.name.size<=maxLen:=by cases h;assumption
def exV (e:Ex) (x:Value):Value:= .agg #[.int .i64 e.op,.int .i64 e.n,.string e.name,x]
structure pT {S:Type} (f:S->Ex->S×Bool) (I:S->World->Prop) (G:S->Nat->Prop) (TS:List TypeId) (w0:World) (fv:Nat) (cv:Array Value):Prop where
 h79:79∉TS
 h191:191∉TS
 below:∀s W,I s W->Below w0.heap.size w0 W
 later:∀s W W',I s W->Below W.heap.size W W'->I s W'
 room:∀s m e,G s (m+1)->G (f s e).1 m
 enter:∀args W,(callFunc fv args).run Tryz.prog W= .ok (.enter fv args) W
 call:∀s m W e x d,G s (m+1)->I s W->ExZ e->Rs (exR d) w0 x e.args ah->Calls Tryz.prog fv (#[exV e x]++cv) W λr W'=>r= .returned (.bool (f s e).2)/\I (f s e).1 W'/\cR TS W W'
def DnC {S:Type} (f:S->Ex->S×Bool) (I:S->World->Prop) (G:S->Nat->Prop) (a:List TypeId) (w0:World) (b:Nat) (cv:Array Value) (gv gd d:Nat):Prop:=
 ∀s m W e x,G s ((aq (d+1) e).length+m)->I s W->ExZ e->Rs (exR d) w0 x e.args ah->Box W gv #[.func (.func b) #[] cv] 191->Box W gd #[.func (.func 264) #[] #[.pointer (some ⟨gv,0,none⟩),.pointer (some ⟨gd,0,none⟩)]] 191→
  Calls Tryz.prog 264 #[exV e x,.pointer (some ⟨gv,0,none⟩),.pointer (some ⟨gd,0,none⟩)] W λr W'=>r= .returned (.bool (goW f s (aq (d+1) e)).2)/\I (goW f s (aq (d+1) e)).1 W'/\cR a W W'
theorem vO {S:Type} {f:S->Ex->S×Bool} {I:S->World->Prop} {G:S->Nat->Prop} {TS:List TypeId} {w0:World} {fv:Nat} {cv:Array Value} (hV:pT f I G TS w0 fv cv) (gv gd d:Nat)
  (IH:∀C,d=C+1->DnC f I G TS w0 fv cv gv gd C):DnC f I G TS w0 fv cv gv gd d:=by
 intro s m W e x hG hI hz hr bv bd;have eg:=hV.enter;have aH:∀args W,(callFunc 264 args).run Tryz.prog W= .ok (.enter 264 args) W:=λargs W=>by kernel_rfl
 obtain⟨J,L,HG,l,HZ,HR⟩:=zk6 hV IH hG hI hz hr;obtain⟨w,v⟩:=zk2 bv bd;obtain⟨A,c,rfl,hc,hx⟩:=hr.exs;have HX:=zh hx;obtain⟨R,hR⟩:=zv (goW f s (aq (d+1) e));have N:=zh hR;rw[<-hR];obtain⟨n,hn⟩:=zv (e.args.length);have HN:=zh hn;have CV:=zh λW' (h:I s W')=>hV.call s ((aq (d+1) e).length-1+m) W' e _ d (by have:=nM d e;rw[show(aq (d+1) e).length-1+m+1=(aq (d+1) e).length+m by omega];exact hG) h hz hr;rw[<-hn] at hc HX;unfold exV at CV⊢;rw[<-hn] at CV⊢;obtain⟨eo,ar⟩:=zv (e.op);obtain⟨en,ap⟩:=zv (e.n);obtain⟨em,ak⟩:=zv (e.name);rw[<-ar,<-ap,<-ak] at CV⊢;have aI:n<=9223372036854775807:=by have:=hz.len;unfold maxLen at this;omega
 clear hV IH hG hI hz hr bv bd hx hR hn ar ap ak HR;go_enter Tryz.func264,Tryz.ntmps264;go_upto_region 1 with fail;generalize H:W.alloc _=w1 at*;obtain⟨g,u⟩:=zA1 H;clear H;replace w:=zb w g;replace v:=zb v g;have y:=zh (cR.of_below TS g);replace l:=zh (J.out.later _ _ _ l g);clear g;generalize W.heap.size=ga at*;have aG:=za w 0 rfl;have ab:=za u 0 rfl;have ac:=za u 1 rfl;have ad:=za u 2 rfl;have F:=za u 3 rfl;go_wp2_with fail;clear aG ab ac ad F eg;refine(CV w1 l).mono ?_;rintro r w2 ⟨rfl,hi,hk⟩;have aD:=u.out.lt;replace y:=zh (y.out.trans hk);replace u:=zh (hk.2 _ _ _ u J.out.h79);replace w:=zh (hk.2 _ _ _ w J.out.h191);replace v:=zh (hk.2 _ _ _ v J.out.h191);replace l:=zh hi;clear hi hk CV;have M:Hid (aq (d+1) e=e::bi d e n):=zh (by rw[HN.out];exact(uv d e).symm);have B:Hid (goW f s (aq (d+1) e)=if(f s e).2=true then goW f (f s e).1 (bi d e n) else((f s e).1,false)):=zh (by rw[M.out];rfl);cases E:(f s e).2
 case false=>
  rw[E,yw (by simp)] at B;have z:=zh (N.out.trans B);clear E B M N HG HX L;go_wp2_with fail;go_ret;rw[z.out];exact⟨rfl,l,y⟩
 case true=>
  rw[E,yz rfl] at B;have z:=zh (N.out.trans B)
  have aA:Hid (G (f s e).1 ((bi d e n).length+m)):=zh (J.out.room _ _ _ (by
   have:=HG.out;rw[M.out,yr] at this
   rw[show(bi d e n).length+m+1=(bi d e n).length+1+m by omega];exact this))
  clear B M N HG E;generalize(f s e).1=s1 at*;have F:=za u 3 rfl;go_wp2_with fail;clear F
  go_loopw [14] (λi wr=>∃k:Nat,k<=n/\i= .int .i64 k/\(goW f s1 (bi d e k)).2=true/\I (goW f s1 (bi d e k)).1 wr/\cR TS W wr/\Box wr gv #[.func (.func fv) #[] cv] 191/\Box wr gd #[.func (.func 264) #[] #[.pointer (some ⟨gv,0,none⟩),.pointer (some ⟨gd,0,none⟩)]] 191) (λi _=>n-(intOf i).toNat)
  case atStart=>exact⟨0,yt _,rfl,by rw[s7];rfl,by rw[s7];exact l,y,w,v⟩
  case round=>
   obtain⟨k,hk,rfl,au,hi,av,az,ay⟩:=hrel;clear w v u l y aD w1 w2;obtain⟨w,v,l,y,t⟩:=zk5 az ay hi av au;clear az ay hi av au
   by_cases aw:k<n
   ·have ax:(k:Int)<n:=by omega
    have k0:(0:Int)<=(k:Int):=by omega
    have Z:k<e.args.length:=by rw[<-HN.out];exact aw
    obtain⟨b,o,p,C,e2,P,Q,j,aa, -⟩:=HX.out k aw;subst e2;have D:=J.out.below _ _ l;have v0:=(D.cell P).trans (j 0 _ rfl);have v1:=(D.cell P).trans (j 1 _ rfl);have v2:=(D.cell P).trans (j 2 _ rfl);have v3:=(D.cell P).trans (j 3 _ rfl);rw[yU] at v0;have ai:Hid (bi d e (k+1)=bi d e k++aq (C+1) (e.args.getD k ex0)):=zh (by rw[<-Q];exact ie Z);have ah:Hid (goW f s1 (bi d e (k+1))=goW f (goW f s1 (bi d e k)).1 (aq (C+1) (e.args.getD k ex0))):=zh (by rw[ai.out,qC,yz t.out])
    have af:Hid (∃m',G (goW f s1 (bi d e k)).1 ((aq (C+1) (e.args.getD k ex0)).length+m')):=zh (by
     have h1:=uu (d:=d) Z;rw[<-HN.out,Q] at h1;obtain⟨q,E⟩:=Ch h1;refine⟨q+m,sw J.out.room (bi d e k) _ s1 ?_ t⟩;have:=aA.out;rw[Q] at this⊢;rw[E] at this;rw[show(bi (C+1) e k).length+((aq (C+1) (e.args.getD k ex0)).length+(q+m))=(bi (C+1) e k).length+(aq (C+1) (e.args.getD k ex0)).length+q+m by omega]
     exact this)
    have aj:=zh (HZ.out.args _ (getD_in ex0 Z));have ag:=zh aa;obtain⟨m',K⟩:=af.out;have K:=zh K;have ae:=zh (L C Q);generalize e.args.getD k ex0=a at*;obtain⟨Ap,cp,rfl,aC⟩:=aa.slice;clear j aa D af ai;have CD:=zh fun(W':World) (h1:I (goW f s1 (bi d e k)).1 W') h2 h3=>ae.out _ m' W' a _ K h1 aj ag h2 h3;unfold exV at CD;obtain⟨ao,Y⟩:=zv (a.op);obtain⟨an,X⟩:=zv (a.n);obtain⟨am,V⟩:=zv (a.name);obtain⟨al,U⟩:=zv (a.args.length);rw[<-Y,<-X,<-V,<-U] at CD;rw[<-Y] at v0;rw[<-X] at v1;rw[<-V] at v2;rw[<-U] at v3;clear Y X V U ae K aj ag aC;go_upto_region 6 with fail;clear v0 v1 v2 v3;generalize H:wr.alloc _=w3 at*;obtain⟨g,u⟩:=zA1 H;clear H;replace w:=zb w g;replace v:=zb v g;replace y:=zb y g;replace l:=zh (J.out.later _ _ _ l g);clear g;generalize wr.heap.size=gk at*;have aF:=za v 0 rfl;have ab:=za u 0 rfl;have ac:=za u 1 rfl;have ad:=za u 2 rfl;have F:=za u 3 rfl;go_wp2_with fail;clear aF ab ac ad F;refine(CD w3 l w v).mono ?_;rintro r w4 ⟨rfl,hi,T⟩;rw[<-ah.out] at hi⊢;replace y:=zh (y.out.trans T);replace w:=zh (T.2 _ _ _ w J.out.h191);replace v:=zh (T.2 _ _ _ v J.out.h191);replace l:=zh hi;clear hi T CD ah t;cases E:(goW f s1 (bi d e (k+1))).2
    case false=>
     have aB:Hid (R=goW f s1 (bi d e (k+1))):=zh (by
      rw[z.out]
      exact goW_stop ⟨by omega,by rw[<-HN.out];exact yq _⟩ E)
     clear z HX L;go_wp2_with fail;go_ret;rw[aB.out,E];exact⟨rfl,l,y⟩
    case true=>
     have t:=zh E;clear E;go_wp2_with fail;go_roundw
     ·exact⟨k+1,by omega,by go_num,t,l,y,w,v⟩
     ·simp[intOf];omega
   ·have ax:¬(k:Int)<n:=by omega
    have aE:k=n:=by omega
    rw[aE,<-z.out] at t l;clear z HX L;go_wp2_with fail;go_ret;rw[t.out];exact⟨rfl,l,y⟩
theorem exDown {S:Type} {f:S->Ex->S×Bool} {I:S->World->Prop} {G:S->Nat->Prop} {b:List TypeId} {w0:World} {c:Nat} {cv:Array Value} (a:pT f I G b w0 c cv) (gv gd:Nat):∀d,DnC f I G b w0 c cv gv gd d
 |0=>vO a gv gd 0 λd' h=>by omega
 |d+1=>vO a gv gd (d+1) λd' h=>by
  obtain rfl:d=d':=by omega
  exact exDown a gv gd d
theorem ua {S:Type} {f:S->Ex->S×Bool} {I:S->World->Prop} {G:S->Nat->Prop} {z:List TypeId} {w0:World} {P:Nat} {cv:Array Value} (C:pT f I G z w0 P cv) (d:Nat) (s:S) (W:World) (e:Ex) (A:Option Addr) (c:Nat)
  (Q:G s (aq (d+1) e).length) (T:I s W) (X:ExZ e) (V:Rs (exR d) w0 (.slice A e.args.length c) e.args ah):
  Calls Tryz.prog 196 #[exV e (.slice A e.args.length c),.func (.func P) #[] cv] W λr W'=>r= .returned (.tuple #[])/\I (goW f s (aq (d+1) e)).1 W'/\cR z W W':=by
 have ab:=zm;have aa:∀args W,(callFunc 264 args).run Tryz.prog W= .ok (.enter 264 args) W:=λargs W=>by kernel_rfl
 obtain⟨Z,Y⟩:=zk2 C T;have t:=zh λgv gd (W':World) (h1:I s W') h2 h3=>exDown C gv gd d s 0 W' e _ Q h1 X V h2 h3;generalize goW f s (aq (d+1) e)=R at*;unfold exV at t⊢;obtain⟨eo,l⟩:=zv (e.op);obtain⟨en,k⟩:=zv (e.n);obtain⟨em,j⟩:=zv (e.name);obtain⟨n,U⟩:=zv (e.args.length);rw[<-l,<-k,<-j,<-U] at t⊢;clear l k j U C Q T X V;go_enter Tryz.func196,Tryz.ntmps196;go_upto_region 2 with fail;generalize m:W.alloc _=zw1 at*;generalize o:zw1.alloc _=zw2 at*;generalize q:zw2.alloc _=w1 at*;obtain⟨L,M,N,h⟩:=zB3 m o q;clear m o q;have b:=za h 0 rfl;have J:=h.out.frozen 0;have K:=h.out.lt;have u:Value:= .func (.func 264) #[] #[.pointer (some ⟨W.heap.size+1,0,none⟩),.pointer (some ⟨W.heap.size+1+1,0,none⟩)];have i:=zh (h.out.set_ 0 (.func (.func 264) #[] #[.pointer (some ⟨W.heap.size+1,0,none⟩),.pointer (some ⟨W.heap.size+1+1,0,none⟩)]));have B:=zh (N.out.setNe (p:=⟨W.heap.size+1+1,0,none⟩) (by show W.heap.size+1+1≠_;omega) (.func (.func 264) #[] #[.pointer (some ⟨W.heap.size+1,0,none⟩),.pointer (some ⟨W.heap.size+1+1,0,none⟩)]));have a:=zh (M.out.setNe (p:=⟨W.heap.size+1+1,0,none⟩) (by show W.heap.size+1+1≠_;omega) (.func (.func 264) #[] #[.pointer (some ⟨W.heap.size+1,0,none⟩),.pointer (some ⟨W.heap.size+1+1,0,none⟩)]));have g:=zh (L.out.setCell (p:=⟨W.heap.size+1+1,0,none⟩) (by show W.heap.size<=W.heap.size+1+1;omega) (.func (.func 264) #[] #[.pointer (some ⟨W.heap.size+1,0,none⟩),.pointer (some ⟨W.heap.size+1+1,0,none⟩)]));go_upto_region 3 with fail;clear b J K u M N h L;generalize w1.setCell ⟨W.heap.size+1+1,0,none⟩ (.func (.func 264) #[] #[.pointer (some ⟨W.heap.size+1,0,none⟩),.pointer (some ⟨W.heap.size+1+1,0,none⟩)])=w2 at*;have b:=za i 0 rfl;have D:=za a 0 rfl;have E:=za a 1 rfl;have F:=za a 2 rfl;have H:=za a 3 rfl;have w:=zh (Z.out.later _ _ _ Y g);go_wp2_with fail;clear b D E F H;refine(t _ _ w2 w B i).mono ?_;rintro r w3 ⟨rfl,hi,hk⟩;have x:=zh hi;have y:=zh ((cR.of_below z g).trans hk);clear hi hk;go_wp2_with fail;refine bodyPost_end (v:= .tuple #[]) (by simp[results,Tryz.results196]) rfl ?_;exact⟨rfl,x,y⟩
theorem exArity (w:World) (op:Int):Calls Tryz.prog 313 #[.int .i64 op] w λe w'=>e= .returned (.int .i64 (gY op))/\Below w.heap.size w w':=by
 have g:op=1\/op=2\/op=24\/op=3\/op=4\/op=5\/op=6\/op=25\/op=22\/op=23\/(op<1\/1<=op/\25<op\/1<=op/\op<=25)/\op≠1/\op≠2/\op≠24/\op≠3/\op≠4/\op≠5/\op≠6/\op≠25/\op≠22/\op≠23:=by omega
 rcases g with rfl|rfl|rfl|rfl|rfl|rfl|rfl|rfl|rfl|rfl|⟨h,i,j,k,l,m,n,o,p,f,b⟩
 case inr.inr.inr.inr.inr.inr.inr.inr.inr.inr=>
  have c:Hid (gY op=if op<1\/25<op then -1 else 2):=zh (by unfold gY;rw[yw (by omega),yw (by omega),yw f,yw b]);have t:(op==1)=false:=by simpa using i
  have u:(op==2)=false:=by simpa using j
  have v:(op==24)=false:=by simpa using k
  have x:(op==3)=false:=by simpa using l
  have y:(op==4)=false:=by simpa using m
  have z:(op==5)=false:=by simpa using n
  have A:(op==6)=false:=by simpa using o
  have B:(op==25)=false:=by simpa using p
  have C:(op==22)=false:=by simpa using f
  have s:(op==23)=false:=by simpa using b
  clear i j k l m n o p f b;rcases h with h|⟨d,h⟩|⟨d,h⟩
  ·have a:Hid (gY op= -1):=zh (by rw[c.out,yz (.inl h)]);go_enter Tryz.func313,Tryz.ntmps313;go_wp2_with fail;go_ret;exact⟨aS a.out.symm,yx _ _⟩
  ·have a:Hid (gY op= -1):=zh (by rw[c.out,yz (.inr h)]);have q:¬op<1:=by omega
   have r:op>25:=h;clear d;go_enter Tryz.func313,Tryz.ntmps313;go_wp2_with fail;go_ret;exact⟨aS a.out.symm,yx _ _⟩
  ·have a:Hid (gY op=2):=zh (by rw[c.out,yw (by omega)]);have q:¬op<1:=by omega
   have r:¬op>25:=by omega
   clear d h;go_enter Tryz.func313,Tryz.ntmps313;go_wp2_with fail;go_ret;exact⟨aS a.out.symm,yx _ _⟩
 all_goals
  go_enter Tryz.func313,Tryz.ntmps313;go_wp2_with fail;go_ret;exact⟨aS (by decide),yx _ _⟩
theorem ub (w:World) (e:Ex) (A:Option Addr) (c:Nat) (x:e.args.length<=maxLen):Calls Tryz.prog 265 #[exV e (.slice A e.args.length c)] w λr w'=>r= .returned (.bool (lR e.op e.args.length))/\Below w.heap.size w w':=by
 have s:=zh λW=>exArity W e.op;have k:Hid (lR e.op e.args.length=if e.op=23 then decide (e.args.length%2=1)&&(decide (3<=e.args.length)&&decide (e.args.length<=33)) else decide ((e.args.length:Int)=gY e.op)):=zh rfl;generalize lR e.op e.args.length=r at*;unfold exV;generalize e.args.length=n at*;generalize e.op=op at*;generalize e.n=en at*;generalize e.name=em at*;generalize gY op=ar at*;unfold maxLen at x
 by_cases h:op=23
 ·subst h;have a:Hid (r=(decide (n%2=1)&&(decide (3<=n)&&decide (n<=33)))):=zh (by rw[k.out,yz rfl]);clear k s
  have u:((n:Int)).tmod 2=((n%2:Nat):Int):=by
   rw[Int.tmod_eq_emod_of_nonneg (by omega)];omega
  rcases Nat.mod_two_eq_zero_or_one n with j|j
  ·rw[j] at u a;go_enter Tryz.func265,Tryz.ntmps265;go_upto_region 1 with fail;generalize b:w.alloc _=w1 at*;obtain⟨i,g⟩:=zB1 b;clear b;have d:=za g 0 rfl;have f:=za g 3 rfl;go_wp2_with fail;go_ret;exact⟨bF (by rw[a.out];rfl),i⟩
  ·rw[j] at u a
   by_cases l:3<=n
   ·have v:(n:Int)≥3:=by omega
    have o:(r=true/\(n:Int)<=33)\/(r=false/\¬(n:Int)<=33):=by
     rw[a.out,yB l]
     by_cases t:n<=33
     ·left;rw[yB t];exact⟨rfl,by omega⟩
     ·right;rw[yv t];exact⟨rfl,by omega⟩
    clear a l j;rcases o with⟨q,o⟩|⟨q,o⟩
    all_goals
     have a:=zh q;clear q;go_enter Tryz.func265,Tryz.ntmps265;go_upto_region 1 with fail;generalize b:w.alloc _=w1 at*;obtain⟨i,g⟩:=zB1 b;clear b;have d:=za g 0 rfl;have f:=za g 3 rfl;go_wp2_with fail;go_ret;exact⟨bF (by rw[a.out]),i⟩
   ·have v:¬(n:Int)≥3:=by omega
    have m:Hid (r=false):=zh (by rw[a.out,yv l];rfl);clear a l j;go_enter Tryz.func265,Tryz.ntmps265;go_upto_region 1 with fail;generalize b:w.alloc _=w1 at*;obtain⟨i,g⟩:=zB1 b;clear b;have d:=za g 0 rfl;have f:=za g 3 rfl;go_wp2_with fail;go_ret;exact⟨bF (by rw[m.out]),i⟩
 ·have a:Hid (r=decide ((n:Int)=ar)):=zh (by rw[k.out,yw h]);have y:(op==23)=false:=by simpa using h
  clear k h;go_enter Tryz.func265,Tryz.ntmps265;go_upto_region 1 with fail;generalize b:w.alloc _=w1 at*;obtain⟨i,g⟩:=zB1 b;clear b;have d:=za g 0 rfl;have f:=za g 3 rfl;go_wp2_with fail;refine(s w1).mono ?_;rintro e w2 ⟨rfl,p⟩;clear d f;replace g:=zb g p;replace i:=zb i p;clear p;go_wp2_with fail;go_ret;exact⟨bF (by rw[a.out,Bz];simp),i⟩
def mJ (s:ByteArray):Bool:=eV 91 s&&(aN (cI 91 s)&&(decide ((dZ 91 s).size=2)&&(decide (byt (dZ 91 s) 1=93)&&(decide (48<=byt (dZ 91 s) 0)&&decide (byt (dZ 91 s) 0<56)))))
theorem eltP_var (s:ByteArray):(mJ s||aN s)=lI s:=by
 rw[<-varP_eq];unfold varP mJ;cases hh:eV 91 s
 ·simp
 ·rw[yz rfl]
  have a:aN s=false:=by
   refine u6 (k:=ix 91 s.data.toList) ?_ ?_
   ·rw[Ba];exact AD hh
   ·rw[qO hh];rfl
  rw[a,Bool.or_false,B5];cases aN (cI 91 s)<;>cases decide ((dZ 91 s).size=2)<;>cases decide (byt (dZ 91 s) 1=93)<;>cases decide (48<=byt (dZ 91 s) 0)<;>cases decide (byt (dZ 91 s) 0<56)<;>rfl
def ElR (s:ByteArray) (w:World) (e:Ending) (w':World):Prop:=∃(a:ByteArray) (i:Int),e= .returned (.tuple #[.string a,.int .i64 i,.bool (mJ s)])/\Below w.heap.size w w'
theorem ElR.mk {w w':World} {s a:ByteArray} {i:Int} {b:Bool} (h:b=mJ s) (c:Below w.heap.size w w'):ElR s w (.returned (.tuple #[.string a,.int .i64 i,.bool b])) w':=⟨a,i,by rw[h],c⟩
theorem xQ (s:ByteArray) (w:World) (A:s.size<=9223372036854775807) (h:KW w) (hm:cM w):Calls Tryz.prog 314 #[.string s] w (ElR s w):=by
 have q:=zh h;have m:=zh (cutAt 91 s w A hm);have r:=fO 91 s;have u:=lP 91 s;have k:=kQ (b:=91) s.data.toList;rw[<-Ba] at k;have p:=zh (λw h=>kN (cI 91 s) w (by unfold maxLen;omega) h);have t:(dZ 91 s).size<=9223372036854775807:=by omega
 have g:Hid (mJ s=(eV 91 s&&(aN (cI 91 s)&&(decide ((dZ 91 s).size=2)&&(decide (byt (dZ 91 s) 1=93)&&(decide (48<=byt (dZ 91 s) 0)&&decide (byt (dZ 91 s) 0<56))))))):=zh rfl;have i:∀b,b=mJ s->Hid (b=mJ s):=λb h=>zh h;generalize eV 91 s=hh at*;generalize aN (cI 91 s)=n2 at*;generalize cI 91 s=ps at*;generalize dZ 91 s=qs at*;clear h hm r u k;cases hh
 ·have d:=i false (by rw[g.out];rfl);clear g i t;go_enter Tryz.func314,Tryz.ntmps314;go_wp2_with fail;refine m.out.mono ?_;rintro e w1 ⟨rfl,a⟩;have c:=zh a;clear a;go_wp2_with fail;go_ret3;exact .mk d c
 cases n2
 ·have d:=i false (by rw[g.out];rfl);clear g i t;go_enter Tryz.func314,Tryz.ntmps314;go_wp2_with fail;refine m.out.mono ?_;rintro e w1 ⟨rfl,a⟩;have c:=zh a;clear a;go_wp2_with fail;refine(p _ (q.out.below c)).mono ?_;rintro e w2 ⟨rfl,a⟩;replace c:=zb c a;clear a;go_wp2_with fail;go_ret3;exact .mk d c
 by_cases n:qs.size=2
 case neg=>
  have z:((qs.size:Int) !=2)=true:=by
   have:¬(qs.size:Int)=2:=by omega
   simpa using this
  have d:=i false (by rw[g.out,yv n];rfl);clear g i n;go_enter Tryz.func314,Tryz.ntmps314;go_wp2_with fail;refine m.out.mono ?_;rintro e w1 ⟨rfl,a⟩;have c:=zh a;clear a;go_wp2_with fail;refine(p _ (q.out.below c)).mono ?_;rintro e w2 ⟨rfl,a⟩;replace c:=zb c a;clear a;go_wp2_with fail;go_ret3;exact .mk d c
 case pos=>
  have z:((qs.size:Int) !=2)=false:=by simpa using(by omega:(qs.size:Int)=2)
  have l0:0<qs.size:=by omega
  have B:1<qs.size:=by omega
  have x:=ir qs 0 l0;have y:=ir qs 1 B;rw[yB n,x,y] at g;clear t n x y
  have v:(((qs[1].toNat:Int) !=93)=true/\false=mJ s)\/(((qs[1].toNat:Int) !=93)=false/\(qs[0].toNat:Int)<48/\false=mJ s)\/(((qs[1].toNat:Int) !=93)=false/\¬(qs[0].toNat:Int)<48/\(qs[0].toNat:Int)≥56/\false=mJ s)\/(((qs[1].toNat:Int) !=93)=false/\¬(qs[0].toNat:Int)<48/\¬(qs[0].toNat:Int)≥56/\true=mJ s):=by
   rw[g.out]
   by_cases f:(qs[1].toNat:Int)=93
   ·by_cases j:(48:Int)<=(qs[0].toNat:Int)
    ·by_cases o:(qs[0].toNat:Int)<56
     ·right;right;right;rw[yB f,yB j,yB o];exact⟨by simpa using f,by omega,by omega,rfl⟩
     ·right;right;left;rw[yB f,yB j,yv o];exact⟨by simpa using f,by omega,by omega,rfl⟩
    ·right;left;rw[yB f,yv j];exact⟨by simpa using f,by omega,rfl⟩
   ·left;rw[yv f];exact⟨by simpa using f,rfl⟩
  clear g;rcases v with⟨f,l⟩|⟨f,j,l⟩|⟨f,j,o,l⟩|⟨f,j,o,l⟩
  all_goals
   have d:=i _ l;clear i l;go_enter Tryz.func314,Tryz.ntmps314;go_wp2_with fail;refine m.out.mono ?_;rintro e w1 ⟨rfl,a⟩;have c:=zh a;clear a;go_wp2_with fail;refine(p _ (q.out.below c)).mono ?_;rintro e w2 ⟨rfl,a⟩;replace c:=zb c a;clear a;go_wp2_with fail
  iterate 3
   ·go_ret3;exact .mk d c
  ·go_quiet (fail)
   go_wp2_with fail;go_ret3;exact .mk d (ab c (ae _))
theorem exIsVar (s:ByteArray) (w:World) (g:s.size<=maxLen) (h:KW w) (hm:cM w):Calls Tryz.prog 266 #[.string s] w λe w'=>e= .returned (.bool (lI s))/\Below w.heap.size w w':=by
 have k:=zh h;have d:=zh (xQ s w (by unfold maxLen at g;omega) h hm);have j:=zh (λw h=>kN s w g h);have f:=zh (eltP_var s);unfold ElR at d;generalize lI s=r at*;generalize aN s=n1 at*;generalize mJ s=n2 at*;clear h hm;go_enter Tryz.func266,Tryz.ntmps266;go_wp2_with fail;refine d.out.mono ?_;rintro e w1 ⟨a,i,rfl,c⟩;have b:=zh c;clear c;cases n2
 ·go_wp2_with fail;refine(j _ (k.out.below b)).mono ?_;rintro e w2 ⟨rfl,c⟩;replace b:=zb b c;clear c;go_wp2_with fail;go_ret;exact⟨bF (by rw[<-f.out];rfl),b⟩
 ·go_wp2_with fail;go_ret;exact⟨bF (by rw[<-f.out];rfl),b⟩
end
end Go.Proofs.YtdahpdnhkflnnaaGreatDoor
