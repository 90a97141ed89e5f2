/-
  Contracts and laws for the law TopChoices, part 13 of 14; made small by a program of mine out of longer texts.
-/
import Derived.Test.YtdahpdnhkflnnaaGreatDoorZ12
namespace Go.Proofs.YtdahpdnhkflnnaaGreatDoor
set_option linter.unusedVariables false
set_option linter.unusedSimpArgs false
set_option linter.defProp false
set_option maxRecDepth 100000
set_option maxHeartbeats 64000000
section
open Go.RowKit Go.Maps
def SSE (g ga i:Nat) (A:Option Addr) (m c:Nat) (s:ByteArray) (W:World):Prop:=W.cell? ⟨g,i,none⟩=some (.slice A m c)/\W.cell? ⟨ga,2,none⟩=some (.string s)
theorem uJ (d:Nat) (ih:∀J,d=J+1->SeeC J):SeeC d:=by
 intro w0 W g N D dep er e A c hS R Q hN bm;obtain⟨aD,HZ⟩:=zk2 ih R;obtain⟨A',c',e1,hc,hx⟩:=Q.exs;simp only[yA] at e1;obtain⟨rfl, -,rfl⟩:=e1;obtain⟨HX,HS⟩:=zk2 hx hS;have CW:=zh fun(W:World)=>rxWrong W e A c R;have aF:=zh λk=>seeL_le d e k;have aw:=zh λk h=>seeL_s (d:=d) (e:=e) (k:=k) h;have au:=zh λk h=>seeD_s (d:=d) (D:=D) (dep:=dep) (e:=e) (k:=k) h;have av:=zh λk h=>seeE_s (d:=d) (er:=er) (e:=e) (k:=k) h;have aJ:=zh (tv d e);have aB:=zh (seeD_n d D dep e);have aC:=zh (seeE_n d er e);have aS:Hid (mF d e 0=0):=zh rfl;have aP:Hid (qi d D dep e 0=max D dep):=zh rfl;have aQ:Hid (oZ d er e 0=fu er (aT e)):=zh (by unfold oZ;exact cmb_zero _);have ax:=zh λk (h:k<e.args.length)=>R.args _ (getD_in ex0 h);have HP:Hid (∀k,k<e.args.length->∀J,d=J+1->(aq d (e.args.getD k ex0))=aq (J+1) (e.args.getD k ex0)):=zh λk h J e=>by rw[e]
 have be:e.args.length<=1000:=by
  rcases Nat.eq_zero_or_pos e.args.length with h0|h0
  ·omega
  ·obtain⟨_,_,_,J,_,_,aA,_⟩:=hx 0 h0;have h1:=wE J e.args;have h2:=tv d e;unfold mF at h2;rw[Ay,aA] at h2;rw[aA] at hN;omega
 generalize bb:(aq (d+1) e).length=K1 at*;generalize dh (d+1) e=K2 at*;generalize aY aT (aq (d+1) e)=K3 at*;unfold exV at CW⊢;obtain⟨n,hn⟩:=zv (e.args.length);have bh:=zh hn;rw[<-hn] at hc HX CW aw au av aJ aB aC ax HP be⊢;generalize aT e=nde at*;obtain⟨op,a6⟩:=zv (e.op);obtain⟨j,aW⟩:=zv (e.name);obtain⟨M,aX⟩:=zv (e.n);rw[<-a6,<-aW,<-aX] at CW⊢;clear R Q hx hS ih hn a6 aW aX bb;go_enter Tryz.func190,Tryz.ntmps190;go_upto_region 1 with fail;have aM:=ac W (.cells #[.int .i64 op,.int .i64 M,.string j,.slice A n c] 79);have XA:=zh (Box.new W 79 #[.int .i64 op,.int .i64 M,.string j,.slice A n c]);have aR:=zh (cR.of_below wkT aM)
 have aU:Hid (WkS w0 (W.alloc (.cells #[.int .i64 op,.int .i64 M,.string j,.slice A n c] 79)) g N D er):=zh (by
  obtain⟨v3,v4,t,u,h,h3,h4⟩:=HS.out
  exact⟨v3,v4,t,u,h.later aM,h3,h4⟩)
 clear HS aM;generalize W.alloc (.cells #[.int .i64 op,.int .i64 M,.string j,.slice A n c] 79)=w1 at*;generalize W.heap.size=ga at*;obtain⟨v3,v4,t,u,ho,aZ,a1⟩:=aU.out;clear aU;obtain⟨A3,c3,rfl⟩:=ho.o3.slice;obtain⟨A4,c4,rfl⟩:=ho.o4.slice;have f:=zh (show jJ w0 W w1 g ga N D er _ _ t u _ from⟨ho,XA,aR⟩);obtain⟨aG,aH⟩:=zk2 aZ a1;have aK:t.length<=1000:=by omega
 have aL:u.length<=1000:=by omega
 obtain⟨F,aa⟩:=zv (t.length);obtain⟨G,aj⟩:=zv (u.length);obtain⟨K,ab⟩:=zk2 aa aj;rw[<-aa,<-aj] at f;clear ho aZ a1 XA aR aa aj;have x0:w1.cell? ⟨g,0,none⟩=some (.int .i64 (N:Nat)):=f.out.o.box.at_ 0 _ rfl;have xz:=f.out.o.box.frozen 0;have xl:=f.out.o.box.lt;have bc:(0:Int)<=(N:Int):=by omega
 have bk:N<=1000:=by omega
 go_upto_region 2 with fail;rw[show(N:Int)+1=((N+1:Nat):Int) by omega];replace f:=zh (f.out.set (N':=N+1) (D':=D) (er':=er) 0 (.int .i64 ((N+1:Nat):Int)) rfl);clear x0 xz xl bc;generalize w1.setCell _ _=w2 at*;have x1:w2.cell? ⟨g,1,none⟩=some (.int .i64 (D:Nat)):=f.out.o.box.at_ 1 _ rfl;have xz:=f.out.o.box.frozen 1;have xl:=f.out.o.box.lt
 go_upto_if 20 with fail
 go_cut [6] from 7 to 103 (λ_ wx=>jJ w0 W wx g ga (N+1) (max D dep) er (.slice A3 F c3) (.slice A4 G c4) t u #[.int .i64 op,.int .i64 M,.string j,.slice A n c])
 case first=>
  by_cases bl:(dep:Int)>D
  ·have ak:max D dep=dep:=by omega
   have y:=zh (f.out.set (N':=N+1) (D':=max D dep) (er':=er) 1 (.int .i64 (dep:Nat)) (by rw[ak];rfl));clear ak;go_wp2_with fail;go_meet;exact y
  ·have ak:max D dep=D:=by omega
   have y:Hid (jJ w0 W w2 g ga (N+1) (max D dep) er (.slice A3 F c3) (.slice A4 G c4) t u #[.int .i64 op,.int .i64 M,.string j,.slice A n c]):=zh (by rw[ak];exact f);clear ak;go_wp2_with fail;go_meet;exact y
 case rest=>
 clear f x1 xz xl;have f:=zh hcut;clear hcut;generalize bi:max D dep=D1 at*;have x2:wc.cell? ⟨g,2,none⟩=some (.int .i64 er):=f.out.o.box.at_ 2 _ rfl
 go_upto_if 29 with fail
 go_cut [6] from 7 to 103 (λ_ wx=>jJ w0 W wx g ga (N+1) D1 (fu er nde) (.slice A3 F c3) (.slice A4 G c4) t u #[.int .i64 op,.int .i64 M,.string j,.slice A n c])
 case first=>
  by_cases h0:er=0
  ·subst h0;have ah:fu 0 nde=nde:=by unfold fu;rw[yz rfl]
   have y0:wc.cell? ⟨ga,0,none⟩=some (.int .i64 op):=f.out.x.at_ 0 _ rfl;have y1:wc.cell? ⟨ga,1,none⟩=some (.int .i64 M):=f.out.x.at_ 1 _ rfl;have y2:wc.cell? ⟨ga,2,none⟩=some (.string j):=f.out.x.at_ 2 _ rfl;have y3:wc.cell? ⟨ga,3,none⟩=some (.slice A n c):=f.out.x.at_ 3 _ rfl;go_wp2_with fail;refine(CW _).mono ?_;rintro r w3 ⟨rfl,P⟩;have y:=zh (f.out.later P);clear f P x2 y0 y1 y2 y3;have x2:w3.cell? ⟨g,2,none⟩=some (.int .i64 0):=y.out.o.box.at_ 2 _ rfl;have xz:=y.out.o.box.frozen 2;have xl:=y.out.o.box.lt;have U:=zh (y.out.set (N':=N+1) (D':=D1) (er':=fu 0 nde) 2 (.int .i64 nde) (by rw[ah];rfl));clear ah;go_wp2_with fail;go_meet;exact U
  ·have f0:(er==0)=false:=by simpa using h0
   have ah:fu er nde=er:=by unfold fu;rw[yw h0]
   have U:Hid (jJ w0 W wc g ga (N+1) D1 (fu er nde) (.slice A3 F c3) (.slice A4 G c4) t u #[.int .i64 op,.int .i64 M,.string j,.slice A n c]):=zh (by rw[ah];exact f);clear ah h0;go_wp2_with fail;go_meet;exact U
 case rest=>
 clear f x2;have f:=zh hcut;clear hcut;generalize bj:fu er nde=er1 at*;go_upto_region 6 with fail
 go_cut [47] from 7 to 103 (λbf wx=>∃q,bf= .bool q/\jJ w0 W wx g ga (N+1) D1 er1 (.slice A3 F c3) (.slice A4 G c4) t u #[.int .i64 op,.int .i64 M,.string j,.slice A n c])
 case first=>
  have CH:=zh λW' (P:Below wc.heap.size wc W')=>rxHas W' _ t j ((f.out.o.o3.below P).any.sl) (by omega)
  by_cases h2:op=2
  ·have c2:(op==2)=true:=by simpa using h2
   generalize Lib.containsS t j=q at*;clear h2;refine br 12 (Kit.of [iq 10 [] (.bool q)]) (by kernel_rfl) (by kernel_rfl) (λγ=>by kernel_rfl) (by kernel_rfl) (Kit.of_stable ?_) (Kit.of_known ?_) ?_
   ·intro z R;simp only[yC,yI,AH] at R;rcases R with rfl
    ·apply cO
   ·intro z R;simp only[yC,yI,AH] at R;rcases R with rfl
    ·apply cP
   intro γ ao C hC aN;have a8:γ 10= .bool q:=ao 10 rfl;have y0:∀p:gZ wc C,p.w.cell? ⟨ga,0,none⟩=some (.int .i64 op):=f.out.x.latC (C:=C) 0 _ rfl;have y2:∀p:gZ wc C,p.w.cell? ⟨ga,2,none⟩=some (.string j):=f.out.x.latC (C:=C) 2 _ rfl;have z3:∀p:gZ wc C,p.w.cell? ⟨g,3,none⟩=some (.slice A3 F c3):=f.out.o.box.latC (C:=C) 3 _ rfl;simp only[yX,y9,y6,yO]
   iterate 10 (refine aE rfl ?_;go_big_quiet_step (fail);refine yN ?_)
   refine cW rfl (cG (args:=#[.slice A3 F c3,.string j]) (by kernel_rfl) _ _ _ (cB Tryz.func261 (by kernel_rfl) (by kernel_rfl)) rfl (by simp[Act.eval]) (λw' P hf=>(CH w' P).mono λe w2 ⟨he,h1⟩=>⟨_,he,rfl,h1▸yx _ _⟩)) ?_;simp only[yH,Nat.reduceAdd,a8];go_simp
   iterate 1 (refine aE rfl ?_;go_big_quiet_step (fail);refine yN ?_)
   intro w3 P hF;have y:=zh (f.out.later P);clear hF ao hC aN y0 y2 z3 a8 P;clear γ;go_wp2_with fail;go_meet;exact⟨_,rfl,y⟩
  ·have c2:(op==2)=false:=by simpa using h2
   have y0:wc.cell? ⟨ga,0,none⟩=some (.int .i64 op):=f.out.x.at_ 0 _ rfl;clear CH
   go_quiet (fail)
   go_wp2_with fail;go_meet;exact⟨_,rfl,f.out.later (ay (yx _ _) _)⟩
 case rest=>
 clear f;obtain⟨q,rfl,Q⟩:=hcut;have f:=zh Q;clear Q
 go_upto_if 47 with fail
 go_cut [6] from 7 to 103 (λ_ wx=>∃A3 F c3 t,F=List.length t/\F<=N+1/\jJ w0 W wx g ga (N+1) D1 er1 (.slice A3 F c3) (.slice A4 G c4) t u #[.int .i64 op,.int .i64 M,.string j,.slice A n c])
 case first=>
  cases q
  ·go_wp2_with fail;go_meet;exact⟨A3,F,c3,t,K,by have:=K.out;have:=aG.out;omega,f⟩
  ·go_upto_region 7 with fail
   have ad:SSE g ga 3 A3 F c3 j wc.drew:=by
    have h:=f.out.later (show Below wc.heap.size wc wc.drew from ae _);exact⟨h.o.box.at_ 3 _ rfl,h.x.at_ 2 _ rfl⟩
   refine eC (S:=SSE g ga 3 A3 F c3 j) 8 (by kernel_rfl) ad (λhS=> ?_);clear ad;replace f:=zh (f.out.later (show Below wc.heap.size wc wc.drew from ae _));generalize wc.drew=wd at*;refine zuP 0 (.pointer (some ⟨g,0,none⟩)) rfl (Or.inl ⟨by rfl,λW L=>by go_simp⟩) ?_;simp only[zp];refine zuP 1 (.pointer (some ⟨g,0,none⟩)) rfl (Or.inl ⟨by rfl,λW L=>by go_simp⟩) ?_;simp only[zp];refine zuP 2 (.pointer (some ⟨g,0,none⟩)) rfl (Or.inl ⟨by rfl,λW L=>by go_simp⟩) ?_;simp only[zp];refine zuP 3 (.pointer (some ⟨g,3,none⟩)) rfl (Or.inl ⟨by rfl,λW L=>by go_simp⟩) ?_;simp only[zp];refine zu 4 (.slice A3 F c3) rfl (Or.inl ⟨by rfl,λW L=>by obtain⟨s1,s2⟩:=L;go_simp⟩) ?_;simp only[zp];refine zuP 5 (.pointer (some ⟨ga,2,none⟩)) rfl (Or.inl ⟨by rfl,λW L=>by go_simp⟩) ?_;simp only[zp];refine zu 6 (.string j) rfl (Or.inl ⟨by rfl,λW L=>by obtain⟨s1,s2⟩:=L;go_simp⟩) ?_;simp only[zp];clear hS;refine jB (i:=7) (by kernel_rfl) rfl ?_;go_wp2_with fail;have E:=ac wd (.cells #[.string j] 9);replace f:=zh (f.out.later E);have l:(wd.alloc (.cells #[.string j] 9)).cell? ⟨wd.heap.size,0,none⟩=some (.string j):=(Box.new wd 9 #[.string j]).at_ 0 _ rfl;clear E;refine⟨λ_=>⟨f.out.o.box.at_ 3 _ rfl,f.out.x.at_ 2 _ rfl⟩, ?_⟩;generalize wd.alloc (.cells #[.string j] 9)=we at*;generalize wd.heap.size=q0 at*;refine bz (i:=8) (by kernel_rfl) (by kernel_rfl) rfl ?_;refine js (B:=w0.heap.size) (xs:=t) (s:=j) (q:=q0) rfl _ _ rfl rfl f.out.o.o3 rfl l (by omega) f.out.o.below.size ?_;intro v' wf X I al;obtain⟨ap,Y,rfl⟩:=X.out.slice;have m:=zh (f.out.o.app3 X.out I.out al.out);have V:=zh (f.out.o.o3.boxKept I.out f.out.x (.inl (by decide)));have T:=zh (f.out.k.trans (oa f.out.o.o3 I.out (by simp[wkT])));have aI:Hid ((t++[j]).length=F+1):=zh (by rw[yu,<-K.out];rfl);generalize a4:(t++[j]).length=m3' at*;generalize a0:t++[j]=l3' at*;clear l I al X f a0;show bu _ _ _ _ _ _ _ _ _ _;refine bz (i:=9) (by kernel_rfl) (by kernel_rfl) rfl ?_;go_wp2_with fail;show bu _ _ _ _ _ _ _ _ _ _;refine bz (i:=10) (by kernel_rfl) (by kernel_rfl) rfl ?_;go_wp2_with fail;show bu _ _ _ _ _ _ _ _ _ _;have x3:wf.cell? ⟨g,3,none⟩=some (.slice A3 F c3):=m.out.box.at_ 3 _ rfl;have xz:=m.out.box.frozen 3;have xl:=m.out.box.lt;refine bz (i:=11) (by kernel_rfl) (by kernel_rfl) rfl ?_;go_wp2_with fail;refine eD (by kernel_rfl) ?_ _;have U:Hid (jJ w0 W (wf.setCell ⟨g,3,none⟩ (.slice ap m3' Y)) g ga (N+1) D1 er1 (.slice ap m3' Y) (.slice A4 G c4) l3' u #[.int .i64 op,.int .i64 M,.string j,.slice A n c]):=zh ⟨m.out.set 3 (.slice ap m3' Y),V.out.setNe (p:=⟨g,3,none⟩) (af m.out.box V (by decide)) _,T.out.trans (jy m.out.box (by simp[wkT]) 3 _)⟩;clear x3 xz xl m V T;go_wp2_with fail;go_meet;exact⟨ap,m3',Y,l3',a4.symm,by have:=aI.out;have:=K.out;have:=aG.out;omega,U⟩
 case rest=>
 clear f K aG aK;clear t F c3 A3;obtain⟨A3,F,c3,t,aa,aK,Q⟩:=hcut;obtain⟨f,K⟩:=zk2 Q aa;clear Q aa;go_upto_region 8 with fail
 go_cut [76] from 7 to 103 (λbg wx=>∃q,bg= .bool q/\jJ w0 W wx g ga (N+1) D1 er1 (.slice A3 F c3) (.slice A4 G c4) t u #[.int .i64 op,.int .i64 M,.string j,.slice A n c])
 case first=>
  have CH:=zh λW' (P:Below wc.heap.size wc W')=>rxHas W' _ u j ((f.out.o.o4.below P).any.sl) (by omega)
  by_cases h2:op=3\/op=24
  ·have c2:(op==3)=true\/(op==3)=false/\(op==24)=true:=by
    rcases h2 with h|h
    ·left;simpa using h
    ·right;exact⟨by simp;omega,by simpa using h⟩
   generalize Lib.containsS u j=q at*;clear h2;rcases c2 with c2|⟨c2,Y⟩
   all_goals
    refine br 17 (Kit.of [iq 15 [] (.bool q)]) (by kernel_rfl) (by kernel_rfl) (λγ=>by kernel_rfl) (by kernel_rfl) (Kit.of_stable ?_) (Kit.of_known ?_) ?_
    ·intro z R;simp only[yC,yI,AH] at R;rcases R with rfl
     ·apply cO
    ·intro z R;simp only[yC,yI,AH] at R;rcases R with rfl
     ·apply cP
    intro γ ao C hC aN;have a9:γ 15= .bool q:=ao 15 rfl;have y0:∀p:gZ wc C,p.w.cell? ⟨ga,0,none⟩=some (.int .i64 op):=f.out.x.latC (C:=C) 0 _ rfl;have y2:∀p:gZ wc C,p.w.cell? ⟨ga,2,none⟩=some (.string j):=f.out.x.latC (C:=C) 2 _ rfl;have z4:∀p:gZ wc C,p.w.cell? ⟨g,4,none⟩=some (.slice A4 G c4):=f.out.o.box.latC (C:=C) 4 _ rfl;simp only[yX,y9,y6,yO]
    iterate 15 (refine aE rfl ?_;go_big_quiet_step (fail);refine yN ?_)
    refine cW rfl (cG (args:=#[.slice A4 G c4,.string j]) (by kernel_rfl) _ _ _ (cB Tryz.func261 (by kernel_rfl) (by kernel_rfl)) rfl (by simp[Act.eval]) (λw' P hf=>(CH w' P).mono λe w2 ⟨he,h1⟩=>⟨_,he,rfl,h1▸yx _ _⟩)) ?_;simp only[yH,Nat.reduceAdd,a9];go_simp
    iterate 1 (refine aE rfl ?_;go_big_quiet_step (fail);refine yN ?_)
    intro w3 P hF;have y:=zh (f.out.later P);clear hF ao hC aN y0 y2 z4 a9 P;clear γ;go_wp2_with fail;go_meet;exact⟨_,rfl,y⟩
  ·have c2:(op==3)=false:=by simpa using λh=>h2 (.inl h)
   have Y:(op==24)=false:=by simpa using λh=>h2 (.inr h)
   have y0:wc.cell? ⟨ga,0,none⟩=some (.int .i64 op):=f.out.x.at_ 0 _ rfl;clear CH h2
   go_quiet (fail)
   go_wp2_with fail;go_meet;exact⟨_,rfl,f.out.later (ay (yx _ _) _)⟩
 case rest=>
 clear f;obtain⟨q,rfl,Q⟩:=hcut;have f:=zh Q;clear Q
 go_upto_if 76 with fail
 go_cut [6] from 7 to 103 (λ_ wx=>∃A4 G c4 u,G=List.length u/\G<=N+1/\jJ w0 W wx g ga (N+1) D1 er1 (.slice A3 F c3) (.slice A4 G c4) t u #[.int .i64 op,.int .i64 M,.string j,.slice A n c])
 case first=>
  cases q
  ·go_wp2_with fail;go_meet;exact⟨A4,G,c4,u,ab,by have:=ab.out;have:=aH.out;omega,f⟩
  ·go_upto_region 9 with fail
   have ad:SSE g ga 4 A4 G c4 j wc.drew:=by
    have h:=f.out.later (show Below wc.heap.size wc wc.drew from ae _);exact⟨h.o.box.at_ 4 _ rfl,h.x.at_ 2 _ rfl⟩
   refine eC (S:=SSE g ga 4 A4 G c4 j) 8 (by kernel_rfl) ad (λhS=> ?_);clear ad;replace f:=zh (f.out.later (show Below wc.heap.size wc wc.drew from ae _));generalize wc.drew=wd at*;refine zuP 0 (.pointer (some ⟨g,0,none⟩)) rfl (Or.inl ⟨by rfl,λW L=>by go_simp⟩) ?_;simp only[zp];refine zuP 1 (.pointer (some ⟨g,0,none⟩)) rfl (Or.inl ⟨by rfl,λW L=>by go_simp⟩) ?_;simp only[zp];refine zuP 2 (.pointer (some ⟨g,0,none⟩)) rfl (Or.inl ⟨by rfl,λW L=>by go_simp⟩) ?_;simp only[zp];refine zuP 3 (.pointer (some ⟨g,4,none⟩)) rfl (Or.inl ⟨by rfl,λW L=>by go_simp⟩) ?_;simp only[zp];refine zu 4 (.slice A4 G c4) rfl (Or.inl ⟨by rfl,λW L=>by obtain⟨s1,s2⟩:=L;go_simp⟩) ?_;simp only[zp];refine zuP 5 (.pointer (some ⟨ga,2,none⟩)) rfl (Or.inl ⟨by rfl,λW L=>by go_simp⟩) ?_;simp only[zp];refine zu 6 (.string j) rfl (Or.inl ⟨by rfl,λW L=>by obtain⟨s1,s2⟩:=L;go_simp⟩) ?_;simp only[zp];clear hS;refine jB (i:=7) (by kernel_rfl) rfl ?_;go_wp2_with fail;have E:=ac wd (.cells #[.string j] 9);replace f:=zh (f.out.later E);have l:(wd.alloc (.cells #[.string j] 9)).cell? ⟨wd.heap.size,0,none⟩=some (.string j):=(Box.new wd 9 #[.string j]).at_ 0 _ rfl;clear E;refine⟨λ_=>⟨f.out.o.box.at_ 4 _ rfl,f.out.x.at_ 2 _ rfl⟩, ?_⟩;generalize wd.alloc (.cells #[.string j] 9)=we at*;generalize wd.heap.size=q0 at*;refine bz (i:=8) (by kernel_rfl) (by kernel_rfl) rfl ?_;refine js (B:=w0.heap.size) (xs:=u) (s:=j) (q:=q0) rfl _ _ rfl rfl f.out.o.o4 rfl l (by omega) f.out.o.below.size ?_;intro v' wf X I al;obtain⟨ar,az,rfl⟩:=X.out.slice;have m:=zh (f.out.o.app4 X.out I.out al.out);have V:=zh (f.out.o.o4.boxKept I.out f.out.x (.inl (by decide)));have T:=zh (f.out.k.trans (oa f.out.o.o4 I.out (by simp[wkT])));have aI:Hid ((u++[j]).length=G+1):=zh (by rw[yu,<-ab.out];rfl);generalize a5:(u++[j]).length=m4' at*;generalize a2:u++[j]=l4' at*;clear l I al X f a2;show bu _ _ _ _ _ _ _ _ _ _;refine bz (i:=9) (by kernel_rfl) (by kernel_rfl) rfl ?_;go_wp2_with fail;show bu _ _ _ _ _ _ _ _ _ _;refine bz (i:=10) (by kernel_rfl) (by kernel_rfl) rfl ?_;go_wp2_with fail;show bu _ _ _ _ _ _ _ _ _ _;have x3:wf.cell? ⟨g,4,none⟩=some (.slice A4 G c4):=m.out.box.at_ 4 _ rfl;have xz:=m.out.box.frozen 4;have xl:=m.out.box.lt;refine bz (i:=11) (by kernel_rfl) (by kernel_rfl) rfl ?_;go_wp2_with fail;refine eD (by kernel_rfl) ?_ _;have U:Hid (jJ w0 W (wf.setCell ⟨g,4,none⟩ (.slice ar m4' az)) g ga (N+1) D1 er1 (.slice A3 F c3) (.slice ar m4' az) t l4' #[.int .i64 op,.int .i64 M,.string j,.slice A n c]):=zh ⟨m.out.set 4 (.slice ar m4' az),V.out.setNe (p:=⟨g,4,none⟩) (af m.out.box V (by decide)) _,T.out.trans (jy m.out.box (by simp[wkT]) 4 _)⟩;clear x3 xz xl m V T;go_wp2_with fail;go_meet;exact⟨ar,m4',az,l4',a5.symm,by have:=aI.out;have:=ab.out;have:=aH.out;omega,U⟩
 case rest=>
 clear f ab aH aL;clear u G c4 A4;obtain⟨A4,G,c4,u,aj,aL,Q⟩:=hcut;have H:Hid (WkS w0 wc g (N+1) D1 er1):=zh ⟨_,_,t,u,Q.o,by have:=K.out;omega,by omega⟩;have XA:=zh Q.x;have HK:=zh Q.k;clear Q K aj aK aL CW;clear A3 A4 F G c3 c4 t u;go_wp2_with fail
 go_loopw [6] (λi wr=>∃k:Nat,k<=n/\i= .int .i64 k/\WkS w0 wr g (N+1+mF d e k) (qi d D dep e k) (oZ d er e k)/\Box wr ga #[.int .i64 op,.int .i64 M,.string j,.slice A n c] 79/\cR wkT W wr) (λi _=>n-(intOf i).toNat)
 case atStart=>exact⟨0,yt _,rfl,by rw[aS.out,aP.out,aQ.out];exact H,XA,HK⟩
 case round=>
  clear H XA HK aS aP aQ;obtain⟨k,hk,rfl,am,a7,Z⟩:=hrel;obtain⟨H,XA,HK⟩:=zk3 am a7 Z;clear am a7 Z
  by_cases ai:k<n
  ·have a3:(k:Int)<n:=by omega
   have k0:(0:Int)<=(k:Int):=by omega
   obtain⟨b,o,p,J,e2,ag,aA,l,aO, -⟩:=HX.out k ai;subst e2;subst aA;obtain⟨Ap,cp,rfl, -⟩:=aO.slice
   have E:Below w0.heap.size w0 wr:=by
    obtain⟨_,_,_,_,h,_⟩:=H.out;exact h.below
   have v0:=(E.cell ag).trans (l 0 _ rfl);have v1:=(E.cell ag).trans (l 1 _ rfl);have v2:=(E.cell ag).trans (l 2 _ rfl);have v3:=(E.cell ag).trans (l 3 _ rfl);rw[yU] at v0;have y3:wr.cell? ⟨ga,3,none⟩=some (.slice (some ⟨b,o,none⟩) n c):=XA.out.at_ 3 _ rfl;have l1:=aF.out (k+1);have l2:=aw.out k ai;have t:=au.out k ai;have u:=av.out k ai;have ci:=aD.out J rfl w0 wr g (N+1+mF (J+1) e k) (qi (J+1) D dep e k) (dep+1) (oZ (J+1) er e k) (e.args.getD k ex0) Ap cp H (ax k ai) aO (by omega) (by omega);rw[show((dep+1:Nat):Int)=(dep:Int)+1 by omega] at ci;obtain⟨CI,L2,L3,L4⟩:=zk4 ci l2 t u;clear ci l1 l2 t u l aO E ag aD HX aw au av aF ax HP H;unfold exV at CI;generalize e.args.getD k ex0=a at*;generalize a.args.length=an at*;go_wp2_with fail;refine CI.out.mono ?_;rintro r w' ⟨rfl,am,Z⟩
   have H:Hid (WkS w0 w' g (N+1+mF (J+1) e (k+1)) (qi (J+1) D dep e (k+1)) (oZ (J+1) er e (k+1))):=zh (by
    rw[L2.out,L3.out,L4.out,<-Nat.add_assoc,show dep+dh (J+1) a=dep+1+dh (J+1) a-1 by omega]
    exact am)
   have ba:=zh (Z.2 _ _ _ XA (by decide));have T:=zh (HK.out.trans Z);clear am Z XA HK L2 L3 L4 CI v0 v1 v2 v3 y3;go_wp2_with fail;go_roundw
   ·exact⟨k+1,by omega,by go_num,H,ba,T⟩
   ·simp[intOf];omega
  ·have a3:¬(k:Int)<n:=by omega
   have bd:k=n:=by omega
   subst bd;have y3:wr.cell? ⟨ga,3,none⟩=some (.slice A k c):=XA.out.at_ 3 _ rfl
   have aV:Hid (WkS w0 wr g (N+K1) (max D (dep+K2-1)) (fu er K3)):=zh (by
    have:=H.out;rw[aB.out,aC.out,Nat.add_assoc,aJ.out] at this
    exact this)
   clear H aB aC aJ aD HX aw au av aF ax HP;go_wp2_with fail;refine bodyPost_end (v:= .tuple #[]) (by simp[results,Tryz.results190]) rfl ?_;exact⟨rfl,aV,HK⟩
theorem rxSee:∀d,SeeC d
 |0=>uJ 0 λa h=>by omega
 |d+1=>uJ (d+1) λa h=>by
  obtain rfl:a=d:=by omega
  exact rxSee a
def OvR (w:World) (N D:Nat) (er:Int) (r:Ending) (w':World):Prop:=∃g a b,r= .returned (.pointer (some ⟨g,0,none⟩))/\Box w' g (wkC N D er a b) 190/\Below w.heap.size w w'
theorem rxOver (w:World) (e:Ex) (d:Nat) (A:Option Addr) (c:Nat) (s:ExZ e) (q:Rs (exR d) w (.slice A e.args.length c) e.args ah) (x:d<=900) (y:(aq (d+1) e).length<=1000):
  Calls Tryz.prog 113 #[exV e (.slice A e.args.length c)] w (OvR w (aq (d+1) e).length (dh (d+1) e) (aY aT (aq (d+1) e))):=by
 have i:=zh fun(W:World) (g:Nat) (h:WkS w W g 0 0 0)=>rxSee d w W g 0 0 1 0 e A c h s q (by omega) (by omega);rw[yH,show max 0 (1+dh (d+1) e-1)=dh (d+1) e by omega,show fu 0 (aY aT (aq (d+1) e))=aY aT (aq (d+1) e) by unfold fu;rw[yz rfl]] at i;generalize(aq (d+1) e).length=N at*;generalize dh (d+1) e=D at*;generalize aY aT (aq (d+1) e)=er at*;unfold exV at i⊢;generalize e.args.length=n at*;generalize e.op=op at*;generalize e.n=en at*;generalize e.name=em at*;clear s q y x;go_enter Tryz.func113,Tryz.ntmps113;go_upto_region 2 with fail;generalize a:w.alloc _=zw1 at*;generalize b:zw1.alloc _=w1 at*;obtain⟨t,f,v⟩:=zB2 a b;clear a b;have k:=za f 0 rfl;have l:=za f 1 rfl;have m:=za f 2 rfl;have o:=za f 3 rfl;have u:Hid (WkS w w1 (w.heap.size+1) 0 0 0):=zh ⟨.slice none 0 0,.slice none 0 0,[],[],⟨t,by omega,v,OG.nil jn w1 w.heap.size 0 _ (by decide) (yt _),OG.nil jn w1 w.heap.size 0 _ (by decide) (yt _),.inl rfl⟩,yq _,yq _⟩;go_wp2_with fail;refine(i w1 _ u).mono ?_;rintro r w2 ⟨rfl,⟨z,B,C,E,p, -, -⟩, -⟩;have j:=zh p;clear p;go_wp2_with fail;go_ret;exact⟨_,z,B,rfl,j.out.box,j.out.below⟩
theorem rxValid (w:World) (e:Ex) (d:Nat) (A:Option Addr) (c:Nat) (B:ExZ e) (y:Rs (exR d) w (.slice A e.args.length c) e.args ah) (E:d<=900) (G:(aq (d+1) e).length<=1000):
  Calls Tryz.prog 62 #[exV e (.slice A e.args.length c)] w λr w'=>r= .returned (.int .i64 (gM (d+1) e))/\Below w.heap.size w w':=by
 have t:=zh fun(W:World) (q:Below w.heap.size w W)=>rxOver W e d A c B (y.below q) E G;have p:Hid (gM (d+1) e=if aY aT (aq (d+1) e)=0 then(if 24<dh (d+1) e\/400<(aq (d+1) e).length then 2 else 0) else aY aT (aq (d+1) e)):=zh rfl;have F:=mX (d+1) e;generalize gM (d+1) e=R at*;generalize(aq (d+1) e).length=N at*;generalize dh (d+1) e=D at*;generalize aY aT (aq (d+1) e)=fe at*;unfold exV at t⊢;generalize e.args.length=n at*;generalize e.op=op at*;generalize e.n=en at*;generalize e.name=em at*;clear B y;go_enter Tryz.func62,Tryz.ntmps62;go_upto_region 1 with fail;generalize o:w.alloc _=w1 at*;obtain⟨h,i⟩:=zB1 o;clear o;have j:=za i 0 rfl;have k:=za i 1 rfl;have l:=za i 2 rfl;have m:=za i 3 rfl;go_wp2_with fail;refine(t w1 h).mono ?_;rintro r w2 ⟨g,H,I,rfl,z,q⟩;have u:=zh z;replace h:=zb h q;clear z q t i;clear j k l m;have x0:w2.cell? ⟨g,0,none⟩=some (.int .i64 (N:Nat)):=u.out.at_ 0 _ rfl;have J:w2.cell? ⟨g,1,none⟩=some (.int .i64 (D:Nat)):=u.out.at_ 1 _ rfl;have K:w2.cell? ⟨g,2,none⟩=some (.int .i64 fe):=u.out.at_ 2 _ rfl
 by_cases s:fe=0
 case neg=>
  have x:(fe==0)=false:=by simpa using s
  have a:Hid (R=fe):=zh (by rw[p.out,yw s]);clear p s;go_wp2_with fail;go_ret;exact⟨aS a.out.symm,h⟩
 subst s;have a:Hid (R=if 24<D\/400<N then 2 else 0):=zh (by rw[p.out,yz rfl]);clear p
 by_cases f:24<D
 case pos=>
  have x:(D:Int)>24:=by omega
  have b:Hid (R=2):=zh (by rw[a.out,yz (.inl f)]);clear a f;go_wp2_with fail;go_ret;exact⟨aS b.out.symm,h⟩
 have x:¬(D:Int)>24:=by omega
 by_cases v:400<N
 case pos=>
  have C:(N:Int)>400:=by omega
  have b:Hid (R=2):=zh (by rw[a.out,yz (.inr v)]);clear a f v;go_wp2_with fail;go_ret;exact⟨aS b.out.symm,h⟩
 have C:¬(N:Int)>400:=by omega
 have b:Hid (R=0):=zh (by rw[a.out,yw (by omega)]);clear a f v;go_wp2_with fail;go_ret;exact⟨aS b.out.symm,h⟩
def dx (T:Ex->Bool) (d:Nat) (e:Ex):Bool:=(aq (d+1) e).any T
theorem ta {T:Ex->Bool} {d:Nat} {e:Ex} (h:T e=true):dx T d e=true:=AE.2 ⟨e,by unfold aq;simp,h⟩
theorem tb {T:Ex->Bool} {d k:Nat} {e:Ex} (hk:k<e.args.length) (h:(aq d (e.args.getD k ex0)).any T=true):dx T d e=true:=by
 obtain⟨x,b,a⟩:=AE.1 h;refine AE.2 ⟨x, ?_,a⟩;unfold aq;exact yT _ (List.mem_flatMap.2 ⟨_,getD_in ex0 hk,b⟩)
theorem wF {T:Ex->Bool} {d:Nat} {e:Ex} (h:T e=false) (i:∀j,j<e.args.length->(aq d (e.args.getD j ex0)).any T=false):dx T d e=false:=by
 cases hq:dx T d e
 ·rfl
 ·exfalso
  obtain⟨x,b,c⟩:=AE.1 hq;unfold aq at b;rcases yC.1 b with rfl|b
  ·rw[h] at c;cases c
  ·obtain⟨a,k,b⟩:=List.mem_flatMap.1 b;obtain⟨j,g,rfl⟩:=yS.1 k;have:=i j g;rw[yj,yp g,AV] at this;have f:(aq d e.args[j]).any T=true:=AE.2 ⟨x,b,c⟩;rw[this] at f;cases f
def fG (x:Ex):Bool:=gW x.op
def eA (vars:List Vr) (x:Ex):Bool:=eX x.op&&decide (cS vars x.name<0)
def ArC (d:Nat):Prop:=∀(w:World) (e:Ex) (A:Option Addr) (c:Nat),ExZ e->Rs (exR d) w (.slice A e.args.length c) e.args ah->Calls Tryz.prog 114 #[exV e (.slice A e.args.length c)] w λr w'=>r= .returned (.bool (dx fG d e))/\Below w.heap.size w w'
theorem pm (d:Nat) (ih:∀F,d=F+1->ArC F):ArC d:=by
 intro w e A c hz hr;have u:=zh ih;obtain⟨A',c',e1,hc,hx⟩:=hr.exs;simp only[yA] at e1;obtain⟨rfl, -,rfl⟩:=e1;have K:=zh hx;have l:=zh λk (h:k<e.args.length)=>hz.args _ (getD_in ex0 h);have U:=hz.len;unfold maxLen at U;have J:Hid (fG e=true->dx fG d e=true):=zh ta;have D:Hid (∀k,k<e.args.length->(aq d (e.args.getD k ex0)).any fG=true->dx fG d e=true):=zh λk h h2=>tb h h2;have z:Hid (fG e=false->(∀j,j<e.args.length->(aq d (e.args.getD j ex0)).any fG=false)->dx fG d e=false):=zh wF;have C:Hid (fG e=(decide (e.op=3)||decide (e.op=24))):=zh rfl;obtain⟨r,S⟩:=zv (dx fG d e);rw[<-S] at J D z⊢;generalize fG e=t at*;unfold exV;obtain⟨n,hn⟩:=zv (e.args.length);rw[<-hn] at hc K l D z U⊢;obtain⟨op,R⟩:=zv (e.op);obtain⟨em,N⟩:=zv (e.name);obtain⟨en,P⟩:=zv (e.n);rw[<-R] at C⊢;rw[<-N,<-P];clear hz hr hx ih hn R N P S;go_enter Tryz.func114,Tryz.ntmps114;go_upto_region 1 with fail;generalize V:w.alloc _=w1 at*;obtain⟨g,s⟩:=zB1 V;clear V;have M:=za s 0 rfl
 by_cases G:op=3
 ·have L:=zh (J (by rw[C.out,yB G];rfl));have c3:(op==3)=true:=by simpa using G
  clear J D z C K l u G;go_wp2_with fail;go_ret;exact⟨bF L.out.symm,g⟩
 have c3:(op==3)=false:=by simpa using G
 by_cases m:op=24
 ·have L:=zh (J (by rw[C.out,yB m,Bool.or_true]));have c4:(op==24)=true:=by simpa using m
  clear J D z C K l u G m;go_wp2_with fail;go_ret;exact⟨bF L.out.symm,g⟩
 have c4:(op==24)=false:=by simpa using m
 replace z:=zh (z (by rw[C.out,yv G,yv m];rfl));clear J C G m;go_wp2_with fail;clear M
 go_loopw [3] (λi wr=>∃k:Nat,k<=n/\i= .int .i64 k/\Hid (∀j,j<k->(aq d (e.args.getD j ex0)).any fG=false)/\Box wr w.heap.size #[.int .i64 op,.int .i64 en,.string em,.slice A n c] 79/\Below w.heap.size w wr) (λi _=>n-(intOf i).toNat)
 case atStart=>exact⟨0,yt _,rfl,zh (λj h=>by omega),s,g⟩
 case round=>
  clear s g;obtain⟨k,hk,rfl,B,T,y⟩:=hrel;obtain⟨s,g⟩:=zk2 T y;clear T y
  by_cases H:k<n
  ·have Q:(k:Int)<n:=by omega
   have k0:(0:Int)<=(k:Int):=by omega
   obtain⟨b,o,p,F,e2,x,Z,f,I, -⟩:=K.out k H;subst e2;subst Z;obtain⟨Ap,cp,rfl, -⟩:=I.slice;have v0:=(g.out.cell x).trans (f 0 _ rfl);have v1:=(g.out.cell x).trans (f 1 _ rfl);have v2:=(g.out.cell x).trans (f 2 _ rfl);have v3:=(g.out.cell x).trans (f 3 _ rfl);rw[yU] at v0;have W:=zh (u F rfl wr (e.args.getD k ex0) Ap cp (l k H) (I.below g));have E:=zh (D k H)
   have X:Hid ((aq (F+1) (e.args.getD k ex0)).any fG=false->∀j,j<k+1->(aq (F+1) (e.args.getD j ex0)).any fG=false):=zh λh j hj=>by
    by_cases e:j=k
    ·rw[e];exact h
    ·exact B.out j (by omega)
   unfold dx exV at W;generalize(aq (F+1) (e.args.getD k ex0)).any fG=q at*;generalize e.args.getD k ex0=a at*;generalize a.args.length=an at*;clear f I x u K D l z B;have v:=za s 3 rfl;cases q
   ·have Y:=zh (X rfl);clear X E;go_wp2_with fail;clear v0 v1 v2 v3;refine(W).mono ?_;rintro r w2 ⟨rfl,y⟩;clear v;replace s:=zb s y;replace g:=zb g y;clear y;go_wp2_with fail;go_roundw
    ·exact⟨k+1,by omega,by go_num,Y,s,g⟩
    ·simp[intOf];omega
   ·have Y:=zh (E rfl);clear X E;have v:=za s 3 rfl;go_wp2_with fail;clear v0 v1 v2 v3;refine(W).mono ?_;rintro r w2 ⟨rfl,y⟩;clear v;replace s:=zb s y;replace g:=zb g y;clear y;go_wp2_with fail;go_ret;exact⟨bF Y.out.symm,g⟩
  ·have Q:¬(k:Int)<n:=by omega
   have L:=zh (z λj hj=>B.out j (by omega));clear B z D K l u;have y3:wr.cell? ⟨w.heap.size,3,none⟩=some (.slice A n c):=s.out.at_ 3 _ rfl;go_wp2_with fail;go_ret;exact⟨bF L.out.symm,g⟩
theorem rH:∀d,ArC d
 |0=>pm 0 λa h=>by omega
 |d+1=>pm (d+1) λa h=>by
  obtain rfl:a=d:=by omega
  exact rH a
def FoC (v:Value) (vars:List Vr) (d:Nat):Prop:=∀(w:World) (e:Ex) (A:Option Addr) (c:Nat),Rs vrR w v vars ah->ExZ e->Rs (exR d) w (.slice A e.args.length c) e.args ah->Calls Tryz.prog 115 #[v,exV e (.slice A e.args.length c)] w λr w'=>r= .returned (.bool (dx (eA vars) d e))/\Below w.heap.size w w'
theorem nK (v:Value) (vars:List Vr) (nv:vars.length<=1000) (d:Nat) (ih:∀F,d=F+1->FoC v vars F):FoC v vars d:=by
 intro w e A c hv hz hr;have HV:=zh hv;have U:=zh fun(W:World) (s:Below w.heap.size w W)=>tz W v vars e.name (hv.below s) nv;obtain⟨Av,cv,rfl, -⟩:=hv.slice;generalize af:vars.length=vl at*;have z:=zh ih;obtain⟨A',c',e1,hc,hx⟩:=hr.exs;simp only[yA] at e1;obtain⟨rfl, -,rfl⟩:=e1;have L:=zh hx;have y:=zh λk (h:k<e.args.length)=>hz.args _ (getD_in ex0 h);have ad:=hz.len;unfold maxLen at ad;have X:Hid ((eA vars) e=true->dx (eA vars) d e=true):=zh ta;have J:Hid (∀k,k<e.args.length->(aq d (e.args.getD k ex0)).any (eA vars)=true->dx (eA vars) d e=true):=zh λk h M=>tb h M;have E:Hid ((eA vars) e=false->(∀j,j<e.args.length->(aq d (e.args.getD j ex0)).any (eA vars)=false)->dx (eA vars) d e=false):=zh wF;have K:Hid (eA vars e=(decide (e.op=2)&&decide (cS vars e.name<0))):=zh rfl;generalize cS vars e.name=ip at*;obtain⟨r,ac⟩:=zv (dx (eA vars) d e);rw[<-ac] at X J E⊢;generalize(eA vars) e=t at*;unfold exV;obtain⟨n,hn⟩:=zv (e.args.length);rw[<-hn] at hc L y J E ad⊢;obtain⟨op,ab⟩:=zv (e.op);obtain⟨em,Z⟩:=zv (e.name);obtain⟨en,aa⟩:=zv (e.n);rw[<-ab] at K⊢;rw[<-Z] at U⊢;rw[<-aa];clear hv af hz hr hx ih hn ab Z aa ac;go_enter Tryz.func115,Tryz.ntmps115;go_upto_region 1 with fail;generalize ae:w.alloc _=w1 at*;obtain⟨g,l⟩:=zB1 ae;clear ae
 by_cases M:op=2
 case pos=>
  have c2:(op==2)=true:=by simpa using M
  rw[yB M,B5] at K;clear M;have G:=za l 0 rfl;have Y:=za l 2 rfl
  by_cases S:ip<0
  ·have V:=zh (X (by rw[K.out,yB S]));clear X J E K L y z;go_wp2_with fail;refine(U _ g).mono ?_;rintro e w2 ⟨rfl,rfl⟩;go_wp2_with fail;go_ret;exact⟨bF V.out.symm,g⟩
  replace E:=zh (E (by rw[K.out,yv S]));clear X K;go_wp2_with fail;refine(U _ g).mono ?_;rintro e2 w2 ⟨rfl,rfl⟩;go_wp2_with fail;clear G Y;clear S c2 U
  go_loopw [5] (λi wr=>∃k:Nat,k<=n/\i= .int .i64 k/\Hid (∀j,j<k->(aq d (e.args.getD j ex0)).any (eA vars)=false)/\Box wr w.heap.size #[.int .i64 op,.int .i64 en,.string em,.slice A n c] 79/\Below w.heap.size w wr) (λi _=>n-(intOf i).toNat)
  case atStart=>exact⟨0,yt _,rfl,zh (λj h=>by omega),l,g⟩
  case round=>
   clear l g;obtain⟨k,hk,rfl,x,I,s⟩:=hrel;obtain⟨l,g⟩:=zk2 I s;clear I s
   by_cases C:k<n
   ·have H:(k:Int)<n:=by omega
    have k0:(0:Int)<=(k:Int):=by omega
    obtain⟨b,o,p,F,e2,u,R,f,D, -⟩:=L.out k C;subst e2;subst R;obtain⟨Ap,cp,rfl, -⟩:=D.slice;have T:=(g.out.cell u).trans (f 0 _ rfl);have v1:=(g.out.cell u).trans (f 1 _ rfl);have v2:=(g.out.cell u).trans (f 2 _ rfl);have v3:=(g.out.cell u).trans (f 3 _ rfl);rw[yU] at T;have N:=zh (z F rfl wr (e.args.getD k ex0) Ap cp (HV.out.below g) (y k C) (D.below g));have B:=zh (J k C)
    have P:Hid ((aq (F+1) (e.args.getD k ex0)).any (eA vars)=false->∀j,j<k+1->(aq (F+1) (e.args.getD j ex0)).any (eA vars)=false):=zh λh j hj=>by
     by_cases e:j=k
     ·rw[e];exact h
     ·exact x.out j (by omega)
    unfold dx exV at N;generalize(aq (F+1) (e.args.getD k ex0)).any (eA vars)=q at*;generalize e.args.getD k ex0=a at*;generalize a.args.length=an at*;clear f D u z L J y E x HV;have m:=za l 3 rfl;cases q
    ·have Q:=zh (P rfl);clear P B;go_wp2_with fail;clear T v1 v2 v3;refine(N).mono ?_;rintro r w2 ⟨rfl,s⟩;clear m;replace l:=zb l s;replace g:=zb g s;clear s;go_wp2_with fail;go_roundw
     ·exact⟨k+1,by omega,by go_num,Q,l,g⟩
     ·simp[intOf];omega
    ·have Q:=zh (B rfl);clear P B;have m:=za l 3 rfl;go_wp2_with fail;clear T v1 v2 v3;refine(N).mono ?_;rintro r w2 ⟨rfl,s⟩;clear m;replace l:=zb l s;replace g:=zb g s;clear s;go_wp2_with fail;go_ret;exact⟨bF Q.out.symm,g⟩
   ·have H:¬(k:Int)<n:=by omega
    have V:=zh (E λj hj=>x.out j (by omega));clear x E J L y z;have y3:wr.cell? ⟨w.heap.size,3,none⟩=some (.slice A n c):=l.out.at_ 3 _ rfl;go_wp2_with fail;go_ret;exact⟨bF V.out.symm,g⟩
 case neg=>
  have c2:(op==2)=false:=by simpa using M
  replace E:=zh (E (by rw[K.out,yv M];rfl));clear X K M U;have G:=za l 0 rfl;go_wp2_with fail;clear G;clear c2
  go_loopw [5] (λi wr=>∃k:Nat,k<=n/\i= .int .i64 k/\Hid (∀j,j<k->(aq d (e.args.getD j ex0)).any (eA vars)=false)/\Box wr w.heap.size #[.int .i64 op,.int .i64 en,.string em,.slice A n c] 79/\Below w.heap.size w wr) (λi _=>n-(intOf i).toNat)
  case atStart=>exact⟨0,yt _,rfl,zh (λj h=>by omega),l,g⟩
  case round=>
   clear l g;obtain⟨k,hk,rfl,x,I,s⟩:=hrel;obtain⟨l,g⟩:=zk2 I s;clear I s
   by_cases C:k<n
   ·have H:(k:Int)<n:=by omega
    have k0:(0:Int)<=(k:Int):=by omega
    obtain⟨b,o,p,F,e2,u,R,f,D, -⟩:=L.out k C;subst e2;subst R;obtain⟨Ap,cp,rfl, -⟩:=D.slice;have T:=(g.out.cell u).trans (f 0 _ rfl);have v1:=(g.out.cell u).trans (f 1 _ rfl);have v2:=(g.out.cell u).trans (f 2 _ rfl);have v3:=(g.out.cell u).trans (f 3 _ rfl);rw[yU] at T;have N:=zh (z F rfl wr (e.args.getD k ex0) Ap cp (HV.out.below g) (y k C) (D.below g));have B:=zh (J k C)
    have P:Hid ((aq (F+1) (e.args.getD k ex0)).any (eA vars)=false->∀j,j<k+1->(aq (F+1) (e.args.getD j ex0)).any (eA vars)=false):=zh λh j hj=>by
     by_cases e:j=k
     ·rw[e];exact h
     ·exact x.out j (by omega)
    unfold dx exV at N;generalize(aq (F+1) (e.args.getD k ex0)).any (eA vars)=q at*;generalize e.args.getD k ex0=a at*;generalize a.args.length=an at*;clear f D u z L J y E x HV;have m:=za l 3 rfl;cases q
    ·have Q:=zh (P rfl);clear P B;go_wp2_with fail;clear T v1 v2 v3;refine(N).mono ?_;rintro r w2 ⟨rfl,s⟩;clear m;replace l:=zb l s;replace g:=zb g s;clear s;go_wp2_with fail;go_roundw
     ·exact⟨k+1,by omega,by go_num,Q,l,g⟩
     ·simp[intOf];omega
    ·have Q:=zh (B rfl);clear P B;have m:=za l 3 rfl;go_wp2_with fail;clear T v1 v2 v3;refine(N).mono ?_;rintro r w2 ⟨rfl,s⟩;clear m;replace l:=zb l s;replace g:=zb g s;clear s;go_wp2_with fail;go_ret;exact⟨bF Q.out.symm,g⟩
   ·have H:¬(k:Int)<n:=by omega
    have V:=zh (E λj hj=>x.out j (by omega));clear x E J L y z;have y3:wr.cell? ⟨w.heap.size,3,none⟩=some (.slice A n c):=l.out.at_ 3 _ rfl;go_wp2_with fail;go_ret;exact⟨bF V.out.symm,g⟩
theorem pj (v:Value) (vars:List Vr) (nv:vars.length<=1000):∀d,FoC v vars d
 |0=>nK v vars nv 0 λa h=>by omega
 |d+1=>nK v vars nv (d+1) λa h=>by
  obtain rfl:a=d:=by omega
  exact pj v vars nv a
theorem exOk_iff (vars:List Vr) (d:Nat) (e:Ex):iP (aw vars) (d+1) e↔gM (d+1) e=0/\dx fG d e=false/\dx (eA vars) d e=false:=by
 unfold iP;constructor
 ·rintro⟨h1,h2,h3⟩;refine⟨h1, ?_, ?_⟩
  ·cases hq:dx fG d e
   ·rfl
   ·obtain⟨x,b,a⟩:=AE.1 hq;have:x.name∈df gW (aq (d+1) e):=iK.2 ⟨x,b,a,rfl⟩;rw[h2] at this;cases this
  ·cases hq:dx (eA vars) d e
   ·rfl
   ·obtain⟨x,b,a⟩:=AE.1 hq;unfold eA at a;simp only[yF,yY] at a;have:=h3 x.name (iK.2 ⟨x,b,a.1,rfl⟩);exact absurd this (jA.1 a.2)
 ·rintro⟨h1,h2,h3⟩;refine⟨h1, ?_, ?_⟩
  ·cases hq:df gW (aq (d+1) e) with
   |nil=>rfl
   |cons s l=>
    obtain⟨x,b,a, -⟩:=iK.1 (show s∈df gW (aq (d+1) e) by rw[hq];simp);have:dx fG d e=true:=AE.2 ⟨x,b,a⟩;rw[h2] at this;cases this
  ·intro s f;obtain⟨x,b,a,rfl⟩:=iK.1 f;refine Bh λc=> ?_;have:dx (eA vars) d e=true:=AE.2 ⟨x,b,by unfold eA;rw[a,yB (jA.2 c)];rfl⟩;rw[h3] at this;cases this
theorem rfPlain (w:World) (v:Value) (vars:List Vr) (nv:vars.length<=1000) (x:Rs vrR w v vars ah) (e:Ex) (d:Nat) (A:Option Addr) (c:Nat) (y:ExZ e) (u:Rs (exR d) w (.slice A e.args.length c) e.args ah):
  Calls Tryz.prog 63 #[v,exV e (.slice A e.args.length c)] w (ErR (dx fG d e=false/\dx (eA vars) d e=false) w):=by
 have s:=zh fun(W:World) (a:Below w.heap.size w W)=>rH d W e A c y (u.below a);have t:=zh fun(W:World) (a:Below w.heap.size w W)=>pj v vars nv d W e A c (x.below a) y (u.below a);have m:=zh fun(w':World) (er:Int) h he a=>ErR.no (P:=dx fG d e=false/\dx (eA vars) d e=false) (w:=w) (w':=w') (er:=er) h he a;have l:=zh fun(w':World) h a=>ErR.yes (P:=dx fG d e=false/\dx (eA vars) d e=false) (w:=w) (w':=w') h a;generalize z:(dx fG d e=false/\dx (eA vars) d e=false)=P at*;have o:Hid (P↔dx fG d e=false/\dx (eA vars) d e=false):=zh (by rw[<-z]);generalize dx fG d e=qa at*;generalize dx (eA vars) d e=qf at*;obtain⟨C,cv,rfl, -⟩:=x.slice;generalize vars.length=vl at*;unfold exV at s t⊢;generalize e.args.length=n at*;generalize e.op=op at*;generalize e.n=en at*;generalize e.name=em at*;clear y u x z;go_enter Tryz.func63,Tryz.ntmps63;go_upto_region 1 with fail;generalize q:w.alloc _=w1 at*;obtain⟨k,j⟩:=zB1 q;clear q;have b:=za j 0 rfl;have f:=za j 1 rfl;have g:=za j 2 rfl;have i:=za j 3 rfl;cases qa
 case true=>
  have p:=zh λw' a=>m.out w' 9 (λh=>by have:=(o.out.1 h).1;cases this) (by decide) a;clear m l o;go_wp2_with fail;refine(s _ k).mono ?_;rintro r w2 ⟨rfl,a⟩;clear b f g i;replace j:=zb j a;replace k:=zb k a;clear a;go_wp2_with fail;go_ret;exact p _ k
 cases qf
 case true=>
  have p:=zh λw' a=>m.out w' 7 (λh=>by have:=(o.out.1 h).2;cases this) (by decide) a;clear m l o;have b:=za j 0 rfl;have f:=za j 1 rfl;have g:=za j 2 rfl;have i:=za j 3 rfl;go_wp2_with fail;refine(s _ k).mono ?_;rintro r w2 ⟨rfl,a⟩;clear b f g i;replace j:=zb j a;replace k:=zb k a;clear a;have b:=za j 0 rfl;have f:=za j 1 rfl;have g:=za j 2 rfl;have i:=za j 3 rfl;go_wp2_with fail;refine(t _ k).mono ?_;rintro r B ⟨rfl,a⟩;replace k:=zb k a;clear b f g i a;go_wp2_with fail;go_ret;exact p _ k
 case false=>
  have p:=zh λw' a=>l.out w' (o.out.2 ⟨by trivial,by trivial⟩) a;clear m l o;have b:=za j 0 rfl;have f:=za j 1 rfl;have g:=za j 2 rfl;have i:=za j 3 rfl;go_wp2_with fail;refine(s _ k).mono ?_;rintro r w2 ⟨rfl,a⟩;clear b f g i;replace j:=zb j a;replace k:=zb k a;clear a;have b:=za j 0 rfl;have f:=za j 1 rfl;have g:=za j 2 rfl;have i:=za j 3 rfl;go_wp2_with fail;refine(t _ k).mono ?_;rintro r B ⟨rfl,a⟩;replace k:=zb k a;clear b f g i a;go_wp2_with fail;go_ret;exact p _ k
theorem uP (w:World) (v:Value) (vars:List Vr) (nv:vars.length<=1000) (T:Rs vrR w v vars ah) (L:List Ex) (A:Option Addr) (c:Nat) (hr:Rs (exR KE) w (.slice A L.length c) L ah) (nl:L.length<=1000) (hz:∀e∈L,ExSm e):
  Calls Tryz.prog 26 #[v,.slice A L.length c] w (ErR (bZ vars L) w):=by
 have H:=zh fun(w':World) (er:Int) h p d=>ErR.no (P:=bZ vars L) (w:=w) (w':=w') (er:=er) h p d;have x:=zh fun(w':World) h d=>ErR.yes (P:=bZ vars L) (w:=w) (w':=w') h d;have B:Hid (bZ vars L↔∀e∈L,iP (aw vars) KE e):=zh Iff.rfl;have V:=zh hz;generalize bZ vars L=EO at*;have HV:=zh T;have U:=zh fun(W:World) (d:Below w.heap.size w W)=>rfPlain W v vars nv (T.below d);obtain⟨Av,cv,rfl, -⟩:=T.slice;obtain⟨AL,cL,e1,X,S⟩:=hr.exs;simp only[yA] at e1;obtain⟨rfl, -,rfl⟩:=e1;have C:=zh S;obtain⟨m,hm⟩:=zv (L.length);have J:=zh hm;rw[<-hm] at X C nl⊢;generalize Y:vars.length=vl at*;clear hr S hm T hz Y;go_enter Tryz.func26,Tryz.ntmps26;go_wp2_with fail
 go_loopw [5,6,7] (λi _ _ wr=>∃k:Nat,k<=m/\i= .int .i64 k/\Below w.heap.size w wr/\Hid (∀j,j<k->iP (aw vars) KE (L.getD j ex0))) (λi _ _ _=>m-(intOf i).toNat)
 case atStart=>exact⟨0,yt _,rfl,yx _ _,zh λj h=>by omega⟩
 case round=>
  obtain⟨k,hk,rfl,d,E⟩:=hrel;have g:=zh d;clear d
  by_cases Q:k<m
  ·have R:(k:Int)<m:=by omega
   have k0:(0:Int)<=(k:Int):=by omega
   obtain⟨b,o,u,d',e2,M,hd,y,F, -⟩:=C.out k Q;subst e2;obtain rfl:d'=29:=by unfold KE at hd;omega
   have I:=getD_in ex0 (show k<L.length by rw[<-J.out];exact Q);have G:=V.out _ I;have s:=zh fun(w':World) (er:Int) (h:¬iP (aw vars) KE (L.getD k ex0)) p d=>H.out w' er (λhV=>h (B.out.1 hV _ I)) p d
   have n:Hid (iP (aw vars) KE (L.getD k ex0)->∀j,j<k+1->iP (aw vars) KE (L.getD j ex0)):=zh λh j hj=>by
    by_cases e:j=k
    ·rw[e];exact h
    ·exact E.out j (by omega)
   have q:=zh (exOk_iff vars 29 (L.getD k ex0));clear I E H x;have l:=zh y;have f:=zh M;clear y M hd;unfold KE at s n;generalize L.getD k ex0=a at*;obtain⟨Ap,cp,rfl,aa⟩:=F.slice;have CV:=zh fun(W:World) (d:Below w.heap.size w W)=>rxValid W a 29 Ap cp G.z (F.below d) (by decide) G.len;have t:=zh fun(W:World) (d:Below w.heap.size w W)=>U.out W d a 29 Ap cp G.z (F.below d);generalize dx fG 29 a=qa at*;generalize dx (eA vars) 29 a=qf at*;generalize gM (29+1) a=ee at*;generalize iP (aw vars) (29+1) a=OK at*;unfold exV at CV t;clear G F C V B U HV;generalize a.args.length=an at*;have Z:wr.cell? ⟨b,o+k*4,none⟩=some (.int .i64 a.op):=(g.out.cell f.out).trans (l 0 _ rfl);have v1:=(g.out.cell f.out).trans (l 1 _ rfl);have v2:=(g.out.cell f.out).trans (l 2 _ rfl);have v3:=(g.out.cell f.out).trans (l 3 _ rfl);go_wp2_with fail;clear Z v1 v2 v3;refine(CV _ g).mono ?_;rintro r w2 ⟨rfl,d⟩;replace g:=zb g d;clear d
   by_cases p:ee=0
   case neg=>
    have f1:(ee !=0)=true:=by simpa using p
    have K:=zh λw' d=>s.out w' ee (λh=>p (q.out.1 h).1) p d;clear s n q p t;go_wp2_with fail;go_ret;exact K _ g
   subst p;have Z:w2.cell? ⟨b,o+k*4,none⟩=some (.int .i64 a.op):=(g.out.cell f.out).trans (l 0 _ rfl);have v1:=(g.out.cell f.out).trans (l 1 _ rfl);have v2:=(g.out.cell f.out).trans (l 2 _ rfl);have v3:=(g.out.cell f.out).trans (l 3 _ rfl);go_wp2_with fail;clear Z v1 v2 v3;refine(t _ g).mono ?_;rintro r w3 ⟨er,rfl,D,d⟩;replace g:=zb g d;clear d
   by_cases p:er=0
   case neg=>
    have f1:(er !=0)=true:=by simpa using p
    have K:=zh λw' d=>s.out w' er (λh=>p (D.2 (q.out.1 h).2)) p d;clear s n q p t D;go_wp2_with fail;go_ret;exact K _ g
   have H3:=zh (n (q.out.2 ⟨by trivial,D.1 p⟩));subst p;clear s n q t D;go_wp2_with fail;go_roundw
   ·exact⟨k+1,by omega,by go_num,g,H3⟩
   ·simp[intOf];omega
  ·have R:¬(k:Int)<m:=by omega
   have N:k=m:=by omega
   have K:=zh λw' d=>x.out w' (B.out.2 (gA (x0:=ex0) λj hj=>E.out j (by rw[N,J.out];exact hj))) d;clear H x E C V B U HV N;go_wp2_with fail;go_ret;exact K _ g
theorem wtOk_key (x:Wt):(x.lo<0/\dS x=false)\/(¬x.lo<0/\x.lo>x.hi/\dS x=false)\/(¬x.lo<0/\¬x.lo>x.hi/\x.hi>65535/\dS x=false)\/(¬x.lo<0/\¬x.lo>x.hi/\¬x.hi>65535/\x.weight<0/\dS x=false)\/(¬x.lo<0/\¬x.lo>x.hi/\¬x.hi>65535/\¬x.weight<0/\x.weight>1000/\dS x=false)\/(¬x.lo<0/\¬x.lo>x.hi/\¬x.hi>65535/\¬x.weight<0/\¬x.weight>1000/\dS x=true):=by
 unfold dS
 by_cases a:x.lo<0
 ·exact .inl ⟨a,by simp[a]⟩
 by_cases b:x.lo>x.hi
 ·exact .inr (.inl ⟨a,b,by simp[b]⟩)
 by_cases c:x.hi>65535
 ·exact .inr (.inr (.inl ⟨a,b,c,by simp[c]⟩))
 by_cases d:x.weight<0
 ·exact .inr (.inr (.inr (.inl ⟨a,b,c,d,by simp[d]⟩)))
 by_cases e:x.weight>1000
 ·exact .inr (.inr (.inr (.inr (.inl ⟨a,b,c,d,e,by simp[e]⟩))))
 ·exact .inr (.inr (.inr (.inr (.inr ⟨a,b,c,d,e,by rw[yv a,yv b,yv c,yv d,yv e];rfl⟩))))
theorem rfDists (w:World) (vars:List Vr) (a:List Ds) (A1 A4:Option Addr) (c1 c4:Nat) (hv:Rs vrR w (.slice A1 vars.length c1) vars ah) (hd:Rs dsR w (.slice A4 a.length c4) a ah) (nv:vars.length<=1000) (nd:a.length<=1000) (nw:∀x∈a,x.ws.length<=1000):
  Calls Tryz.prog 27 #[.slice A1 vars.length c1,.slice A4 a.length c4] w (ErR (cy vars a) w):=by
 have ad:=zh fun(w':World) (er:Int) h he c=>ErR.no (P:=cy vars a) (w:=w) (w':=w') (er:=er) h he c;have Q:=zh fun(w':World) h c=>ErR.yes (P:=cy vars a) (w:=w) (w':=w') h c;have E:Hid (cy vars a↔∀i,i<a.length->bL vars (a.getD i ds0).var=true/\(∀j,j<i->(a.getD j ds0).var≠(a.getD i ds0).var)/\(a.getD i ds0).ws.length<=16/\∀x∈(a.getD i ds0).ws,dS x=true):=zh Iff.rfl;have H:=zh λk (h:k<a.length)=>nw _ (getD_in ds0 h);generalize cy vars a=DO at*;obtain⟨m,hm⟩:=zv (a.length);have HM:=zh hm
 have HX:Hid (∀k,k<m->∃b o u,A4=some ⟨b,o,none⟩/\b<w.heap.size/\w.cell? ⟨b,o+k*2,none⟩=some (.int .i64 (a.getD k ds0).var)/\w.cell? ⟨b,o+k*2+1,none⟩=some u/\Rs wtR w u (a.getD k ds0).ws ah):=zh λk hk=>by
  obtain⟨A',c',e1,_,Z⟩:=hd.dss;obtain⟨b,o,p,G,B,h0,h1,h2⟩:=Z k (by omega);simp only[yA] at e1;exact⟨b,o,p,by rw[e1.1,G],B,h0,h1,h2⟩
 obtain⟨n,hn⟩:=zv (vars.length);have HN:=zh hn
 have HG:Hid (∀k,k<n->∃(b o:Nat),A1=some ⟨b,o,none⟩/\b<w.heap.size/\w.cell? ⟨b,o+k*4+2,none⟩=some (.int .i64 (vars.getD k vr0).mode)):=zh λk hk=>by
  obtain⟨aD,aE,e1,_,Z⟩:=hv.vrs;obtain⟨bv,ov,G,B,V⟩:=Z k (by omega);simp only[yA] at e1;exact⟨bv,ov,by rw[e1.1,G],B,V 2 _ rfl⟩
 rw[<-hm] at nd E H⊢;rw[<-hn] at nv⊢;clear hv hd hm hn nw;go_enter Tryz.func27,Tryz.ntmps27;go_wp2_with fail
 go_loopw [5,6,7,8] (λi _ _ _ wr=>∃k:Nat,k<=m/\i= .int .i64 k/\Below w.heap.size w wr/\Hid (∀i,i<k->bL vars (a.getD i ds0).var=true/\(∀j,j<i->(a.getD j ds0).var≠(a.getD i ds0).var)/\(a.getD i ds0).ws.length<=16/\∀x∈(a.getD i ds0).ws,dS x=true)) (λi _ _ _ _=>m-(intOf i).toNat)
 case atStart=>exact⟨0,yt _,rfl,yx _ _,zh λj h=>by omega⟩
 case round=>
  obtain⟨k,hk,rfl,c,r⟩:=hrel;have g:=zh c;clear c
  by_cases W:k<m
  case neg=>
   have au:¬(k:Int)<m:=by omega
   have an:k=m:=by omega
   have HF:Hid DO:=zh (E.out.2 λi hi=>r.out i (by rw[an];exact hi));clear r an HX E HG H;go_wp2_with fail;go_ret;exact Q _ HF g
  have au:(k:Int)<m:=by omega
  have k0:(0:Int)<=(k:Int):=by omega
  obtain⟨b,o,u,G,B,aj,ak,Y⟩:=HX.out k W;subst G;have t:=zh B;obtain⟨R,S⟩:=zk2 aj ak;obtain⟨Au,cu,rfl, -⟩:=Y.slice;have s:=zh Y;have ae:=H.out k W;have d:=zh fun(w':World) (er:Int) (h:¬(bL vars (a.getD k ds0).var=true/\(∀j,j<k->(a.getD j ds0).var≠(a.getD k ds0).var)/\(a.getD k ds0).ws.length<=16/\∀x∈(a.getD k ds0).ws,dS x=true)) he c=>ad.out w' er (λhV=>h (E.out.1 hV k W)) he c
  have f:Hid ((bL vars (a.getD k ds0).var=true/\(∀j,j<k->(a.getD j ds0).var≠(a.getD k ds0).var)/\(a.getD k ds0).ws.length<=16/\∀x∈(a.getD k ds0).ws,dS x=true)->∀i,i<k+1->bL vars (a.getD i ds0).var=true/\(∀j,j<i->(a.getD j ds0).var≠(a.getD i ds0).var)/\(a.getD i ds0).ws.length<=16/\∀x∈(a.getD i ds0).ws,dS x=true):=zh λh i hi=>by
   by_cases e:i=k
   ·rw[e];exact h
   ·exact r.out i (by omega)
  clear r aj ak Y B ad Q E H;generalize aA:a.getD k ds0=dk at*;obtain⟨y,ws⟩:=dk;simp only at R s d f ae
  have A:Hid (∀j,j<k->w.cell? ⟨b,o+j*2,none⟩=some (.int .i64 (a.getD j ds0).var)):=zh λj hj=>by
   obtain⟨b',o',u',G, -,h0, -, -⟩:=HX.out j (by omega);simp only[yy,B8] at G;obtain⟨rfl,rfl, -⟩:=G;exact h0
  have l:Hid (bL vars y=(decide (0<=y)&&(decide (y<vars.length)&&decide ((vars.getD y.toNat vr0).mode≠0)))):=zh rfl;have v0:=(g.out.cell t.out).trans R;clear HX aA
  by_cases aG:y<0
  ·have J:=zh λw' c=>d.out w' 1 (λh=>by have:=h.1;rw[l.out,yv (by omega)] at this;cases this) (by decide) c;clear d f l s A HG;go_wp2_with fail;go_ret;exact J _ g
  obtain⟨yn,rfl⟩:∃yn:Nat,y=yn:=⟨y.toNat,by omega⟩;have ax:(0:Int)<=(yn:Int):=by omega
  by_cases aB:yn<n
  case neg=>
   have f1:(yn:Int)≥(n:Int):=by omega
   have J:=zh λw' c=>d.out w' 1 (λh=>by have:=h.1;rw[l.out,yv (show¬(yn:Int)<vars.length by have:=HN.out;omega)] at this;simp at this) (by decide) c;clear d f l s A HG;go_wp2_with fail;go_ret;exact J _ g
  have f1:¬(yn:Int)≥(n:Int):=by omega
  have aF:(yn:Int)<(n:Int):=by omega
  obtain⟨bv,ov,G,ai,al⟩:=HG.out yn aB;subst G;have v2:=(g.out.cell ai).trans al;rw[y5] at l;generalize(vars.getD yn vr0).mode=md at*
  by_cases D:md=0
  ·have f2:(md==0)=true:=by simpa using D
   have J:=zh λw' c=>d.out w' 1 (λh=>by have:=h.1;rw[l.out,yv (show¬md≠0 by simpa using D)] at this;simp at this) (by decide) c;clear d f l s A HG D;go_wp2_with fail;go_ret;exact J _ g
  have f2:(md==0)=false:=by simpa using D
  have ag:Hid (bL vars (yn:Int)=true):=zh (by rw[l.out,yB ax,yB (show(yn:Int)<vars.length by have:=HN.out;omega),yB (show md≠0 from D)];rfl);clear l D al ai HG;go_wp2_with fail;clear v0 v2
  go_loopw [6] (λi wr=>∃j:Nat,j<=k/\i= .int .i64 j/\Below w.heap.size w wr/\Hid (∀i,i<j->(a.getD i ds0).var≠(yn:Int))) (λi _=>k-(intOf i).toNat)
  case atStart=>exact⟨0,yt _,rfl,g,zh λi h=>by omega⟩
  case round=>
   clear g;obtain⟨j,hj,rfl,c,M⟩:=hrel;have g:=zh c;clear c
   by_cases ao:j<k
   ·have ap:(j:Int)<k:=by omega
    have aC:(j:Int)<m:=by omega
    have j0:(0:Int)<=(j:Int):=by omega
    have v0:=(g.out.cell t.out).trans R;have vj:=(g.out.cell (p:=⟨b,o+j*2,none⟩) t.out).trans (A j ao)
    have HJ:Hid ((a.getD j ds0).var≠(yn:Int)->∀i,i<j+1->(a.getD i ds0).var≠(yn:Int)):=zh λh i hi=>by
     by_cases e:i=j
     ·rw[e];exact h
     ·exact M.out i (by omega)
    have U:Hid ((a.getD j ds0).var=(yn:Int)->∀w',Below w.heap.size w w'->ErR DO w (.returned (.int .i64 8)) w'):=zh λh w' c=>d.out w' 8 (λhq=>hq.2.1 j ao h) (by decide) c;generalize(a.getD j ds0).var=z at*;clear M d f A s
    by_cases hz:z=(yn:Int)
    ·have J:=zh (U hz);have f3:(z==(yn:Int))=true:=by simpa using hz
     clear hz HJ U;go_upto_region 9 with fail
     go_quiet (fail)
     go_wp2_with fail;go_ret;exact J _ (ay g _)
    ·have H3:=zh (HJ hz);have f3:(z==(yn:Int))=false:=by simpa using hz
     clear hz HJ U;go_upto_region 9 with fail
     go_quiet (fail)
     go_wp2_with fail;go_roundw
     ·exact⟨j+1,by omega,by go_num,ay g _,H3⟩
     ·simp[intOf];omega
   have ap:¬(j:Int)<k:=by omega
   have am:j=k:=by omega
   have T:Hid (∀i,i<k->(a.getD i ds0).var≠(yn:Int)):=zh λi hi=>M.out i (by omega);clear M A;have v1:=(g.out.cell (p:=⟨b,o+k*2+1,none⟩) t.out).trans S
   by_cases L:ws.length<=16
   case neg=>
    have J:=zh λw' c=>d.out w' 2 (λh=>L h.2.2.1) (by decide) c;generalize ws.length=wl at*;have g1:(wl:Int)>16:=by omega
    clear d f s L T am;go_wp2_with fail;go_ret;exact J _ g
   obtain⟨Aw,cw,e3,C,aw⟩:=s.out.wts;simp only[yA] at e3;obtain⟨rfl, -,rfl⟩:=e3;have K:=zh aw;have I:=zh fun(w':World) (i:Nat) (hi:i<ws.length) (h:dS (ws.getD i wt0)=false) c=>d.out w' 1 (λhq=>by have:=hq.2.2.2 _ (getD_in wt0 hi);rw[h] at this;cases this) (by decide) c;have v:Hid ((∀i,i<ws.length->dS (ws.getD i wt0)=true)->∀i,i<k+1->bL vars (a.getD i ds0).var=true/\(∀j,j<i->(a.getD j ds0).var≠(a.getD i ds0).var)/\(a.getD i ds0).ws.length<=16/\∀x∈(a.getD i ds0).ws,dS x=true):=zh λh=>f.out ⟨ag,T,L,gA (x0:=wt0) h⟩;clear f d s aw T ag am;obtain⟨wl,av⟩:=zv (ws.length);rw[<-av] at K I v v1 L S;clear av;have g1:¬(wl:Int)>16:=by omega
   go_wp2_with fail;clear v1
   go_loopw [7,8] (λi _ wr=>∃j:Nat,j<=wl/\i= .int .i64 j/\Below w.heap.size w wr/\Hid (∀i,i<j->dS (ws.getD i wt0)=true)) (λi _ _=>wl-(intOf i).toNat)
   case atStart=>exact⟨0,yt _,rfl,g,zh λi h=>by omega⟩
   case round=>
    clear g;obtain⟨q,hq,rfl,c,r⟩:=hrel;have g:=zh c;clear c;have v1:=(g.out.cell (p:=⟨b,o+k*2+1,none⟩) t.out).trans S
    by_cases aq:q<wl
    case neg=>
     have ar:¬(q:Int)<wl:=by omega
     have H5:=zh (v λi hi=>r.out i (by omega));clear r v I K;go_wp2_with fail;go_roundw
     ·exact⟨k+1,by omega,by go_num,g,H5⟩
     ·simp[intOf];omega
    have ar:(q:Int)<wl:=by omega
    have q0:(0:Int)<=(q:Int):=by omega
    obtain⟨bw,ow,e4,F,C⟩:=K.out q aq;subst e4;have y0:=(g.out.cell F).trans (C 0 _ rfl);have y1:=(g.out.cell F).trans (C 1 _ rfl);have y2:=(g.out.cell F).trans (C 2 _ rfl);have y3:=(g.out.cell F).trans (C 3 _ rfl);rw[yU] at y0;have N:=zh λw' h c=>I.out w' q aq h c
    have H6:Hid (dS (ws.getD q wt0)=true->∀i,i<q+1->dS (ws.getD i wt0)=true):=zh λh i hi=>by
     by_cases e:i=q
     ·rw[e];exact h
     ·exact r.out i (by omega)
    have az:=wtOk_key (ws.getD q wt0);clear r I C F K v;generalize dS (ws.getD q wt0)=ok at*;generalize ws.getD q wt0=x at*;obtain⟨lo,hi,wt,ea⟩:=x;simp only at y0 y1 y2 y3 az;rcases az with⟨a1,X⟩|⟨a1,a2,X⟩|⟨a1,a2,a3,X⟩|⟨a1,a2,a3,a4,X⟩|⟨a1,a2,a3,a4,a5,X⟩|⟨a1,a2,a3,a4,a5,X⟩
    all_goals
     have af:=zh X;clear X;go_upto_region 17 with fail;clear y0 y1 y2 y3 v1;have XA:=zh (Box.new wr 133 #[.int .i64 lo,.int .i64 hi,.int .i64 wt,.bool ea]);have aa:=zh (ab g (ac wr (.cells #[.int .i64 lo,.int .i64 hi,.int .i64 wt,.bool ea] 133)));generalize wr.alloc (.cells #[.int .i64 lo,.int .i64 hi,.int .i64 wt,.bool ea] 133)=w5 at*;generalize wr.heap.size=gq at*;have z0:=za XA 0 rfl;have z1:=za XA 1 rfl;have z2:=za XA 2 rfl;go_wp2_with fail
     first
      |(go_ret;exact N _ af aa)
      |(have H7:=zh (H6 af)
        clear z0 z1 z2 XA H6 N;go_roundw
        ·exact⟨q+1,by omega,by go_num,aa,H7⟩
        ·simp[intOf];omega)
def j6 (n:Nat) (F:List Int):List Int:=(List.range n).map λi:Nat=>((F.count (i:Int):Nat):Int)
theorem cntT_nil (n:Nat):j6 n []=List.replicate n 0:=by
 unfold j6;apply BP
 ·simp
 ·intro i a b;simp
theorem jH (n:Nat) (F:List Int):(j6 n F).length=n:=by simp[j6]
theorem mY {n:Nat} {F:List Int} {k:Nat} (h:k<n):(j6 n F)[k]? =some ((F.count (k:Int):Nat):Int):=by
 simp[j6,yW,Be h]
theorem cntT_set {n:Nat} {F:List Int} {k:Nat} (h:k<n):(j6 n F).set k (((F.count (k:Int):Nat):Int)+1)=j6 n (F++[(k:Int)]):=by
 apply List.ext_getElem?;intro i
 by_cases hi:i<n
 ·rw[mY hi]
  by_cases e:k=i
  ·subst e;rw[AR (by rw[jH];exact hi),List.count_append];simp
  ·rw[AU e,mY hi,List.count_append]
   have:List.count (i:Int) [(k:Int)]=0:=by
    rw[List.count_eq_zero];simp only[yC,yI,AH];omega
   rw[this,yU]
 ·rw[AK (by rw[As,jH];omega),AK (by rw[jH];omega)]
structure GrpC (l:List Vr) (g:List (List Int)):Prop where
 some_:∀x∈g,x≠[]
 ran:∀i∈g.flatten,0<=i/\i<l.length
 cnt:∀i:Nat,i<l.length->g.flatten.count (i:Int)=if(l.getD i vr0).mode=0 then 0 else 1
theorem grp_iff (l:List Vr) (g:List (List Int)):GrpC l g↔aZ l g:=by
 constructor
 ·intro h
  have j:∀i∈g.flatten,bL l i=true:=λi hi=>by
   obtain⟨c,d⟩:=h.ran i hi;obtain⟨k,rfl⟩:∃k:Nat,i=k:=⟨i.toNat,by omega⟩;have b:=h.cnt k (by omega);have hp:=List.count_pos_iff.2 hi;unfold bL;rw[yB c,yB d,y5]
   by_cases e:(l.getD k vr0).mode=0
   ·rw[yz e] at b;omega
   ·rw[yB (show(l.getD k vr0).mode≠0 from e)];rfl
  refine⟨h.some_,j, ?_,λi hi=> ?_⟩
  ·rw[List.nodup_iff_count];intro a
   by_cases f:a∈g.flatten
   ·obtain⟨c,d⟩:=h.ran a f;obtain⟨k,rfl⟩:∃k:Nat,a=k:=⟨a.toNat,by omega⟩;rw[h.cnt k (by omega)]
    split<;>omega
   ·rw[List.count_eq_zero.2 f];omega
  ·unfold bL at hi;simp only[yF,yY,y5] at hi;have b:=h.cnt i (by omega);rw[yw hi.2.2] at b;exact List.count_pos_iff.1 (by omega)
 ·intro h;refine⟨h.some_,λi hi=> ?_,λi hi=> ?_⟩
  ·obtain⟨k,rfl,hk⟩:=qk (h.ran i hi);omega
  ·have m:=(List.nodup_iff_count.1 h.nodup) (i:Int)
   by_cases e:(l.getD i vr0).mode=0
   ·rw[yz e,List.count_eq_zero];intro hm;have:=h.ran _ hm;unfold bL at this;simp only[yF,yY,y5] at this;exact this.2.2 e
   ·rw[yw e];have hm:=h.all i (by unfold bL;rw[yB (by omega),yB (by omega),y5,yB (show(l.getD i vr0).mode≠0 from e)];rfl);have:=List.count_pos_iff.2 hm;omega
def BoR (P:Prop) (w:World) (e:Ending) (w':World):Prop:=∃b:Bool,e= .returned (.bool b)/\(b=true↔P)/\Below w.heap.size w w'
theorem BoR.no {P:Prop} {w w':World} (h:¬P) (b:Below w.heap.size w w'):BoR P w (.returned (.bool false)) w':=⟨false,rfl,⟨λa=>absurd a (by simp),λa=>absurd a h⟩,b⟩
theorem BoR.yes {P:Prop} {w w':World} (h:P) (a:Below w.heap.size w w'):BoR P w (.returned (.bool true)) w':=⟨true,rfl,⟨λ_=>h,λ_=>rfl⟩,a⟩
theorem oA:∀{gs:List (List Int)},(∀x∈gs,x.length<=1000)->∀j,((gs.take j).flatten).length<=1000*j
 |[],_,j=>by simp
 |x::gs,h,0=>by simp
 |x::gs,h,j+1=>by
  rw[yX,Ce,yu];have b:=h x (by simp);have c:=oA (gs:=gs) (λy a=>h y (by simp[a])) j;omega
theorem rfGroups (w:World) (vars:List Vr) (gs:List (List Int)) (A1 A5:Option Addr) (c1 c5:Nat) (hv:Rs vrR w (.slice A1 vars.length c1) vars ah) (hg:Rs ilR w (.slice A5 gs.length c5) gs ah) (nv:vars.length<=1000) (ng:gs.length<=1000) (nr:∀x∈gs,x.length<=1000):
  Calls Tryz.prog 28 #[.slice A1 vars.length c1,.slice A5 gs.length c5] w (BoR (aZ vars gs) w):=by
 have G:=zh fun(w':World) h B=>BoR.no (P:=aZ vars gs) (w:=w) (w':=w') h B;have aj:=zh fun(w':World) h B=>BoR.yes (P:=aZ vars gs) (w:=w) (w':=w') h B;have D:Hid (aZ vars gs↔GrpC vars gs):=zh (grp_iff vars gs).symm;have ad:=zh nr;have aa:=zh (oA nr);generalize aZ vars gs=GO at*;obtain⟨n,hn⟩:=zv (vars.length);obtain⟨m,hm⟩:=zv (gs.length);obtain⟨HN,HM⟩:=zk2 hn hm
 have HG:Hid (∀k,k<m->∃(b o:Nat) (u:Value),A5=some ⟨b,o,none⟩/\b<w.heap.size/\w.cell? ⟨b,o+k,none⟩=some u/\IL w u (gs.getD k [])):=zh λk hk=>by
  obtain⟨A',c',e1,_,Z⟩:=hg.ils;obtain⟨b,o,u,U,t,hu,X, -⟩:=Z k (by omega);simp only[yA] at e1;exact⟨b,o,u,by rw[e1.1,U],t,hu,X⟩
 have HV:Hid (∀k,k<n->∃(b o:Nat),A1=some ⟨b,o,none⟩/\b<w.heap.size/\w.cell? ⟨b,o+k*4+2,none⟩=some (.int .i64 (vars.getD k vr0).mode)):=zh λk hk=>by
  obtain⟨aG,aH,e1,_,Z⟩:=hv.vrs;obtain⟨bv,ov,U,t,V⟩:=Z k (by omega);simp only[yA] at e1;exact⟨bv,ov,by rw[e1.1,U],t,V 2 _ rfl⟩
 have MK:=eN n (by omega);rw[<-cntT_nil] at MK;rw[<-hn] at nv⊢;rw[<-hm] at ng⊢;clear hv hg hn hm nr;have aC:=MK w;clear MK;go_enter Tryz.func28,Tryz.ntmps28;go_upto_region 2 with fail;clear aC;have c:=zh (Box.new w 3 (iA (j6 n [])));have a:=zh (ac w (.cells (iA (j6 n [])) 3));generalize w.alloc (.cells (iA (j6 n [])) 3)=w2 at*;obtain⟨gr,W⟩:=zv (w.heap.size);have az:Hid (w.heap.size<=gr):=zh (by omega);rw[<-W] at c
 first|rw[<-W]|skip
 clear W;go_wp2_with fail
 go_loopw [6,7,8] (λi _ _ wr=>∃j:Nat,j<=m/\i= .int .i64 j/\Below w.heap.size w wr/\Box wr gr (iA (j6 n (gs.take j).flatten)) 3/\Hid ((∀x∈gs.take j,x≠[])/\∀i∈(gs.take j).flatten,0<=i/\i<(n:Int))) (λi _ _ _=>m-(intOf i).toNat)
 case atStart=>exact⟨0,yt _,rfl,a,c,zh ⟨λx h=>by simp at h,λi h=>by simp at h⟩⟩
 case round=>
  obtain⟨j,hj,rfl,B,R,y⟩:=hrel;clear a c w2;obtain⟨a,c⟩:=zk2 B R;clear B R
  by_cases ao:j<m
  ·have ap:(j:Int)<m:=by omega
   have j0:(0:Int)<=(j:Int):=by omega
   have z:j<gs.length:=by rw[<-HM.out];exact ao
   obtain⟨b,o,u,U,t,hu,X⟩:=HG.out j ao;subst U;have Q:=zh t;have HU:=zh hu;have Y:=getD_in [] z;have ae:=zh (ad (gs.getD j []) Y);have ab:=zh λq (h:q<(gs.getD j []).length)=>kY z h;have T:Hid (gs.getD j []=[]->¬GO):=zh λh hG=>(D.out.1 hG).some_ _ Y h
   have af:Hid ((gs.take (j+1)).flatten=(gs.take j).flatten++gs.getD j []):=zh (by
    rw[Am,yp z,List.flatten_append,yj,yp z];simp)
   have ag:Hid (gs.take (j+1)=gs.take j++[gs.getD j []]):=zh (by
    rw[Am,yp z,yj,yp z];rfl)
   have aJ:=aa.out j;clear t hu Y;generalize gs.getD j []=row at*;obtain⟨Ar,cr,rfl,aD,av⟩:=X;have aB:=zh av;obtain⟨rl,M⟩:=zv (row.length);have K:=zh M;have aF:rl<=1000:=by rw[M];exact ae
   rw[<-M] at HU aD;have aw:=(a.out.cell Q.out).trans HU;clear av M
   by_cases h0:rl=0
   ·have g0:((rl:Int)==0)=true:=by simpa using(by omega:(rl:Int)=0)
    have H:=zh (T (yV (by rw[<-K.out];exact h0)));clear h0 ab T af ag;go_wp2_with fail;go_ret;exact G _ H a
   have g0:((rl:Int)==0)=false:=by simpa using(by omega:¬(rl:Int)=0)
   have aA:Hid (row≠[]):=zh λh=>h0 (by rw[K.out,h];rfl);clear h0 T;go_wp2_with fail;clear aw
   go_loopw [7,8] (λi _ wr=>∃q:Nat,q<=rl/\i= .int .i64 q/\Below w.heap.size w wr/\Box wr gr (iA (j6 n ((gs.take j).flatten++row.take q))) 3/\Hid (∀i∈(gs.take j).flatten++row.take q,0<=i/\i<(n:Int))) (λi _ _=>rl-(intOf i).toNat)
   case atStart=>exact⟨0,yt _,rfl,a,by rw[y9,AT];exact c,by rw[y9,AT];exact zh y.out.2⟩
   case round=>
    obtain⟨q,hq,rfl,B,R,g⟩:=hrel;clear a c;obtain⟨a,c⟩:=zk2 B R;clear B R;have aw:=(a.out.cell Q.out).trans HU
    by_cases aE:q<rl
    case neg=>
     have ar:¬(q:Int)<(rl:Int):=by omega
     have aq:q=rl:=by omega
     have e6:row.take q=row:=by rw[aq,K.out,Ay]
     rw[e6,<-af.out] at c g
     have ay:Hid ((∀x∈gs.take (j+1),x≠[])/\∀i∈(gs.take (j+1)).flatten,0<=i/\i<(n:Int)):=zh ⟨λx hx=>by
      rw[ag.out] at hx;rcases AQ.1 hx with hx|hx
      ·exact y.out.1 x hx
      ·rw[AW.1 hx];exact aA,g.out⟩
     clear e6 aq g y;go_wp2_with fail;go_roundw
     ·exact⟨j+1,by omega,by go_num,a,c,ay⟩
     ·simp[intOf];omega
    have ar:(q:Int)<(rl:Int):=by omega
    have q0:(0:Int)<=(q:Int):=by omega
    have L:q<row.length:=by rw[<-K.out];exact aE
    obtain⟨a1,rfl,an,au⟩:=aB.out (by omega);have y0:wr.cell? (a1.add q)=some (.int .i64 (row.getD q 0)):=by rw[a.out.cell (by rw[aP];exact an)];exact au q L
    obtain⟨rest,I⟩:=ab.out q L
    have ai:Hid (row.take (q+1)=row.take q++[row.getD q 0]):=zh (by
     rw[Am,yp L,yj,yp L];rfl)
    have E:Hid (¬(0<=row.getD q 0/\row.getD q 0<(n:Int))->¬GO):=zh λh hG=>by
     have:=(D.out.1 hG).ran (row.getD q 0) (by rw[I];simp);rw[<-HN.out] at this;exact h this
    have J:Hid (0<=row.getD q 0/\row.getD q 0<(n:Int)->∀i∈(gs.take j).flatten++row.take (q+1),0<=i/\i<(n:Int)):=zh λh1 i hi=>by
     rw[ai.out,<-yZ] at hi;rcases AQ.1 hi with hi|hi
     ·exact g.out i hi
     ·rw[AW.1 hi];exact h1
    have ak:((gs.take j).flatten++row.take q).length<=1001000:=by
     rw[yu,yM];omega
    clear I g an au;generalize row.getD q 0=v at*;generalize hF:(gs.take j).flatten++row.take q=F at*;have HF:=zh hF;clear hF
    by_cases aK:v<0
    ·have H:=zh (E (by omega));clear E J;go_wp2_with fail;go_ret;exact G _ H a
    by_cases aL:v≥(n:Int)
    ·have H:=zh (E (by omega));clear E J;go_wp2_with fail;go_ret;exact G _ H a
    obtain⟨k,rfl⟩:∃k:Nat,v=k:=⟨v.toNat,by omega⟩;have r:k<n:=by omega
    have kn:(k:Int)<(n:Int):=by omega
    have k0:(0:Int)<=(k:Int):=by omega
    have ax:=zh (J ⟨k0,kn⟩);have z0:=c.out.at_ k _ (du (l:=j6 n F) (k:=k) (by rw[jH];exact r));rw[yj,mY r,AV] at z0;have aI:F.count (k:Int)<=1001000:=yK (List.count_le_length) ak;have h5:=c.out.set_ k (.int .i64 (((F.count (k:Int):Nat):Int)+1));rw[gG,cntT_set r] at h5;have H5:=zh h5;have z1:=c.out.frozen k;have z2:=c.out.lt;clear E J h5 ak;generalize F.count (k:Int)=N at*;go_wp2_with fail;go_roundw
    ·have e5:(gs.take j).flatten++row.take (q+1)=F++[(k:Int)]:=by rw[ai.out,<-yZ,HF.out]
     refine⟨q+1,by omega,by go_num,a.out.setCell (p:=⟨gr,k,none⟩) az _, ?_,ax⟩;rw[e5];exact H5
    ·simp[intOf];omega
  ·have ap:¬(j:Int)<m:=by omega
   have e7:gs.take j=gs:=Ai (by rw[<-HM.out];omega);rw[e7] at c y;clear e7 HG aa ad;go_wp2_with fail
   go_loopw [9,10] (λi _ wr=>∃k:Nat,k<=n/\i= .int .i64 k/\Below w.heap.size w wr/\Box wr gr (iA (j6 n gs.flatten)) 3/\Hid (∀i:Nat,i<k->gs.flatten.count (i:Int)=if(vars.getD i vr0).mode=0 then 0 else 1)) (λi _ _=>n-(intOf i).toNat)
   case atStart=>exact⟨0,yt _,rfl,a,c,zh λi h=>by omega⟩
   case round=>
    obtain⟨k,hk,rfl,B,R,s⟩:=hrel;clear a c;obtain⟨a,c⟩:=zk2 B R;clear B R
    by_cases r:k<n
    case neg=>
     have kn:¬(k:Int)<(n:Int):=by omega
     have HR:Hid GO:=zh (D.out.2 ⟨y.out.1,by rw[<-HN.out];exact y.out.2,λi hi=>s.out i (by rw[<-HN.out] at hi;omega)⟩);clear s D HV;go_wp2_with fail;go_ret;exact aj _ HR a
    have kn:(k:Int)<(n:Int):=by omega
    have k0:(0:Int)<=(k:Int):=by omega
    obtain⟨bv,ov,U,al,am⟩:=HV.out k r;subst U;have v2:=(a.out.cell al).trans am;have z0:=c.out.at_ k _ (du (l:=j6 n gs.flatten) (k:=k) (by rw[jH];exact r));rw[yj,mY r,AV] at z0;have f:Hid (¬(gs.flatten.count (k:Int)=if(vars.getD k vr0).mode=0 then 0 else 1)->¬GO):=zh λh hG=>h ((D.out.1 hG).cnt k (by rw[<-HN.out];exact r))
    have d:Hid ((gs.flatten.count (k:Int)=if(vars.getD k vr0).mode=0 then 0 else 1)->∀i:Nat,i<k+1->gs.flatten.count (i:Int)=if(vars.getD i vr0).mode=0 then 0 else 1):=zh λh i hi=>by
     by_cases e:i=k
     ·rw[e];exact h
     ·exact s.out i (by omega)
    clear s am al HV;generalize gs.flatten.count (k:Int)=N at*;generalize(vars.getD k vr0).mode=md at*
    by_cases A:md=0
    ·rw[yz A] at f d;have g1:(md==0)=true:=by simpa using A
     clear A
     by_cases C:N=0
     ·have g2:((N:Int) !=0)=false:=by simpa using C
      have S:=zh (d C);clear f d C;go_wp2_with fail;go_roundw
      ·exact⟨k+1,by omega,by go_num,a,c,S⟩
      ·simp[intOf];omega
     ·have g2:((N:Int) !=0)=true:=by simpa using C
      have S:=zh (f C);clear f d C;go_wp2_with fail;go_ret;exact G _ S a
    ·rw[yw A] at f d;have g1:(md==0)=false:=by simpa using A
     clear A
     by_cases C:N=1
     ·have g2:((N:Int) !=1)=false:=by rw[C];rfl
      have S:=zh (d C);clear f d C;go_wp2_with fail;go_roundw
      ·exact⟨k+1,by omega,by go_num,a,c,S⟩
      ·simp[intOf];omega
     ·have g2:((N:Int) !=1)=true:=by simpa using(by omega:¬(N:Int)=1)
      have S:=zh (f C);clear f d C;go_wp2_with fail;go_ret;exact G _ S a
theorem PV_iff (p:Pb):PV p↔bS p.vars/\bZ p.vars p.hard/\bZ p.vars p.soft/\cy p.vars p.dists/\aZ p.vars p.groups:=by
 constructor
 ·intro h;exact⟨h.vars,λe a=>h.exprs e (AZ _ a),λe a=>h.exprs e (Bn _ a),h.dists,h.groups⟩
 ·rintro⟨h1,h2,h3,h4,h5⟩;exact⟨h1,λe a=>(AQ.1 a).elim (h2 e) (h3 e),h4,h5⟩
theorem uO {w:World} {p:Pb} {A1 A2 A3 A4 A5:Option Addr} {c1 c2 c3 c4 c5:Nat} (hp:PIn w p A1 A2 A3 A4 A5 c1 c2 c3 c4 c5) (m:PSm p):
  Calls Tryz.prog 6 #[pbV p A1 A2 A3 A4 A5 c1 c2 c3 c4 c5] w (ErR (PV p) w):=by
 have y:=zh fun(W:World) (h:Below w.heap.size w W)=>rG W p.vars A1 c1 (hp.v.below h) m.nz;have z:=zh fun(W:World) (h:Below w.heap.size w W)=>uP W _ p.vars m.nv (hp.v.below h) p.hard A2 c2 (hp.h.below h) m.nh λe f=>m.ex e (AZ _ f);have A:=zh fun(W:World) (h:Below w.heap.size w W)=>uP W _ p.vars m.nv (hp.v.below h) p.soft A3 c3 (hp.s.below h) m.ns λe f=>m.ex e (Bn _ f);have B:=zh fun(W:World) (h:Below w.heap.size w W)=>rfDists W p.vars p.dists A1 A4 c1 c4 (hp.v.below h) (hp.d.below h) m.nv m.nd m.nw;have C:=zh fun(W:World) (h:Below w.heap.size w W)=>rfGroups W p.vars p.groups A1 A5 c1 c5 (hp.v.below h) (hp.g.below h) m.nv m.ng m.nr;have n:=zh (PV_iff p);have i:=zh fun(w':World) (er:Int) h f c=>ErR.no (P:=PV p) (w:=w) (w':=w') (er:=er) h f c;have j:=zh fun(w':World) h c=>ErR.yes (P:=PV p) (w:=w) (w':=w') h c;generalize PV p=P at*;generalize bS p.vars=Q1 at*;generalize bZ p.vars p.hard=Q2 at*;generalize bZ p.vars p.soft=Q3 at*;generalize cy p.vars p.dists=Q4 at*;generalize aZ p.vars p.groups=Q5 at*;unfold pbV;generalize p.vars.length=n1 at*;generalize p.hard.length=n2 at*;generalize p.soft.length=n3 at*;generalize p.dists.length=n4 at*;generalize p.groups.length=n5 at*;clear hp m;go_enter Tryz.func6,Tryz.ntmps6;go_upto_region 1 with fail;generalize u:w.alloc _=w1 at*;obtain⟨k,l⟩:=zB1 u;clear u;have x0:=za l 0 rfl;go_wp2_with fail;refine(y _ k).mono ?_;rintro r w2 ⟨er,rfl,a,c⟩;clear x0;replace l:=zb l c;replace k:=zb k c;clear c y
 by_cases f:er=0
 case neg=>
  have x:(er !=0)=true:=by simpa using f
  have o:=zh λw' c=>i.out w' er (λq=>f (a.2 (by have h:=n.out.1 q;exact h.1))) f c;clear i j n f a;go_wp2_with fail;go_ret;exact o _ k
 have D:=zh (a.1 f);subst f;clear a;have x0:=za l 0 rfl;have H:=za l 1 rfl;go_wp2_with fail;refine(z _ k).mono ?_;rintro r L ⟨er,rfl,a,c⟩;clear x0 H;replace l:=zb l c;replace k:=zb k c;clear c z
 by_cases f:er=0
 case neg=>
  have x:(er !=0)=true:=by simpa using f
  have o:=zh λw' c=>i.out w' er (λq=>f (a.2 (by have h:=n.out.1 q;exact h.2.1))) f c;clear i j n f a;go_wp2_with fail;go_ret;exact o _ k
 have E:=zh (a.1 f);subst f;clear a;have x0:=za l 0 rfl;have I:=za l 2 rfl;go_wp2_with fail;refine(A _ k).mono ?_;rintro r M ⟨er,rfl,a,c⟩;clear x0 I;replace l:=zb l c;replace k:=zb k c;clear c A
 by_cases f:er=0
 case neg=>
  have x:(er !=0)=true:=by simpa using f
  have o:=zh λw' c=>i.out w' er (λq=>f (a.2 (by have h:=n.out.1 q;exact h.2.2.1))) f c;clear i j n f a;go_wp2_with fail;go_ret;exact o _ k
 have F:=zh (a.1 f);subst f;clear a;have x0:=za l 0 rfl;have J:=za l 3 rfl;go_wp2_with fail;refine(B _ k).mono ?_;rintro r N ⟨er,rfl,a,c⟩;clear x0 J;replace l:=zb l c;replace k:=zb k c;clear c B
 by_cases f:er=0
 case neg=>
  have x:(er !=0)=true:=by simpa using f
  have o:=zh λw' c=>i.out w' er (λq=>f (a.2 (by have h:=n.out.1 q;exact h.2.2.2.1))) f c;clear i j n f a;go_wp2_with fail;go_ret;exact o _ k
 have G:=zh (a.1 f);subst f;clear a;have x0:=za l 0 rfl;have K:=za l 4 rfl;go_wp2_with fail;refine(C _ k).mono ?_;rintro r Q ⟨b,rfl,t,c⟩;clear x0 K;replace k:=zb k c;clear c C;cases b
 ·have o:=zh λw' c=>i.out w' 1 (λq=>by have h:=(n.out.1 q).2.2.2.2;have:=t.2 h;cases this) (by decide) c;clear i j n t;go_wp2_with fail;go_ret;exact o _ k
 ·have o:=zh λw' c=>j.out w' (n.out.2 ⟨D.out,E.out,F.out,G.out,t.1 rfl⟩) c;clear i j n t;go_wp2_with fail;go_ret;exact o _ k
section
variable {w:World} {p:Pb} {A1 A2 A3 A4 A5:Option Addr} {c1 c2 c3 c4 c5:Nat}
noncomputable def gV (p:Pb):List Int:=open Classical in if PV p then dY p.vars p.vars.length else[]
theorem rfRandom (hp:PIn w p A1 A2 A3 A4 A5 c1 c2 c3 c4 c5) (hs:PSm p):Calls Tryz.prog 58 #[pbV p A1 A2 A3 A4 A5 c1 c2 c3 c4 c5] w (IlR w (gV p)):=by
 obtain⟨i0,hi,X,Y,Z⟩:=Bb jz;obtain⟨HI,af,ag,ah⟩:=zk4 hi X Y Z;have CV:=zh fun(W:World) (h:Below w.heap.size w W)=>uO (hp.below h) hs;obtain⟨T,K⟩:=zv (dY p.vars);have q:Hid (PV p->gV p=T p.vars.length):=zh λh=>by unfold gV;rw[yz h,K]
 have n:Hid (¬PV p->gV p=[]):=zh λh=>by unfold gV;rw[yw h]
 have y:Hid (T 0=[]):=zh (by rw[K];rfl)
 have D:Hid (∀k:Nat,k<p.vars.length->T (k+1)=if(p.vars.getD k vr0).mode≠0 then T k++[(k:Int)] else T k):=zh λk hk=>by
  rw[K];show(if bL p.vars (k:Nat)=true then _ else _)=_;rw[eF hk]
  by_cases h:(p.vars.getD k vr0).mode≠0
  ·rw[yB h,yz rfl,yz h]
  ·rw[yv h,yw (by simp),yw h]
 have A:Hid (∀k,(T k).length<=k):=zh λk=>by rw[K];exact gh _ k
 have HV:Hid (∀k,k<p.vars.length->∃(b o:Nat),A1=some ⟨b,o,none⟩/\b<w.heap.size/\w.cell? ⟨b,o+k*4+2,none⟩=some (.int .i64 (p.vars.getD k vr0).mode)):=zh λk hk=>by
  obtain⟨an,ao,e1,_,am⟩:=hp.v.vrs;obtain⟨bv,ov,e2,aj,s⟩:=am k (by omega);simp only[yA] at e1;exact⟨bv,ov,by rw[e1.1,e2],aj,s 2 _ rfl⟩
 have ap:=hs.nv;generalize gV p=R at*;generalize PV p=P at*;unfold pbV at CV⊢;generalize p.vars.length=n1 at*;generalize p.hard.length=n2 at*;generalize p.soft.length=n3 at*;generalize p.dists.length=n4 at*;generalize p.groups.length=n5 at*;clear hp hs K hi X Y Z;go_enter Tryz.func58,Tryz.ntmps58;go_upto_region 1 with fail;generalize aa:w.alloc _=w1 at*;obtain⟨c,d⟩:=zB1 aa;clear aa;have E:=za d 0 rfl;have G:=za d 1 rfl;have H:=za d 2 rfl;have I:=za d 3 rfl;have J:=za d 4 rfl;go_wp2_with fail;refine(CV w1 c).mono ?_;rintro e w2 ⟨er,rfl,m,t⟩;clear E G H I J;replace d:=zb d t;replace c:=zb c t;clear t;clear CV
 by_cases N:er=0
 case neg=>
  have f1:(er !=0)=true:=by simpa using N
  have HR:Hid (R=[]):=zh (n λh=>N (m.2 h));clear n q N m D A HV y;go_wp2_with fail;go_ret;exact⟨_,rfl,by rw[HR.out];exact⟨none,0,rfl,yq _,λh=>absurd h (by simp)⟩,c⟩
 have HR:=zh (q (m.1 N));subst N;clear n q m;go_wp2_with fail;have u:=zh (OG.nil dB w2 w.heap.size 0 3 (by decide) (yt _))
 go_loopw [3,4] (λsl i wr=>∃k:Nat,k<=n1/\i= .int .i64 k/\OG dB wr w.heap.size 0 3 sl (T k)/\Box wr w.heap.size #[.slice A1 n1 c1,.slice A2 n2 c2,.slice A3 n3 c3,.slice A4 n4 c4,.slice A5 n5 c5] 27/\Below w.heap.size w wr) (λ_ i _=>n1-(intOf i).toNat)
 case atStart=>exact⟨0,yt _,rfl,by rw[y.out];exact u,d,c⟩
 case round=>
  obtain⟨k,hk,rfl,V,hx,t⟩:=hrel;clear c d u;obtain⟨c,d,a⟩:=zk3 t hx V;clear t hx V;obtain⟨A6,c6,rfl⟩:=a.out.slice;have x0:=za d 0 rfl
  by_cases S:k<n1
  ·have U:(k:Int)<n1:=by omega
   have k0:(0:Int)<=(k:Int):=by omega
   have j:=zh (D k S);have al:=A.out k;obtain⟨bv,ov,e2,L,M⟩:=HV.out k S;subst e2;have v2:=(c.out.cell L).trans M;generalize(p.vars.getD k vr0).mode=md at*;obtain⟨tl,g⟩:=zv ((T k).length);have z:=zh g;rw[<-g] at a al⊢;clear g M L
   by_cases hm:md=0
   ·have f2:(md !=0)=false:=by simpa using hm
    have r:Hid (T (k+1)=T k):=zh (by rw[j.out,yw (by simpa using hm)]);clear hm j;go_wp2_with fail;go_roundw
    ·exact⟨k+1,by omega,by go_num,by rw[r.out];exact a,d,c⟩
    ·simp[intOf];omega
   ·have f2:(md !=0)=true:=by simpa using hm
    have r:Hid (T (k+1)=T k++[(k:Int)]):=zh (by rw[j.out,yz hm]);clear hm j;have l:=ac wr (.cells #[.int .i64 (k:Nat)] 3);have ae:=zh (Rs.one (φ:=dB) (w:=wr) (F:=Ty (wr.alloc (.cells #[.int .i64 (k:Nat)] 3)) 0 dB.ts) (x:=(k:Int)) (us:=[.int .i64 (k:Nat)]) rfl 3);replace a:=zb a l;replace d:=zb d l;replace c:=zb c l;clear l;go_wp2_with(at_builtin;refine aC (φ:=dB) (T:=3) (B:=w.heap.size) (C:=0) (xs:=T k) (ys:=[(k:Int)]) rfl _ _ 32 rfl i0 (.int .i64 0) 8 Tryz.underlying32 HI af ag ah rfl rfl a (.slice (some ⟨wr.heap.size,0,none⟩) 1 1) rfl ae ?c1 ?c2 ?c3 ?_)
    case c1=>simp only[yr,yR];rw[<-z.out];omega
    case c2=>simp only[yr,yR];rw[<-z.out];unfold maxLen;omega
    case c3=>exact c.out.size
    intro v' w7 f Q;have ai:=zh (a.out.boxKept Q.out d (.inl (by decide)));have ab:=zh (a.out.belowG Q.out c c.out.size (yq _));rw[<-r.out] at f;obtain⟨A7,c7,rfl⟩:=f.out.slice;go_wp2_with fail;go_roundw
    ·exact⟨k+1,by omega,by go_num,f.out,ai,ab⟩
    ·simp[intOf];omega
  ·have U:¬(k:Int)<n1:=by omega
   have ak:k=n1:=by omega
   rw[ak] at a⊢;have ad:=zh a.out.il;generalize(T n1).length=tl at*;clear a;go_wp2_with fail;go_ret;exact⟨_,rfl,by rw[HR.out];exact ad,c⟩
end
noncomputable def kd (p:Pb):Int:=open Classical in if PV p then aU p.vars else 0
theorem ranP_len (p:Pb):(gV p).length<=p.vars.length:=by
 unfold gV
 split
 ·exact gh _ _
 ·exact yt _
theorem ranP_mem (p:Pb):∀i∈gV p,∃j:Nat,i=j/\j<p.vars.length/\bL p.vars i=true:=λi h=>by
 unfold gV at h
 split at h
 ·exact fZ _ _ i h
 ·cases h
theorem ranP_wid (p:Pb):∀i∈gV p,1<=(p.vars.getD i.toNat vr0).width/\(p.vars.getD i.toNat vr0).width<=8:=λi h=>by
 unfold gV at h
 split at h
 ·rename_i hv;obtain⟨j,rfl,a, -⟩:=fZ _ _ i h;rw[y5];exact(hv.vars.ok _ (getD_in vr0 a)).2.1
 ·cases h
theorem ranP_sum (p:Pb):fU p.vars (gV p)=kd p:=by
 unfold gV kd
 split
 ·rw[pY _ _ (yq _),Ay]
 ·rfl
section
variable {w:World} {p:Pb} {A1 A2 A3 A4 A5:Option Addr} {c1 c2 c3 c4 c5:Nat}
theorem rfBits (hp:PIn w p A1 A2 A3 A4 A5 c1 c2 c3 c4 c5) (hs:PSm p):Calls Tryz.prog 24 #[pbV p A1 A2 A3 A4 A5 c1 c2 c3 c4 c5] w λe w'=>e= .returned (.int .i64 (kd p))/\Below w.heap.size w w':=by
 have N:=zh fun(W:World) (h:Below w.heap.size w W)=>rfRandom (hp.below h) hs;unfold IlR at N;have HV:=zh hp.v;have t:=zh (ranP_mem p);have ac:=ranP_len p;have aa:=hs.nv;have x:Hid (∀i∈gV p,1<=(p.vars.getD i.toNat vr0).width/\(p.vars.getD i.toNat vr0).width<=8):=zh (ranP_wid p);have HW:Hid (fU p.vars ((gV p).take (gV p).length)=kd p):=zh (by rw[Ay];exact ranP_sum p)
 have g:Hid (∀k,k<(gV p).length->fU p.vars ((gV p).take (k+1))=fU p.vars ((gV p).take k)+(p.vars.getD ((gV p).getD k 0).toNat vr0).width):=zh λk hk=>by
  unfold fU;exact lY hk
 generalize gV p=R at*;obtain⟨n1,n⟩:=zv (p.vars.length);have HN:=zh n;obtain⟨m,hm⟩:=zv (R.length);have Q:=zh hm;have af:m<=1000:=by omega
 rw[<-hm] at HW g
 have u:Hid (∀k,k<=m->0<=fU p.vars (R.take k)/\fU p.vars (R.take k)<=8*k):=zh λk=>by
  induction k with
  |zero=>intro _;exact⟨Int.le_refl _,Int.le_refl _⟩
  |succ k ih=>
   intro hk;have h1:=ih (by omega);rw[g.out k (by omega)];have h2:=x.out _ (getD_in 0 (show k<R.length by rw[<-Q.out];omega));omega
 unfold pbV at N⊢;rw[<-n] at N HV aa t⊢;generalize p.hard.length=n2 at*;generalize p.soft.length=n3 at*;generalize p.dists.length=n4 at*;generalize p.groups.length=n5 at*;generalize kd p=B at*;clear hp hs n hm ac x;go_enter Tryz.func24,Tryz.ntmps24;go_upto_region 1 with fail;generalize M:w.alloc _=w1 at*;obtain⟨P,d⟩:=zB1 M;clear M;have y:=za d 0 rfl;have z:=za d 1 rfl;have A:=za d 2 rfl;have C:=za d 3 rfl;have D:=za d 4 rfl;go_wp2_with fail;refine(N w1 P).mono ?_;rintro e w2 ⟨v,rfl,Z,V⟩;replace d:=zb d V;replace P:=zb P V;clear V;obtain⟨A6,c6,rfl,Y,F⟩:=Z;have f:=zh F;rw[<-Q.out] at f Y⊢;clear F;have T:Hid (fU p.vars (R.take 0)=0):=zh rfl;clear y z A C D;go_wp2_with fail
 go_loopw [4,5] (λs i wr=>∃k:Nat,k<=m/\i= .int .i64 k/\s= .int .i64 (fU p.vars (R.take k))/\Below w2.heap.size w2 wr) (λ_ i _=>m-(intOf i).toNat)
 case atStart=>exact⟨0,yt _,rfl,by rw[T.out],yx _ _⟩
 case round=>
  obtain⟨k,hk,rfl,rfl,a⟩:=hrel;have q:=zh a;have r:=zh (ab P a);have U:=zh (d.out.below a);clear a
  by_cases l:k<m
  ·have J:(k:Int)<m:=by omega
   have k0:(0:Int)<=(k:Int):=by omega
   obtain⟨a1,rfl,I,K⟩:=f.out (by omega);have y0:=(q.out.cell (by rw[aP];exact I)).trans (K k l);have G:=getD_in 0 (show k<R.length by rw[<-Q.out];exact l);obtain⟨j,e,hj, -⟩:=t.out _ G;have b:=zh (g k l);have X:=u.out k hk;have a:=u.out (k+1) (by omega);rw[b.out] at a;obtain⟨ad,ae,e1,_,L⟩:=HV.out.vrs;obtain⟨bv,ov,e2,E,c⟩:=L j (by rw[<-HN.out];exact hj)
   have e3:A1=some ⟨bv,ov,none⟩:=by
    simp only[yA] at e1;rw[e1.1,e2]
   subst e3;have v1:=(r.out.cell E).trans (c 1 _ rfl);rw[e] at y0 b a;rw[y5] at b a;generalize p.vars.getD j vr0=vr at*;obtain⟨nm,wd,md,vl⟩:=vr;simp only at v1 b a;have j0:(0:Int)<=(j:Int):=by omega
   have j1:(j:Int)<(n1:Int):=by omega
   obtain⟨s1,o⟩:=zv (fU p.vars (R.take (k+1)));have S:=zh o;rw[<-o] at b;generalize fU p.vars (R.take k)=s0 at*;have q1:s0+wd<=9000:=by omega
   have q2:0<=s0+wd:=by omega
   clear o e1 e2 L E c I K G e X a;have x0:=za U 0 rfl;go_upto_region 6 with fail
   go_quiet (fail)
   go_wp2_with fail;go_roundw
   ·exact⟨k+1,by omega,by go_num,by rw[<-S.out,b.out]<;>go_num,ay q _⟩
   ·simp[intOf];omega
  ·have J:¬(k:Int)<m:=by omega
   have H:k=m:=by omega
   rw[H,HW.out];clear f H;go_wp2_with fail;go_ret;exact⟨rfl,r⟩
end
theorem same_of {a lb:List Int} (h:a.length=lb.length) (c:∀j,j<a.length->a.getD j 0=lb.getD j 0):a=lb:=by
 apply BP h;intro j b d;have:=c j b;rw[yj,yp b,yj,yp d] at this;exact this
theorem rfSame (w:World) (va vb:Value) (a lb:List Int) (P:IL w va a) (Q:IL w vb lb) (S:a.length<=100000):
  Calls Tryz.prog 17 #[va,vb] w λe w'=>e= .returned (.bool (decide (a=lb)))/\Below w.heap.size w w':=by
 obtain⟨A,V,rfl,J,D⟩:=P;obtain⟨B,W,rfl,K,E⟩:=Q;have l:=zh D;have c:=zh E;have p:Hid (a.length≠lb.length->decide (a=lb)=false):=zh λh=>yv λe=>h (by rw[e]);have f:Hid (a.length=lb.length->(∀j,j<a.length->a.getD j 0=lb.getD j 0)->decide (a=lb)=true):=zh λh N=>yB (same_of h N);have F:Hid (∀j,a.getD j 0≠lb.getD j 0->decide (a=lb)=false):=zh λj h=>yv λe=>h (by rw[e]);generalize decide (a=lb)=r at*;obtain⟨n,L⟩:=zv (a.length);obtain⟨m,hm⟩:=zv (lb.length);rw[<-L] at l p f S J⊢;rw[<-hm] at c p f K⊢;clear D E L hm
 by_cases h:n=m
 case neg=>
  have X:((n:Int) !=(m:Int))=true:=by simpa using(by omega:¬(n:Int)=m)
  have I:=zh (p h);clear p f F l c h;go_enter Tryz.func17,Tryz.ntmps17;go_wp2_with fail;go_ret;exact⟨bF I.out.symm,yx _ _⟩
 subst h;replace f:=zh (f rfl);clear p;go_enter Tryz.func17,Tryz.ntmps17;go_wp2_with fail
 go_loopw [5] (λi wr=>∃k:Nat,k<=n/\i= .int .i64 k/\Below w.heap.size w wr/\Hid (∀j,j<k->a.getD j 0=lb.getD j 0)) (λi _=>n-(intOf i).toNat)
 case atStart=>exact⟨0,yt _,rfl,yx _ _,zh λj h=>by omega⟩
 case round=>
  obtain⟨k,hk,rfl,q,d⟩:=hrel;have o:=zh q;clear q
  by_cases u:k<n
  case neg=>
   have v:¬(k:Int)<n:=by omega
   have I:=zh (f λj R=>d.out j (by omega));clear f F l c d;go_wp2_with fail;go_ret;exact⟨bF I.out.symm,o⟩
  have v:(k:Int)<n:=by omega
  have Y:(0:Int)<=(k:Int):=by omega
  obtain⟨T,rfl,s,z⟩:=l.out (by omega);obtain⟨U,rfl,t,C⟩:=c.out (by omega);have Z:=(o.out.cell (by rw[aP];exact s)).trans (z k u);have z0:=(o.out.cell (by rw[aP];exact t)).trans (C k u);have g:=zh (F k)
  have G:Hid (a.getD k 0=lb.getD k 0->∀j,j<k+1->a.getD j 0=lb.getD j 0):=zh λh j R=>by
   by_cases e:j=k
   ·rw[e];exact h
   ·exact d.out j (by omega)
  generalize a.getD k 0=x at*;generalize lb.getD k 0=y at*;clear s z t C d f F l c
  by_cases b:x=y
  ·have M:(x !=y)=false:=by simpa using b
   have H:=zh (G b);clear b g G;go_upto_region 6 with fail
   go_quiet (fail)
   go_wp2_with fail;go_roundw
   ·exact⟨k+1,by omega,by go_num,ay o _,H⟩
   ·simp[intOf];omega
  ·have M:(x !=y)=true:=by simpa using b
   have H:=zh (g b);clear b g G;go_upto_region 6 with fail
   go_quiet (fail)
   go_wp2_with fail;go_ret;exact⟨bF H.out.symm,ay o _⟩
theorem lwAsc (w:World) (va:Value) (a:List Int) (L:IL w va a) (M:a.length<=100000):Calls Tryz.prog 7 #[va] w (BoR (ji a) w):=by
 obtain⟨A,R,rfl,E,v⟩:=L;have B:=zh v;have l:=zh fun(w':World) h d=>BoR.no (P:=ji a) (w:=w) (w':=w') h d;have b:=zh fun(w':World) h d=>BoR.yes (P:=ji a) (w:=w) (w':=w') h d;have r:Hid (ji a↔∀i,i+1<a.length->a.getD i 0<a.getD (i+1) 0):=zh Iff.rfl;generalize ji a=P at*;obtain⟨n,H⟩:=zv (a.length);rw[<-H] at B r M E⊢;clear v H;go_enter Tryz.func7,Tryz.ntmps7;go_wp2_with fail
 go_loopw [3] (λi wr=>∃k:Nat,k<=n/\i= .int .i64 ((k:Int)+1)/\Below w.heap.size w wr/\Hid (∀i,i<k->i+1<n->a.getD i 0<a.getD (i+1) 0)) (λi _=>n+1-(intOf i).toNat)
 case atStart=>exact⟨0,yt _,rfl,yx _ _,zh λj h=>by omega⟩
 case round=>
  obtain⟨k,hk,rfl,s,f⟩:=hrel;have p:=zh s;clear s
  by_cases t:k+1<n
  case neg=>
   have u:¬(k:Int)+1<n:=by omega
   have I:=zh λw' d=>b.out w' (r.out.2 λi hi=>f.out i (by omega) hi) d;clear r l b B f;go_wp2_with fail;go_ret;exact I _ p
  obtain⟨q,G⟩:=zv (k+1);rw[show(k:Int)+1=(q:Int) by omega];have u:(q:Int)<n:=by omega
  have T:(0:Int)<=(q:Int):=by omega
  have U:(0:Int)<=(k:Int):=by omega
  have V:(k:Int)<n:=by omega
  have W:IntKind.i64.wrap ((q:Int)-1)=(k:Int):=by rw[show(q:Int)-1=(k:Int) by omega];exact Bt _ (by omega)
  have C:=zh G;obtain⟨Q,rfl,m,o⟩:=B.out (by omega);have X:=(p.out.cell (by rw[aP];exact m)).trans (o k (by omega));have N:=(p.out.cell (by rw[aP];exact m)).trans (o (k+1) t);rw[<-G] at N;clear G;have c:=zh λw' (h:¬a.getD k 0<a.getD (k+1) 0) d=>l.out w' (λK=>h (r.out.1 K k t)) d
  have z:Hid (a.getD k 0<a.getD (k+1) 0->∀i,i<k+1->i+1<n->a.getD i 0<a.getD (i+1) 0):=zh λh j S F=>by
   by_cases e:j=k
   ·rw[e];exact h
   ·exact f.out j (by omega) F
  generalize a.getD k 0=x at*;rw[<-C.out] at c z;generalize a.getD q 0=y at*;clear m o f r l b B
  by_cases g:x<y
  ·have J:¬x≥y:=by omega
   have D:=zh (z g);clear g c z;go_upto_region 4 with fail
   go_quiet (fail)
   go_wp2_with fail;go_roundw
   ·exact⟨k+1,by omega,by have:=C.out;go_num,ay p _,by rw[<-C.out];exact D⟩
   ·have:=C.out;simp[intOf];omega
  ·have J:x≥y:=by omega
   have D:=zh λw' d=>c.out w' g d;clear g c z;go_upto_region 4 with fail
   go_quiet (fail)
   go_wp2_with fail;go_ret;exact D _ (ay p _)
theorem pb.sm {p:Pb} (h:pb p) (c:PbZ p):PSm p where
 nv:=by have:=h.nv;omega
 nz:=λv j=>(c.vs v j).1
 nh:=by have:=h.nh;omega
 ns:=by have:=h.ns;omega
 ex:=λe a=>by
  have d:ExZ e/\aX 30 e<=60/\bD 26 e=true:=by
   rcases AQ.1 a with a|a
   ·exact⟨c.hs e a,h.hd e a⟩
   ·exact⟨c.ss e a,h.sf e a⟩
  obtain⟨g,k,i⟩:=d;have f:Deep 30 e:=(oL i).le (by decide)
  exact⟨g,f,by
   have:=pt 30 e (by omega) f;unfold KE
   omega⟩
 nd:=by have:=h.nd;omega
 nw:=λx b=>by have:=h.dw x b;omega
 ng:=by have:=h.ng;omega
 nr:=λx b=>by have:=h.gr x b;omega
structure PRd (d:Nat) (w:World) (p:Pb) (A1 A2 A3 A4 A5:Option Addr) (c1 c2 c3 c4 c5:Nat):Prop where
 v:Rs vrR w (.slice A1 p.vars.length c1) p.vars ah
 h:Rs (exR d) w (.slice A2 p.hard.length c2) p.hard ah
 s:Rs (exR d) w (.slice A3 p.soft.length c3) p.soft ah
 d:Rs dsR w (.slice A4 p.dists.length c4) p.dists ah
 g:Rs ilR w (.slice A5 p.groups.length c5) p.groups ah
section
variable {d:Nat} {w:World} {p:Pb} {A1 A2 A3 A4 A5:Option Addr} {c1 c2 c3 c4 c5:Nat}
theorem PRd.below {w':World} (h:PRd d w p A1 A2 A3 A4 A5 c1 c2 c3 c4 c5) (a:Below w.heap.size w w'):PRd d w' p A1 A2 A3 A4 A5 c1 c2 c3 c4 c5:=⟨h.v.below a,h.h.below a,h.s.below a,h.d.below a,h.g.below a⟩
instance {w':World}:Zm w w' (PRd d w p A1 A2 A3 A4 A5 c1 c2 c3 c4 c5) (PRd d w' p A1 A2 A3 A4 A5 c1 c2 c3 c4 c5):=⟨λhb h=>PRd.below h hb⟩
theorem PRd.pin (h:PRd d w p A1 A2 A3 A4 A5 c1 c2 c3 c4 c5) (b:PSm p):PIn w p A1 A2 A3 A4 A5 c1 c2 c3 c4 c5:=
 ⟨h.v,h.h.deep λe a=>(b.ex e (AZ _ a)).deep,h.s.deep λe a=>(b.ex e (Bn _ a)).deep,h.d,h.g⟩
def FewR (w:World) (p:Pb) (n:Int) (e:Ending) (w':World):Prop:=(∃b,e= .returned (.bool b)/\(b=true->pb p/\kd p<=n))/\Below w.heap.size w w'
theorem lwFew (hp:PRd d w p A1 A2 A3 A4 A5 c1 c2 c3 c4 c5) (x:PbZ p) (n:Int):Calls Tryz.prog 5 #[pbV p A1 A2 A3 A4 A5 c1 c2 c3 c4 c5,.int .i64 n] w (FewR w p n):=by
 have v:=zh fun(W:World) (h:Below w.heap.size w W)=>lwSmall (A1:=A1) (c1:=c1) (hp.below h).h (hp.below h).s (hp.below h).d (hp.below h).g x;have u:=zh fun(A:pb p) (W:World) (h:Below w.heap.size w W)=>rfBits ((hp.below h).pin (A.sm x)) (A.sm x);unfold pbV at v u⊢;generalize p.vars.length=n1 at*;generalize p.hard.length=n2 at*;generalize p.soft.length=n3 at*;generalize p.dists.length=n4 at*;generalize p.groups.length=n5 at*;clear hp x;go_enter Tryz.func5,Tryz.ntmps5;go_upto_region 1 with fail;generalize t:w.alloc _=w1 at*;obtain⟨l,a⟩:=zB1 t;clear t;have c:=za a 0 rfl;have f:=za a 1 rfl;have i:=za a 2 rfl;have j:=za a 3 rfl;have k:=za a 4 rfl;go_wp2_with fail;refine(v w1 l).mono ?_;rintro e w2 ⟨⟨b,rfl,q⟩,m⟩;clear c f i j k;replace a:=zb a m;replace l:=zb l m;clear m;cases b
 ·clear u v q;go_wp2_with fail;go_ret;exact⟨⟨false,rfl,λh=>by cases h⟩,l⟩
 have z:=zh (q rfl);have r:=zh (u z);clear u v q;have c:=za a 0 rfl;have f:=za a 1 rfl;have i:=za a 2 rfl;have j:=za a 3 rfl;have k:=za a 4 rfl;go_wp2_with fail;refine(r w2 l).mono ?_;rintro e D ⟨rfl,m⟩;clear c f i j k;replace a:=zb a m;replace l:=zb l m;clear m;generalize o:kd p=bp at*;clear r
 by_cases y:bp<=n
 ·have C:=zh y;have B:=zh o;clear o;go_wp2_with fail;go_ret;exact⟨⟨_,rfl,λ_=>⟨z,by rw[B.out];exact C⟩⟩,l⟩
 ·clear o;go_wp2_with fail;go_ret;exact⟨⟨_,rfl,λh=>absurd h (by simp;omega)⟩,l⟩
end
def k9 (l:List Vr):List Int:=l.map λv=>if v.mode=0 then v.value else 0
theorem fitT_s {l:List Vr} {k:Nat} (h:k<l.length):k9 (l.take (k+1))=k9 (l.take k)++[if(l.getD k vr0).mode=0 then(l.getD k vr0).value else 0]:=by
 unfold k9;rw[Am,yp h,Bx,yj,yp h];rfl
section
variable {w:World} {p:Pb} {A1 A2 A3 A4 A5:Option Addr} {c1 c2 c3 c4 c5:Nat}
def FtR (w:World) (l:List Int) (e:Ending) (w':World):Prop:=∃v,e= .returned v/\OG dB w' w.heap.size 0 3 v l/\Below w.heap.size w w'
theorem lwFit (hp:PIn w p A1 A2 A3 A4 A5 c1 c2 c3 c4 c5) (hs:PSm p) (hv:bS p.vars):Calls Tryz.prog 15 #[pbV p A1 A2 A3 A4 A5 c1 c2 c3 c4 c5,.slice none 0 0] w (FtR w (k9 p.vars)):=by
 obtain⟨i0,hi,Z,aa,ab⟩:=Bb jz;obtain⟨HI,R,S,U⟩:=zk4 hi Z aa ab;obtain⟨T,V⟩:=zv (λk=>k9 (p.vars.take k):Nat->List Int);have af:Hid (k9 p.vars=T p.vars.length):=zh (by rw[V];show _=k9 (p.vars.take p.vars.length);rw[Ay]);have ae:Hid (T 0=[]):=zh (by rw[V];rfl);have P:Hid (∀k:Nat,k<p.vars.length->T (k+1)=T k++[if(p.vars.getD k vr0).mode=0 then(p.vars.getD k vr0).value else 0]):=zh λk hk=>by rw[V];exact fitT_s hk
 have N:Hid (∀k,(T k).length<=k):=zh λk=>by rw[V];show(k9 _).length<=k;unfold k9;rw[yD,yM];omega
 have Q:Hid (∀k:Nat,k<p.vars.length->1<=(p.vars.getD k vr0).width/\(p.vars.getD k vr0).width<=8):=zh λk hk=>(hv.ok _ (getD_in vr0 hk)).2.1
 have HV:Hid (∀k,k<p.vars.length->∃(b o:Nat),A1=some ⟨b,o,none⟩/\b<w.heap.size/\∀i u,(vrL (p.vars.getD k vr0))[i]? =some u->w.cell? ⟨b,o+k*4+i,none⟩=some u):=zh λk hk=>by
  obtain⟨al,am,e1,_,ak⟩:=hp.v.vrs;obtain⟨bv,ov,e2,ag,K⟩:=ak k (by omega);simp only[yA] at e1;exact⟨bv,ov,by rw[e1.1,e2],ag,K⟩
 have an:=hs.nv;rw[af.out];unfold pbV;generalize p.vars.length=n1 at*;generalize p.hard.length=n2 at*;generalize p.soft.length=n3 at*;generalize p.dists.length=n4 at*;generalize p.groups.length=n5 at*;clear hp hs hv V hi Z aa ab;go_enter Tryz.func15,Tryz.ntmps15;go_upto_region 1 with fail;generalize s:w.alloc _=w1 at*;obtain⟨d,j⟩:=zB1 s;clear s;go_wp2_with fail;have M:=zh (OG.nil dB w1 w.heap.size 0 3 (by decide) (yt _))
 go_loopw [5,6,7,8] (λsl i _ _ wr=>∃k:Nat,k<=n1/\i= .int .i64 k/\OG dB wr w.heap.size 0 3 sl (T k)/\Box wr w.heap.size #[.slice A1 n1 c1,.slice A2 n2 c2,.slice A3 n3 c3,.slice A4 n4 c4,.slice A5 n5 c5] 27/\Below w.heap.size w wr) (λ_ i _ _ _=>n1-(intOf i).toNat)
 case atStart=>exact⟨0,yt _,rfl,by rw[ae.out];exact M,j,d⟩
 case round=>
  obtain⟨k,hk,rfl,X,hx,hb⟩:=hrel;clear d j M;obtain⟨d,j,a⟩:=zk3 hb hx X;clear hb hx X;obtain⟨A6,c6,rfl⟩:=a.out.slice;have x0:=za j 0 rfl
  by_cases L:k<n1
  case neg=>
   have W:¬(k:Int)<n1:=by omega
   have ah:k=n1:=by omega
   rw[ah] at a⊢;generalize(T n1).length=tl at*;go_wp2_with fail;go_ret;exact⟨_,rfl,a,d⟩
  have W:(k:Int)<n1:=by omega
  have k0:(0:Int)<=(k:Int):=by omega
  have l:=zh (P k L);have ai:=N.out k;have Y:=Q.out k L;obtain⟨bv,ov,e2,m,n⟩:=HV.out k L;subst e2;have v0:=(d.out.cell m).trans (n 0 _ rfl);have v1:=(d.out.cell m).trans (n 1 _ rfl);have v2:=(d.out.cell m).trans (n 2 _ rfl);have v3:=(d.out.cell m).trans (n 3 _ rfl);rw[yU] at v0;generalize p.vars.getD k vr0=vr at*;obtain⟨nm,f,md,y⟩:=vr;simp only at v0 v1 v2 v3 Y l;obtain⟨tl,r⟩:=zv ((T k).length);have g:=zh r;rw[<-r] at a ai⊢;clear r n m P N Q HV;have ad:¬(k:Int)<0:=by omega
  go_upto_region 9 with fail;clear v0 v1 v2 v3 x0;generalize s:wr.alloc _=w5 at*;obtain⟨t,XA⟩:=zA1 s;clear s;replace a:=zb a t;replace j:=zb j t;replace d:=zb d t;clear t;generalize wr.heap.size=gq at*;have z1:=za XA 1 rfl;have z2:=za XA 2 rfl;have z3:=za XA 3 rfl
  by_cases hm:md=0
  ·have f2:(md==0)=true:=by simpa using hm
   have D:Hid (T (k+1)=T k++[y]):=zh (by rw[l.out,yz hm]);clear hm l;go_upto_region 10 with fail;have e:=ac w5 (.cells #[.int .i64 (y)] 3);have A:=zh (Rs.one (φ:=dB) (w:=w5) (F:=Ty (w5.alloc (.cells #[.int .i64 (y)] 3)) 0 dB.ts) (x:=y) (us:=[.int .i64 (y)]) rfl 3);replace a:=zb a e;replace j:=zb j e;replace d:=zb d e;clear e
   have I:(((T k).length+([y]:List Int).length)+((T k).length+([y]:List Int).length)/4+192)*8<=281474976710656:=by
    have:=g.out;show(((T k).length+1)+((T k).length+1)/4+192)*8<=_;omega
   have J:(T k).length+([y]:List Int).length<=maxLen:=by
    have:=g.out;show(T k).length+1<=_;unfold maxLen;omega
   go_wp2_with(at_builtin;refine aC (φ:=dB) (T:=3) (B:=w.heap.size) (C:=0) (xs:=T k) (ys:=[y]) rfl _ _ 32 rfl i0 (.int .i64 0) 8 Tryz.underlying32 HI R S U rfl rfl a (.slice (some ⟨w5.heap.size,0,none⟩) 1 1) rfl A I J d.out.size ?_);intro v' w7 c q;have E:=zh (a.out.boxKept q.out j (.inl (by decide)));have z:=zh (a.out.belowG q.out d d.out.size (yq _));rw[<-D.out] at c;obtain⟨A7,c7,rfl⟩:=c.out.slice;go_wp2_with fail;go_roundw
   ·exact⟨k+1,by omega,by go_num,c.out,E,z⟩
   ·simp[intOf];omega
  ·have f2:(md==0)=false:=by simpa using hm
   have D:Hid (T (k+1)=T k++[0]):=zh (by rw[l.out,yw hm]);clear hm l
   have aj:f=1/\bits BinOp.and IntKind.i64 1 15=1/\bits BinOp.and IntKind.i64 0 1=0\/f=2/\bits BinOp.and IntKind.i64 2 15=2/\bits BinOp.and IntKind.i64 0 3=0\/f=3/\bits BinOp.and IntKind.i64 3 15=3/\bits BinOp.and IntKind.i64 0 7=0\/f=4/\bits BinOp.and IntKind.i64 4 15=4/\bits BinOp.and IntKind.i64 0 15=0\/f=5/\bits BinOp.and IntKind.i64 5 15=5/\bits BinOp.and IntKind.i64 0 31=0\/f=6/\bits BinOp.and IntKind.i64 6 15=6/\bits BinOp.and IntKind.i64 0 63=0\/f=7/\bits BinOp.and IntKind.i64 7 15=7/\bits BinOp.and IntKind.i64 0 127=0\/f=8/\bits BinOp.and IntKind.i64 8 15=8/\bits BinOp.and IntKind.i64 0 255=0:=by
    have h:f=1\/f=2\/f=3\/f=4\/f=5\/f=6\/f=7\/f=8:=by omega
    rcases h with rfl|rfl|rfl|rfl|rfl|rfl|rfl|rfl
    ·exact Or.inl ⟨rfl,by kernel_rfl,by kernel_rfl⟩
    ·exact BH (Or.inl ⟨rfl,by kernel_rfl,by kernel_rfl⟩)
    ·exact BH (BH (Or.inl ⟨rfl,by kernel_rfl,by kernel_rfl⟩))
    ·exact BH (BH (BH (Or.inl ⟨rfl,by kernel_rfl,by kernel_rfl⟩)))
    ·exact BH (BH (BH (BH (Or.inl ⟨rfl,by kernel_rfl,by kernel_rfl⟩))))
    ·exact BH (BH (BH (BH (BH (Or.inl ⟨rfl,by kernel_rfl,by kernel_rfl⟩)))))
    ·exact BH (BH (BH (BH (BH (BH (Or.inl ⟨rfl,by kernel_rfl,by kernel_rfl⟩))))))
    ·exact BH (BH (BH (BH (BH (BH (BH (⟨rfl,by kernel_rfl,by kernel_rfl⟩)))))))
   clear Y;rcases aj with⟨rfl,H,G⟩|⟨rfl,H,G⟩|⟨rfl,H,G⟩|⟨rfl,H,G⟩|⟨rfl,H,G⟩|⟨rfl,H,G⟩|⟨rfl,H,G⟩|⟨rfl,H,G⟩
   all_goals
    have e:=ac w5 (.cells #[.int .i64 (0)] 3);have A:=zh (Rs.one (φ:=dB) (w:=w5) (F:=Ty (w5.alloc (.cells #[.int .i64 (0)] 3)) 0 dB.ts) (x:=0) (us:=[.int .i64 (0)]) rfl 3);replace a:=zb a e;replace j:=zb j e;replace d:=zb d e;clear e
    have I:(((T k).length+([0]:List Int).length)+((T k).length+([0]:List Int).length)/4+192)*8<=281474976710656:=by
     have:=g.out;show(((T k).length+1)+((T k).length+1)/4+192)*8<=_;omega
    have J:(T k).length+([0]:List Int).length<=maxLen:=by
     have:=g.out;show(T k).length+1<=_;unfold maxLen;omega
    go_wp2_with(at_builtin;refine aC (φ:=dB) (T:=3) (B:=w.heap.size) (C:=0) (xs:=T k) (ys:=[0]) rfl _ _ 32 rfl i0 (.int .i64 0) 8 Tryz.underlying32 HI R S U rfl rfl a (.slice (some ⟨w5.heap.size,0,none⟩) 1 1) rfl A I J d.out.size ?_);intro v' w7 c q;have E:=zh (a.out.boxKept q.out j (.inl (by decide)));have z:=zh (a.out.belowG q.out d d.out.size (yq _));rw[<-D.out] at c;obtain⟨A7,c7,rfl⟩:=c.out.slice;go_wp2_with fail;go_roundw
    ·exact⟨k+1,by omega,by go_num,c.out,E,z⟩
    ·simp[intOf];omega
end
theorem xF {σ:ByteArray->Nat} {l m:List Ex} (h:∀e∈m,e∈l) (b:gH σ l=true):gH σ m=true:=
 Bj.2 λe a=>Bj.1 b e (h e a)
theorem solv_sub {p:Pb} {l m:List Ex} (h:∀e∈m,e∈l) (c:cF p l=true):cF p m=true:=by
 unfold cF at c⊢
 cases hs:de (aw p.vars) (az p.vars) l with
 |nil=>rw[hs] at c;cases c
 |cons a r=>
  have b:a∈de (aw p.vars) (az p.vars) l:=by rw[hs];simp
  unfold de at b;have d:a∈de (aw p.vars) (az p.vars) m:=List.mem_filter.2 ⟨(List.mem_filter.1 b).1,xF h (List.mem_filter.1 b).2⟩
  cases hm:de (aw p.vars) (az p.vars) m with
  |nil=>rw[hm] at d;cases d
  |cons _ _=>rfl
theorem kp_sat {p:Pb} (h:cF p p.hard=true):∀k,cF p (kpT p k).1=true/\∀e∈p.hard++(kpT p k).2.map (λi=>p.soft.getD i ex0),e∈(kpT p k).1
 |0=>⟨h,λe a=>by simpa [kpT] using a⟩
 |k+1=>by
  obtain⟨c,b⟩:=kp_sat h k;unfold kpT;simp only
  split
  ·rename_i hs;refine⟨hs,λe a=> ?_⟩;simp only[Bx,Cm,List.map_nil,AQ,yC,yI,AH] at a⊢;rcases a with a|a|a
   ·exact .inl (b e (AZ _ a))
   ·exact .inl (b e (Bn _ a))
   ·exact .inr a
  ·exact⟨c,b⟩
def dA (p:Pb):List (List Nat):=de (aw p.vars) (az p.vars) (aA p)
theorem tw {p:Pb} (h:cF p p.hard=true):0<(dA p).length:=by
 obtain⟨c,d⟩:=kp_sat h p.soft.length
 have b:cF p (aA p)=true:=by
  refine solv_sub (λe a=>d e ?_) c;unfold aA ms at a;rcases AQ.1 a with a|a
  ·exact AZ _ a
  ·obtain⟨i,hi,rfl⟩:=AP.1 a;exact Bn _ (AP.2 ⟨i,List.mem_reverse.1 hi,rfl⟩)
 unfold cF at b;unfold dA
 cases hs:de (aw p.vars) (az p.vars) (aA p) with
 |nil=>rw[hs] at b;cases b
 |cons _ _=>simp
theorem nJ {p:Pb} (b:PSm p) (c:PV p):∀e∈p.hard++p.soft,jK (aw p.vars) e:=λe a=>
 ⟨(b.ex e a).z,(b.ex e a).deep,c.exprs e a,(b.ex e a).len⟩
theorem oM:∀(a:List Wd) (l:List Bool),(ej a l).length=a.length
 |[],_=>rfl
 |v::a,l=>by
  cases hf:v.fixed with
  |some x=>rw[fd hf,yr,yr,oM a l]
  |none=>rw[ff hf,yr,yr,oM a _]
theorem qJ:∀(a:List Wd) (l:List Bool) (i:Nat),i<a.length->((a.getD i ⟨0,none⟩).fixed=none->(ej a l).getD i 0=dj ((l.drop (aD (a.take i))).take (a.getD i ⟨0,none⟩).w))/\∀x,(a.getD i ⟨0,none⟩).fixed=some x->(ej a l).getD i 0=x
 |[],l,i,h=>by simp at h
 |v::a,l,0,h=>by
  refine⟨λb=> ?_,λx b=> ?_⟩
  ·have b:v.fixed=none:=b;rw[ff b];rfl
  ·have b:v.fixed=some x:=b;rw[fd b];rfl
 |v::a,l,i+1,h=>by
  have hi:i<a.length:=by simpa using h
  cases b:v.fixed with
  |some y=>
   obtain⟨c,d⟩:=qJ a l i hi;rw[fd b];refine⟨λh=> ?_,λx h=>d x h⟩
   have e:aD ((v::a).take (i+1))=aD (a.take i):=by
    show(if v.fixed=none then v.w else 0)+aD (a.take i)=_;rw[b,yw (by simp),yH]
   rw[e];exact c h
  |none=>
   obtain⟨c,d⟩:=qJ a (l.drop v.w) i hi;rw[ff b];refine⟨λh=> ?_,λx h=>d x h⟩
   have e:aD ((v::a).take (i+1))=v.w+aD (a.take i):=by
    show(if v.fixed=none then v.w else 0)+aD (a.take i)=_;rw[b,yz rfl]
   rw[e,<-List.drop_drop];exact c h
theorem kf:∀(a:List Wd) (i:Nat),i<a.length->aD (a.take (i+1))=aD (a.take i)+if(a.getD i ⟨0,none⟩).fixed=none then(a.getD i ⟨0,none⟩).w else 0
 |[],i,h=>by simp at h
 |v::a,0,h=>by
  show(if v.fixed=none then v.w else 0)+0=0+if v.fixed=none then v.w else 0
  omega
 |v::a,i+1,h=>by
  have ih:=kf a i (by simpa using h);show(if v.fixed=none then v.w else 0)+aD (a.take (i+1))=(if v.fixed=none then v.w else 0)+aD (a.take i)+if(a.getD i ⟨0,none⟩).fixed=none then(a.getD i ⟨0,none⟩).w else 0
  omega
theorem ij:∀(a:List Wd) (i:Nat),aD (a.take i)<=aD a
 |[],i=>by simp[aD]
 |v::a,0=>yt _
 |v::a,i+1=>by
  have ih:=ij a i;show(if v.fixed=none then v.w else 0)+aD (a.take i)<=(if v.fixed=none then v.w else 0)+aD a;omega
theorem qq (d:List Nd) (n:Nat):∀(m l f k:Nat),(ja d n m l f k).length=m
 |0,l,f,k=>rfl
 |m+1,l,f,k=>by
  rw[pr d n m l f k _ _ rfl rfl]
  by_cases h:dG d n (if lvA d f=l then(ndA d f).lo else f) (l+1)<=k
  ·rw[yz h,yr,qq]
  ·rw[yw h,yr,qq]
section
variable {p:Pb} {g:List Int} {t:Nat} {d:List Nd}
def l5 (l:List Vr):List Nat:=l.map λv=>if v.mode=0 then v.value.toNat else 0
theorem fitN_T {l:List Vr} (h:∀v∈l,eW v):k9 l=nI (l5 l):=by
 unfold k9 l5 nI;rw[Bo];refine Bl λv a=> ?_;show _=((if v.mode=0 then v.value.toNat else 0:Nat):Int);obtain⟨-, -, -,⟨b, -⟩, -⟩:=h v a
 split<;>omega
theorem eE (b:PV p) (q:PSm p) (o:p.groups=[g]) (n:ji g) (c:dC (nmV p.vars (cC p)) (aA p) 1 bT=some (t,d)):
  Gd (aD (az p.vars)) d/\t<d.length/\dG d (aD (az p.vars)) t 0=(dA p).length/\chF p d t []=(dA p).length/\∀k,k<(dA p).length->ej (az p.vars) (ja d (aD (az p.vars)) (aD (az p.vars)) 0 t k)=(dA p).getD k []/\fC (l5 p.vars) (bB p.vars p.vars.length) (chP (chF p d t) (chW p) [] k)=(dA p).getD k []:=by
 have l:=kC b q o n;have j:=nJ q b;have m:∀v∈p.vars,0<=v.width:=λv h=>by have:=(b.vars.ok v h).2.1;omega
 rw[ZZ o b.groups n m l.nd] at c;have a:∀e∈aA p,okE (λ_=>true) dep e=true:=λe u=>nS (λ_ _=>rfl) _ _ (j e ((dL p).1 e u)).okE;obtain⟨r,s, -⟩:=fN (wJ b) a c;refine⟨r,s,tr (wJ b) a c, ?_,λk hk=>⟨?_, ?_⟩⟩
 ·rw[chF_P b];exact sumP_nil (wJ b) a c
 ·have:=sols_nth (wJ b) a c hk;rw[yj];unfold dA;rw[this];rfl
 ·have:=yd (wJ b) a c hk;rw[yj];unfold dA;rw[this,chF_P b];show _=fm (az p.vars) _;refine set_put (by unfold l5;rw[yD]) (λi hi hm=> ?_) ?_
  ·unfold l5;rw[yj,yW];rw[yj] at hm⊢;rw[yp hi] at hm⊢;have f:p.vars[i].mode=0:=hm;show(if p.vars[i].mode=0 then p.vars[i].value.toNat else 0)=_;rw[yz f];rfl
  ·rw[v6];unfold chW;rw[yD,lN,yD,yR,yH]
end
def vrA:Vr:=⟨⟨#[97]⟩,2,1,0⟩
def vrB:Vr:=⟨⟨#[98]⟩,2,1,0⟩
def exA:Ex:= .mk 2 0 ⟨#[97]⟩ []
def xR:Ex:= .mk 2 0 ⟨#[98]⟩ []
def ku:Ex:= .mk 17 0 ⟨#[]⟩ [exA,xR]
def pbL:Pb:=⟨[vrA,vrB],[ku],[],[],[[0,1]]⟩
theorem pbL_vars:bS pbL.vars:=by
 refine⟨by decide,λv a=> ?_,λi hi=> ?_,λv a=> ?_,by decide+kernel⟩
 ·rcases yC.1 a with rfl|a
  ·exact⟨by decide+kernel,by decide,by decide,by decide,by decide⟩
  ·obtain rfl:v=vrB:=by simpa using a
   exact⟨by decide+kernel,by decide,by decide,by decide,by decide⟩
 ·have b:i<2:=hi
  match i,b with
  |0,_=>decide+kernel
  |1,_=>decide+kernel
 ·rcases yC.1 a with rfl|a
  ·decide+kernel
  ·obtain rfl:v=vrB:=by simpa using a
   decide+kernel
theorem fD:PV pbL:=by
 refine⟨pbL_vars,λe b=> ?_,λi hi=>absurd hi (Nat.not_lt_zero i),⟨by decide, ?_,by decide,λi hi=> ?_⟩⟩
 ·obtain rfl:e=ku:=by simpa [pbL] using b
  exact⟨by decide+kernel,by decide+kernel,by decide+kernel⟩
 ·intro i hi;have hi:i∈([0,1]:List Int):=hi;rcases yC.1 hi with rfl|hi
  ·decide+kernel
  ·obtain rfl:i=1:=by simpa using hi
   decide+kernel
 ·have a:i<2:=by
   unfold bL at hi;simp only[yF,yY] at hi;have:=hi.2.1;have e:pbL.vars.length=2:=rfl;omega
  match i,a with
  |0,_=>exact List.mem_cons_self ..
  |1,_=>exact yT _ (List.mem_cons_self ..)
theorem pbL_z:PbZ pbL:=by
 have d:∀s:ByteArray,s.size<=1->s.size<=maxLen:=λs h=>by unfold maxLen;omega
 refine⟨by decide,λx b=> ?_,by decide,λx b=> ?_,by decide,(λx b=>by cases b),by decide,(λx b=>by cases b),by decide,λx b=> ?_⟩
 ·rcases yC.1 b with rfl|b
  ·exact⟨d _ (by decide),by unfold I64;decide,by unfold I64;decide,by unfold I64;decide⟩
  ·obtain rfl:x=vrB:=by simpa using b
   exact⟨d _ (by decide),by unfold I64;decide,by unfold I64;decide,by unfold I64;decide⟩
 ·obtain rfl:x=ku:=by simpa [pbL] using b
  refine .mk (by unfold I64;decide) (by unfold I64;decide) (d _ (by decide)) (by decide) λa c=> ?_;rcases yC.1 c with rfl|c
  ·exact .mk (by unfold I64;decide) (by unfold I64;decide) (d _ (by decide)) (by decide) λa c=>by cases c
  ·obtain rfl:a=xR:=by simpa using c
   exact .mk (by unfold I64;decide) (by unfold I64;decide) (d _ (by decide)) (by decide) λa c=>by cases c
 ·obtain rfl:x=[0,1]:=by simpa [pbL] using b
  refine⟨by decide,λy e=> ?_⟩;rcases yC.1 e with rfl|e
  ·unfold I64;decide
  ·obtain rfl:y=1:=by simpa using e
   unfold I64;decide
theorem xf:pb pbL:=by
 refine⟨by decide,by decide,by decide,by decide,by decide,λe a=> ?_,(λe a=>by cases a),(λx b=>by cases b),λx b=> ?_⟩
 ·obtain rfl:e=ku:=by simpa [pbL] using a
  exact⟨by decide+kernel,by decide+kernel⟩
 ·obtain rfl:x=[0,1]:=by simpa [pbL] using b
  decide
theorem dU:PSm pbL:=xf.sm pbL_z
theorem kG:ji [0,1]:=λi hi=>by
 have:i=0:=by simp at hi;omega
 subst this;decide
theorem po:aA pbL=[ku]:=rfl
theorem rQ:cF pbL pbL.hard=true:=by decide+kernel
theorem nO:dA pbL=[[0,1],[0,2],[0,3],[1,2],[1,3],[2,3]]:=by decide+kernel
theorem uW:∃t d,dC (nmV pbL.vars (cC pbL)) (aA pbL) 1 bT=some (t,d):=by
 have h:(dC (nmV pbL.vars (cC pbL)) (aA pbL) 1 bT).isSome=true:=by decide+kernel
 cases hq:dC (nmV pbL.vars (cC pbL)) (aA pbL) 1 bT with
 |none=>rw[hq] at h;cases h
 |some x=>exact⟨x.1,x.2,rfl⟩
theorem iI:aD (az pbL.vars)=4:=by decide+kernel
def gu (a b:List Int) (k:Nat):List Int:=a.take k++b.drop k
theorem mix_0 (a b:List Int):gu a b 0=b:=by simp[gu]
theorem mix_n {a b:List Int} {n:Nat} (c:a.length=n) (d:b.length=n):gu a b n=a:=by
 unfold gu;rw[Ai (by omega),AF (by omega),AT]
theorem mix_len {a b:List Int} {n:Nat} (c:a.length=n) (d:b.length=n) {k:Nat} (hk:k<=n):(gu a b k).length=n:=by
 unfold gu;rw[yu,yM,AY];omega
theorem ZX {a b:List Int} {n:Nat} (d:a.length=n) (e:b.length=n) {k:Nat} (hk:k<n):(gu a b k).set k (a.getD k 0)=gu a b (k+1):=by
 unfold gu;have c:(a.take k).length=k:=by rw[yM];omega
 rw[List.set_append,yw (by omega),c,AG,Aq (show k<b.length by omega),Bq,Am,yp (show k<a.length by omega),yj,yp (show k<a.length by omega),yZ];rfl
theorem mix_same {a b:List Int} {n:Nat} (d:a.length=n) (e:b.length=n) {k:Nat} (hk:k<n) (h:a.getD k 0=b.getD k 0):gu a b (k+1)=gu a b k:=by
 rw[<-ZX d e hk];have c:(a.take k).length=k:=by rw[yM];omega
 unfold gu;rw[List.set_append,yw (by omega),c,AG,h];rw[Aq (show k<b.length by omega),Bq,yj,yp (show k<b.length by omega)];rfl
theorem og_ints {w:World} {B:Nat} {v:Value} {l:List Int} (h:OG dB w B 0 3 v l) (hp:0<l.length):∃g c cs,v= .slice (some ⟨g,0,none⟩) l.length c/\l.length<=c/\B<=g/\Box w g (iA l++cs) 3:=by
 obtain⟨-,uss,k,t,r⟩:=h;rcases t.2 with⟨-,n⟩|⟨g,cap,cur,rfl,q,b,i,s,u,a⟩
 ·omega
 ·refine⟨g,cap,(cur.toList.drop (l.length*1)).toArray,rfl,i,q, ?_⟩
  have d:uss.flatten=l.map (Value.int .i64):=by
   have m:∀(l:List Int) (uss:List (List Value)),uss.length=l.length->(∀j x,l[j]? =some x->uss.getD j []=[.int .i64 x])->uss.flatten=l.map (Value.int .i64):=by
    intro l
    induction l with
    |nil=>intro uss h _;rw[List.length_eq_zero_iff.1 h];rfl
    |cons x l ih=>
     intro uss h o
     match uss,h with
     |us::uss,h=>
      have n:=o 0 x rfl;have p:us=[.int .i64 x]:=n;rw[p,Ce,ih uss (by simpa using h) λj y f=>o (j+1) y f];rfl
   exact m l uss k λj x f=>r j x f
  have e:iA l++(cur.toList.drop (l.length*1)).toArray=cur:=by
   have a:List.take (l.length*1) cur.toList=uss.flatten:=a;unfold iA;rw[<-d,<-a];apply Array.toList_inj.1;simp
  rw[e];exact b
theorem iA_setA {l:List Int} {cs:Array Value} {k:Nat} (h:k<l.length) (v:Int):(iA l++cs).setIfInBounds k (.int .i64 v)=iA (l.set k v)++cs:=by
 have a:k<(iA l).size:=by rw[kU];exact h
 rw[<-gG,Array.setIfInBounds_append_left a]
theorem il_boxA {w:World} {g:Nat} {l:List Int} {cs:Array Value} (h:Box w g (iA l++cs) 3) {n c:Nat} (d:l.length=n) (b:n<=c):IL w (.slice (some ⟨g,0,none⟩) n c) l:=by
 subst d;refine⟨_,_,rfl,b,λ_=>⟨_,rfl,h.lt,λj a=> ?_⟩⟩;rw[fA,yH,h.cell,Array.getElem?_append_left (by rw[kU];exact a),du a]
theorem bl_cell {w:World} {g:Nat} {l:List Bool} (h:Box w g (bA l) 4) {j:Nat} (a:j<l.length):w.cell? ⟨g,j,none⟩=some (.bool (l.getD j false)):=by
 rw[h.cell];unfold bA;rw[y8,yW,yp a,yj,yp a];rfl
def bvT (l:List Bool) (s j:Nat):Nat:=dj ((l.drop s).take j)
theorem bvT_0 (l:List Bool) (s:Nat):bvT l s 0=0:=rfl
theorem bvT_s {l:List Bool} {s j:Nat} (h:s+j<l.length):bvT l s (j+1)=2*bvT l s j+bN (l.getD (s+j) false):=by
 unfold bvT;have a:j<(l.drop s).length:=by rw[AY];omega
 rw[Am,yp a,List.getElem_drop];show dj ((l.drop s).take j++[l[s+j]])=_;rw[ma,yj,yp h];rfl
theorem bvT_lt (l:List Bool) (s j:Nat) (d:j<=8):bvT l s j<256:=by
 have b:=bval_lt ((l.drop s).take j);have a:((l.drop s).take j).length<=8:=by rw[yM];omega
 have c:=AC (n:=2) (by omega) a;unfold bvT;have:(2:Nat)^8=256:=rfl;omega
section
variable {w:World} {p:Pb} {A1 A2 A3 A4 A5:Option Addr} {c1 c2 c3 c4 c5:Nat}
theorem lwBits (hp:PIn w p A1 A2 A3 A4 A5 c1 c2 c3 c4 c5) (hs:PSm p) (hv:bS p.vars) (vl:Value) (l:List Bool) (hl:BL w vl l) (T:l.length=aD (az p.vars)) (U:0<p.vars.length):
  Calls Tryz.prog 18 #[pbV p A1 A2 A3 A4 A5 c1 c2 c3 c4 c5,vl] w (IlR w (nI (ej (az p.vars) l))):=by
 have CF:=zh fun(W:World) (h:Below w.heap.size w W)=>lwFit (hp.below h) hs hv;unfold FtR at CF;obtain⟨D,hD⟩:=zv (nI (ej (az p.vars) l));obtain⟨s,S⟩:=zv (k9 p.vars);have H:D.length=p.vars.length:=by rw[hD,aF,oM,cN]
 have y:s.length=p.vars.length:=by rw[S];unfold k9;rw[yD]
 obtain⟨c,f⟩:=zv (λk=>aD ((az p.vars).take k):Nat->Nat)
 have n:∀k,k<p.vars.length->(az p.vars).getD k ⟨0,none⟩=wdT (p.vars.getD k vr0):=λk hk=>by
  rw[yj,yp (by rw[cN];exact hk)];unfold az;rw[List.getElem_map,yj,yp hk];rfl
 have aj:Hid (c 0=0):=zh (by rw[f];rfl)
 have P:Hid (∀k,k<p.vars.length->(p.vars.getD k vr0).mode=0->gu D s (k+1)=gu D s k/\c (k+1)=c k):=zh λk hk hm=>by
  have R:=qJ (az p.vars) l k (by rw[cN];exact hk);rw[n k hk] at R;have hf:(wdT (p.vars.getD k vr0)).fixed=some (p.vars.getD k vr0).value.toNat:=by unfold wdT;rw[yz hm]
  have Y:=R.2 _ hf;obtain⟨-, -, -,⟨h3, -⟩, -⟩:=hv.ok _ (getD_in vr0 hk);refine⟨mix_same H y hk ?_, ?_⟩
  ·have hF:s.getD k 0=if(p.vars.getD k vr0).mode=0 then(p.vars.getD k vr0).value else 0:=by
    rw[S];unfold k9;rw[yj,yW,yj,yp hk];rfl
   rw[hD,eO,Y,hF,yz hm];exact Int.toNat_of_nonneg h3
  ·rw[f];simp only;rw[kf _ _ (by rw[cN];exact hk),n k hk,hf,yw (by simp),yU]
 have C:Hid (∀k,k<p.vars.length->(p.vars.getD k vr0).mode≠0->(∀x:Nat,x=bvT l (c k) (p.vars.getD k vr0).width.toNat->(gu D s k).set k (x:Int)=gu D s (k+1))/\c (k+1)=c k+(p.vars.getD k vr0).width.toNat/\c (k+1)<=l.length):=zh λk hk hm=>by
  have R:=qJ (az p.vars) l k (by rw[cN];exact hk);rw[n k hk] at R;have hf:(wdT (p.vars.getD k vr0)).fixed=none:=by unfold wdT;rw[yw hm]
  have Y:=R.1 hf
  have h4:c (k+1)=c k+(p.vars.getD k vr0).width.toNat:=by
   rw[f];simp only;rw[kf _ _ (by rw[cN];exact hk),n k hk,hf,yz rfl];rfl
  refine⟨λx hx=> ?_,h4, ?_⟩
  ·rw[<-ZX H y hk];congr 1;rw[hD,eO,Y,hx,f];rfl
  ·rw[T,f];exact ij _ _
 have K:Hid (∀k,c k<=l.length):=zh λk=>by rw[T,f];exact ij _ _
 have E:Hid (∀k,k<=p.vars.length->(gu D s k).length=p.vars.length):=zh λk hk=>mix_len H y hk;have an:Hid (gu D s 0=s):=zh (mix_0 _ _);have F:Hid (gu D s p.vars.length=D):=zh (mix_n H y);have Q:Hid (∀k:Nat,k<p.vars.length->1<=(p.vars.getD k vr0).width/\(p.vars.getD k vr0).width<=8):=zh λk hk=>(hv.ok _ (getD_in vr0 hk)).2.1
 have HV:Hid (∀k,k<p.vars.length->∃(b o:Nat),A1=some ⟨b,o,none⟩/\b<w.heap.size/\∀i u,(vrL (p.vars.getD k vr0))[i]? =some u->w.cell? ⟨b,o+k*4+i,none⟩=some u):=zh λk hk=>by
  obtain⟨aZ,a1,e1,_,aW⟩:=hp.v.vrs;obtain⟨bv,ov,e2,aQ,ad⟩:=aW k (by omega);simp only[yA] at e1;exact⟨bv,ov,by rw[e1.1,e2],aQ,ad⟩
 obtain⟨gb,rfl,aB⟩:=hl
 have ah:l.length<=20:=by
  rw[T];have R:=lE hv.ok;have Y:=hv.bits;omega
 obtain⟨d,J⟩:=zk2 aB y;have aV:=hv.len;rw[<-hD];rw[<-S] at CF;unfold IlR;obtain⟨L,hL⟩:=zv (l.length);have ak:=zh hL;rw[<-hL] at ah K C⊢;unfold pbV at CF⊢;obtain⟨n1,aH⟩:=zv (p.vars.length);rw[<-aH] at CF P C E F Q HV J aV U⊢;generalize p.hard.length=n2 at*;generalize p.soft.length=n3 at*;generalize p.dists.length=n4 at*;generalize p.groups.length=n5 at*;clear hp hs hv aB T hD S H y f n hL aH;go_enter Tryz.func18,Tryz.ntmps18;go_upto_region 1 with fail;replace d:=zh (d.out.below (yx w.heap.size w));have V:=ac w (.cells #[.slice A1 n1 c1,.slice A2 n2 c2,.slice A3 n3 c3,.slice A4 n4 c4,.slice A5 n5 c5] 27);replace d:=zb d V;clear V;generalize aL:w.alloc _=w1 at*;obtain⟨A,t⟩:=zB1 aL;clear aL;have aq:=za t 0 rfl;have ar:=za t 1 rfl;have au:=za t 2 rfl;have av:=za t 3 rfl;have aw:=za t 4 rfl;go_wp2_with fail;have ap:=zh A.out.size;refine(CF w1 A).mono ?_;rintro e w2 ⟨v,rfl,aI,Z⟩;clear aq ar au av aw;replace d:=zb d Z;replace t:=zb t Z;replace A:=zb A Z;clear Z;clear CF;obtain⟨go,co,cs,rfl,aC,aE,aA⟩:=og_ints aI (by rw[J.out];exact U);have G:Hid (Box w2 go (iA (gu D s 0)++cs) 3):=zh (by rw[an.out];exact aA);rw[J.out] at aC⊢;have aM:Hid (w.heap.size<=go):=zh (yK ap aE);have a0:=zh U;clear U aI aA aE an J ap;go_wp2_with fail
 go_loopw [6,7] (λa i wr=>∃k:Nat,k<=n1/\i= .int .i64 k/\a= .int .i64 (c k:Nat)/\Box wr go (iA (gu D s k)++cs) 3/\Box wr w.heap.size #[.slice A1 n1 c1,.slice A2 n2 c2,.slice A3 n3 c3,.slice A4 n4 c4,.slice A5 n5 c5] 27/\Box wr gb (bA l) 4/\Below w.heap.size w wr) (λ_ i _=>n1-(intOf i).toNat)
 case atStart=>exact⟨0,yt _,rfl,by rw[aj.out];rfl,G,t,d,A⟩
 case round=>
  obtain⟨k,hk,rfl,rfl,aK,hx,ay,Z⟩:=hrel;clear G t d A;obtain⟨G,t,d,A⟩:=zk4 aK hx ay Z;clear aK hx ay Z;have x0:=za t 0 rfl
  by_cases z:k<n1
  case neg=>
   have aG:¬(k:Int)<n1:=by omega
   have aS:k=n1:=by omega
   have aN:Hid (IL wr (.slice (some ⟨go,0,none⟩) n1 co) D):=zh (by
    have:=G.out;rw[aS,F.out] at this
    exact il_boxA this (by have:=E.out n1 (yq _);rwa [F.out] at this) aC)
   clear P C K E F Q HV;go_wp2_with fail;go_ret;exact⟨_,rfl,aN,A⟩
  have aG:(k:Int)<n1:=by omega
  have k0:(0:Int)<=(k:Int):=by omega
  have n:=Q.out k z;have N:=zh (P k z);have M:=zh (C k z);have aO:=zh (K k);have ao:=zh (E k hk);obtain⟨bv,ov,e2,ab,ae⟩:=HV.out k z;subst e2;have v1:=(A.out.cell ab).trans (ae 1 _ rfl);have v2:=(A.out.cell ab).trans (ae 2 _ rfl);generalize p.vars.getD k vr0=vr at*;obtain⟨nm,wd,md,vl⟩:=vr;simp only at v1 v2 n N M;clear ae ab Q HV P C K E F aj
  by_cases hm:md=0
  ·have f2:(md==0)=true:=by simpa using hm
   have g:=zh (N hm);clear hm N M;go_wp2_with fail;go_roundw
   ·exact⟨k+1,by omega,by go_num,by rw[g.out.2],by rw[g.out.1];exact G,t,d,A⟩
   ·simp[intOf];omega
  ·have f2:(md==0)=false:=by simpa using hm
   have g:=zh (M hm);clear hm N M;obtain⟨wn,rfl⟩:=BW (show 0<=wd by omega);rw[y5] at g;have a5:wn<=8:=by omega
   have r:Hid (∀m:Nat,bvT l (c k) 0=0/\(m<=8->bvT l (c k) m<256)/\(c k+m<L->bvT l (c k) (m+1)=2*bvT l (c k) m+bN (l.getD (c k+m) false))):=zh λm=>⟨bvT_0 _ _,λh=>bvT_lt _ _ _ h,λh=>bvT_s (by rw[<-ak.out];exact h)⟩;obtain⟨ls,ai⟩:=zv (c k);obtain⟨le,ag⟩:=zv (c (k+1));rw[<-ai,<-ag] at g;rw[<-ai] at r aO⊢;have al:=zh ag;clear ai ag;have R:=g.out.2.1;have Y:=g.out.2.2;obtain⟨I,ax⟩:=zv (bvT l ls);rw[<-ax] at r g;have B0:=zh (r 0).1;have aT:ls+wn<=20:=by omega
   have am:Hid (le=ls+wn/\le<=L):=zh ⟨R,Y⟩;clear ax R Y n;go_wp2_with fail
   go_loopw [6,8,9] (λa nv j aX=>∃m:Nat,m<=wn/\j= .int .i64 m/\nv= .int .i64 (I m:Nat)/\a= .int .i64 (ls+m:Nat)/\wr=aX) (λ_ _ j _=>wn-(intOf j).toNat)
   case atStart=>exact⟨0,yt _,rfl,by rw[B0.out];rfl,rfl,by trivial⟩
   case round=>
    obtain⟨m,a3,rfl,rfl,rfl,rfl⟩:=hrel;obtain⟨q,hq⟩:=zv (ls+m);have HQ:=zh hq;rw[<-hq]
    by_cases hj:m<wn
    ·have aR:(m:Int)<(wn:Int):=by omega
     have aJ:q<L:=by have:=am.out;omega
     have a4:(q:Int)<(L:Int):=by omega
     have q0:(0:Int)<=(q:Int):=by omega
     have aY:q<=20:=by omega
     have a2:=(r m).2.1 (by omega);have B:=zh ((r m).2.2 (by rw[<-hq];exact aJ));have z0:=bl_cell d (j:=q) (by rw[<-ak.out];exact aJ);rw[<-hq] at B;generalize l.getD q false=bq at*;clear hq r;cases bq
     ·have X:Hid (I (m+1)=2*I m):=zh (by rw[B.out];rfl);clear B;generalize aa:I m=bm at*;clear aa;go_wp2_with fail;go_roundw
      ·exact⟨m+1,by omega,by go_num,by rw[X.out];go_num,by rw[HQ.out];go_num,by trivial⟩
      ·simp[intOf];omega
     ·have X:Hid (I (m+1)=2*I m+1):=zh (by rw[B.out];rfl);clear B;generalize aa:I m=bm at*;clear aa;go_wp2_with fail;go_roundw
      ·exact⟨m+1,by omega,by go_num,by rw[X.out];go_num,by rw[HQ.out];go_num,by trivial⟩
      ·simp[intOf];omega
    ·have aR:¬(m:Int)<(wn:Int):=by omega
     have aU:m=wn:=by omega
     subst aU;have aP:=zh (g.out.1 (I m) rfl);clear r B0 hq
     have y0:=G.out.at_ k (.int .i64 ((gu D s k).getD k 0)) (by
      have h3:k<(gu D s k).length:=by rw[ao.out];exact z
      rw[Array.getElem?_append_left (by rw[kU];exact h3),du h3])
     have y1:=G.out.frozen k;have y2:=G.out.lt;generalize I m=bm at*;go_wp2_with fail;go_roundw
     ·refine⟨k+1,by omega,by go_num,by rw[HQ.out,<-al.out,am.out.1], ?_,t.out.setNe (p:=⟨go,k,none⟩) (af G t (by decide)) _,d.out.setNe (p:=⟨go,k,none⟩) (af G d (by decide)) _,A.out.setCell (p:=⟨go,k,none⟩) aM _⟩;have:=G.out.set_ k (.int .i64 (bm:Nat));rw[iA_setA (by rw[ao.out];exact z),aP.out] at this;exact this
     ·simp[intOf];omega
end
end
end Go.Proofs.YtdahpdnhkflnnaaGreatDoor
