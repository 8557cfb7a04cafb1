/-
  Joined texts: contracts and plain lemmas.
-/
import Derived.Test.YtkalaljcbmkbmaaGreatB1
import Derived.Test.YtkalaljcbmkbmaaGreatB15
import Derived.Test.YtkalaljcbmkbmaaGreatB13
import Derived.Test.YtkalaljcbmkbmaaGreatB14
import Derived.Test.YtkalaljcbmkbmaaGreatRows
import Derived.WalkKit
import Derived.ProofKit
import Derived.OpenShut
import Derived.Lib.SmallJoins
import Derived.Below
import Derived.Carry
import Derived.Laws.IdiomCopy
import Derived.Shelf.Abstract
import Derived.Deep.Slices
import Derived.Deep.DeepCutAuto
import Derived.Deep.RegionWith
import Derived.Test.YtkalaljcbmkbmaaGreatB7
import Derived.Test.YtkalaljcbmkbmaaGreatB12
set_option linter.unusedSimpArgs false
set_option linter.unusedVariables false
set_option maxRecDepth 100000
set_option maxHeartbeats 8000000
namespace Go.Proofs.YtkalaljcbmkbmaaGreat
section
open Go.RowKit
namespace M
noncomputable def Fc (m:Dm):Il:=m.map fun r=>r.map fun q=>Fn (some q)
theorem uO (m:Dm) (c:Nat):gX (Fc m) c=Fc (bW m c):=by
 unfold gX Fc bW;rw [←List.map_tail,List.map_map,List.map_map]
 refine List.map_congr_left fun r _=>?_
 simp only [Function.comp,List.map_append,List.map_take,List.map_drop]
theorem BV {m:Dm} {i:Nat} {r:List (Int × Int)} (h:m[i]?=some r):(Fc m)[i]?=some (r.map fun q=>Fn (some q)):=by
 unfold Fc;rw [List.getElem?_map,h];rfl
theorem yx (m:Dm):(Fc m).length=m.length:=by unfold Fc;rw [List.length_map]
theorem BW {n:Nat} {m:Dm} (h:square n m):∀ r ∈ Fc m,r.length=n:=fun r hr=>by
 unfold Fc at hr;obtain ⟨s,hs,rfl⟩:=List.mem_map.1 hr;rw [List.length_map];exact h.2 s hs
theorem vy {n:Nat} {m:Dm} {c:Nat} (D3:square (n+2) m) (hc:c<n+2) (h:dS n m (c+1)=none):cV (n+2) m=none:=by
 have hl:(m.headD []).length=n+2:=by
  cases m with
  | nil=>have:=D3.1;simp only [List.length_nil] at this;omega
  | cons r m=>exact D3.2 r (List.mem_cons_self ..)
 rw [f9,hl];exact mr h _ (by omega)
theorem wA {n:Nat} {m:Dm} (D3:square (n+2) m):cV (n+2) m=dS n m (n+2):=by
 have hl:(m.headD []).length=n+2:=by
  cases m with
  | nil=>have:=D3.1;simp only [List.length_nil] at this;omega
  | cons r m=>exact D3.2 r (List.mem_cons_self ..)
 rw [f9,hl]
theorem yt:De (some (0,0))=0/\Df (some (0,0))=1/\Dh (some (0,0))=0/\Di (some (0,0))=1:=by
 obtain ⟨k1,k2⟩:=xQ (n:=0) (by decide) (by decide);exact ⟨k1,k2,k1,k2⟩
theorem kK:De none=0/\Df none=0/\Dh none=0/\Di none=0/\(none:Sp).isSome=false:=⟨rfl,rfl,rfl,rfl,rfl⟩
end M
theorem yw (n:Nat):∀ (m:M.Dm) (v:Value) (base:Nat) (w:World),n<=3->M.square (n+1) m->M.Jk m->df w base v (M.Fc m)->
  Calls Tryz.prog 76 #[v] w fun e w'=>e=.returned (.tuple #[.agg #[M.De (M.cV (n+1) m),M.Df (M.cV (n+1) m),M.Dh (M.cV (n+1) m),M.Di (M.cV (n+1) m)],.bool (M.cV (n+1) m).isSome])/\Below w.heap.size w w':=by
 induction n with
 | zero=>
  intro m v base w hn D3 hok hm
  obtain ⟨q,rfl⟩:∃ q,m=[[q]]:=by
   obtain ⟨h1,h2⟩:=D3;obtain ⟨r,rfl⟩:=List.length_eq_one_iff.1 h1;obtain ⟨q,rfl⟩:=List.length_eq_one_iff.1 (h2 r (List.mem_cons_self ..));exact ⟨q,rfl⟩
  have hd:M.cV (0+1) [[q]]=some q:=rfl;rw [hd];obtain ⟨gm,cap,g2,cap2,rfl,k0,k1,k2,k3,k4⟩:=hm.at (i:=0) (j:=0) (q:=M.Fn (some q)) (r:=[M.Fn (some q)]) rfl rfl;have hl:(M.Fc [[q]]).length=1:=rfl;simp only [Nat.zero_mul,Nat.zero_add,List.length_cons,List.length_nil,hl,M.Fn] at k0 k1 k2 k3 k4 ⊢;clear hd hl hok D3 hm;have e5:(some q:M.Sp).isSome=true:=rfl;rw [e5];clear e5;generalize M.De (some q)=q1 at *;generalize M.Df (some q)=q2 at *;generalize M.Dh (some q)=q3 at *;generalize M.Di (some q)=q4 at *;obtain ⟨wc,hw3,R,B⟩:=dD w #[(0:Int),(0:Int),(0:Int),(0:Int)] 78;replace k0:=aE B k0;replace k1:=aE B k1;replace k2:=aE B k2;replace k3:=aE B k3;replace k4:=aE B k4;have ⟨r0,r1,r2,r3,z0,z1,z2,z3,rl⟩:=R.aL;go_enter Tryz.func76,Tryz.ntmps76
  go_wp2;exact bodyPost_ret (v:=.tuple #[.agg #[q1,q2,q3,q4],true]) (by simp [results,Tryz.results76,go_sem, *]) rfl (⟨rfl,DD (DD (DD (DD B (DF _) _) (DF _) _) (DF _) _) (DF _) _⟩)
 | succ n ih=>
 intro m v base w hn D3 hok hm;obtain ⟨vs,hm⟩:=hm;have hml:m.length=n+2:=D3.1
 have G_:(M.Fc m).length=n+2:=by rw [M.yx];exact hml
 obtain ⟨r0,hr0⟩:∃ r,m[0]?=some r:=⟨_,List.getElem?_eq_getElem (by omega)⟩
 have Ep:r0.length=n+2:=D3.2 r0 (List.mem_of_getElem? hr0)
 have hhd:m.headD []=r0:=by
  cases m with
  | nil=>cases hr0
  | cons x m=>exact Option.some.inj hr0
 obtain ⟨rN,LI⟩:∃ x,x=r0.map fun q=>M.Fn (some q):=⟨_,rfl⟩
 have H7:(M.Fc m)[0]?=some rN:=by rw [LI];exact M.BV hr0
 have H8:rN.length=n+2:=by rw [LI,List.length_map];exact Ep
 obtain ⟨gm,GR,rfl,hcm,hcm2,hgm⟩:=hm.form (fun h=>by rw [h] at G_;simp only [List.length_nil] at G_;omega);obtain ⟨g0,cap0,hv0,hc0,hg0⟩:=hm.rowIs H7 (fun h=>by rw [h] at H8;simp only [List.length_nil] at H8;omega);rw [H8] at hv0 hc0;rw [G_] at hm hcm ⊢;have Hh:=hm.jC hv0;have PMn:=DB (fun c (hc:c<n+2) W h=>uH n c (M.Fc m) (.slice (some ⟨gm,0,none⟩) (n+2) GR) base W (by omega) G_ (M.BW D3) hc h);have hnone:=DB (fun c (hc:c<n+2) h=>M.vy (n:=n) (m:=m) (c:=c) D3 hc h);have hsome:=DB (M.wA (n:=n) (m:=m) D3);have D3:=DB D3;have LI:=DB LI;have hr0:=DB hr0;have H7:=DB H7;have Ep:=DB Ep;have hml:=DB hml;have hhd:=DB hhd;have hok:=DB hok;have hm:=DB hm;have hv0:=DB hv0;have ih:=DB ih;clear G_ H8
 have PI:=DB fun W=>yl 0 W
 obtain ⟨wc,hw3,R,B⟩:=dD w #[(0:Int),(0:Int),(0:Int),(0:Int)] 78;replace Hh:=aE B Hh
 have hn1:(n:Int)<=2:=by omega
 have hne1:((n:Int)+2 == 1)=false:=by rw [beq_eq_false_iff_ne];omega
 go_enter Tryz.func76,Tryz.ntmps76
 go_wp2_with (go_at_call 119;(with_reducible refine (PI.out _).mono ?_);rintro e w5 ⟨rfl,hb5⟩;replace B:=d_ B hb5;replace R:=R.keep hb5;replace Hh:=aE hb5 Hh;have kr1:=aE ((DE _ w5).alloc (DF _) (.cells #[(0:Int),(1:Int),(0:Int),(1:Int)] 78)) Hh)
 have S:=aG.new w5 #[(0:Int),(1:Int),(0:Int),(1:Int)] 78;have hrl:=R.lt;replace R:=R.alloc (.cells #[(0:Int),(1:Int),(0:Int),(1:Int)] 78);replace B:=B.alloc B.size (.cells #[(0:Int),(1:Int),(0:Int),(1:Int)] 78);have hsl:=S.lt
 have nSR:w5.heap.size≠w.heap.size:=by omega
 have nRS:w.heap.size≠w5.heap.size:=by omega
 have hsb:w.heap.size<=w5.heap.size:=by omega
 go_loopw [28] (fun vc wq=>∃ (c:Nat) (s:Int × Int),c<=n+2/\vc=.int .i64 (c:Int)/\Hid (M.dS n m c=some s)/\aG wq w5.heap.size 78 #[M.De (some s),M.Df (some s),M.Dh (some s),M.Di (some s)]/\aG wq w.heap.size 78 #[(0:Int),(0:Int),(0:Int),(0:Int)]/\w5.heap.size+1<=wq.heap.size/\Below w.heap.size w wq) (fun vc _=>n+2 - (intOf vc).toNat)
 case atStart=>
  obtain ⟨e1,e2,e3,e4⟩:=M.yt;exact ⟨0,(0,0),Nat.zero_le _,rfl,DB rfl,by rw [e1,e2,e3,e4];exact S,R,hsl,B⟩
 case round=>
 clear S R B Hh hrl hsl;generalize w5.heap.size=sb at *;obtain ⟨c,s,hc,rfl,hs,S,R,hwz,B⟩:=hrel;generalize hwo:wr=wo at *;clear hwo
 by_cases hlt:c<n+2
 ·obtain ⟨q,hq⟩:∃ q,r0[c]?=some q:=⟨_,List.getElem?_eq_getElem (by have:=Ep.out;omega)⟩
  have hqs:M.aJ q.1 q.2=true:=hok.out r0 (List.mem_of_getElem? hr0.out) _ (List.mem_of_getElem? hq)
  have hqN:rN[c]?=some (M.Fn (some q)):=by rw [LI.out,List.getElem?_map,hq];rfl
  have GN:=DB (hm.out.below B);obtain ⟨d0,d1,d2,d3⟩:=(GN.out.rowFrom hv0.out H7.out).at4 hqN;simp only [M.Fn] at d0 d1 d2 d3;have hss:M.aJ s.1 s.2=true:=M.oP (n:=n) (m:=m) c s hs.out;have HI:=M.jF D3.out hlt;have hok1:=M.mf (c:=c) hok.out
  have PD:=fun vo b W h=>ih.out (M.bW m c) vo b W (by omega) HI hok1 h
  have PN:=PMn.out c hlt;rw [M.uO] at PN;have hdo:=M.kN hok1 (n+1);have hnx:=M.fo n m c;rw [hs.out,hhd.out,hq] at hnx;have hno:=hnone.out c hlt
  obtain ⟨mm,hmm⟩:∃ x,x=M.bW m c:=⟨_,rfl⟩
  obtain ⟨dd,hdd⟩:∃ x,x=M.cV (n+1) (M.bW m c):=⟨_,rfl⟩
  rw [←hdd] at PD hnx hdo;rw [←hmm] at PD PN;clear hmm hdd HI hok1 hq hqN;have hnx:=DB hnx;have hno:=DB hno;have Bv:=(DE wo.heap.size wo).alloc (DF _) (.cells #[M.De (some q),M.Df (some q),M.Dh (some q),M.Di (some q)] 78);have X:=aG.new wo #[M.De (some q),M.Df (some q),M.Dh (some q),M.Di (some q)] 78;replace B:=d_ B Bv;replace S:=S.keep Bv;replace R:=R.keep Bv;have GN:=DB (GN.out.below Bv);generalize hw2:wo.alloc (.cells #[M.De (some q),M.Df (some q),M.Dh (some q),M.Di (some q)] 78)=wb at *;clear Bv
  have hwz2:sb+1<=wb.heap.size:=by have:=S.lt;omega
  have hmw:=DB (show df wb base (.slice (some ⟨gm,0,none⟩) (n+2) GR) (M.Fc m) from ⟨vs,GN.out⟩)
  cases dd with
  | none=>
   have hfin:M.cV (n+1+1) m=none:=hno.out (by rw [hnx.out];exact M.dR _ _);have hfin:=DB hfin;have e9:=DB M.kK;rw [e9.out.1,e9.out.2.1,e9.out.2.2.1,e9.out.2.2.2.1,e9.out.2.2.2.2] at PD;clear e9;generalize M.De (some q)=q1 at *;generalize M.Df (some q)=q2 at *;generalize M.Dh (some q)=q3 at *;generalize M.Di (some q)=q4 at *;replace PD:=DB PD;replace PN:=DB PN;clear hno hnx hnone hsome ih
   go_wp2_with first | (go_at_call 120;(with_reducible refine (PN.out _ hmw.out).mono ?_);rintro e w4 ⟨vo,rfl,G4,hb4⟩;replace B:=d_ B hb4;replace X:=X.keep hb4;replace S:=S.keep hb4;replace R:=R.keep hb4) | (go_at_call 76;(with_reducible refine (PD.out _ _ _ G4).mono ?_);rintro e w6 ⟨rfl,hb6⟩;replace B:=(d_ B hb6).alloc (Nat.le_trans B.size hb6.size) (.cells #[(0:Int),(0:Int),(0:Int),(0:Int)] 78);replace X:=(X.keep hb6).alloc (.cells #[(0:Int),(0:Int),(0:Int),(0:Int)] 78);replace S:=(S.keep hb6).alloc (.cells #[(0:Int),(0:Int),(0:Int),(0:Int)] 78);replace R:=(R.keep hb6).alloc (.cells #[(0:Int),(0:Int),(0:Int),(0:Int)] 78);have Y:=aG.new w6 #[(0:Int),(0:Int),(0:Int),(0:Int)] 78;(have ⟨LZ,La,Lb,Lc,_,_,_,_,_⟩:=Y.aL);(have ⟨LV,LW,LX,LY,_,_,_,_,_⟩:=X.aL);(have ⟨r0,r1,r2,r3,z0,z1,z2,z3,rl⟩:=R.aL))
   exact bodyPost_ret (v:=.tuple #[.agg #[(0:Int),(0:Int),(0:Int),(0:Int)],false]) (by simp [results,Tryz.results76,go_sem, *]) rfl (⟨by rw [hfin.out];rfl,DD (DD (DD (DD B (DF _) _) (DF _) _) (DF _) _) (DF _) _⟩)
  | some d=>
  have hds:M.aJ d.1 d.2=true:=hdo d rfl
  have PX:=fun W=>wt q d W hqs hds
  have e5:(some d:M.Sp).isSome=true:=rfl;rw [e5] at PD;clear e5
  obtain ⟨pp,hpp⟩:∃ x,x=M.fI (some q) (some d):=⟨_,rfl⟩
  have hpo:M.EI pp:=by rw [hpp];exact M.s8
  have hnx2:=hnx.out;rw [←hpp] at hnx2 PX;replace hnx:=DB hnx2;clear hnx2 hpp;generalize M.De (some q)=q1 at *;generalize M.Df (some q)=q2 at *;generalize M.Dh (some q)=q3 at *;generalize M.Di (some q)=q4 at *;generalize M.De (some d)=d1 at *;generalize M.Df (some d)=d2 at *;generalize M.Dh (some d)=d3 at *;generalize M.Di (some d)=d4 at *;replace PD:=DB PD;replace PN:=DB PN
  cases pp with
  | none=>
   have hfin:M.cV (n+1+1) m=none:=hno.out (by rw [hnx.out];exact M.dR _ _);have hfin:=DB hfin;have e9:=DB M.kK;rw [e9.out.1,e9.out.2.1,e9.out.2.2.1,e9.out.2.2.2.1,e9.out.2.2.2.2] at PX;clear e9;replace PX:=DB PX;clear hno hnx hnone hsome ih
   go_wp2_with first | (go_at_call 120;(with_reducible refine (PN.out _ hmw.out).mono ?_);rintro e w4 ⟨vo,rfl,G4,hb4⟩;replace B:=d_ B hb4;replace X:=X.keep hb4;replace S:=S.keep hb4;replace R:=R.keep hb4) | (go_at_call 76;(with_reducible refine (PD.out _ _ _ G4).mono ?_);rintro e w6 ⟨rfl,hb6⟩;replace B:=(d_ B hb6).alloc (Nat.le_trans B.size hb6.size) (.cells #[d1,d2,d3,d4] 78);replace X:=(X.keep hb6).alloc (.cells #[d1,d2,d3,d4] 78);replace S:=(S.keep hb6).alloc (.cells #[d1,d2,d3,d4] 78);replace R:=(R.keep hb6).alloc (.cells #[d1,d2,d3,d4] 78);have Y:=aG.new w6 #[d1,d2,d3,d4] 78;(have ⟨LZ,La,Lb,Lc,_,_,_,_,_⟩:=Y.aL);(have ⟨LV,LW,LX,LY,_,_,_,_,_⟩:=X.aL);(have ⟨r0,r1,r2,r3,z0,z1,z2,z3,rl⟩:=R.aL)) | (go_at_call 121;(with_reducible refine (PX.out _).mono ?_);rintro e w7 ⟨rfl,DL⟩;replace B:=(d_ B DL).alloc (Nat.le_trans B.size DL.size) (.cells #[(0:Int),(0:Int),(0:Int),(0:Int)] 78);replace S:=(S.keep DL).alloc (.cells #[(0:Int),(0:Int),(0:Int),(0:Int)] 78);replace R:=(R.keep DL).alloc (.cells #[(0:Int),(0:Int),(0:Int),(0:Int)] 78);have Z:=aG.new w7 #[(0:Int),(0:Int),(0:Int),(0:Int)] 78;(have ⟨Ia,Ib,Ic,Id,_,_,_,_,_⟩:=Z.aL);(have ⟨HN,HO,HP,HQ,_,_,_,_,_⟩:=S.aL);(have ⟨r0,r1,r2,r3,z0,z1,z2,z3,rl⟩:=R.aL))
   exact bodyPost_ret (v:=.tuple #[.agg #[(0:Int),(0:Int),(0:Int),(0:Int)],false]) (by simp [results,Tryz.results76,go_sem, *]) rfl (⟨by rw [hfin.out];rfl,DD (DD (DD (DD B (DF _) _) (DF _) _) (DF _) _) (DF _) _⟩)
  | some p=>
  have hps:M.aJ p.1 p.2=true:=hpo p rfl;have e5:(some p:M.Sp).isSome=true:=rfl;rw [e5] at PX;clear e5
  have PA:=fun W=>qJ s p W hss hps
  have PS:=fun W=>qK s p W hss hps
  have hst:M.d9 (some s) (some p) c=if c % 2=0 then M.fW (some s) (some p) else M.cR (some s) (some p):=rfl
  have hnx2:=hnx.out;rw [hst] at hnx2;clear hst hnx hss hps hpo hds hdo hqs
  obtain ⟨ad,had⟩:∃ x,x=M.fW (some s) (some p):=⟨_,rfl⟩
  obtain ⟨su,hsu⟩:∃ x,x=M.cR (some s) (some p):=⟨_,rfl⟩
  rw [←had,←hsu] at hnx2;rw [←had] at PA;rw [←hsu] at PS;clear had hsu;generalize M.De (some p)=p1 at *;generalize M.Df (some p)=p2 at *;generalize M.Dh (some p)=p3 at *;generalize M.Di (some p)=p4 at *;generalize M.De (some s)=s1 at *;generalize M.Df (some s)=s2 at *;generalize M.Dh (some s)=s3 at *;generalize M.Di (some s)=s4 at *;replace PX:=DB PX;have ht:Int.tmod ((c:Nat):Int) 2=((c % 2:Nat):Int):=(Int.ofNat_tmod c 2).symm
  rcases Nat.mod_two_eq_zero_or_one c with hp | hp
  ·rw [hp] at ht
   rw [if_pos hp] at hnx2;clear PS
   cases ad with
   | none=>
    have hfin:M.cV (n+1+1) m=none:=hno.out hnx2;have hfin:=DB hfin;have e9:=DB M.kK;rw [e9.out.1,e9.out.2.1,e9.out.2.2.1,e9.out.2.2.2.1,e9.out.2.2.2.2] at PA;clear e9;replace PA:=DB PA;clear hno hnx2 hnone hsome ih hs
    go_wp2_with first | (go_at_call 120;(with_reducible refine (PN.out _ hmw.out).mono ?_);rintro e w4 ⟨vo,rfl,G4,hb4⟩;replace B:=d_ B hb4;replace X:=X.keep hb4;replace S:=S.keep hb4;replace R:=R.keep hb4) | (go_at_call 76;(with_reducible refine (PD.out _ _ _ G4).mono ?_);rintro e w6 ⟨rfl,hb6⟩;replace B:=(d_ B hb6).alloc (Nat.le_trans B.size hb6.size) (.cells #[d1,d2,d3,d4] 78);replace X:=(X.keep hb6).alloc (.cells #[d1,d2,d3,d4] 78);replace S:=(S.keep hb6).alloc (.cells #[d1,d2,d3,d4] 78);replace R:=(R.keep hb6).alloc (.cells #[d1,d2,d3,d4] 78);have Y:=aG.new w6 #[d1,d2,d3,d4] 78;(have ⟨LZ,La,Lb,Lc,_,_,_,_,_⟩:=Y.aL);(have ⟨LV,LW,LX,LY,_,_,_,_,_⟩:=X.aL);(have ⟨r0,r1,r2,r3,z0,z1,z2,z3,rl⟩:=R.aL)) | (go_at_call 121;(with_reducible refine (PX.out _).mono ?_);rintro e w7 ⟨rfl,DL⟩;replace B:=(d_ B DL).alloc (Nat.le_trans B.size DL.size) (.cells #[p1,p2,p3,p4] 78);replace S:=(S.keep DL).alloc (.cells #[p1,p2,p3,p4] 78);replace R:=(R.keep DL).alloc (.cells #[p1,p2,p3,p4] 78);have Z:=aG.new w7 #[p1,p2,p3,p4] 78;(have ⟨Ia,Ib,Ic,Id,_,_,_,_,_⟩:=Z.aL);(have ⟨HN,HO,HP,HQ,_,_,_,_,_⟩:=S.aL);(have ⟨r0,r1,r2,r3,z0,z1,z2,z3,rl⟩:=R.aL)) | (go_at_call 122;(with_reducible refine (PA.out _).mono ?_);rintro e w8 ⟨rfl,DN⟩;have LN:=DB (S.keep DN).lt;have JU:=DB (R.keep DN).lt;replace B:=(d_ B DN).alloc (Nat.le_trans B.size DN.size) (.cells #[(0:Int),(0:Int),(0:Int),(0:Int)] 78);replace S:=(S.keep DN).alloc (.cells #[(0:Int),(0:Int),(0:Int),(0:Int)] 78);replace R:=(R.keep DN).alloc (.cells #[(0:Int),(0:Int),(0:Int),(0:Int)] 78);replace Z:=(Z.keep DN).alloc (.cells #[(0:Int),(0:Int),(0:Int),(0:Int)] 78);have N:=aG.new w8 #[(0:Int),(0:Int),(0:Int),(0:Int)] 78;(have ⟨LP,LQ,LR,LT,Lf,Lg,Lh,Li,nl⟩:=N.aL);(have ⟨Ia,Ib,Ic,Id,_,_,_,_,_⟩:=Z.aL);(have ⟨HN,HO,HP,HQ,Lo,Lp,Lq,Lr,sl⟩:=S.aL);(have ⟨r0,r1,r2,r3,z0,z1,z2,z3,rl⟩:=R.aL))
    exact bodyPost_ret (v:=.tuple #[.agg #[(0:Int),(0:Int),(0:Int),(0:Int)],false]) (by simp [results,Tryz.results76,go_sem, *]) rfl (⟨by rw [hfin.out];rfl,DD (DD (DD (DD B (DF _) _) (DF _) _) (DF _) _) (DF _) _⟩)
   | some sx=>
   have hnx:=DB hnx2;have e5:(some sx:M.Sp).isSome=true:=rfl;rw [e5] at PA;clear e5 hnx2
   obtain ⟨x1,hx1⟩:∃ x,x=M.De (some sx):=⟨_,rfl⟩
   obtain ⟨x2,hx2⟩:∃ x,x=M.Df (some sx):=⟨_,rfl⟩
   obtain ⟨x3,hx3⟩:∃ x,x=M.Dh (some sx):=⟨_,rfl⟩
   obtain ⟨x4,hx4⟩:∃ x,x=M.Di (some sx):=⟨_,rfl⟩
   rw [←hx1,←hx2,←hx3,←hx4] at PA;replace hx1:=DB hx1;replace hx2:=DB hx2;replace hx3:=DB hx3;replace hx4:=DB hx4;replace PA:=DB PA
   go_wp2_with first | (go_at_call 120;(with_reducible refine (PN.out _ hmw.out).mono ?_);rintro e w4 ⟨vo,rfl,G4,hb4⟩;replace B:=d_ B hb4;replace X:=X.keep hb4;replace S:=S.keep hb4;replace R:=R.keep hb4) | (go_at_call 76;(with_reducible refine (PD.out _ _ _ G4).mono ?_);rintro e w6 ⟨rfl,hb6⟩;replace B:=(d_ B hb6).alloc (Nat.le_trans B.size hb6.size) (.cells #[d1,d2,d3,d4] 78);replace X:=(X.keep hb6).alloc (.cells #[d1,d2,d3,d4] 78);replace S:=(S.keep hb6).alloc (.cells #[d1,d2,d3,d4] 78);replace R:=(R.keep hb6).alloc (.cells #[d1,d2,d3,d4] 78);have Y:=aG.new w6 #[d1,d2,d3,d4] 78;(have ⟨LZ,La,Lb,Lc,_,_,_,_,_⟩:=Y.aL);(have ⟨LV,LW,LX,LY,_,_,_,_,_⟩:=X.aL);(have ⟨r0,r1,r2,r3,z0,z1,z2,z3,rl⟩:=R.aL)) | (go_at_call 121;(with_reducible refine (PX.out _).mono ?_);rintro e w7 ⟨rfl,DL⟩;replace B:=(d_ B DL).alloc (Nat.le_trans B.size DL.size) (.cells #[p1,p2,p3,p4] 78);replace S:=(S.keep DL).alloc (.cells #[p1,p2,p3,p4] 78);replace R:=(R.keep DL).alloc (.cells #[p1,p2,p3,p4] 78);have Z:=aG.new w7 #[p1,p2,p3,p4] 78;(have ⟨Ia,Ib,Ic,Id,_,_,_,_,_⟩:=Z.aL);(have ⟨HN,HO,HP,HQ,_,_,_,_,_⟩:=S.aL);(have ⟨r0,r1,r2,r3,z0,z1,z2,z3,rl⟩:=R.aL)) | (go_at_call 122;(with_reducible refine (PA.out _).mono ?_);rintro e w8 ⟨rfl,DN⟩;have LN:=DB (S.keep DN).lt;have JU:=DB (R.keep DN).lt;replace B:=(d_ B DN).alloc (Nat.le_trans B.size DN.size) (.cells #[x1,x2,x3,x4] 78);replace S:=(S.keep DN).alloc (.cells #[x1,x2,x3,x4] 78);replace R:=(R.keep DN).alloc (.cells #[x1,x2,x3,x4] 78);replace Z:=(Z.keep DN).alloc (.cells #[x1,x2,x3,x4] 78);have N:=aG.new w8 #[x1,x2,x3,x4] 78;(have ⟨LP,LQ,LR,LT,Lf,Lg,Lh,Li,nl⟩:=N.aL);(have ⟨Ia,Ib,Ic,Id,_,_,_,_,_⟩:=Z.aL);(have ⟨HN,HO,HP,HQ,Lo,Lp,Lq,Lr,sl⟩:=S.aL);(have ⟨r0,r1,r2,r3,z0,z1,z2,z3,rl⟩:=R.aL))
   go_roundw
   case rel=>exact ⟨c+1,sx,by omega,by go_num,hnx,by rw [←hx1.out,←hx2.out,←hx3.out,←hx4.out];exact aG.mJ S _ _ _ _,R.gc nRS _ _ _ _,by rw [aV,aV,aV,aV];omega,DD (DD (DD (DD B hsb _) hsb _) hsb _) hsb _⟩
   case measure=>simp [intOf] <;> omega
  rw [hp] at ht;rw [if_neg (by omega)] at hnx2;generalize M.De ad=v1 at *;generalize M.Df ad=v2 at *;generalize M.Dh ad=v3 at *;generalize M.Di ad=v4 at *;generalize ad.isSome=fv at *;replace PA:=DB PA
  cases su with
  | none=>
   have hfin:M.cV (n+1+1) m=none:=hno.out hnx2;have hfin:=DB hfin;have e9:=DB M.kK;rw [e9.out.1,e9.out.2.1,e9.out.2.2.1,e9.out.2.2.2.1,e9.out.2.2.2.2] at PS;clear e9;replace PS:=DB PS;clear hno hnx2 hnone hsome ih hs
   go_wp2_with first | (go_at_call 120;(with_reducible refine (PN.out _ hmw.out).mono ?_);rintro e w4 ⟨vo,rfl,G4,hb4⟩;replace B:=d_ B hb4;replace X:=X.keep hb4;replace S:=S.keep hb4;replace R:=R.keep hb4) | (go_at_call 76;(with_reducible refine (PD.out _ _ _ G4).mono ?_);rintro e w6 ⟨rfl,hb6⟩;replace B:=(d_ B hb6).alloc (Nat.le_trans B.size hb6.size) (.cells #[d1,d2,d3,d4] 78);replace X:=(X.keep hb6).alloc (.cells #[d1,d2,d3,d4] 78);replace S:=(S.keep hb6).alloc (.cells #[d1,d2,d3,d4] 78);replace R:=(R.keep hb6).alloc (.cells #[d1,d2,d3,d4] 78);have Y:=aG.new w6 #[d1,d2,d3,d4] 78;(have ⟨LZ,La,Lb,Lc,_,_,_,_,_⟩:=Y.aL);(have ⟨LV,LW,LX,LY,_,_,_,_,_⟩:=X.aL);(have ⟨r0,r1,r2,r3,z0,z1,z2,z3,rl⟩:=R.aL)) | (go_at_call 121;(with_reducible refine (PX.out _).mono ?_);rintro e w7 ⟨rfl,DL⟩;replace B:=(d_ B DL).alloc (Nat.le_trans B.size DL.size) (.cells #[p1,p2,p3,p4] 78);replace S:=(S.keep DL).alloc (.cells #[p1,p2,p3,p4] 78);replace R:=(R.keep DL).alloc (.cells #[p1,p2,p3,p4] 78);have Z:=aG.new w7 #[p1,p2,p3,p4] 78;(have ⟨Ia,Ib,Ic,Id,_,_,_,_,_⟩:=Z.aL);(have ⟨HN,HO,HP,HQ,_,_,_,_,_⟩:=S.aL);(have ⟨r0,r1,r2,r3,z0,z1,z2,z3,rl⟩:=R.aL)) | (go_at_call 122;(with_reducible refine (PA.out _).mono ?_);rintro e w8 ⟨rfl,DN⟩;have LN:=DB (S.keep DN).lt;have JU:=DB (R.keep DN).lt;replace B:=(d_ B DN).alloc (Nat.le_trans B.size DN.size) (.cells #[v1,v2,v3,v4] 78);replace S:=(S.keep DN).alloc (.cells #[v1,v2,v3,v4] 78);replace R:=(R.keep DN).alloc (.cells #[v1,v2,v3,v4] 78);replace Z:=(Z.keep DN).alloc (.cells #[v1,v2,v3,v4] 78);have N:=aG.new w8 #[v1,v2,v3,v4] 78;(have ⟨LP,LQ,LR,LT,Lf,Lg,Lh,Li,nl⟩:=N.aL);(have ⟨Ia,Ib,Ic,Id,_,_,_,_,_⟩:=Z.aL);(have ⟨HN,HO,HP,HQ,Lo,Lp,Lq,Lr,sl⟩:=S.aL);(have ⟨r0,r1,r2,r3,z0,z1,z2,z3,rl⟩:=R.aL)) | (go_at_call 123;(with_reducible refine (PS.out _).mono ?_);rintro e w9 ⟨rfl,DP⟩;(have Q9:sb≠w8.heap.size:=by have:=LN.out;omega);(have Qz:w.heap.size<=w8.heap.size:=by have:=JU.out;omega);(have D2:w.heap.size≠w8.heap.size:=by have:=JU.out;omega);replace B:=DD (DD (DD (DD (d_ B DP) (p:=⟨w8.heap.size,0,none⟩) (by show w.heap.size<=w8.heap.size;omega) (.int .i64 0)) (p:=⟨w8.heap.size,1,none⟩) (by show w.heap.size<=w8.heap.size;omega) (.int .i64 0)) (p:=⟨w8.heap.size,2,none⟩) (by show w.heap.size<=w8.heap.size;omega) (.int .i64 0)) (p:=⟨w8.heap.size,3,none⟩) (by show w.heap.size<=w8.heap.size;omega) (.int .i64 0);replace S:=(S.keep DP).gc Q9 (.int .i64 0) (.int .i64 0) (.int .i64 0) (.int .i64 0);replace R:=(R.keep DP).gc D2 (.int .i64 0) (.int .i64 0) (.int .i64 0) (.int .i64 0);replace N:=(N.keep DP);(have ⟨LP,LQ,LR,LT,Lf,Lg,Lh,Li,nl⟩:=N.aL);replace N:=N.mJ (.int .i64 0) (.int .i64 0) (.int .i64 0) (.int .i64 0);(have ⟨km0,km1,km2,km3,_,_,_,_,_⟩:=N.aL);(have ⟨HN,HO,HP,HQ,Lo,Lp,Lq,Lr,sl⟩:=S.aL);(have ⟨r0,r1,r2,r3,z0,z1,z2,z3,rl⟩:=R.aL))
   exact bodyPost_ret (v:=.tuple #[.agg #[(0:Int),(0:Int),(0:Int),(0:Int)],false]) (by simp [results,Tryz.results76,go_sem, *]) rfl (⟨by rw [hfin.out];rfl,DD (DD (DD (DD B (DF _) _) (DF _) _) (DF _) _) (DF _) _⟩)
  | some sx=>
  have hnx:=DB hnx2;have e5:(some sx:M.Sp).isSome=true:=rfl;rw [e5] at PS;clear e5 hnx2
  obtain ⟨x1,hx1⟩:∃ x,x=M.De (some sx):=⟨_,rfl⟩
  obtain ⟨x2,hx2⟩:∃ x,x=M.Df (some sx):=⟨_,rfl⟩
  obtain ⟨x3,hx3⟩:∃ x,x=M.Dh (some sx):=⟨_,rfl⟩
  obtain ⟨x4,hx4⟩:∃ x,x=M.Di (some sx):=⟨_,rfl⟩
  rw [←hx1,←hx2,←hx3,←hx4] at PS;replace hx1:=DB hx1;replace hx2:=DB hx2;replace hx3:=DB hx3;replace hx4:=DB hx4;replace PS:=DB PS
  go_wp2_with first | (go_at_call 120;(with_reducible refine (PN.out _ hmw.out).mono ?_);rintro e w4 ⟨vo,rfl,G4,hb4⟩;replace B:=d_ B hb4;replace X:=X.keep hb4;replace S:=S.keep hb4;replace R:=R.keep hb4) | (go_at_call 76;(with_reducible refine (PD.out _ _ _ G4).mono ?_);rintro e w6 ⟨rfl,hb6⟩;replace B:=(d_ B hb6).alloc (Nat.le_trans B.size hb6.size) (.cells #[d1,d2,d3,d4] 78);replace X:=(X.keep hb6).alloc (.cells #[d1,d2,d3,d4] 78);replace S:=(S.keep hb6).alloc (.cells #[d1,d2,d3,d4] 78);replace R:=(R.keep hb6).alloc (.cells #[d1,d2,d3,d4] 78);have Y:=aG.new w6 #[d1,d2,d3,d4] 78;(have ⟨LZ,La,Lb,Lc,_,_,_,_,_⟩:=Y.aL);(have ⟨LV,LW,LX,LY,_,_,_,_,_⟩:=X.aL);(have ⟨r0,r1,r2,r3,z0,z1,z2,z3,rl⟩:=R.aL)) | (go_at_call 121;(with_reducible refine (PX.out _).mono ?_);rintro e w7 ⟨rfl,DL⟩;replace B:=(d_ B DL).alloc (Nat.le_trans B.size DL.size) (.cells #[p1,p2,p3,p4] 78);replace S:=(S.keep DL).alloc (.cells #[p1,p2,p3,p4] 78);replace R:=(R.keep DL).alloc (.cells #[p1,p2,p3,p4] 78);have Z:=aG.new w7 #[p1,p2,p3,p4] 78;(have ⟨Ia,Ib,Ic,Id,_,_,_,_,_⟩:=Z.aL);(have ⟨HN,HO,HP,HQ,_,_,_,_,_⟩:=S.aL);(have ⟨r0,r1,r2,r3,z0,z1,z2,z3,rl⟩:=R.aL)) | (go_at_call 122;(with_reducible refine (PA.out _).mono ?_);rintro e w8 ⟨rfl,DN⟩;have LN:=DB (S.keep DN).lt;have JU:=DB (R.keep DN).lt;replace B:=(d_ B DN).alloc (Nat.le_trans B.size DN.size) (.cells #[v1,v2,v3,v4] 78);replace S:=(S.keep DN).alloc (.cells #[v1,v2,v3,v4] 78);replace R:=(R.keep DN).alloc (.cells #[v1,v2,v3,v4] 78);replace Z:=(Z.keep DN).alloc (.cells #[v1,v2,v3,v4] 78);have N:=aG.new w8 #[v1,v2,v3,v4] 78;(have ⟨LP,LQ,LR,LT,Lf,Lg,Lh,Li,nl⟩:=N.aL);(have ⟨Ia,Ib,Ic,Id,_,_,_,_,_⟩:=Z.aL);(have ⟨HN,HO,HP,HQ,Lo,Lp,Lq,Lr,sl⟩:=S.aL);(have ⟨r0,r1,r2,r3,z0,z1,z2,z3,rl⟩:=R.aL)) | (go_at_call 123;(with_reducible refine (PS.out _).mono ?_);rintro e w9 ⟨rfl,DP⟩;(have Q9:sb≠w8.heap.size:=by have:=LN.out;omega);(have Qz:w.heap.size<=w8.heap.size:=by have:=JU.out;omega);(have D2:w.heap.size≠w8.heap.size:=by have:=JU.out;omega);replace B:=DD (DD (DD (DD (d_ B DP) (p:=⟨w8.heap.size,0,none⟩) (by show w.heap.size<=w8.heap.size;omega) (.int .i64 x1)) (p:=⟨w8.heap.size,1,none⟩) (by show w.heap.size<=w8.heap.size;omega) (.int .i64 x2)) (p:=⟨w8.heap.size,2,none⟩) (by show w.heap.size<=w8.heap.size;omega) (.int .i64 x3)) (p:=⟨w8.heap.size,3,none⟩) (by show w.heap.size<=w8.heap.size;omega) (.int .i64 x4);replace S:=(S.keep DP).gc Q9 (.int .i64 x1) (.int .i64 x2) (.int .i64 x3) (.int .i64 x4);replace R:=(R.keep DP).gc D2 (.int .i64 x1) (.int .i64 x2) (.int .i64 x3) (.int .i64 x4);replace N:=(N.keep DP);(have ⟨LP,LQ,LR,LT,Lf,Lg,Lh,Li,nl⟩:=N.aL);replace N:=N.mJ (.int .i64 x1) (.int .i64 x2) (.int .i64 x3) (.int .i64 x4);(have ⟨km0,km1,km2,km3,_,_,_,_,_⟩:=N.aL);(have ⟨HN,HO,HP,HQ,Lo,Lp,Lq,Lr,sl⟩:=S.aL);(have ⟨r0,r1,r2,r3,z0,z1,z2,z3,rl⟩:=R.aL))
  go_roundw
  case rel=>exact ⟨c+1,sx,by omega,by go_num,hnx,by rw [←hx1.out,←hx2.out,←hx3.out,←hx4.out];exact aG.mJ S _ _ _ _,R.gc nRS _ _ _ _,by rw [aV,aV,aV,aV];omega,DD (DD (DD (DD B hsb _) hsb _) hsb _) hsb _⟩
  case measure=>simp [intOf] <;> omega
 obtain rfl:c=n+2:=by omega
 have hd:M.cV (n+1+1) m=some s:=by rw [←hs.out];exact hsome.out
 have hd:=DB hd
 obtain ⟨x1,hx1⟩:∃ x,x=M.De (some s):=⟨_,rfl⟩
 obtain ⟨x2,hx2⟩:∃ x,x=M.Df (some s):=⟨_,rfl⟩
 obtain ⟨x3,hx3⟩:∃ x,x=M.Dh (some s):=⟨_,rfl⟩
 obtain ⟨x4,hx4⟩:∃ x,x=M.Di (some s):=⟨_,rfl⟩
 rw [←hx1,←hx2,←hx3,←hx4] at S;replace hx1:=DB hx1;replace hx2:=DB hx2;replace hx3:=DB hx3;replace hx4:=DB hx4;have ⟨HN,HO,HP,HQ,_,_,_,_,_⟩:=S.aL;have ⟨r0,r1,r2,r3,z0,z1,z2,z3,rl⟩:=R.aL;go_wp2;exact bodyPost_ret (v:=.tuple #[.agg #[x1,x2,x3,x4],true]) (by simp [results,Tryz.results76,go_sem, *]) rfl (⟨by rw [hd.out,hx1.out,hx2.out,hx3.out,hx4.out];rfl,DD (DD (DD (DD B (DF _) _) (DF _) _) (DF _) _) (DF _) _⟩)
namespace M
theorem zL {a b:Int} {l:List Pt} {i j:Nat}:EI (ent a b l i j):=by
 have hp:∀ X1 Y1 E1 X2 Y2 E2,EI (dN a b X1 Y1 E1 X2 Y2 E2):=fun X1 Y1 E1 X2 Y2 E2=>by
  unfold dN
  split
  ·exact kP
  exact fF
 unfold ent
 split
 ·split
  ·exact sy
  split <;> exact hp _ _ _ _ _ _
 exact fF
theorem lc {s:Sp} (h:s.isSome=true):some (Ml s)=s:=by
 cases s with
 | none=>cases h
 | some p=>rfl
theorem nf {a b:Int} {l:List Pt} (h:EO a b l=true) {i j:Nat} (hi:i<l.length) (hj:j<l.length):(ent a b l i j).isSome=true:=by
 unfold EO at h;simp only [List.all_eq_true,List.mem_range] at h;exact h i hi j hj
theorem i8 {a b:Int} {l:List Pt} (h:EO a b l=true):d7 a b l=(List.range l.length).map (fun i=>(List.range l.length).map fun j=>Ml (ent a b l i j)):=by
 unfold d7;rw [h];rfl
theorem lU {a b:Int} {l:List Pt} (h:EO a b l=true):square l.length (d7 a b l):=by
 rw [i8 h];refine ⟨by rw [List.length_map,List.length_range],fun r hr=>?_⟩;obtain ⟨i,hi,rfl⟩:=List.mem_map.1 hr;rw [List.length_map,List.length_range]
theorem lS {a b:Int} {l:List Pt} (h:EO a b l=true):Jk (d7 a b l):=by
 rw [i8 h];intro r hr q hq;obtain ⟨i,hi,rfl⟩:=List.mem_map.1 hr;obtain ⟨j,hj,rfl⟩:=List.mem_map.1 hq;have:=nf h (List.mem_range.1 hi) (List.mem_range.1 hj);exact zL (a:=a) (b:=b) (l:=l) (i:=i) (j:=j) _ (lc this).symm
theorem xD {a b:Int} {l:List Pt} (h:EO a b l=true):mb a b l=Fc (d7 a b l):=by
 rw [mc h,i8 h];unfold Fc kA;rw [List.map_map]
 refine List.map_congr_left fun i hi=>?_
 simp only [Function.comp,List.map_map]
 refine List.map_congr_left fun j hj=>?_
 simp only [Function.comp];rw [lc (nf h (List.mem_range.1 hi) (List.mem_range.1 hj))]
noncomputable def cF (a b:Int) (l:List Pt):Sp:=if EO a b l=true then cV l.length (d7 a b l) else none
theorem kQ {a b:Int} {l:List Pt} (h:EO a b l=false):cF a b l=none:=by unfold cF;rw [h];rfl
theorem jA {a b:Int} {l:List Pt} (h:EO a b l=true):cF a b l=cV l.length (d7 a b l):=by unfold cF;rw [h];rfl
theorem tv (n:Nat) (m:Dm):gO true n m=cV n m:=by
 unfold gO
 split
 ·rename_i h;rw [h]
 rfl
end M
theorem qW (a b:Int) (v:Value) (l:List Pt) (w:World) (hx:eA w v l) (hg:M.good a b=true) (h1:1<=l.length) (hn:l.length<=4) (hp:∀ p ∈ l,M.aY a b p.1 p.2.1 p.2.2=true) :
  Calls Tryz.prog 38 #[.agg #[a,b],v] w fun e w'=>e=.returned (.tuple #[.agg #[M.DQ (M.cF a b l),M.DZ (M.cF a b l)],.bool (M.cF a b l).isSome])/\Below w.heap.size w w':=by
 obtain ⟨n,hl⟩:∃ n,l.length=n+1:=⟨l.length - 1,by omega⟩
 have PM:=fun W h=>kB a b v l W h hg hn hp
 have PD:=fun (h:M.EO a b l=true) v g base W hm K=>CY n (M.d7 a b l) v g base true W (by omega) (by rw [←hl];exact M.lU h) (M.lS h) hm K
 have H9:=fun h=>M.jA (a:=a) (b:=b) (l:=l) h
 have hrn:=fun h=>M.kQ (a:=a) (b:=b) (l:=l) h
 rw [hl] at H9;generalize M.d7 a b l=rows,M.cF a b l=rs at *;replace hx:=DB hx;obtain ⟨wc,hw3,C,R,B⟩:=fR w #[a,b] 25 #[(0:Int),(0:Int)] 74;have hxc:=DB (hx.out.below B)
 have hzz:w.heap.size+2<=wc.heap.size:=by have:=R.lt;omega
 have e_:=C.box.c0;have f_:=C.box.c1
 cases hm:M.EO a b l with
 | false=>
  rw [hm] at PM;have hfin:=DB (hrn hm);replace PM:=DB PM;clear PD H9 hrn hm;go_enter Tryz.func38,Tryz.ntmps38
  go_wp2_with (go_at_call 72;(with_reducible refine (PM.out _ hxc.out).mono ?_);rintro e w4 ⟨mv,rfl,hM,hb4⟩;replace B:=d_ B hb4;replace R:=R.keep hb4;(have ⟨r0,r1,z0,z1,rl⟩:=R.box))
  exact bodyPost_ret (v:=.tuple #[.agg #[(0:Int),(0:Int)],false]) (by simp [results,Tryz.results38,go_sem, *]) rfl (⟨by rw [hfin.out];rfl,DD (DD B (by simp) _) (by simp) _⟩)
 | true=>
 rw [hm] at PM;replace PD:=PD hm;simp only [M.tv,Bool.true_and] at PD;rw [←H9 hm] at PD;replace PM:=DB PM;replace PD:=DB PD;generalize M.DZ rs=hi,M.DQ rs=lo,rs.isSome=f at *;clear H9 hrn hm;go_enter Tryz.func38,Tryz.ntmps38
 go_wp2_with first | (go_at_call 72;(with_reducible refine (PM.out _ hxc.out).mono ?_);rintro e w4 ⟨mv,rfl,hM,hb4⟩;have D7:=hb4.size;have Ba:=(DE w4.heap.size w4).alloc (DF _) (.cells #[true] 103);have K:=aG.new w4 #[true] 103;replace hM:=DB (hM.below Ba);replace R:=(R.keep hb4).keep Ba;replace B:=(d_ B hb4).trans (Ba.mono (Nat.le_trans B.size hb4.size));(have nR:w.heap.size+1≠w4.heap.size:=by omega);have hsz:=B.size;(have nB:w.heap.size<=w4.heap.size:=by omega);clear Ba e_ f_ C hxc) | (go_at_call 73;(with_reducible refine (PD.out _ _ _ _ hM.out K).mono ?_);rintro e w6 ⟨rfl,hb6⟩;have DL:=bB hb6;replace R:=(R.other (i:=0) nR (.bool f)).keep DL;replace K:=(K.one (.bool f)).keep DL;replace B:=(DD B nB (.bool f)).trans (hb6.mono hsz);have Ba:=(DE w6.heap.size w6).alloc (DF _) (.cells #[lo,hi] 74);have V:=aG.new w6 #[lo,hi] 74;replace B:=d_ B Ba;replace R:=R.keep Ba;replace K:=K.keep Ba;have k0:=K.cell 0;(have ⟨v0,v1,_,_,_⟩:=V.box);(have ⟨r0,r1,z0,z1,rl⟩:=R.box);clear hb6 DL Ba)
 go_region
 all_goals
  go_wp2;exact bodyPost_ret (v:=.tuple #[.agg #[lo,hi],f]) (by simp [results,Tryz.results38,go_sem, *]) rfl (⟨rfl,Below.drew (DD (DD B (by simp) _) (by simp) _)⟩)
theorem l9 (a b:Int) (v:Value) (l:List Pt) (w:World) (hx:eA w v l) (hg:M.good a b=true) (h1:1<=l.length) (hn:l.length<=4) (hp:∀ p ∈ l,M.aY a b p.1 p.2.1 p.2.2=true) :
  Calls Tryz.prog 40 #[.agg #[a,b],v] w fun e w'=>e=.returned (.tuple #[.agg #[M.De (M.cF a b l),M.Df (M.cF a b l),M.Dh (M.cF a b l),M.Di (M.cF a b l)],.bool (M.cF a b l).isSome])/\Below w.heap.size w w':=by
 obtain ⟨n,hl⟩:∃ n,l.length=n+1:=⟨l.length - 1,by omega⟩
 have PM:=fun W h=>rL a b v l W h hg hn hp
 have PD:=fun (h:M.EO a b l=true) v base W hm=>yw n (M.d7 a b l) v base W (by omega) (by rw [←hl];exact M.lU h) (M.lS h) hm
 have H9:=fun h=>M.jA (a:=a) (b:=b) (l:=l) h
 have hrn:=fun h=>M.kQ (a:=a) (b:=b) (l:=l) h
 have hiv:=fun h=>M.xD (a:=a) (b:=b) (l:=l) h
 rw [hl] at H9;generalize M.d7 a b l=rows,M.cF a b l=rs at *;replace hx:=DB hx;obtain ⟨wc,hw3,C,R,B⟩:=fR w #[a,b] 25 #[(0:Int),(0:Int),(0:Int),(0:Int)] 78;have hxc:=DB (hx.out.below B);have e_:=C.box.c0;have f_:=C.box.c1
 cases hm:M.EO a b l with
 | false=>
  rw [hm] at PM;have hfin:=DB (hrn hm);replace PM:=DB PM;clear PD H9 hrn hm;go_enter Tryz.func40,Tryz.ntmps40
  go_wp2_with (go_at_call 75;(with_reducible refine (PM.out _ hxc.out).mono ?_);rintro e w4 ⟨mv,rfl,hM,hb4⟩;replace B:=d_ B hb4;replace R:=R.keep hb4;(have ⟨r0,r1,r2,r3,z0,z1,z2,z3,rl⟩:=R.aL))
  exact bodyPost_ret (v:=.tuple #[.agg #[(0:Int),(0:Int),(0:Int),(0:Int)],false]) (by simp [results,Tryz.results40,go_sem, *]) rfl (⟨by rw [hfin.out];rfl,DD (DD (DD (DD B (by simp) _) (by simp) _) (by simp) _) (by simp) _⟩)
 | true=>
 rw [hm] at PM;replace PD:=PD hm;rw [←H9 hm] at PD;rw [hiv hm] at PM;replace PM:=DB PM;replace PD:=DB PD;generalize M.Di rs=i4,M.Dh rs=i3,M.Df rs=i2,M.De rs=i1,rs.isSome=f at *;clear H9 hrn hm hiv;go_enter Tryz.func40,Tryz.ntmps40
 go_wp2_with first | (go_at_call 75;(with_reducible refine (PM.out _ hxc.out).mono ?_);rintro e w4 ⟨mv,rfl,hM,hb4⟩;replace hM:=DB hM;replace B:=d_ B hb4;replace R:=R.keep hb4) | (go_at_call 76;(with_reducible refine (PD.out _ _ _ hM.out).mono ?_);rintro e w6 ⟨rfl,hb6⟩;replace B:=d_ B hb6;replace R:=R.keep hb6;(have ⟨r0,r1,r2,r3,z0,z1,z2,z3,rl⟩:=R.aL))
 exact bodyPost_ret (v:=.tuple #[.agg #[i1,i2,i3,i4],f]) (by simp [results,Tryz.results40,go_sem, *]) rfl (⟨rfl,DD (DD (DD (DD B (by simp) _) (by simp) _) (by simp) _) (by simp) _⟩)
end
section
namespace M
open i_
def PL (l:List Pt) (i:Nat):i_:=match l[i]? with
 | some p=>cW p.1 p.2.1 p.2.2
 | none=>.O
theorem fh {a b:Int} {l:List Pt} (h:bc a b l=true):good a b=true/\1<=l.length/\l.length<=4/\∀ p ∈ l,aY a b p.1 p.2.1 p.2.2=true:=by
 unfold bc at h;rw [Bool.and_eq_true,Bool.and_eq_true,List.all_eq_true] at h;obtain ⟨h1,h2⟩:=iy.1 h.1.2;exact ⟨h.1.1,by omega,by omega,h.2⟩
theorem sJ {l:List Pt} {i:Nat} {p:Pt} (h:l[i]?=some p):PL l i=cW p.1 p.2.1 p.2.2:=by
 unfold PL;rw [h]
theorem AP {a b:Int} {l:List Pt} (h:∀ p ∈ l,aY a b p.1 p.2.1 p.2.2=true) (i:Nat):On a b (PL l i):=by
 unfold PL
 cases e:l[i]? with
 | none=>trivial
 | some p=>exact eP (h p (List.mem_of_getElem? e))
theorem yi {a b:Int} {l:List Pt} (hg:good a b=true) (h:∀ p ∈ l,aY a b p.1 p.2.1 p.2.2=true) {i j:Nat} {p:Int × Int} (e:ent a b l i j=some p):D_ (fun n=>pr a (PL l j) (PL l i) n) p.1 p.2:=by
 unfold ent at e
 cases hi:l[i]? with
 | none=>rw [hi] at e;cases e
 | some P=>
 cases hj:l[j]? with
 | none=>rw [hi,hj] at e;cases e
 | some Q=>
 rw [hi,hj] at e
 dsimp only at e
 have hP:=h P (List.mem_of_getElem? hi);have hQ:=h Q (List.mem_of_getElem? hj);rw [sJ hi,sJ hj]
 split at e
 ·rename_i q
  subst q;rw [hi] at hj;obtain rfl:=Option.some.inj hj;exact xp hg hP e
 split at e
 ·exact (qQ hg hP hQ e).cl (Cl.of fun n=>zS (dY hg) (eP hP) (eP hQ) n)
 exact qQ hg hQ hP e
theorem xf {a b:Int} {l:List Pt} {p:Int × Int} (h:bc a b l=true) (e:cF a b l=some p):∃ k,l.length=k+1/\HK k (fun n=>Dt.Dq (k+1) fun i q=>pr a (PL l q) (PL l i) n) p.1 p.2:=by
 obtain ⟨hg,h1,-,hall⟩:=fh h
 obtain ⟨k,hk⟩:∃ k,l.length=k+1:=⟨l.length - 1,by omega⟩
 refine ⟨k,hk,?_⟩
 cases hm:EO a b l with
 | false=>rw [kQ hm] at e;cases e
 | true=>
 rw [jA hm,hk] at e;obtain ⟨s1,s2⟩:=lU hm;rw [hk] at s1 s2;refine vw k (d7 a b l) (fun n i q=>pr a (PL l q) (PL l i) n) p s1 s2 ?_ e;intro i j r q hr hq;rw [i8 hm,List.getElem?_map] at hr;obtain ⟨i',hi,rfl⟩:=Option.map_eq_some_iff.1 hr;have hi0:=(List.getElem?_eq_some_iff.1 hi).1;rw [List.length_range] at hi0;rw [List.getElem?_range hi0] at hi;obtain rfl:=Option.some.inj hi;rw [List.getElem?_map] at hq;obtain ⟨j',hj,rfl⟩:=Option.map_eq_some_iff.1 hq;have hj0:=(List.getElem?_eq_some_iff.1 hj).1;rw [List.length_range] at hj0;rw [List.getElem?_range hj0] at hj;obtain rfl:=Option.some.inj hj;exact yi hg hall (lc (nf hm hi0 hj0)).symm
theorem zk {a b:Int} {l:List Pt} {p:Int × Int} (h:bc a b l=true) (e:cF a b l=some p) {v:Nat->Int} {j m:Nat} (hj:j<l.length) (hv:v j≠0) (hm:m≠0) (h0:i_.mul a m (IR a (PL l) v l.length)=.O):p.1<=0:=by
 obtain ⟨k,hk,H⟩:=xf h e;obtain ⟨hg,-,-,hall⟩:=fh h;rw [hk] at hj h0;exact zp (dY hg) (AP hall) hm h0 hj hv H
theorem zl {a b:Int} {l:List Pt} {p:Int × Int} (h:bc a b l=true) (e:cF a b l=some p) {P:Pt} (hP:P ∈ l) (ht:(fJ a P.1 P.2.1 P.2.2).isSome=true):p.1<=0:=by
 obtain ⟨k,hk,H⟩:=xf h e;obtain ⟨hg,-,-,hall⟩:=fh h;obtain ⟨m,m1,-,hm⟩:=oV hg (hall P hP) ht;obtain ⟨j,hj⟩:=List.getElem?_of_mem hP;have hj0:=(List.getElem?_eq_some_iff.1 hj).1;rw [hk] at hj0;refine yO (m:=m) (j:=j) (dY hg) (AP hall) hj0 (by omega) ?_ H;rw [sJ hj];exact hm
end M
end
section
open Go.RowKit
namespace M
noncomputable def Fo (a b X Y E n:Int):Option Dy:=if (iW a b X Y E && ins n (-12) 12)=true then rq a X Y E n else none
end M
theorem Rw.Own.oi {α:Type} {E:Rw.Enc α} {w:World} {base k i:Nat} {v:Value} {xs:List α} (h:Rw.Own E w base v xs) (hk:k<base) (x:Value):Rw.Own E (w.setCell ⟨k,i,none⟩ x) base v xs:=
 h.kept (Gr.set (World.grownBy.refl _ _) _ _) (fun g hg e=>by
  injection hg with hg
  have:=(h.lt _ e).1
  omega)
def Aq (k:Nat) (r:Option M.Dy) (v:Value) (base:Nat) (W:World):Prop:=∃ l,Rw.Own Fs W base v l/\(r.isSome=true->l.length=k/\(1<=k->l[k - 1]?=r))
theorem qO (a b X Y E:Int) (k:Nat) (w:World) (hg:M.good a b=true) (hp:M.aY a b X Y E=true) (hk:k<=12) :
  Calls Tryz.prog 108 #[.agg #[a,b],.agg #[X,Y,E],.int .i64 (k:Int)] w fun e w'=>∃ v',e=.returned (.tuple #[v',.bool (M.EG a X Y E k).isSome])/\Aq k (M.EG a X Y E k) v' w.heap.size w'/\Below w.heap.size w w':=by
 have PA:=fun (p:M.Dy) (h:M.aY a b p.1 p.2.1 p.2.2=true) W=>fM a b p.1 p.2.1 p.2.2 X Y E W hg h hp
 have HT:=M.gq hg hp
 obtain ⟨res,hres⟩:∃ r,M.EG a X Y E k=r:=⟨_,rfl⟩
 rw [hres];replace hres:=DB hres;replace PA:=DB PA;replace HT:=DB HT
 have hnext:=DB fun (n:Nat) (p:M.Dy) (h:M.EG a X Y E n=some p)=>M.jI h
 have hnone:=DB fun (n:Nat) (h:M.EG a X Y E n=none) (hn:n<=k)=>M.lk h k hn
 clear hg hp;obtain ⟨wc,hw3,C,Q,B⟩:=fR w #[a,b] 25 #[X,Y,E] 40;have O:=aG.new wc #[(0:Int),(0:Int),(0:Int)] 40;have Q0:=B.size;have hQl:=Q.lt;replace B:=B.alloc Q0 (.cells #[(0:Int),(0:Int),(0:Int)] 40);replace C:=C.alloc (.cells #[(0:Int),(0:Int),(0:Int)] 40);replace Q:=Q.alloc (.cells #[(0:Int),(0:Int),(0:Int)] 40);have hol:=O.lt;go_enter Tryz.func108,Tryz.ntmps108
 go_wp2;generalize wc.heap.size=ko at *
 go_loopw [8,14] (fun vs vi wq=>∃ (j:Nat) (p:M.Dy) (l:List M.Dy),j<=k/\vi=.int .i64 j/\Hid (M.EG a X Y E j=some p)/\Hid (l.length=j/\(1<=j->l[j - 1]?=some p))/\Hid (Rw.Own Fs wq (ko+1) vs l)/\Below w.heap.size w wq/\aG wq ko 40 #[p.1,p.2.1,p.2.2]/\aG wq w.heap.size 25 #[a,b]/\aG wq (w.heap.size+1) 40 #[X,Y,E]/\ko+1<=wq.heap.size) (fun _ vi _=>k - (intOf vi).toNat)
 case atStart=>exact ⟨0,(0,0,0),[],by omega,rfl,DB rfl,DB ⟨rfl,fun h=>by omega⟩,DB (Rw.Own.nil Fs _ _),B,O,C,Q,hol⟩
 case round=>
 clear B O C Q;obtain ⟨j,⟨px,py,pe⟩,l,hj,rfl,ht,hl,hown,B,O,C,Q,hko⟩:=hrel
 by_cases hlt:j<k
 ·have hnx:=hnext.out _ _ ht.out
  have hno:=hnone.out (j+1);replace PA:=PA.out _ (HT.out _ _ ht.out)
  dsimp only at hnx PA O
  generalize M.cX a px py pe X Y E=o3,M.dU a px py pe X Y E=E3,M.fH a px py pe X Y E=Y3,M.dV a px py pe X Y E=X3 at *;have ⟨c0,c1,_,_,_⟩:=C.box;have ⟨q0,q1,q2⟩:=Q.aO;have ⟨o0,o1,o2⟩:=O.aO;replace PA:=DB PA;clear hnext hnone
  have hie:(j:Int)<(k:Int):=by omega
  cases o3 with
  | false=>
   have hnn:res=none:=hres.out.symm.trans (hno (hnx.trans (if_neg (by decide))) (by omega));subst hnn;clear hno hres hnx ht
   go_wp2_with (go_at_call 50;(with_reducible refine (PA.out _).mono ?_);rintro e w4 ⟨rfl,hb4⟩;have D7:=(d_ B hb4).size;replace B:=(d_ B hb4).alloc D7 (.cells #[X3,Y3,E3] 40))
   go_ret2;exact ⟨.slice none 0 0,rfl,⟨[],Rw.Own.nil Fs _ _,fun h=>by cases h⟩,B⟩
  | true=>
  replace hnx:=DB (hnx.trans (if_pos rfl));clear hno ht;have hol:=O.lt;obtain ⟨Av,cv,rfl,-,-,-⟩:=hown.out.seen;have hll:=hl.out.1;rw [hll] at hown ⊢;replace hll:=DB hll;clear hl;have Fl:=B.size
  go_upto_region 9 with (go_at_call 50;(with_reducible refine (PA.out _).mono ?_);rintro e w4 ⟨rfl,hb4⟩;have D7:=hb4.size;have hz5:=(d_ B hb4).size;replace B:=(d_ B hb4).alloc hz5 (.cells #[X3,Y3,E3] 40);replace C:=(C.keep hb4).alloc (.cells #[X3,Y3,E3] 40);replace Q:=(Q.keep hb4).alloc (.cells #[X3,Y3,E3] 40);replace O:=(O.keep hb4).alloc (.cells #[X3,Y3,E3] 40);replace hown:=DB ((hown.out.below hb4).alloc (.cells #[X3,Y3,E3] 40));have V:=aG.new w4 #[X3,Y3,E3] 40;(have ⟨v0,v1,v2⟩:=V.aO);(have ⟨o0,o1,o2,z0,z1,z2⟩:=O.fS))
  have hw4:ko+1<=(w4.alloc (.cells #[X3,Y3,E3] 40)).heap.size:=by rw [DC];omega
  replace B:Below w.heap.size w _:=DD (DD (DD B (p:=⟨ko,0,none⟩) (by dsimp only;omega) (.int .i64 X3)) (p:=⟨ko,1,none⟩) (by dsimp only;omega) (.int .i64 Y3)) (p:=⟨ko,2,none⟩) (by dsimp only;omega) (.int .i64 E3);replace C:=((C.other (k:=ko) (i:=0) (by omega) (.int .i64 X3)).other (k:=ko) (i:=1) (by omega) (.int .i64 Y3)).other (k:=ko) (i:=2) (by omega) (.int .i64 E3);replace Q:=((Q.other (k:=ko) (i:=0) (by omega) (.int .i64 X3)).other (k:=ko) (i:=1) (by omega) (.int .i64 Y3)).other (k:=ko) (i:=2) (by omega) (.int .i64 E3);replace O:=O.xr (.int .i64 X3) (.int .i64 Y3) (.int .i64 E3);replace hown:=DB (((hown.out.oi (k:=ko) (by omega) (i:=0) (.int .i64 X3)).oi (k:=ko) (by omega) (i:=1) (.int .i64 Y3)).oi (k:=ko) (by omega) (i:=2) (.int .i64 E3));clear v0 v1 v2 o0 o1 o2 z0 z1 z2 V c0 c1 q0 q1 q2
  replace hw4:ko+1<=((((w4.alloc (.cells #[X3,Y3,E3] 40)).setCell ⟨ko,0,none⟩ (.int .i64 X3)).setCell ⟨ko,1,none⟩ (.int .i64 Y3)).setCell ⟨ko,2,none⟩ (.int .i64 E3)).heap.size:=by simpa [World.setCell] using hw4
  generalize (((w4.alloc (.cells #[X3,Y3,E3] 40)).setCell ⟨ko,0,none⟩ (.int .i64 X3)).setCell ⟨ko,1,none⟩ (.int .i64 Y3)).setCell ⟨ko,2,none⟩ (.int .i64 E3)=w8 at *;have ⟨o0,o1,o2⟩:=O.aO;have Fm:=B.size
  go_wp2_with (at_builtin;refine Rw.xY ng (ko+1) [(X3,Y3,E3)] l _ ⟨_,0,none⟩ 1 1 (by rfl) (by rfl) (.tmp 26) (.tmp 28) (by rfl) (by rfl) (by rfl) (np X3 Y3 E3 (by simp)) (hown.out.alloc _) (by simp;omega) (by have:=hll.out;simp;omega) ?_;intro v6 w6 hown6 FF JH)
  have KG:=FF.size;rw [DC] at KG
  go_roundw
  case rel=>
   refine ⟨j+1,(X3,Y3,E3),l ++ [(X3,Y3,E3)],by omega,by go_num,hnx,DB ⟨by rw [List.length_append,hll.out];rfl,fun _=>by rw [show j+1 - 1=l.length from by have:=hll.out;omega];simp⟩,DB hown6,?_,(O.alloc _).mX FF ?_,(C.alloc _).mX FF ?_,(Q.alloc _).mX FF ?_,by omega⟩
   ·exact Below.grown (B.alloc Fm _) FF (by rw [DC];omega) fun k hk=>by have:=(hown.out.lt k hk).1;omega
   all_goals exact fun k hk=>by have:=(hown.out.lt k hk).1;omega
  case measure=>simp [intOf];omega
 obtain rfl:j=k:=by omega
 obtain rfl:res=some (px,py,pe):=hres.out.symm.trans ht.out;obtain ⟨Av,cv,rfl,-,-,-⟩:=hown.out.seen;go_wp2;go_ret2;exact ⟨_,rfl,⟨l,hown.out.down (by omega),fun _=>hl.out⟩,B⟩
theorem iG (a b X Y E n:Int) (w:World) :
  Calls Tryz.prog 66 #[.agg #[a,b],.agg #[X,Y,E],n] w fun e w'=>e=.returned (.tuple #[.agg #[M.pX (M.Fo a b X Y E n),M.pY (M.Fo a b X Y E n),M.pE (M.Fo a b X Y E n)],.bool (M.Fo a b X Y E n).isSome])/\Below w.heap.size w w':=by
 have PT:∀ W,Calls Tryz.prog 47 #[.agg #[a,b],.agg #[X,Y,E]] W fun e w'=>e=.returned (.bool (M.iW a b X Y E))/\Below W.heap.size W w':=fun W=>gy a b X Y E W
 have PN:∀ W,Calls Tryz.prog 28 #[n,(-12:Int),(12:Int)] W fun e w'=>e=.returned (.bool (M.ins n (-12) 12))/\W=w':=fun W=>cQ n (-12) 12 W
 unfold M.Fo;obtain ⟨wc,hw3,C,Q,R,B⟩:=cZ w #[a,b] 25 #[X,Y,E] 40 #[(0:Int),(0:Int),(0:Int)] 40;have e_:=C.box.c0;have f_:=C.box.c1;have ⟨q0,q1,q2,y0,y1,y2⟩:=Q.fS
 have zQ:w.heap.size+1≠w.heap.size+1+1:=by omega
 cases h0:M.iW a b X Y E with
 | false=>
  simp only [h0,Bool.true_and,Bool.false_and,Bool.and_false] at PT PN ⊢;replace PT:=DB PT;replace PN:=DB PN;rw [if_neg (by decide)];go_enter Tryz.func66,Tryz.ntmps66
  go_wp2_with (first | (go_at_call 47;(with_reducible refine (PT.out _).mono ?_);rintro e w4 ⟨rfl,hb4⟩;replace B:=d_ B hb4;replace C:=C.keep hb4;replace Q:=Q.keep hb4;replace R:=R.keep hb4;have e_:=C.box.c0;have f_:=C.box.c1;(have ⟨q0,q1,q2,y0,y1,y2⟩:=Q.fS);(have ⟨r0,r1,r2,z0,z1,z2⟩:=R.fS)) | (go_at_call 28;(with_reducible refine (PN.out _).mono ?_);rintro e w5 ⟨rfl,rfl⟩))
  exact bodyPost_ret (v:=.tuple #[.agg #[(0:Int),(0:Int),(0:Int)],false]) (by simp [results,Tryz.results66,go_sem, *]) rfl (⟨rfl,EW B⟩)
 | true=>
 cases h1:M.ins n (-12) 12 with
 | false=>
  simp only [h0,h1,Bool.true_and,Bool.false_and,Bool.and_false] at PT PN ⊢;replace PT:=DB PT;replace PN:=DB PN;rw [if_neg (by decide)];go_enter Tryz.func66,Tryz.ntmps66
  go_wp2_with (first | (go_at_call 47;(with_reducible refine (PT.out _).mono ?_);rintro e w4 ⟨rfl,hb4⟩;replace B:=d_ B hb4;replace C:=C.keep hb4;replace Q:=Q.keep hb4;replace R:=R.keep hb4;have e_:=C.box.c0;have f_:=C.box.c1;(have ⟨q0,q1,q2,y0,y1,y2⟩:=Q.fS);(have ⟨r0,r1,r2,z0,z1,z2⟩:=R.fS)) | (go_at_call 28;(with_reducible refine (PN.out _).mono ?_);rintro e w5 ⟨rfl,rfl⟩))
  exact bodyPost_ret (v:=.tuple #[.agg #[(0:Int),(0:Int),(0:Int)],false]) (by simp [results,Tryz.results66,go_sem, *]) rfl (⟨rfl,EW B⟩)
 | true=>
 simp only [h0,h1,Bool.and_self] at PT PN ⊢;rw [if_pos trivial];obtain ⟨hg,hp⟩:=M.lL h0;obtain ⟨n1,n2⟩:=M.iy.1 h1;replace PT:=DB PT;replace PN:=DB PN;clear h0 h1;obtain ⟨-,-,-,-,Gs,Hk⟩:=M.dq (M.aj hg) hp
 obtain ⟨k,hk⟩:∃ k:Nat,k=n.natAbs:=⟨_,rfl⟩
 obtain ⟨Z,hZ⟩:∃ Z,Z=M.J5 n Y:=⟨_,rfl⟩
 have hpz:M.aY a b X Z E=true:=by
  rw [hZ];unfold M.J5
  split
  ·exact M.lV hp
  exact hp
 have P_:k<=12:=by omega
 have PM:=fun W=>qO a b X Z E k W hg hpz P_
 have hr:M.rq a X Y E n=M.EG a X Z E k:=by unfold M.rq;rw [←hZ,←hk]
 rw [hr]
 have ht0:k=0->M.EG a X Z E k=some (0,0,0):=fun h=>by rw [h];rfl
 generalize M.EG a X Z E k=tk at *;replace PM:=DB PM;replace ht0:=DB ht0
 have PO:=fun W=>lQ X Y E W (by omega) (by omega)
 clear hr hg hp hpz
 by_cases hneg:n<0
 ·have hkn:-n=(k:Int):=by omega
  have MJ:-Y=Z:=by rw [hZ];unfold M.J5;exact (if_pos hneg).symm
  rw [MJ] at PO
  have hk1:1<=k:=by omega
  have hkz:((k:Int) == 0)=false:=by simpa using (show ¬ (k:Int)=0 by omega)
  replace PO:=DB PO;clear hZ MJ hk;go_enter Tryz.func66,Tryz.ntmps66
  go_upto_region 5 with (first | (go_at_call 47;(with_reducible refine (PT.out _).mono ?_);rintro e w4 ⟨rfl,hb4⟩;replace B:=d_ B hb4;replace C:=C.keep hb4;replace Q:=Q.keep hb4;replace R:=R.keep hb4;have e_:=C.box.c0;have f_:=C.box.c1;(have ⟨q0,q1,q2,y0,y1,y2⟩:=Q.fS);(have ⟨r0,r1,r2,z0,z1,z2⟩:=R.fS)) | (go_at_call 28;(with_reducible refine (PN.out _).mono ?_);rintro e w5 ⟨rfl,rfl⟩) | (go_at_call 49;(with_reducible refine (PO.out _).mono ?_);rintro e w6 ⟨rfl,hb6⟩;replace B:=d_ B hb6;replace C:=C.keep hb6;replace Q:=Q.keep hb6;replace R:=R.keep hb6;have e_:=C.box.c0;have f_:=C.box.c1;(have ⟨q0,q1,q2,y0,y1,y2⟩:=Q.fS);(have ⟨r0,r1,r2,z0,z1,z2⟩:=R.fS)))
  replace B:Below w.heap.size w _:=DD (DD (DD B (p:=⟨w.heap.size+1,0,none⟩) (by dsimp only;omega) (.int .i64 X)) (p:=⟨w.heap.size+1,1,none⟩) (by dsimp only;omega) (.int .i64 Z)) (p:=⟨w.heap.size+1,2,none⟩) (by dsimp only;omega) (.int .i64 E);replace C:=((C.other (k:=w.heap.size+1) (i:=0) (by omega) (.int .i64 X)).other (k:=w.heap.size+1) (i:=1) (by omega) (.int .i64 Z)).other (k:=w.heap.size+1) (i:=2) (by omega) (.int .i64 E);replace R:=((R.other (k:=w.heap.size+1) (i:=0) (by omega) (.int .i64 X)).other (k:=w.heap.size+1) (i:=1) (by omega) (.int .i64 Z)).other (k:=w.heap.size+1) (i:=2) (by omega) (.int .i64 E);replace Q:=Q.xr (.int .i64 X) (.int .i64 Z) (.int .i64 E);clear e_ f_ q0 q1 q2 y0 y1 y2 r0 r1 r2 z0 z1 z2;generalize ((w6.setCell ⟨w.heap.size+1,0,none⟩ (.int .i64 X)).setCell ⟨w.heap.size+1,1,none⟩ (.int .i64 Z)).setCell ⟨w.heap.size+1,2,none⟩ (.int .i64 E)=w8 at *
  try rw [hkn]
  have e_:=C.box.c0;have f_:=C.box.c1;have ⟨q0,q1,q2⟩:=Q.aO
  cases tk with
  | none=>
   go_upto_region 6 with (go_at_call 108;(refine (PM.out _).mono ?_);rintro e w9 ⟨v9,rfl,hM,DP⟩;replace B:=d_ B DP;replace R:=R.keep DP;(have ⟨r0,r1,r2,z0,z1,z2⟩:=R.fS))
   obtain ⟨l,hown,-⟩:=hM;obtain ⟨A9,c9,rfl,-,-,-⟩:=hown.seen;go_wp2;exact bodyPost_ret (v:=.tuple #[.agg #[(0:Int),(0:Int),(0:Int)],false]) (by simp [results,Tryz.results66,go_sem, *]) rfl (⟨rfl,EW B⟩)
  | some p=>
  obtain ⟨px,py,pe⟩:=p
  go_upto_region 6 with (go_at_call 108;(refine (PM.out _).mono ?_);rintro e w9 ⟨v9,rfl,hM,DP⟩;replace B:=d_ B DP;replace R:=R.keep DP;(have ⟨r0,r1,r2,z0,z1,z2⟩:=R.fS))
  obtain ⟨l,hown,hl⟩:=hM;obtain ⟨hl1,hl2⟩:=hl rfl;have hpv:=hown.seen.Mc;obtain ⟨A9,c9,rfl,hA⟩:=hpv;rw [hl1]
  by_cases hk0:k=0
  ·exact absurd hk0 (by omega)
  have hkb:((k:Int) == 0)=false:=by simpa using (show ¬ (k:Int)=0 by omega)
  have hg:=hl2 (by omega)
  obtain ⟨g,rfl,hpa⟩:∃ g,A9=some ⟨g,0,none⟩/\fL w9 g l:=by
   rcases hA with h | h
   ·rw [h] at hg;simp at hg
   exact h
  obtain ⟨d0,d1,d2⟩:=hpa _ _ hg
  obtain ⟨j,rfl⟩:∃ j,k=j+1:=⟨k - 1,by omega⟩
  rw [show j+1 - 1=j from rfl] at d0 d1 d2
  have hje:((j+1:Nat):Int) - 1=(j:Int):=by omega
  have hjl:(j:Int)<((j+1:Nat):Int):=by omega
  have Px:j<j+1:=by omega
  dsimp only at d0 d1 d2
  clear hl2 hA hown hl1 hg hpa;go_wp2;exact bodyPost_ret (v:=.tuple #[.agg #[px,py,pe],true]) (by simp [results,Tryz.results66,go_sem, *]) rfl (⟨rfl,EW B⟩)
 have hkn:n=(k:Int):=by omega
 have MJ:Z=Y:=by rw [hZ];unfold M.J5;exact if_neg hneg
 subst MJ hkn;clear hZ hk PO;go_enter Tryz.func66,Tryz.ntmps66
 go_upto_region 5 with (first | (go_at_call 47;(with_reducible refine (PT.out _).mono ?_);rintro e w4 ⟨rfl,hb4⟩;replace B:=d_ B hb4;replace C:=C.keep hb4;replace Q:=Q.keep hb4;replace R:=R.keep hb4;have e_:=C.box.c0;have f_:=C.box.c1;(have ⟨q0,q1,q2,y0,y1,y2⟩:=Q.fS);(have ⟨r0,r1,r2,z0,z1,z2⟩:=R.fS)) | (go_at_call 28;(with_reducible refine (PN.out _).mono ?_);rintro e w5 ⟨rfl,rfl⟩))
 clear e_ f_ q0 q1 q2 y0 y1 y2 r0 r1 r2 z0 z1 z2;have e_:=C.box.c0;have f_:=C.box.c1;have ⟨q0,q1,q2⟩:=Q.aO
 cases tk with
 | none=>
  go_upto_region 6 with (go_at_call 108;(refine (PM.out _).mono ?_);rintro e w9 ⟨v9,rfl,hM,DP⟩;replace B:=d_ B DP;replace R:=R.keep DP;(have ⟨r0,r1,r2,z0,z1,z2⟩:=R.fS))
  obtain ⟨l,hown,-⟩:=hM;obtain ⟨A9,c9,rfl,-,-,-⟩:=hown.seen;go_wp2;exact bodyPost_ret (v:=.tuple #[.agg #[(0:Int),(0:Int),(0:Int)],false]) (by simp [results,Tryz.results66,go_sem, *]) rfl (⟨rfl,EW B⟩)
 | some p=>
 obtain ⟨px,py,pe⟩:=p
 go_upto_region 6 with (go_at_call 108;(refine (PM.out _).mono ?_);rintro e w9 ⟨v9,rfl,hM,DP⟩;replace B:=d_ B DP;replace R:=R.keep DP;(have ⟨r0,r1,r2,z0,z1,z2⟩:=R.fS))
 obtain ⟨l,hown,hl⟩:=hM;obtain ⟨hl1,hl2⟩:=hl rfl;have hpv:=hown.seen.Mc;obtain ⟨A9,c9,rfl,hA⟩:=hpv;rw [hl1]
 by_cases hk0:k=0
 ·have hp0:=ht0.out hk0
  cases hp0
  have hkb:((k:Int) == 0)=true:=by simpa using (show (k:Int)=0 by omega)
  clear hl2 hA hown hl1;go_wp2;exact bodyPost_ret (v:=.tuple #[.agg #[(0:Int),(0:Int),(0:Int)],true]) (by simp [results,Tryz.results66,go_sem, *]) rfl (⟨rfl,EW B⟩)
 have hkb:((k:Int) == 0)=false:=by simpa using (show ¬ (k:Int)=0 by omega)
 have hg:=hl2 (by omega)
 obtain ⟨g,rfl,hpa⟩:∃ g,A9=some ⟨g,0,none⟩/\fL w9 g l:=by
  rcases hA with h | h
  ·rw [h] at hg;simp at hg
  exact h
 obtain ⟨d0,d1,d2⟩:=hpa _ _ hg
 obtain ⟨j,rfl⟩:∃ j,k=j+1:=⟨k - 1,by omega⟩
 rw [show j+1 - 1=j from rfl] at d0 d1 d2
 have hje:((j+1:Nat):Int) - 1=(j:Int):=by omega
 have hjl:(j:Int)<((j+1:Nat):Int):=by omega
 have Px:j<j+1:=by omega
 dsimp only at d0 d1 d2
 clear hl2 hA hown hl1 hg hpa;go_wp2;exact bodyPost_ret (v:=.tuple #[.agg #[px,py,pe],true]) (by simp [results,Tryz.results66,go_sem, *]) rfl (⟨rfl,EW B⟩)
end
section
open Go.ChangeShapes Go.WideShapes Go.ChangeAt Go.RowKit Go.Joins Go.Deep
theorem own:ownKnob Tryz.prog.godebug=none:=by kernel_rfl
theorem laidOut:laidOutB Tryz.prog=true:=by kernel_rfl
theorem M.mR {a:Int} (h:(Lit.int .i64 a).wf=true):M.Ik a:=by
 have:=bounds_i64 h;exact this
section
variable {H:Type} {enc:TypeId × Value->H} {P:Program} {w:World} {base:Nat} {spare:Nat->Bool} {held:Bool}
theorem iP (hl:laidOutB P=true):∀ (ts:List TypeId) (hts:∀ t ∈ ts,P.readableRec t=true/\t<P.types.size) {W W':World} {vs:List Value} {ds:List (DataW H)} {ps:List MemPlace}
  (_:DataW.TrodAll enc P W 0 (fun _=>true) true ts vs ds ps) (_:Below W.heap.size W W') (_:∀ x ∈ ps,x.block<W.heap.size),DataW.TrodAll enc P W' 0 (fun b=>decide (b<W.heap.size)) true ts vs ds ps
 | [],_,_,_,_,_,_,h,_,_=>by
  obtain ⟨rfl,rfl,rfl⟩:=trodAll_nil h;exact trodAll_mk0
 | t :: ts,hts,_,_,_,_,_,h,hb,hlt=>by
  obtain ⟨v,vs',d,ds',p,q,rfl,rfl,rfl,h1,h2⟩:=trodAll_cons h;refine ⟨p,q,Below.trod hl (hts t List.mem_cons_self).1 (hts t List.mem_cons_self).2 h1 hb fun x hx=>hlt x (List.mem_append_left _ hx),?_,rfl⟩
  exact iP hl ts (fun t' ht'=>hts t' (List.mem_cons_of_mem _ ht')) h2 hb fun x hx=>hlt x (List.mem_append_right _ hx)
theorem law_post {f:Func} {s:ChangeSpec} {W W':World} {args:Array Value} {ds:List (DataW H)} {before:List MemPlace} {tb:TypeId}
  (hl:laidOutB P=true) (hts:∀ t ∈ f.params.toList,P.readableRec t=true/\t<P.types.size)
  (hvars:s.vars=[]) (hf:s.fn H ds={ results:=[.lit (.bool true)],args:=ds }) (hrt:f.resultTypes=#[tb]) (K6:P.underlying tb=some .bool)
  (hW:DataW.Whole enc P f.params.toList s.vars false W args.toList ds [] before) (hb:Below W.heap.size W W') :
  s.post enc P f false true false false W args (.bool true) W':=by
 have hlt:∀ p ∈ before,p.block<W.heap.size:=fun p hp=>hW.lt p hp
 obtain ⟨p,q,hA,hV,hpq,hz,hn⟩:=id hW;rw [hvars] at hV;obtain ⟨_,rfl⟩:=trodVars_none hV
 have hbp:before=p:=by simpa using hpq
 subst hbp
 have e1:s.fn H (ds ++ [])={ results:=[.lit (.bool true)],args:=ds }:=by rw [List.append_nil];exact hf
 refine ⟨ds,[],before,[],before,[],hW,?_,?_,?_,World.keptBut_mono (fun x hx=>⟨hx,Or.inr (Or.inl hx)⟩) (hb.frame (· ∈ before)),fun h=>by cases h⟩
 ·rw [e1,hrt]
  exact trodAll_mk1 (shut_bool K6 true)
 ·rw [e1]
  exact iP hl _ hts hA hb hlt
 rw [e1,hvars];exact rfl
end
end
section
open Go.RowKit Go.Shelf
def HY:Rw.Enc (Int × Int × Int) where
 t:=40
 k:=3
 cells:=fun q=>[.int .i64 q.1,.int .i64 q.2.1,.int .i64 q.2.2]
 len:=fun _=>rfl
 one:=fun x u hu=>by simp only [List.mem_cons,List.not_mem_nil,or_false] at hu;rcases hu with rfl | rfl | rfl <;> rfl
 pos:=by decide
def dr (w:World) (v:Value) (xs:List Pt):Prop:=
 ∃ (A:Option Addr) (cap:Nat),v=.slice A xs.length cap/\(xs.length:Int)<=9223372036854775807/\
  ∀ k,k<xs.length->∃ g o x,A=some ⟨g,o,none⟩/\g<w.heap.size/\Hid (xs[k]?=some x)/\w.cell? ⟨g,o+k*3,none⟩=some (.int .i64 x.1)/\w.cell? ⟨g,o+k*3+1,none⟩=some (.int .i64 x.2.1)/\w.cell? ⟨g,o+k*3+2,none⟩=some (.int .i64 x.2.2)
theorem dr.keep {w w':World} {v:Value} {xs:List Pt} (h:dr w v xs) (hb:Below w.heap.size w w'):dr w' v xs:=by
 obtain ⟨A,cap,rfl,hm,hv⟩:=h;refine ⟨A,cap,rfl,hm,fun k hk=>?_⟩;obtain ⟨g,o,x,hA,hg,hx,h0,h1,h2⟩:=hv k hk;exact ⟨g,o,x,hA,Nat.lt_of_lt_of_le hg hb.size,hx,aE hb h0,aE hb h1,aE hb h2⟩
end
section
open Go.ChangeShapes Go.WideShapes Go.ChangeAt Go.RowKit Go.Joins Go.Deep
def cS (w:World) (v:Value) (xs:List Int):Prop:=
 ∃ (A:Option Addr) (cap:Nat),v=.slice A xs.length cap/\(xs.length:Int)<=9223372036854775807/\
  ∀ k,k<xs.length->∃ g o x,A=some ⟨g,o,none⟩/\g<w.heap.size/\Hid (xs[k]?=some x)/\w.cell? ⟨g,o+k,none⟩=some (.int .i64 x)
theorem cS.keep {w w':World} {v:Value} {xs:List Int} (h:cS w v xs) (hb:Below w.heap.size w w'):cS w' v xs:=by
 obtain ⟨A,cap,rfl,hm,hv⟩:=h;refine ⟨A,cap,rfl,hm,fun k hk=>?_⟩;obtain ⟨g,o,x,hA,hg,hx,h0⟩:=hv k hk;exact ⟨g,o,x,hA,Nat.lt_of_lt_of_le hg hb.size,hx,aE hb h0⟩
theorem open_numbers {H:Type} {enc:TypeId × Value->H} {P:Program} {w:World} {base b0:Nat} {held:Bool} {r:Reach} {t te:TypeId} {v:Value} {d:DataW H} {ps:List MemPlace}
  (ht:P.underlying t=some (.slice te)) (he:P.underlying te=some (.int .i64)) (hc:P.cellsOf te=1) (hv:Value.okWide P w r b0 t v) (h:DataW.Trod enc P w base (fun _=>true) held t v d ps) :
  ∃ xs:List Int,cS w v xs:=by
 obtain ⟨a1,len,cap,rfl⟩:=okWide_slice ht hv;obtain ⟨fuel,hf⟩:=h
 rcases open_ints ht he hc hf with ⟨hcs,hx⟩ | ⟨a,len',cap',zs,hcs,_,hl,hm,hz,hx,hcell,hwz⟩
 ·simp [Value.cells] at hcs
  obtain ⟨rfl,rfl,rfl⟩:=hcs;exact ⟨[],none,0,rfl,by simp,fun k hk=>absurd hk (by simp)⟩
 simp [Value.cells] at hcs
 obtain ⟨rfl,rfl,rfl⟩:=hcs;simp only [if_true] at hz;refine ⟨zs.take len,some a,cap,by rw [List.length_take];congr 1;omega,by rw [List.length_take];unfold maxLen at hm;omega,fun k hk=>?_⟩;rw [List.length_take] at hk;obtain ⟨ab,ao,spot⟩:=a
 have hspot:spot=none:=by simpa [Addr.add] using World.cell?_spot (hcell 0 (by omega))
 subst hspot;have hcj:=hcell k (by omega);rw [Addr.add_lit] at hcj;refine ⟨ab,ao,zs.getD k 0,rfl,World.block_lt_of_cell? w _ hcj,DB ?_,hcj⟩;rw [List.getElem?_take,if_pos (by omega),List.getD_eq_getElem?_getD,List.getElem?_eq_getElem (by omega)];rfl
end
section
open Go.RowKit
theorem j8 (a b X Y E:Int) (w:World) :
  Calls Tryz.prog 24 #[.agg #[a,b],.agg #[X,Y,E]] w fun e w'=>e=.returned (.bool (M.iW a b X Y E))/\Below w.heap.size w w':=by
 have PT:∀ W,Calls Tryz.prog 47 #[.agg #[a,b],.agg #[X,Y,E]] W fun e w'=>e=.returned (.bool (M.iW a b X Y E))/\Below W.heap.size W w':=fun W=>gy a b X Y E W
 obtain ⟨wc,hw3,C,Q,B⟩:=fR w #[a,b] 25 #[X,Y,E] 40;have ⟨c0,c1,_,_,_⟩:=C.box;have ⟨q0,q1,q2⟩:=Q.aO;generalize M.iW a b X Y E=t at *;replace PT:=DB PT;go_enter Tryz.func24,Tryz.ntmps24
 go_wp2_with (go_at_call 47;(with_reducible refine (PT.out _).mono ?_);rintro e w4 ⟨rfl,hb4⟩;replace B:=d_ B hb4)
 go_ret;exact ⟨rfl,B⟩
theorem iV (a b X Y E:Int) (w:World) :
  Calls Tryz.prog 23 #[.agg #[a,b],.agg #[X,Y,E]] w fun e w'=>e=.returned (.tuple #[M.pick (M.iW a b X Y E) ((M.fJ a X Y E).getD 0:Nat),.bool (M.iW a b X Y E && (M.fJ a X Y E).isSome)])/\Below w.heap.size w w':=by
 have PT:∀ W,Calls Tryz.prog 47 #[.agg #[a,b],.agg #[X,Y,E]] W fun e w'=>e=.returned (.bool (M.iW a b X Y E))/\Below W.heap.size W w':=fun W=>gy a b X Y E W
 obtain ⟨wc,hw3,C,Q,B⟩:=fR w #[a,b] 25 #[X,Y,E] 40;have ⟨c0,c1,_,_,_⟩:=C.box;have ⟨q0,q1,q2⟩:=Q.aO
 have PO:=fun h W=>gZ a b X Y E W (M.lL h).1 (M.lL h).2
 generalize (M.fJ a X Y E).getD 0=od,(M.fJ a X Y E).isSome=ok,M.iW a b X Y E=t at *;cases t
 all_goals
  replace PT:=DB PT;replace PO:=DB PO;go_enter Tryz.func23,Tryz.ntmps23
  go_wp2_with (first | (go_at_call 47;(with_reducible refine (PT.out _).mono ?_);rintro e w4 ⟨rfl,hb4⟩;replace B:=d_ B hb4;replace C:=C.keep hb4;replace Q:=Q.keep hb4;(have ⟨c0,c1,_,_,_⟩:=C.box);(have ⟨q0,q1,q2⟩:=Q.aO)) | (go_at_call 59;(with_reducible refine (PO.out trivial _).mono ?_);rintro e w5 ⟨rfl,hb5⟩;replace B:=d_ B hb5))
  go_ret2;exact ⟨rfl,B⟩
theorem uQ (x:Int) (w:World):Calls Tryz.prog 68 #[x] w fun e w'=>e=.returned (.bool (!(x == 0)))/\Below w.heap.size w w':=by
 go_enter Tryz.func68,Tryz.ntmps68
 go_wp2;go_ret;exact ⟨by first | rfl | simp [bne],DE _ _⟩
namespace M
def nz (n:List Int):Bool:=n.any fun x=>!(x == 0)
end M
theorem ta {p:Int->Bool} {xs:List Int} {k:Nat} {x:Int} (hx:xs[k]?=some x) (h:(xs.take k).any p=false) (h':p x=false):(xs.take (k+1)).any p=false:=by
 rw [List.take_add_one,hx,List.any_append,h]
 simpa using h'
theorem cS.at {w:World} {m c k:Nat} {a:Option Addr} {n:List Int} {x:Int} (h:cS w (.slice a m c) n) (hk:n[k]?=some x):∃ g o,a=some ⟨g,o,none⟩/\w.cell? ⟨g,o+k,none⟩=some (.int .i64 x):=by
 obtain ⟨a2,c2,e,-,h⟩:=h;cases e
 obtain ⟨g,o,y,rfl,-,hy,hc⟩:=h k (List.getElem?_eq_some_iff.1 hk).1;rw [hk] at hy;obtain rfl:=Option.some.inj hy.out;exact ⟨g,o,rfl,hc⟩
theorem wZ (g:Nat) (eg:∀ args w,(callFunc g args).run Tryz.prog w=.ok (.enter g args) w) (p:Int->Bool) (v:Value) (xs:List Int) (w:World) (hx:cS w v xs) (hp:∀ (x:Int) (W:World),Calls Tryz.prog g #[x] W fun e W'=>e=.returned (.bool (p x))/\Below W.heap.size W W') :
  Calls Tryz.prog 109 #[v,.func (.func g) #[] #[]] w fun e w'=>∃ r:Int,e=.returned (.int .i64 r)/\decide (0<=r)=xs.any p/\Below w.heap.size w w':=by
 obtain ⟨a,cap,rfl,hm,hv⟩:=hx;have hv:=DB hv;have hp:=DB hp
 obtain ⟨N,hN⟩:∃ N,Hid (xs.length=N):=⟨_,DB rfl⟩
 rw [hN.out] at hm hv ⊢;go_enter Tryz.func109,Tryz.ntmps109
 go_wp2
 go_loopw [5,8] (fun _ vi wr=>∃ k:Nat,k<=N/\vi=.int .i64 k/\Hid ((xs.take k).any p=false)/\Below w.heap.size w wr) (fun _ vi _=>N - (intOf vi).toNat)
 case atStart=>exact ⟨0,by omega,rfl,DB rfl,DE _ _⟩
 case round=>
 obtain ⟨k,hk,rfl,hall,hbr⟩:=hrel
 by_cases hlt:k<N
 ·obtain ⟨b,o_,x,rfl,hg,hx,hcell⟩:=hv.out k hlt
  have d0:=aE hbr hcell;have hcall:=hp.out x wr
  have hnx:=fun h=>ta hx.out hall.out h
  have hf:=fun (h:p x=true)=>(List.any_eq_true.2 ⟨x,List.mem_of_getElem? hx.out,h⟩:xs.any p=true)
  clear hcell
  cases hq:p x
  ·rw [hq] at hcall
   replace hcall:=DB hcall;replace hnx:=DB (hnx hq);clear hf hq
   go_wp2_with (go_at_fn g;refine (hcall.out).mono ?_;rintro e w2 ⟨rfl,hb2⟩)
   go_roundw
   case rel=>exact ⟨k+1,by omega,by go_num,hnx,aR hbr hb2⟩
   case measure=>simp [intOf];omega
  rw [hq] at hcall;replace hcall:=DB hcall;replace hf:=DB (hf hq);clear hnx hq
  go_wp2_with (go_at_fn g;refine (hcall.out).mono ?_;rintro e w2 ⟨rfl,hb2⟩)
  go_ret;exact ⟨_,rfl,by rw [hf.out];exact decide_eq_true (by omega),aR hbr hb2⟩
 obtain rfl:k=N:=by omega
 have EB:=hall;rw [←hN.out,List.take_length] at EB;go_wp2;go_ret;exact ⟨_,rfl,by rw [EB.out];rfl,hbr⟩
theorem jq (g:Nat) (eg:∀ args w,(callFunc g args).run Tryz.prog w=.ok (.enter g args) w) (p:Int->Bool) (v:Value) (xs:List Int) (w:World) (hx:cS w v xs) (hp:∀ (x:Int) (W:World),Calls Tryz.prog g #[x] W fun e W'=>e=.returned (.bool (p x))/\Below W.heap.size W W') :
  Calls Tryz.prog 67 #[v,.func (.func g) #[] #[]] w fun e w'=>e=.returned (.bool (xs.any p))/\Below w.heap.size w w':=by
 have P:=DB (wZ g eg p v xs w hx hp);generalize xs.any p=t at *;clear hx hp;go_enter Tryz.func67,Tryz.ntmps67
 go_wp2_with (go_at_call 109;refine P.out.mono ?_;rintro e w2 ⟨r,rfl,h1,hb2⟩)
 go_ret;exact ⟨by rw [←h1];simp,hb2⟩
theorem ws (v:Value) (n:List Int) (w:World) (hx:cS w v n) :
  Calls Tryz.prog 32 #[v] w fun e w'=>e=.returned (.bool (!M.nz n))/\Below w.heap.size w w':=by
 have PF:=DB (jq 68 (fun _ _=>rfl) (fun x=>!(x == 0)) v n w hx (fun x W=>uQ x W));unfold M.nz;generalize n.any (fun x=>!(x == 0))=t at *;go_enter Tryz.func32,Tryz.ntmps32
 go_wp2_with (go_at_call 67;(refine PF.out.mono ?_);rintro e w4 ⟨rfl,hb4⟩)
 go_ret;exact ⟨rfl,hb4⟩
theorem l8 (a:Option Addr) (m cap:Nat) (v:Value) (n:List Int) (w:World) (hx:cS w v n) :
  Calls Tryz.prog 37 #[.slice a m cap,v] w fun e w'=>e=.returned (.bool (M.fits n m))/\Below w.heap.size w w':=by
 have PF:=jq 71 (fun _ _=>rfl) (fun x=>!(M.ins x (-12) 12)) v n w hx (fun x W=>pQ x W)
 have hfit:M.fits n m=(((n.length:Int) == (m:Int)) && !n.any (fun x=>!(M.ins x (-12) 12))):=by rw [M.wM];rfl
 obtain ⟨sa,cp,rfl,-,-⟩:=hx;replace PF:=DB PF;rw [hfit];generalize n.any (fun x=>!(M.ins x (-12) 12))=t at *;clear hfit;generalize n.length=N at *
 cases hc:((N:Int) == (m:Int))
 all_goals
  go_enter Tryz.func37,Tryz.ntmps37
  go_wp2_with (go_at_call 67;(refine PF.out.mono ?_);rintro e w4 ⟨rfl,hb4⟩)
  go_ret
  first | exact ⟨rfl,hb4⟩ | exact ⟨rfl,DE _ _⟩
end
section
namespace M
noncomputable def A7 (a b:Int) (s:Option Dy) (p:Option Pt) (k:Option Int):Option Dy:=
 s.bind fun s=>p.bind fun p=>k.bind fun k=>(Fo a b p.1 p.2.1 p.2.2 k).bind fun q=>
  if cX a s.1 s.2.1 s.2.2 q.1 q.2.1 q.2.2=true then some (dV a s.1 s.2.1 s.2.2 q.1 q.2.1 q.2.2,fH a s.1 s.2.1 s.2.2 q.1 q.2.1 q.2.2,dU a s.1 s.2.1 s.2.2 q.1 q.2.1 q.2.2) else none
noncomputable def eK (a b:Int) (l:List Pt) (n:List Int):Nat->Option Dy
 | 0=>some (0,0,0)
 | j+1=>A7 a b (eK a b l n j) l[j]? n[j]?
noncomputable def rC (a b:Int) (l:List Pt) (n:List Int):Option Dy:=if (bc a b l && fits n l.length)=true then eK a b l n l.length else none
noncomputable def Hj (a b:Int) (l:List Pt) (n:List Int):Bool:=(rC a b l n).any fun s=>nz n && dh a s
theorem AE {a b X Y E n:Int} {q:Dy} (hg:good a b=true) (hp:aY a b X Y E=true) (h:rq a X Y E n=some q):aY a b q.1 q.2.1 q.2.2=true:=by
 unfold rq J5 at h
 split at h
 ·exact gq hg (lV hp) _ q h
 exact gq hg hp _ q h
theorem xJ {a b X Y E n:Int} {q:Dy} (h:Fo a b X Y E n=some q):aY a b q.1 q.2.1 q.2.2=true:=by
 unfold Fo at h
 split at h
 ·rename_i hc
  rw [Bool.and_eq_true] at hc;obtain ⟨hg,hp⟩:=lL hc.1;exact AE hg hp h
 cases h
theorem tp {a b:Int} {l:List Pt} {n:List Int} {j:Nat} {s:Dy} {p:Pt} {k:Int} (hs:eK a b l n j=some s) (hp:l[j]?=some p) (hk:n[j]?=some k):eK a b l n (j+1)=(Fo a b p.1 p.2.1 p.2.2 k).bind fun q=>
  if cX a s.1 s.2.1 s.2.2 q.1 q.2.1 q.2.2=true then some (dV a s.1 s.2.1 s.2.2 q.1 q.2.1 q.2.2,fH a s.1 s.2.1 s.2.2 q.1 q.2.1 q.2.2,dU a s.1 s.2.1 s.2.2 q.1 q.2.1 q.2.2) else none:=by
 conv=>lhs;unfold eK
 rw [hs,hp,hk];rfl
theorem mN {a b:Int} {l:List Pt} {n:List Int} {j:Nat} (h:eK a b l n j=none):∀ k,j<=k->eK a b l n k=none
 | 0,hk=>by
  obtain rfl:j=0:=by omega
  exact h
 | k+1,hk=>by
  by_cases e:j=k+1
  ·rw [←e];exact h
  conv=>lhs;unfold eK
  rw [mN h k (by omega)];rfl
theorem nW {a b:Int} {l:List Pt} {n:List Int} (hg:good a b=true):∀ j s,eK a b l n j=some s->aY a b s.1 s.2.1 s.2.2=true
 | 0,s,h=>by
  cases h
  exact iE a b
 | j+1,s,h=>by
  unfold eK A7 at h;obtain ⟨s0,h0,h⟩:=Option.bind_eq_some_iff.1 h;obtain ⟨p,hp,h⟩:=Option.bind_eq_some_iff.1 h;obtain ⟨k,hk,h⟩:=Option.bind_eq_some_iff.1 h;obtain ⟨q,hq,h⟩:=Option.bind_eq_some_iff.1 h
  split at h
  ·cases h
   exact jL (aj hg) (nW hg j s0 h0) (xJ hq)
  cases h
end M
end
section
open Go.RowKit Go.Shelf
theorem aG.cg {W:World} {g:Nat} {T:TypeId} {u v x y z:Value} (h:aG W g T #[u,v,x,y,z]):W.cell? ⟨g,0,none⟩=some u/\W.cell? ⟨g,1,none⟩=some v/\W.cell? ⟨g,2,none⟩=some x/\W.cell? ⟨g,3,none⟩=some y/\W.cell? ⟨g,4,none⟩=some z:=⟨h.cell 0,h.cell 1,h.cell 2,h.cell 3,h.cell 4⟩
end
section
open Go.RowKit
namespace M
theorem i9 {a b:Int} {l:List Pt} (h:bc a b l=true):good a b=true/\1<=l.length/\l.length<=4/\∀ p ∈ l,aY a b p.1 p.2.1 p.2.2=true:=by
 unfold bc at h;rw [Bool.and_eq_true,Bool.and_eq_true] at h;obtain ⟨⟨h1,h2⟩,h3⟩:=h;unfold ins at h2;simp only [Bool.and_eq_true,decide_eq_true_eq] at h2;exact ⟨h1,by omega,by omega,List.all_eq_true.1 h3⟩
theorem s9 {a b:Int} {l:List Pt}:EI (cF a b l):=by
 cases h:EO a b l
 ·rw [kQ h];exact fF
 rw [jA h];exact kN (lS h) _
end M
end
section
open Go.RowKit Go.Shelf
theorem Rw.From.keep {α:Type} {E:Rw.Enc α} {w w':World} {H:Nat} {ys:List α} (h:Rw.From E w (some ⟨H,0,none⟩) ys) (hH:H<w.heap.size) (hb:Below w.heap.size w w'):Rw.From E w' (some ⟨H,0,none⟩) ys:=by
 intro j u hu;obtain ⟨ad,h1,h2⟩:=h j u hu;obtain rfl:=Option.some.inj h1
 have hblk:((⟨H,0,none⟩:Addr).add j).block=H:=by unfold Addr.add;split <;> rfl
 exact ⟨_,rfl,(hb.cell (p:=(⟨H,0,none⟩:Addr).add j) (by rw [hblk];exact hH)).trans h2⟩
structure GQ (W0:World) (ps:List Pt) (p:Pt) (T:TypeId) (ret:Value) (zs us:Array Value) (l:Nat->Bool) (v:Nat->Value) (w:World):Prop where
 B:Below W0.heap.size W0 w
 c:l 2=true->l 5=false->Rw.Own HY w W0.heap.size (v 2) ps
 t:l 4=true->l 5=false->∃ H,v 4=.slice (some ⟨H,0,none⟩) 1 1/\H<w.heap.size/\Rw.From HY w (some ⟨H,0,none⟩) [p]
 a:l 5=true->l 6=false->Rw.Own HY w W0.heap.size (v 5) (ps ++ [p])
 r:l 6=true->v 6=ret
 n:l 10=true->l 11=false->∃ H,v 10=.pointer (some ⟨H,0,none⟩)/\W0.heap.size<=H/\aG w H T zs
 s:l 11=true->∃ H,v 10=.pointer (some ⟨H,0,none⟩)/\W0.heap.size<=H/\aG w H T us
namespace GQ
variable {W0:World} {ps:List Pt} {p:Pt} {T:TypeId} {ret:Value} {zs us:Array Value} {l l':Nat->Bool} {v v':Nat->Value} {w w':World}
theorem start:GQ W0 ps p T ret zs us (fun _=>false) v { W0 with drawn:=W0.drawn+1 } where
 B:=(DE _ _).drew
 c:=fun h=>by cases h
 t:=fun h=>by cases h
 a:=fun h=>by cases h
 r:=fun h=>by cases h
 n:=fun h=>by cases h
 s:=fun h=>by cases h
theorem congr (h:∀ i ∈ [2,4,5,6,10,11],l i=l' i/\v i=v' i) (j:GQ W0 ps p T ret zs us l v w):GQ W0 ps p T ret zs us l' v' w:=by
 have h1:=h 2 (by simp);have h2:=h 4 (by simp);have h3:=h 5 (by simp);have h4:=h 6 (by simp);have h5:=h 10 (by simp);have h6:=h 11 (by simp);obtain ⟨jB,jc,jt,ja,jr,jn,js⟩:=j;rw [h1.1,h1.2,h3.1] at jc;rw [h2.1,h2.2,h3.1] at jt;rw [h3.1,h3.2,h4.1] at ja;rw [h4.1,h4.2] at jr;rw [h5.1,h5.2,h6.1] at jn;rw [h6.1,h5.2] at js;exact ⟨jB,jc,jt,ja,jr,jn,js⟩
theorem keep (j:GQ W0 ps p T ret zs us l v w) (hb:Below w.heap.size w w'):GQ W0 ps p T ret zs us l v w' where
 B:=j.B.trans (hb.mono j.B.size)
 c:=fun h1 h2=>(j.c h1 h2).below hb
 t:=fun h1 h2=>by
  obtain ⟨H,e,hH,hf⟩:=j.t h1 h2;exact ⟨H,e,Nat.lt_of_lt_of_le hH hb.size,hf.keep hH hb⟩
 a:=fun h1 h2=>(j.a h1 h2).below hb
 r:=j.r
 n:=fun h1 h2=>by
  obtain ⟨H,e,hH,hf⟩:=j.n h1 h2;exact ⟨H,e,hH,hf.keep hb⟩
 s:=fun h1=>by
  obtain ⟨H,e,hH,hf⟩:=j.s h1;exact ⟨H,e,hH,hf.keep hb⟩
theorem lit (j:GQ W0 ps p T ret zs us l v w):GQ W0 ps p T ret zs us (Rg.upd l 4) (Rg.dT v 4 (.slice (some ⟨w.heap.size,0,none⟩) 1 1)) (w.alloc (.cells #[p.1,p.2.1,p.2.2] 40)) where
 B:=(j.keep (bA w _)).B
 c:=(j.keep (bA w _)).c
 t:=fun _ _=>⟨w.heap.size,rfl,by simp,Rw.From.lit HY w p _ rfl⟩
 a:=(j.keep (bA w _)).a
 r:=j.r
 n:=(j.keep (bA w _)).n
 s:=(j.keep (bA w _)).s
theorem res (j:GQ W0 ps p T ret zs us l v w) (hb:Below w.heap.size w w'):GQ W0 ps p T ret zs us (Rg.upd l 6) (Rg.dT v 6 ret) w' where
 B:=(j.keep hb).B
 c:=(j.keep hb).c
 t:=(j.keep hb).t
 a:=fun _ h=>by cases h
 r:=fun _=>rfl
 n:=(j.keep hb).n
 s:=(j.keep hb).s
theorem put {u:Value} {H:Nat} (j:GQ W0 ps p T ret zs us l v w) (h2:l 2=true) (h4:l 4=true) (h5:l 5=true) (h6:l 6=true) (h10:v 10=.pointer (some ⟨H,0,none⟩)) (hH:W0.heap.size<=H) (hV:aG w' H T us) (hB:Below W0.heap.size W0 w'):GQ W0 ps p T ret zs us (Rg.upd l 11) (Rg.dT v 11 u) w' where
 B:=hB
 c:=fun _ h=>by
  have h:l 5=false:=h;rw [h5] at h;cases h
 t:=fun _ h=>by
  have h:l 5=false:=h;rw [h5] at h;cases h
 a:=fun _ h=>by
  have h:l 6=false:=h;rw [h6] at h;cases h
 r:=j.r
 n:=fun _ h=>by cases h
 s:=fun _=>⟨H,h10,hH,hV⟩
end GQ
structure Gx (W0:World) (ps:List Pt) (p:Pt) (l:Nat->Bool) (v:Nat->Value) (w:World):Prop where
 B:Below W0.heap.size W0 w
 e:l 0=true->l 2=false->Rw.Own HY w W0.heap.size (v 0) []
 c:l 2=true->l 5=false->Rw.Own HY w W0.heap.size (v 2) ps
 t:l 4=true->l 5=false->∃ H,v 4=.slice (some ⟨H,0,none⟩) 1 1/\H<w.heap.size/\W0.heap.size<=H/\Rw.From HY w (some ⟨H,0,none⟩) [p]/\(l 0=true->l 2=false->(v 0).ownBlock≠some H)
 a:l 5=true->Rw.Own HY w W0.heap.size (v 5) (ps ++ [p])
 m:l 6=true->Rw.Own HY w W0.heap.size (v 6) (ps ++ [p])
namespace Gx
variable {W0:World} {ps:List Pt} {p:Pt} {l l':Nat->Bool} {v v':Nat->Value} {w w':World}
theorem start:Gx W0 ps p (fun _=>false) v { W0 with drawn:=W0.drawn+1 } where
 B:=(DE _ _).drew
 e:=fun h=>by cases h
 c:=fun h=>by cases h
 t:=fun h=>by cases h
 a:=fun h=>by cases h
 m:=fun h=>by cases h
theorem congr (h:∀ i ∈ [0,2,4,5,6],l i=l' i/\v i=v' i) (j:Gx W0 ps p l v w):Gx W0 ps p l' v' w:=by
 have h1:=h 0 (by simp);have h2:=h 2 (by simp);have h3:=h 4 (by simp);have h4:=h 5 (by simp);have h5:=h 6 (by simp);obtain ⟨jB,je,jc,jt,ja,jm⟩:=j;rw [h1.1,h1.2,h2.1] at je;rw [h2.1,h2.2,h4.1] at jc;rw [h3.1,h3.2,h4.1,h1.1,h1.2,h2.1] at jt;rw [h4.1,h4.2] at ja;rw [h5.1,h5.2] at jm;exact ⟨jB,je,jc,jt,ja,jm⟩
theorem keep (j:Gx W0 ps p l v w) (hb:Below w.heap.size w w'):Gx W0 ps p l v w' where
 B:=j.B.trans (hb.mono j.B.size)
 e:=fun h1 h2=>(j.e h1 h2).below hb
 c:=fun h1 h2=>(j.c h1 h2).below hb
 t:=fun h1 h2=>by
  obtain ⟨H,e,hH,h0,hf,hn⟩:=j.t h1 h2;exact ⟨H,e,Nat.lt_of_lt_of_le hH hb.size,h0,hf.keep hH hb,hn⟩
 a:=fun h1=>(j.a h1).below hb
 m:=fun h1=>(j.m h1).below hb
theorem lit (j:Gx W0 ps p l v w):Gx W0 ps p (Rg.upd l 4) (Rg.dT v 4 (.slice (some ⟨w.heap.size,0,none⟩) 1 1)) (w.alloc (.cells #[p.1,p.2.1,p.2.2] 40)) where
 B:=(j.keep (bA w _)).B
 e:=(j.keep (bA w _)).e
 c:=(j.keep (bA w _)).c
 t:=fun _ _=>⟨w.heap.size,rfl,by simp,j.B.size,Rw.From.lit HY w p _ rfl,fun h1 h2 q=>by
  have:=((j.e h1 h2).lt _ q).2
  omega⟩
 a:=(j.keep (bA w _)).a
 m:=(j.keep (bA w _)).m
theorem take (j:Gx W0 ps p l v w) (h5:l 5=true):Gx W0 ps p (Rg.upd l 6) (Rg.dT v 6 (v 5)) w where
 B:=j.B
 e:=j.e
 c:=j.c
 t:=j.t
 a:=j.a
 m:=fun _=>j.a h5
end Gx
namespace M
noncomputable def gN (a b:Int) (l:List Pt) (n d:Int):Bool:=bc a b l && (eO n d && decide (0<n))
theorem BB {a b:Int} {l:List Pt} {n d:Int} (h:bc a b l=false):gN a b l n d=false:=by unfold gN;rw [h];rfl
theorem BC {a b:Int} {l:List Pt} {n d:Int} (h:eO n d=false):gN a b l n d=false:=by unfold gN;rw [h,Bool.false_and,Bool.and_false]
theorem BD {a b:Int} {l:List Pt} {n d:Int} (h1:bc a b l=true) (h2:eO n d=true):gN a b l n d=decide (n > 0):=by unfold gN;rw [h1,h2];rfl
theorem nZ {a b:Int} {l:List Pt} {n d:Int} (h:gN a b l n d=true):bc a b l=true/\eO n d=true/\0<n:=by
 unfold gN at h;simp only [Bool.and_eq_true,decide_eq_true_eq] at h;exact ⟨h.1,h.2.1,h.2.2⟩
end M
theorem Ln {w:World} {v:Value} {l:List Pt} (h:eA w v l):∃ sa cap,v=.slice sa l.length cap:=by
 obtain ⟨a,cap,e,-⟩:=h;exact ⟨a,cap,e⟩
theorem j9 (a b n d:Int) (v:Value) (l:List Pt) (g:Nat) (w:World) (C:aG w g 51 #[a,b,v,n,d]) (hx:eA w v l) (hn:l.length<=4000000) :
  Calls Tryz.prog 56 #[.pointer (some ⟨g,0,none⟩)] w fun e w'=>e=.returned (.bool (M.gN a b l n d))/\Below w.heap.size w w':=by
 obtain ⟨sa,cap,rfl⟩:=Ln hx
 have PL:=fun W h=>jw a b (.slice sa l.length cap) l W h hn
 have PF:=fun W=>oH n d W
 replace hx:=DB hx
 have hq:M.gN a b l n d=((M.bc a b l && eO n d) && decide (n > 0)):=by unfold M.gN;rw [Bool.and_assoc]
 rw [hq];clear hq;have ⟨c0,c1,c2,c3,c4⟩:=C.cg;generalize l.length=L,eO n d=f,M.bc a b l=p at *;replace PL:=DB PL;replace PF:=DB PF;go_enter Tryz.func56,Tryz.ntmps56
 go_upto_region 1 with fail
 refine Rg.bg 25 [.is (.pointer (some ⟨g,0,none⟩)),.is (.pointer (some ⟨g,0,none⟩)),.is (.pointer (some ⟨g,0,none⟩)),.is (.agg #[a,b]),.is (.pointer (some ⟨g,0,none⟩)),.is (.pointer (some ⟨g,0,none⟩)),.is (.pointer (some ⟨g,2,none⟩)),.is (.slice sa L cap),.is p,.is p,.is (bif p then .pointer (some ⟨g,0,none⟩) else undef),.is (bif p then .pointer (some ⟨g,0,none⟩) else undef),.is (bif p then .pointer (some ⟨g,3,none⟩) else undef),.is (bif p then .agg #[n,d] else undef),.is (bif p then .bool f else undef),.is (.bool (p && f)),.is (.bool (p && f)),.is (bif (p && f) then .pointer (some ⟨g,0,none⟩) else undef),.is (bif (p && f) then .pointer (some ⟨g,0,none⟩) else undef),.is (bif (p && f) then .pointer (some ⟨g,3,none⟩) else undef),.is (bif (p && f) then .pointer (some ⟨g,3,none⟩) else undef),.is (bif (p && f) then .int .i64 n else undef),.is (bif (p && f) then .bool (decide (n > 0)) else undef),.is (.bool ((p && f) && (decide (n > 0)))),.is (.bool ((p && f) && (decide (n > 0))))] (by kernel_rfl) (by kernel_rfl) (by kernel_rfl) ⟨?_,?_,?_,?_,?_,?_,?_,?_,?_,?_,?_,?_,?_,?_,?_,?_,?_,?_,?_,?_,?_,?_,?_,?_,?_,trivial⟩ ?_
 ·refine Rg.b1 ?_;intro zZ w_ hB e
  go_simp
 ·refine Rg.b1 ?_;intro zZ w_ hB e
  go_simp
 ·refine Rg.b1 ?_;intro zZ w_ hB e
  go_simp
 ·refine Rg.b1 ?_;intro zZ w_ hB e
  have k0:=aE hB c0;have k1:=aE hB c1;go_simp
 ·refine Rg.b1 ?_;intro zZ w_ hB e
  go_simp
 ·refine Rg.b1 ?_;intro zZ w_ hB e
  go_simp
 ·refine Rg.b1 ?_;intro zZ w_ hB e
  go_simp
 ·refine Rg.b1 ?_;intro zZ w_ hB e
  have k2:=aE hB c2;go_simp
 ·intro _ zZ w_ hB hr
  have e6:=Rg.l_ (hr 6 (by decide));have e10:=Rg.l_ (hr 10 (by decide));have ef:=Rg.ef zZ;exact Rg.bV rfl (by go_simp) (PL.out _ (hx.out.below hB))
 ·refine Rg.b1 ?_;intro zZ w_ hB e
  go_simp
 ·intro _ zZ w_ hB hr
  have e12:zZ.tmps[12]?=some (.bool p):=Rg.l_ (hr 12 (by decide))
  refine Rg.G3 rfl (Rg.Dg rfl e12) fun DT=>?_
  rw [DT] at e12;have e0:zZ.tmps[0]?=some (.pointer (some ⟨g,0,none⟩)):=hr 0 (by decide);exact Rg.aW (Rg.ar rfl (Rg.Dg rfl e12)) (by go_simp)
 ·intro _ zZ w_ hB hr
  have e12:zZ.tmps[12]?=some (.bool p):=Rg.l_ (hr 12 (by decide))
  refine Rg.G3 rfl (Rg.Dg rfl e12) fun DT=>?_
  rw [DT] at e12
  have e13:zZ.tmps[13]?=some (.pointer (some ⟨g,0,none⟩)):=by have h_:=Rg.l_ (hr 13 (by decide));rw [DT] at h_;exact h_
  exact Rg.aW (Rg.ar rfl (Rg.Dg rfl e12)) (by go_simp)
 ·intro _ zZ w_ hB hr
  have e12:zZ.tmps[12]?=some (.bool p):=Rg.l_ (hr 12 (by decide))
  refine Rg.G3 rfl (Rg.Dg rfl e12) fun DT=>?_
  rw [DT] at e12
  have e14:zZ.tmps[14]?=some (.pointer (some ⟨g,0,none⟩)):=by have h_:=Rg.l_ (hr 14 (by decide));rw [DT] at h_;exact h_
  exact Rg.aW (Rg.ar rfl (Rg.Dg rfl e12)) (by go_simp)
 ·intro _ zZ w_ hB hr
  have e12:zZ.tmps[12]?=some (.bool p):=Rg.l_ (hr 12 (by decide))
  refine Rg.G3 rfl (Rg.Dg rfl e12) fun DT=>?_
  rw [DT] at e12
  have e15:zZ.tmps[15]?=some (.pointer (some ⟨g,3,none⟩)):=by have h_:=Rg.l_ (hr 15 (by decide));rw [DT] at h_;exact h_
  have k3:=aE hB c3;have k4:=aE hB c4;exact Rg.aW (Rg.ar rfl (Rg.Dg rfl e12)) (by go_simp)
 ·intro _ zZ w_ hB hr
  have e12:zZ.tmps[12]?=some (.bool p):=Rg.l_ (hr 12 (by decide))
  refine Rg.G3 rfl (Rg.Dg rfl e12) fun DT=>?_
  rw [DT] at e12
  have e16:zZ.tmps[16]?=some (.agg #[n,d]):=by have h_:=Rg.l_ (hr 16 (by decide));rw [DT] at h_;exact h_
  have ef:=Rg.ef zZ;exact Rg.bV (Rg.ar rfl (Rg.Dg rfl e12)) (by go_simp) (PF.out _)
 ·intro _ zZ w_ hB hr
  have e12:zZ.tmps[12]?=some (.bool p):=Rg.l_ (hr 12 (by decide));have e17:zZ.tmps[17]?=some (bif p then .bool f else undef):=Rg.l_ (hr 17 (by decide));have ec:=Rg.ec zZ;generalize p=c_ at e12 e17 ⊢
  cases c_ <;> exact Rg.aW rfl (by go_simp)
 ·refine Rg.b1 ?_;intro zZ w_ hB e
  go_simp
 ·intro _ zZ w_ hB hr
  have e19:zZ.tmps[19]?=some (.bool (p && f)):=Rg.l_ (hr 19 (by decide))
  refine Rg.G3 rfl (Rg.Dg rfl e19) fun DT=>?_
  rw [DT] at e19;have e0:zZ.tmps[0]?=some (.pointer (some ⟨g,0,none⟩)):=hr 0 (by decide);exact Rg.aW (Rg.ar rfl (Rg.Dg rfl e19)) (by go_simp)
 ·intro _ zZ w_ hB hr
  have e19:zZ.tmps[19]?=some (.bool (p && f)):=Rg.l_ (hr 19 (by decide))
  refine Rg.G3 rfl (Rg.Dg rfl e19) fun DT=>?_
  rw [DT] at e19
  have e20:zZ.tmps[20]?=some (.pointer (some ⟨g,0,none⟩)):=by have h_:=Rg.l_ (hr 20 (by decide));rw [DT] at h_;exact h_
  exact Rg.aW (Rg.ar rfl (Rg.Dg rfl e19)) (by go_simp)
 ·intro _ zZ w_ hB hr
  have e19:zZ.tmps[19]?=some (.bool (p && f)):=Rg.l_ (hr 19 (by decide))
  refine Rg.G3 rfl (Rg.Dg rfl e19) fun DT=>?_
  rw [DT] at e19
  have e21:zZ.tmps[21]?=some (.pointer (some ⟨g,0,none⟩)):=by have h_:=Rg.l_ (hr 21 (by decide));rw [DT] at h_;exact h_
  exact Rg.aW (Rg.ar rfl (Rg.Dg rfl e19)) (by go_simp)
 ·intro _ zZ w_ hB hr
  have e19:zZ.tmps[19]?=some (.bool (p && f)):=Rg.l_ (hr 19 (by decide))
  refine Rg.G3 rfl (Rg.Dg rfl e19) fun DT=>?_
  rw [DT] at e19
  have e22:zZ.tmps[22]?=some (.pointer (some ⟨g,3,none⟩)):=by have h_:=Rg.l_ (hr 22 (by decide));rw [DT] at h_;exact h_
  exact Rg.aW (Rg.ar rfl (Rg.Dg rfl e19)) (by go_simp)
 ·intro _ zZ w_ hB hr
  have e19:zZ.tmps[19]?=some (.bool (p && f)):=Rg.l_ (hr 19 (by decide))
  refine Rg.G3 rfl (Rg.Dg rfl e19) fun DT=>?_
  rw [DT] at e19
  have e23:zZ.tmps[23]?=some (.pointer (some ⟨g,3,none⟩)):=by have h_:=Rg.l_ (hr 23 (by decide));rw [DT] at h_;exact h_
  have k3:=aE hB c3;exact Rg.aW (Rg.ar rfl (Rg.Dg rfl e19)) (by go_simp)
 ·intro _ zZ w_ hB hr
  have e19:zZ.tmps[19]?=some (.bool (p && f)):=Rg.l_ (hr 19 (by decide))
  refine Rg.G3 rfl (Rg.Dg rfl e19) fun DT=>?_
  rw [DT] at e19
  have e24:zZ.tmps[24]?=some (.int .i64 n):=by have h_:=Rg.l_ (hr 24 (by decide));rw [DT] at h_;exact h_
  have ec:=Rg.ec zZ;exact Rg.aW (Rg.ar rfl (Rg.Dg rfl e19)) (by go_simp;first | done | rfl)
 ·intro _ zZ w_ hB hr
  have e19:zZ.tmps[19]?=some (.bool (p && f)):=Rg.l_ (hr 19 (by decide));have e25:zZ.tmps[25]?=some (bif (p && f) then .bool (decide (n > 0)) else undef):=Rg.l_ (hr 25 (by decide));have ec:=Rg.ec zZ;generalize (p && f)=c_ at e19 e25 ⊢
  cases c_ <;> exact Rg.aW rfl (by go_simp)
 ·refine Rg.b1 ?_;intro zZ w_ hB e
  go_simp
 intro vals wz hB hv hne;have HX:vals 24=.bool ((p && f) && (decide (n > 0))):=hv 24 (by decide);simp only [Rg.bF,Rg.fill,Act.put,Nat.reduceAdd];clear hv;simp only [HX];clear HX;unfold Rg.aX;go_wp2;go_ret;exact ⟨rfl,hB⟩
theorem rO (a b:Int) (v:Value) (l:List Pt) (w:World) (hx:eA w v l) (hn:l.length<=4000000) :
  Calls Tryz.prog 34 #[.agg #[a,b],v] w fun e w'=>e=.returned (.bool (M.bc a b l))/\Below w.heap.size w w':=by
 obtain ⟨sa,cap,rfl⟩:=Ln hx
 have PL:=DB fun W h=>wU a b (.slice sa l.length cap) l W h hn
 obtain ⟨wc,hw3,C,B⟩:=dD w #[a,b] 25;have hxc:=DB (hx.below B);have e_:=C.box.c0;have f_:=C.box.c1;generalize l.length=L,M.bc a b l=p at *;clear hx;go_enter Tryz.func34,Tryz.ntmps34
 go_wp2_with (go_at_call 39;(refine (PL.out _ hxc.out).mono ?_);rintro e w4 ⟨rfl,hb4⟩;replace B:=d_ B hb4)
 go_ret;exact ⟨rfl,B⟩
theorem wY (a b n d:Int) (v:Value) (l:List Pt) (w:World) (hx:eA w v l) (hn:l.length<=4000000) :
  Calls Tryz.prog 57 #[.agg #[a,b,v,n,d]] w fun e w'=>e=.returned (.bool (M.gN a b l n d))/\Below w.heap.size w w':=by
 obtain ⟨sa,cap,rfl⟩:=Ln hx
 have PL:=fun W h=>rO a b (.slice sa l.length cap) l W h hn
 have PF:=fun W=>lG n d W
 obtain ⟨wc,hw3,C,B⟩:=dD w #[a,b,.slice sa l.length cap,n,d] 51;have hxc:=DB (hx.below B)
 have h1:=fun h=>M.BB (a:=a) (b:=b) (l:=l) (n:=n) (d:=d) h
 have h2:=fun h=>M.BC (a:=a) (b:=b) (l:=l) (n:=n) (d:=d) h
 have h3:=fun h=>M.BD (a:=a) (b:=b) (l:=l) (n:=n) (d:=d) h
 generalize M.gN a b l n d=ok at *;have ⟨c0,c1,c2,c3,c4⟩:=C.cg;generalize l.length=L,eO n d=f,M.bc a b l=p at *;clear hx
 cases p with
 | false=>
  replace PL:=DB PL;replace PF:=DB PF;obtain rfl:ok=false:=h1 rfl;clear h1 h2 h3;go_enter Tryz.func57,Tryz.ntmps57
  go_wp2_with first | (go_at_call 34;(refine (PL.out _ hxc.out).mono ?_);rintro e w4 ⟨rfl,hb4⟩;replace B:=d_ B hb4;replace C:=C.keep hb4;(have ⟨c0,c1,c2,c3,c4⟩:=C.cg)) | (go_at_call 101;(refine (PF.out _).mono ?_);rintro e w5 ⟨rfl,hb5⟩;replace B:=d_ B hb5;replace C:=C.keep hb5;(have ⟨c0,c1,c2,c3,c4⟩:=C.cg))
  go_ret;exact ⟨rfl,B⟩
 | true=>
 cases f with
 | false=>
  replace PL:=DB PL;replace PF:=DB PF;obtain rfl:ok=false:=h2 rfl;clear h1 h2 h3;go_enter Tryz.func57,Tryz.ntmps57
  go_wp2_with first | (go_at_call 34;(refine (PL.out _ hxc.out).mono ?_);rintro e w4 ⟨rfl,hb4⟩;replace B:=d_ B hb4;replace C:=C.keep hb4;(have ⟨c0,c1,c2,c3,c4⟩:=C.cg)) | (go_at_call 101;(refine (PF.out _).mono ?_);rintro e w5 ⟨rfl,hb5⟩;replace B:=d_ B hb5;replace C:=C.keep hb5;(have ⟨c0,c1,c2,c3,c4⟩:=C.cg))
  go_ret;exact ⟨rfl,B⟩
 | true=>
 replace PL:=DB PL;replace PF:=DB PF
 by_cases hpos:n > 0
 ·have hd:decide (n > 0)=true:=decide_eq_true hpos
  obtain rfl:ok=true:=(h3 rfl rfl).trans hd;clear h1 h2 h3;go_enter Tryz.func57,Tryz.ntmps57
  go_wp2_with first | (go_at_call 34;(refine (PL.out _ hxc.out).mono ?_);rintro e w4 ⟨rfl,hb4⟩;replace B:=d_ B hb4;replace C:=C.keep hb4;(have ⟨c0,c1,c2,c3,c4⟩:=C.cg)) | (go_at_call 101;(refine (PF.out _).mono ?_);rintro e w5 ⟨rfl,hb5⟩;replace B:=d_ B hb5;replace C:=C.keep hb5;(have ⟨c0,c1,c2,c3,c4⟩:=C.cg))
  go_ret;exact ⟨by first | rfl | simp [hd],B⟩
 have hd:decide (n > 0)=false:=decide_eq_false hpos;obtain rfl:ok=false:=(h3 rfl rfl).trans hd;clear h1 h2 h3;go_enter Tryz.func57,Tryz.ntmps57
 go_wp2_with first | (go_at_call 34;(refine (PL.out _ hxc.out).mono ?_);rintro e w4 ⟨rfl,hb4⟩;replace B:=d_ B hb4;replace C:=C.keep hb4;(have ⟨c0,c1,c2,c3,c4⟩:=C.cg)) | (go_at_call 101;(refine (PF.out _).mono ?_);rintro e w5 ⟨rfl,hb5⟩;replace B:=d_ B hb5;replace C:=C.keep hb5;(have ⟨c0,c1,c2,c3,c4⟩:=C.cg))
 go_ret;exact ⟨by first | rfl | simp [hd],B⟩
end
end Go.Proofs.YtkalaljcbmkbmaaGreat
