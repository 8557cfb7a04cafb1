/-
  Joined texts: contracts and plain lemmas.
-/
import Derived.Test.YtgfkcoablfjbcaaGreatY1
import Derived.Test.YtgfkcoablfjbcaaGreatY25
set_option linter.unusedSimpArgs false
set_option linter.unusedVariables false
set_option maxRecDepth 100000
set_option maxHeartbeats 8000000
namespace Go.Proofs.YtgfkcoablfjbcaaGreat
section
open Go.RowKit
theorem bV.held {w1 w:World} {base g:Nat} {T:TypeId} {v x:Value} {vs:List Value} {rows:List (List (Int × Int))} (h:bV w1 base v vs rows) (hH:Rg.Held w1 g w) (K:aH w1 g T #[x]) (hT:T≠68) (hT2:T≠110):bV w base v vs rows:=by
 have key:∀ {t:TypeId} {k n:Nat} {u:Value} {zs:List Value},w1.ownsRow base t k u n zs→T≠t→w.ownsRow base t k u n zs:=fun {t k n u zs} h ht=>by
  refine ⟨h.1,?_⟩
  rcases h.2 with h2 | ⟨g1,c1,cur1,e,h3,h4,h5⟩
  ·exact Or.inl h2
  have hne:g1≠g:=fun e2=>by
   subst e2
   unfold aH at K
   rw [h4] at K
   injection K with K
   injection K with _ K2
   exact ht K2.symm
  exact Or.inr ⟨g1,c1,cur1,e,h3,hH.2 g1 t cur1 hne h4,h5⟩
 obtain ⟨h1,h2,h3,h4⟩:=h
 exact ⟨key h1 hT2,h2,fun i u r hu hr=>key (h3 i u r hu hr) hT,h4⟩
def vw (n:Nat) (s1 s2:Value) (nr:List (Int × Int)) (b2:Nat) (rows:M.Mat) (w0 w2:World) (x8 x9 x10 x11 x12:Value) (w:World):Prop:=match n with
 | 0=>Below w0.heap.size w0 w
 | 1=>∃ h,x8=.slice (some ⟨h,0,none⟩) 2 2∧w.cell? ⟨h,0,none⟩=some s1∧w.cell? ⟨h,1,none⟩=some s2∧Below w0.heap.size w0 w
 | 2=>Rw.Own EP w w0.heap.size x9 nr∧Below w0.heap.size w0 w
 | 3=>∃ w3,w=w3.alloc (.cells #[x9] 110)∧x10=.slice (some ⟨w3.heap.size,0,none⟩) 1 1∧Rw.Own EP w3 w0.heap.size x9 nr∧Below w0.heap.size w0 w3
 | 4=>di w b2 x11 (rows ++ [nr])∧Below b2 w2 w
 | _=>di w b2 x12 (rows ++ [nr])∧Below b2 w2 w
theorem wN (n:Nat):∀ (m:M.Mat) (v:Value) (g base:Nat) (ok:Bool) (w:World),n≤3→M.square (n+1) m→M.okM m→di w base v m→aH w g 94 #[.bool ok]→
  Calls Tryz.prog 59 #[.pointer (some ⟨g,0,none⟩),v] w fun e w'=>e=.returned (.agg #[.int .i64 (M.slo (M.fG ok (n+1) m)),.int .i64 (M.shi (M.fG ok (n+1) m))])∧Below w.heap.size (w.setCell ⟨g,0,none⟩ (.bool (ok && (M.cV (n+1) m).isSome))) w':=by
 induction n with
 | zero=>
  intro m v g base ok w hn hsq hok hm K
  obtain ⟨q,rfl⟩:∃ q,m=[[q]]:=by
   obtain ⟨h1,h2⟩:=hsq
   obtain ⟨r,rfl⟩:=List.length_eq_one_iff.1 h1
   obtain ⟨q,rfl⟩:=List.length_eq_one_iff.1 (h2 r (List.mem_cons_self ..))
   exact ⟨q,rfl⟩
  obtain ⟨q1,q2⟩:=q
  obtain ⟨gm,cap,g2,cap2,rfl,k0,k1,k2⟩:=hm.at (i:=0) (j:=0) rfl rfl
  simp only [Nat.zero_mul,Nat.zero_add,List.length_cons,List.length_nil] at k0 k1 k2 ⊢
  have e1:M.slo (M.fG ok 1 [[(q1,q2)]])=q1:=rfl
  have e2:M.shi (M.fG ok 1 [[(q1,q2)]])=q2:=rfl
  have e3:(ok && (M.cV 1 [[(q1,q2)]]).isSome)=ok:=by cases ok <;> rfl
  rw [e1,e2,e3]
  clear e1 e2 e3 hok hsq hm
  have B:=(ww w.heap.size w).alloc (xA _) (.cells #[.int .i64 0,.int .i64 0] 68)
  have R:=aH.new w #[.int .i64 0,.int .i64 0] 68
  replace k0:=aE B k0
  replace k1:=aE B k1
  replace k2:=aE B k2
  replace B:=Rg.dt K B
  generalize hw3:w.alloc (.cells #[.int .i64 0,.int .i64 0] 68)=wc at *
  have ⟨r0,r1,z0,z1,rl⟩:=R.box
  go_enter Tryz.func59,Tryz.ntmps59
  go_wp2
  exact bodyPost_ret (v:=.agg #[.int .i64 q1,.int .i64 q2]) (by simp [results,Tryz.results59,go_sem, *]) rfl (⟨rfl,wu (wu B (by simp) _) (by simp) _⟩)
 | succ n ih=>
 intro m v g base ok w hn hsq hok hm K0
 obtain ⟨vs,hm⟩:=hm
 have hml:m.length=n+2:=hsq.1
 obtain ⟨r0,hr0⟩:∃ r,m[0]?=some r:=⟨_,List.getElem?_eq_getElem (by omega)⟩
 have hr0l:r0.length=n+2:=hsq.2 r0 (List.mem_of_getElem? hr0)
 have hhd:m.headD []=r0:=by
  cases m with
  | nil=>cases hr0
  | cons x m=>exact Option.some.inj hr0
 obtain ⟨gm,capm,rfl,hcm,hcm2,hgm⟩:=hm.form (fun h=>by rw [h] at hml;simp only [List.length_nil] at hml;omega)
 obtain ⟨g0,cap0,hv0,hc0,hg0⟩:=hm.rowIs hr0 (fun h=>by rw [h] at hr0l;simp only [List.length_nil] at hr0l;omega)
 rw [hr0l] at hv0 hc0
 rw [hml] at hm hcm ⊢
 have kr0:=hm.gR hv0
 have hsd:M.fI ok n m (n+2)=M.fG ok (n+1+1) m∧(ok && (M.dX n m (n+2)).isSome)=(ok && (M.cV (n+1+1) m).isSome):=M.tP (ok:=ok) hsq
 have hsd:=ws hsd
 have hsq:=ws hsq
 have hr0:=ws hr0
 have hr0l:=ws hr0l
 have hml:=ws hml
 have hhd:=ws hhd
 have hok:=ws hok
 have hm:=ws hm
 have hv0:=ws hv0
 have ih:=ws ih
 have hsz:=wt w (.cells #[.int .i64 0,.int .i64 0] 68)
 obtain ⟨wc,hw3,R,B⟩:=fZ w #[.int .i64 0,.int .i64 0] 68
 rw [hw3] at hsz
 have S:=aH.new wc #[.int .i64 0,.int .i64 0] 68
 replace B:=B.alloc (by omega) (.cells #[.int .i64 0,.int .i64 0] 68)
 replace R:=R.alloc (.cells #[.int .i64 0,.int .i64 0] 68)
 have hgl:=K0.lt
 have nR:w.heap.size≠g:=by omega
 have nS:wc.heap.size≠g:=by omega
 have nR2:g≠w.heap.size:=by omega
 have nS2:g≠wc.heap.size:=by omega
 have hwl:w.heap.size<wc.heap.size:=by omega
 clear hsz
 have K:=K0.keep B
 have hwz:wc.heap.size+1≤(wc.alloc (.cells #[.int .i64 0,.int .i64 0] 68)).heap.size:=S.lt
 replace kr0:=aE B kr0
 replace B:=Rg.dt K0 B
 have hn1:(n:Int)≤2:=by omega
 have hne1:((n:Int)+2 == 1)=false:=by rw [beq_eq_false_iff_ne];omega
 go_enter Tryz.func59,Tryz.ntmps59
 go_wp2
 go_loopw [25] (fun vc wq=>∃ c:Nat,c≤n+2∧vc=.int .i64 (c:Int)∧aH wq g 94 #[.bool (ok && (M.dX n m c).isSome)]∧aH wq wc.heap.size 68 #[.int .i64 (M.slo (M.fI ok n m c)),.int .i64 (M.shi (M.fI ok n m c))]∧aH wq w.heap.size 68 #[.int .i64 0,.int .i64 0]∧wc.heap.size+1≤wq.heap.size∧Below w.heap.size (w.setCell ⟨g,0,none⟩ (.bool (ok && (M.dX n m c).isSome))) wq) (fun vc _=>n+2 - (intOf vc).toNat)
 case atStart=>
  have e0:(ok && (M.dX n m 0).isSome)=ok:=by cases ok <;> rfl
  exact ⟨0,Nat.zero_le _,rfl,by rw [e0];exact K,S,R,hwz,by rw [e0];exact B⟩
 case round=>
 clear K S R B hwz kr0
 obtain ⟨c,hc,rfl,K,S,R,hwz,B⟩:=hrel
 generalize hwo:wr=wo at *
 clear hwo
 by_cases hlt:c<n+2
 ·obtain ⟨q,hq⟩:∃ q,r0[c]?=some q:=⟨_,List.getElem?_eq_getElem (by have:=hr0l.out;omega)⟩
  have hqok:M.okS (some q):=fun p hp=>by
   obtain rfl:=Option.some.inj hp
   exact hok.out r0 (List.mem_of_getElem? hr0.out) _ (List.mem_of_getElem? hq)
  have hmq:=ws (hm.out.uD K0 (by decide) (by decide) B)
  obtain ⟨d0,d1⟩:=(hmq.out.rowFrom hv0.out hr0.out).at2 hq
  obtain ⟨fc,hfc⟩:∃ x,x=(ok && (M.dX n m c).isSome):=⟨_,rfl⟩
  obtain ⟨us,hus⟩:∃ x,x=M.fI ok n m c:=⟨_,rfl⟩
  obtain ⟨u1,hu1⟩:∃ x,x=M.fG fc (n+1) (M.cG m c):=⟨_,rfl⟩
  obtain ⟨f1,hf1⟩:∃ x,x=(fc && (M.cV (n+1) (M.cG m c)).isSome):=⟨_,rfl⟩
  obtain ⟨u2,hu2⟩:∃ x,x=M.gd f1 (M.eS (some q) u1):=⟨_,rfl⟩
  obtain ⟨hk1,hk2⟩:=M.pw hfc hf1 hu1 (by rw [hhd.out];exact hq) hu2
  have hfs:fc=true→us.isSome=true:=fun h=>by rw [hus];exact M.qm (by rw [←hfc];exact h)
  have hf1c:f1=true→fc=true:=fun h=>by rw [hf1,Bool.and_eq_true] at h;exact h.1
  have hf1u:f1=true→u1.isSome=true:=fun h=>by rw [hu1];exact M.pu (by rw [←hf1];exact h)
  have hu2f:u2.isSome=true→f1=true:=fun h=>by rw [hu2] at h;exact (M.gn h).1
  have hsq1:=M.gU hsq.out hlt
  have hok1:=M.kQ (c:=c) hok.out
  have PD:=fun vo b W h K=>ih.out (M.cG m c) vo g b fc W (by omega) hsq1 hok1 h K
  rw [←hu1,←hf1] at PD
  have PT:=fun W K=>sc g f1 (some q) u1 W K hqok (by rw [hu1];exact M.tm hok1) (fun _=>rfl) hf1u
  rw [←hu2] at PT
  have hsu:M.okS us:=by rw [hus];exact M.uY
  have hu2o:M.okS u2:=by rw [hu2];exact M.gw M.pS
  have PP:=fun W K=>pM g u2.isSome us u2 W K hsu hu2o (fun h=>hfs (hf1c (hu2f h))) (fun h=>h)
  have PM:=fun W K=>jT g u2.isSome us u2 W K hsu hu2o (fun h=>hfs (hf1c (hu2f h))) (fun h=>h)
  rw [←hus] at hk1 hk2 S
  rw [←hfc] at K B
  rw [hk1] at hk2
  have hmin:=ws (fun (i:Nat) (r:List (Int × Int)) (h:m[i+1]?=some r)=>M.qM (c:=c) h)
  have hminl:=ws (M.nv (c:=c) (n:=n+1) hml.out)
  obtain ⟨mm,hmm⟩:∃ x,x=M.cG m c:=⟨_,rfl⟩
  rw [←hmm] at hmin hminl PD
  clear hmm hsq1 hok1 hfs hf1c hf1u hu2f hsu hu2o hu2 hf1 hu1 hfc hus hqok
  obtain ⟨q1,q2⟩:=q
  have e1:M.slo (some (q1,q2))=q1:=rfl
  have e2:M.shi (some (q1,q2))=q2:=rfl
  rw [e1,e2] at PT
  simp only [] at d0 d1
  clear e1 e2 hq
  generalize M.slo u1=l1 at *
  generalize M.shi u1=h1 at *
  have hq2:M.dh us u2 c=if c % 2=0 then M.eK us u2 else M.cP us u2:=rfl
  rw [hq2] at hk1
  clear hq2
  obtain ⟨un,hun⟩:∃ x,x=M.fI ok n m (c+1):=⟨_,rfl⟩
  obtain ⟨fn,hfn⟩:∃ x,x=(ok && (M.dX n m (c+1)).isSome):=⟨_,rfl⟩
  rw [←hun] at hk1 hk2
  rw [←hfn] at hk2
  replace hun:=ws hun
  replace hfn:=ws hfn
  obtain ⟨f2,hf2⟩:∃ x,x=u2.isSome:=⟨_,rfl⟩
  rw [←hf2] at PT PP PM hk1
  clear hf2
  generalize M.slo u2=l2 at *
  generalize M.shi u2=h2 at *
  obtain ⟨l5,hl5⟩:∃ x,x=M.slo us:=⟨_,rfl⟩
  obtain ⟨h5,hh5⟩:∃ x,x=M.shi us:=⟨_,rfl⟩
  rw [←hl5,←hh5] at PP PM S
  clear hl5 hh5
  obtain ⟨l6,hl6⟩:∃ x,x=M.slo un:=⟨_,rfl⟩
  obtain ⟨h6,hh6⟩:∃ x,x=M.shi un:=⟨_,rfl⟩
  have PQ:(c % 2=0→∀ W,aH W g 94 #[.bool f2]→Calls Tryz.prog 81 #[.pointer (some ⟨g,0,none⟩),.agg #[.int .i64 l5,.int .i64 h5],.agg #[.int .i64 l2,.int .i64 h2]] W fun e w'=>e=.returned (.agg #[.int .i64 l6,.int .i64 h6])∧Below W.heap.size (W.setCell ⟨g,0,none⟩ (.bool fn)) w'):=fun h W K=>by
   rw [if_pos h] at hk1
   have:=PP W K
   rw [hk1,hk2,←hl6,←hh6] at this
   exact this
  have PR:(c % 2=1→∀ W,aH W g 94 #[.bool f2]→Calls Tryz.prog 82 #[.pointer (some ⟨g,0,none⟩),.agg #[.int .i64 l5,.int .i64 h5],.agg #[.int .i64 l2,.int .i64 h2]] W fun e w'=>e=.returned (.agg #[.int .i64 l6,.int .i64 h6])∧Below W.heap.size (W.setCell ⟨g,0,none⟩ (.bool fn)) w'):=fun h W K=>by
   rw [if_neg (by omega)] at hk1
   have:=PM W K
   rw [hk1,hk2,←hl6,←hh6] at this
   exact this
  rw [hun.out] at hl6 hh6
  have hl6:=ws hl6
  have hh6:=ws hh6
  clear PP PM hk1 hk2 hun us u1 u2 un
  replace PD:=ws PD
  replace PT:=ws PT
  replace PQ:=ws PQ
  replace PR:=ws PR
  have ngw:g≠wo.heap.size:=by omega
  have Bv:=(ww wo.heap.size wo).alloc (xA _) (.cells #[.int .i64 q1,.int .i64 q2] 68)
  have X:=aH.new wo #[.int .i64 q1,.int .i64 q2] 68
  have hX:=X.lt
  have hmq:=ws (hmq.out.below Bv)
  have hBs:=B.size
  rw [aZ] at hBs
  replace B:=B.trans (Bv.mono hBs)
  replace K:=K.keep Bv
  replace S:=S.keep Bv
  replace R:=R.keep Bv
  generalize hw2:wo.alloc (.cells #[.int .i64 q1,.int .i64 q2] 68)=wb at *
  clear Bv
  have hcap1:¬ capm=1:=by omega
  go_wp2
  go_loopw [8,33] (fun vo vi wi=>∃ (i:Nat) (u:Value),i≤n+1∧vi=.int .i64 (i:Int)∧u=vo∧Hid (di wi wb.heap.size u (mm.take i))∧Below wb.heap.size wb wi) (fun _ vi _=>n+1 - (intOf vi).toNat)
  case atStart=>exact ⟨0,_,Nat.zero_le _,rfl,rfl,ws (di.nil _ _),ww _ _⟩
  case round=>
  clear d0 d1
  obtain ⟨i,vo,hi,rfl,rfl,hrow,Bi⟩:=hrel
  have hmi:=ws (hmq.out.below Bi)
  by_cases hlt2:i<n+1
  ·obtain ⟨r,hr⟩:∃ r,m[i+1]?=some r:=⟨_,List.getElem?_eq_getElem (by have:=hml.out;omega)⟩
   have hrl:r.length=n+2:=hsq.out.2 r (List.mem_of_getElem? hr)
   obtain ⟨gi,capi,hvi,hci,hgi⟩:=hmi.out.rowIs hr (fun h=>by rw [h] at hrl;simp only [List.length_nil] at hrl;omega)
   have kri:=hmi.out.gR hvi
   rw [Nat.add_comm i 1] at kri
   have FR:=hmi.out.rowFrom hvi hr
   rw [hrl] at kri hci
   have hcell:=hmin.out i r hr
   obtain ⟨nr,hnr⟩:∃ x,x=r.take c ++ r.drop (c+1):=⟨_,rfl⟩
   rw [←hnr] at hcell
   have F1:=ws (FR.cut c)
   have F2:=ws (FR.pW (c+1) capi (by omega))
   have hl1:(r.take c).length=c:=by rw [List.length_take];omega
   have hl2:(r.drop (c+1)).length=n+2 - (c+1):=by rw [List.length_drop,hrl]
   have PC:=fun W h k0 k1 (b:Below wr.heap.size wr W)=>rY h c capi (n+2 - (c+1)) (capi - (c+1)) _ _ (r.take c) (r.drop (c+1)) W k0 k1 hl1 hl2 (F1.out.below b) (F2.out.below b) (by omega) (by omega)
   rw [←hnr] at PC
   have hnx:=M.iD hcell
   have hnx:=ws hnx
   obtain ⟨vs2,hvs2⟩:=hrow.out
   have hvs2:=ws hvs2
   have hlen:(mm.take i).length≤1000000000:=by rw [List.length_take];omega
   have hEP:EP.k=2:=rfl
   rw [hEP] at PC
   clear hEP hcell hnr F1 F2 hl1 hl2 FR hvi hr hrl
   replace PC:=ws PC
   have hcc:((c:Nat):Int)≤4:=by omega
   have hcc2:((c:Nat):Int)≤((n+2:Nat):Int):=by omega
   have hcc3:((c:Nat):Int)≤((capi:Nat):Int):=by omega
   have hcc4:((c:Nat):Int)+1≤((n+2:Nat):Int):=by omega
   go_upto_region 11 with fail
   refine Rg.tW (fun k v w=>vw k (.slice (some ⟨gi,0,none⟩) c capi) (.slice (if capi=c+1 then some ⟨gi,0,none⟩ else some ⟨gi,(c+1)*2,none⟩) (n+2 - (c+1)) (capi - (c+1))) nr wb.heap.size (mm.take i) wr wb (v 8) (v 9) (v 10) (v 11) (v 12) w) [8,9,10,11,12] [vo,.slice (some ⟨gi,0,none⟩) (n+2) capi,.int .i64 ((c:Nat):Int),.slice (some ⟨gi,0,none⟩) c capi,.slice (some ⟨gi,0,none⟩) (n+2) capi,.int .i64 ((c:Nat):Int),.int .i64 ((c:Nat)+1),.slice (if capi=c+1 then some ⟨gi,0,none⟩ else some ⟨gi,(c+1)*2,none⟩) (n+2 - (c+1)) (capi - (c+1)),undef,undef,undef,undef,undef] (by kernel_rfl) (by kernel_rfl) (by kernel_rfl) (by decide) (fun k v v2 w h hj=>by rw [←h 8 (by decide),←h 9 (by decide),←h 10 (by decide),←h 11 (by decide),←h 12 (by decide)];exact hj) (fun _=>(ww _ wr).drew) ⟨?_,?_,?_,?_,?_,?_,?_,?_,?_,?_,?_,?_,?_,trivial⟩ ?_
   ·unfold Rg.bK
    rw [if_neg (by decide)]
    intro ac_ w_ n_ vals_ hn_ hJ hr
    refine ⟨rfl,?_⟩
    have e8:ac_.tmps[8]?=some (vo):=hr 8 (by decide)
    go_simp
   ·unfold Rg.bK
    rw [if_neg (by decide)]
    intro ac_ w_ n_ vals_ hn_ hJ hr
    refine ⟨rfl,?_⟩
    have e10:ac_.tmps[10]?=some (.slice (some ⟨gi,0,none⟩) (n+2) capi):=hr 10 (by decide)
    go_simp
   ·unfold Rg.bK
    rw [if_neg (by decide)]
    intro ac_ w_ n_ vals_ hn_ hJ hr
    refine ⟨rfl,?_⟩
    have e6:ac_.tmps[6]?=some (.int .i64 ((c:Nat):Int)):=hr 6 (by decide)
    go_simp
   ·unfold Rg.bK
    rw [if_neg (by decide)]
    intro ac_ w_ n_ vals_ hn_ hJ hr
    refine ⟨rfl,?_⟩
    have e38:ac_.tmps[38]?=some (.slice (some ⟨gi,0,none⟩) (n+2) capi):=hr 38 (by decide)
    have e39:ac_.tmps[39]?=some (.int .i64 ((c:Nat):Int)):=hr 39 (by decide)
    (first | (go_simp;done) | (go_simp;exact Rg.wr (by omega) (by omega)) | (go_simp;omega) | (go_simp;rfl))
   ·unfold Rg.bK
    rw [if_neg (by decide)]
    intro ac_ w_ n_ vals_ hn_ hJ hr
    refine ⟨rfl,?_⟩
    have e10:ac_.tmps[10]?=some (.slice (some ⟨gi,0,none⟩) (n+2) capi):=hr 10 (by decide)
    go_simp
   ·unfold Rg.bK
    rw [if_neg (by decide)]
    intro ac_ w_ n_ vals_ hn_ hJ hr
    refine ⟨rfl,?_⟩
    have e6:ac_.tmps[6]?=some (.int .i64 ((c:Nat):Int)):=hr 6 (by decide)
    go_simp
   ·unfold Rg.bK
    rw [if_neg (by decide)]
    intro ac_ w_ n_ vals_ hn_ hJ hr
    refine ⟨rfl,?_⟩
    have e42:ac_.tmps[42]?=some (.int .i64 ((c:Nat):Int)):=hr 42 (by decide)
    have ec:=Rg.ec ac_
    (first | (go_simp;done) | (go_simp;exact Rg.wr (by omega) (by omega)) | (go_simp;omega) | (go_simp;rfl))
   ·unfold Rg.bK
    rw [if_neg (by decide)]
    intro ac_ w_ n_ vals_ hn_ hJ hr
    refine ⟨rfl,?_⟩
    have e41:ac_.tmps[41]?=some (.slice (some ⟨gi,0,none⟩) (n+2) capi):=hr 41 (by decide)
    have e43:ac_.tmps[43]?=some (.int .i64 ((c:Nat)+1)):=hr 43 (by decide)
    have hcN:((c:Nat):Int)+1≤((n+2:Nat):Int):=by omega
    (first | (go_simp;done) | (go_simp;exact Rg.wr (by omega) (by omega)) | (go_simp;omega) | (go_simp;rfl))
   ·unfold Rg.bK
    rw [if_pos (by decide)]
    intro ac_ w_ vals_ hJ hr
    have e40:ac_.tmps[40]?=some (.slice (some ⟨gi,0,none⟩) c capi):=hr 40 (by decide)
    have e44:ac_.tmps[44]?=some (.slice (if capi=c+1 then some ⟨gi,0,none⟩ else some ⟨gi,(c+1)*2,none⟩) (n+2 - (c+1)) (capi - (c+1))):=hr 44 (by decide)
    refine ⟨rfl,?_⟩
    have hJ:Below wr.heap.size wr w_:=hJ
    refine Rg.uG (x:=.slice (some ⟨w_.heap.size,0,none⟩) 2 2) (ob:=.cells #[.slice (some ⟨gi,0,none⟩) c capi,.slice (if capi=c+1 then some ⟨gi,0,none⟩ else some ⟨gi,(c+1)*2,none⟩) (n+2 - (c+1)) (capi - (c+1))] 110) (by first | (go_simp;done) | (go_simp;rfl)) ?_
    exact ⟨_,rfl,Rg.ly _ _ _ 0 _ rfl,Rg.ly _ _ _ 1 _ rfl,hJ.alloc hJ.size _⟩
   ·unfold Rg.bK
    rw [if_pos (by decide)]
    intro ac_ w_ vals_ hJ hr
    have e45:ac_.tmps[45]?=some (vals_ 8):=hr 45 (by decide)
    have ef:∀ f,ac_.eval (.func f)=.func (.func f) #[] #[]:=fun _=>rfl
    refine ⟨rfl,?_⟩
    obtain ⟨h_,e8_,k0_,k1_,hb_⟩:=hJ
    rw [e8_] at e45
    refine Rg.rQ (by go_simp;exact ⟨rfl,rfl⟩) ?_
    refine (PC.out w_ h_ k0_ k1_ hb_).mono ?_
    rintro e w5 ⟨v5,rfl,ho5,hb5⟩
    exact ⟨_,rfl,(ho5.down hb_.size:Rw.Own EP w5 wr.heap.size v5 nr),hb_.trans (hb5.mono hb_.size)⟩
   ·unfold Rg.bK
    rw [if_pos (by decide)]
    intro ac_ w_ vals_ hJ hr
    have e46:ac_.tmps[46]?=some (vals_ 9):=hr 46 (by decide)
    refine ⟨rfl,?_⟩
    obtain ⟨ho_,hb_⟩:=hJ
    have ho_:Rw.Own EP w_ wr.heap.size (vals_ 9) nr:=ho_
    refine Rg.uG (x:=.slice (some ⟨w_.heap.size,0,none⟩) 1 1) (ob:=.cells #[vals_ 9] 110) (by rcases ho_.forms with ⟨q_,-⟩ | ⟨g_,c_,q_,-⟩ <;> rw [q_] at e46 ⊢ <;> (first | (go_simp;done) | (go_simp;rfl))) ?_
    exact ⟨w_,rfl,rfl,ho_,hb_⟩
   ·unfold Rg.bK
    rw [if_pos (by decide)]
    intro ac_ w_ vals_ hJ hr
    have e37:ac_.tmps[37]?=some (vo):=hr 37 (by decide)
    have e47:ac_.tmps[47]?=some (vals_ 10):=hr 47 (by decide)
    refine ⟨rfl,?_⟩
    obtain ⟨w3,hw_,e10_,ho_,hb_⟩:=hJ
    subst hw_
    have e10_:vals_ 10=.slice (some ⟨w3.heap.size,0,none⟩) 1 1:=e10_
    have ho_:Rw.Own EP w3 wr.heap.size (vals_ 9) nr:=ho_
    rw [e10_] at e47
    have hw3_:Below wb.heap.size wb w3:=Bi.trans (hb_.mono Bi.size)
    obtain ⟨v6,w6,q1_,q2_,q3_⟩:=j6 (W:=wb) (w:=w3) 89 wb.heap.size (vals_ 9) nr vs2 _ _ (hvs2.out.below hb_) (ho_.down Bi.size) (hvs2.out.fresh ho_ (xA _)) hw3_ hw3_.size hlen
    refine Rg.oM (x:=v6) (w2:=w6) (Rg.iU rfl (Rg.ev e37) (Rg.ev e47) q1_) ?_
    exact ⟨⟨_,q2_⟩,q3_⟩
   ·unfold Rg.bK
    rw [if_pos (by decide)]
    intro ac_ w_ vals_ hJ hr
    have e48:ac_.tmps[48]?=some (vals_ 11):=hr 48 (by decide)
    refine ⟨rfl,?_⟩
    refine Rg.oM (x:=vals_ 11) (w2:=w_) (by first | (go_simp;done) | (go_simp;rfl)) ?_
    exact hJ
   intro vals wz hJ hv
   simp only [Rg.ak,Rg.fill,Act.put,Nat.reduceAdd]
   clear hv
   obtain ⟨hM2,hB2⟩:=hJ
   have hM2:di wz wb.heap.size (vals 12) (mm.take i ++ [nr]):=hM2
   rw [←hnx.out] at hM2
   have hM2:=ws hM2
   clear hnx hvs2 PC
   go_wp2
   go_roundw
   case rel=>exact ⟨i+1,_,by omega,by go_num,rfl,hM2,hB2⟩
   case measure=>simp [intOf] <;> omega
  obtain rfl:i=n+1:=by omega
  have hM3:di wr wb.heap.size vo mm:=by
   have h:=hrow.out
   rw [List.take_of_length_le (by rw [hminl.out];omega)] at h
   exact h
  have hM3:=ws hM3
  have hBs2:w.heap.size≤wb.heap.size:=by omega
  replace B:=B.trans (Bi.mono hBs2)
  replace K:=K.keep Bi
  replace S:=S.keep Bi
  replace R:=R.keep Bi
  replace X:=X.keep Bi
  clear hrow hmi hmq Bi
  have nXg:wo.heap.size≠g:=by omega
  go_upto_region 13 with fail
  refine Rg.uw (g) 94 (fun n=>match n with | 0=>.bool fc | 1=>.bool f1 | _=>.bool f2) [4,5] 6 7 68 #[.int .i64 0,.int .i64 0] #[.int .i64 l2,.int .i64 h2] [.is (.pointer (some ⟨g,0,none⟩)),.is (.agg #[.int .i64 q1,.int .i64 q2]),.is (.pointer (some ⟨g,0,none⟩)),.is (vo),.is (.agg #[.int .i64 l1,.int .i64 h1]),.is (.agg #[.int .i64 l2,.int .i64 h2]),.is (undef),.is (undef)] (by kernel_rfl) (by kernel_rfl) (by kernel_rfl) (fun j h1 h2=>match j,h1,h2 with | 0,h1,h2=>rfl | 1,h1,h2=>rfl | 2,h1,h2=>rfl | 3,h1,h2=>rfl | 4,h1,h2=>rfl | 5,h1,h2=>rfl | 6,h1,h2=>absurd rfl h1 | 7,h1,h2=>absurd rfl h2 | n+8,_,_=>rfl) (by decide) (by decide) (by decide) (by decide) K ⟨?_,?_,?_,?_,?_,?_,?_,?_,trivial⟩ ?_
  ·unfold Rg.bc
   rw [if_neg (by decide),if_neg (by decide),if_neg (by decide)]
   intro ac_ w_ hH hr
   have e0:ac_.tmps[0]?=some (.pointer (some ⟨g,0,none⟩)):=hr 0 (by decide)
   exact Rg.aG rfl (by go_simp)
  ·unfold Rg.bc
   rw [if_neg (by decide),if_neg (by decide),if_neg (by decide)]
   intro ac_ w_ hH hr
   have e7:ac_.tmps[7]?=some (.pointer (some ⟨wo.heap.size,0,none⟩)):=hr 7 (by decide)
   have k0:=(hH.2 _ _ _ nXg X).box.c0
   have k1:=(hH.2 _ _ _ nXg X).box.c1
   exact Rg.aG rfl (by go_simp)
  ·unfold Rg.bc
   rw [if_neg (by decide),if_neg (by decide),if_neg (by decide)]
   intro ac_ w_ hH hr
   have e0:ac_.tmps[0]?=some (.pointer (some ⟨g,0,none⟩)):=hr 0 (by decide)
   exact Rg.aG rfl (by go_simp)
  ·unfold Rg.bc
   rw [if_neg (by decide),if_neg (by decide),if_neg (by decide)]
   intro ac_ w_ hH hr
   have e8:ac_.tmps[8]?=some (vo):=hr 8 (by decide)
   exact Rg.aG rfl (by go_simp)
  ·unfold Rg.bc
   rw [if_neg (by decide),if_neg (by decide),if_pos (by decide)]
   intro ac_ w_ K_ hH hr
   replace K_:aH w_ (g) 94 #[.bool fc]:=K_
   have e52:=Rg.ev1 (hr 52 (by decide))
   have e53:=Rg.ev1 (hr 53 (by decide))
   have ef:=Rg.ef ac_
   exact Rg.ei rfl (by go_simp) (PD.out _ _ _ (hM3.out.elim fun _ h_=>⟨_,h_.held hH K (by decide) (by decide)⟩) K_)
  ·unfold Rg.bc
   rw [if_neg (by decide),if_neg (by decide),if_pos (by decide)]
   intro ac_ w_ K_ hH hr
   replace K_:aH w_ (g) 94 #[.bool f1]:=K_
   have e50:=Rg.ev1 (hr 50 (by decide))
   have e51:=Rg.ev1 (hr 51 (by decide))
   have e54:=Rg.ev1 (hr 54 (by decide))
   have ef:=Rg.ef ac_
   exact Rg.ei rfl (by go_simp) (PT.out _ K_)
  ·unfold Rg.bc
   rw [if_pos rfl]
   intro ac_ w_
   exact Rg.ke rfl (by first | (go_simp;done) | (go_simp;rfl))
  ·unfold Rg.bc
   rw [if_neg (by decide),if_pos rfl]
   intro ac_ w_ h_ hh hn hr
   have e11:ac_.tmps[11]?=some (.pointer (some ⟨h_,0,none⟩)):=hr 11 (by decide)
   have e55:=Rg.ev1 (hr 55 (by decide))
   have ⟨y0,y1,x0,x1,_⟩:=hn.box
   refine ⟨rfl,?_⟩
   unfold Oper.wp
   go_simp
   exact ⟨aH.set2 hn _ _,wu (wu (ww _ _) hh _) hh _⟩
  intro vals wz h_ hh hn v_6 hB hv
  replace hB:Below wr.heap.size (wr.setCell ⟨g,0,none⟩ (.bool f2)) wz:=hB
  simp only [Rg.ak,Rg.fill,Act.put,Nat.reduceAdd]
  clear hv
  simp only [v_6]
  clear v_6
  have hB2:=bD hB
  have B2:=Rg.eh B K0 K hB
  replace S:=(S.other (i:=0) nS (.bool f2)).keep hB2
  replace R:=(R.other (i:=0) nR (.bool f2)).keep hB2
  replace K:=(K.one (.bool f2)).keep hB2
  have ⟨s0,s1,y0,y1,sl⟩:=S.box
  have ⟨t0,t1,_,_,_⟩:=hn.box
  clear hB hB2 B PD PT hM3 X
  have ht:Int.tmod ((c:Nat):Int) 2=((c % 2:Nat):Int):=(Int.ofNat_tmod c 2).symm
  rcases Nat.mod_two_eq_zero_or_one c with hp | hp
  ·rw [hp] at ht
   have PX:=ws (PQ.out hp)
   clear PQ PR
   go_wp2_with (go_at_call 81;(with_reducible refine (PX.out _ K).mono ?_);rintro e w6 ⟨rfl,hb6⟩;(have hb7:=bD hb6);(replace B2:=Rg.eh B2 K0 K hb6);(replace S:=(S.other (i:=0) nS (.bool fn)).keep hb7);(replace R:=(R.other (i:=0) nR (.bool fn)).keep hb7);(replace K:=(K.one (.bool fn)).keep hb7);(have ⟨s0,s1,y0,y1,sl⟩:=S.box))
   go_roundw
   case rel=>exact ⟨c+1,by omega,by go_num,by rw [←hfn.out];exact (K.other nS2 _).other nS2 _,by rw [←hl6.out,←hh6.out];exact aH.set2 S _ _,(R.other (by omega) _).other (by omega) _,by rw [aZ,aZ];omega,by rw [←hfn.out];exact wu (wu B2 (by show w.heap.size≤wc.heap.size;omega) _) (by show w.heap.size≤wc.heap.size;omega) _⟩
   case measure=>simp [intOf] <;> omega
  rw [hp] at ht
  have PX:=ws (PR.out hp)
  clear PQ PR
  go_wp2_with (go_at_call 82;(with_reducible refine (PX.out _ K).mono ?_);rintro e w6 ⟨rfl,hb6⟩;(have hb7:=bD hb6);(replace B2:=Rg.eh B2 K0 K hb6);(replace S:=(S.other (i:=0) nS (.bool fn)).keep hb7);(replace R:=(R.other (i:=0) nR (.bool fn)).keep hb7);(replace K:=(K.one (.bool fn)).keep hb7);(have ⟨s0,s1,y0,y1,sl⟩:=S.box))
  go_roundw
  case rel=>exact ⟨c+1,by omega,by go_num,by rw [←hfn.out];exact (K.other nS2 _).other nS2 _,by rw [←hl6.out,←hh6.out];exact aH.set2 S _ _,(R.other (by omega) _).other (by omega) _,by rw [aZ,aZ];omega,by rw [←hfn.out];exact wu (wu B2 (by show w.heap.size≤wc.heap.size;omega) _) (by show w.heap.size≤wc.heap.size;omega) _⟩
  case measure=>simp [intOf] <;> omega
 obtain rfl:c=n+2:=by omega
 obtain ⟨e1,e2⟩:=hsd.out
 rw [e1] at S
 rw [e2] at B K
 clear e1 e2 hsd
 obtain ⟨d1,hd1⟩:∃ x,x=M.slo (M.fG ok (n+1+1) m):=⟨_,rfl⟩
 obtain ⟨d2,hd2⟩:∃ x,x=M.shi (M.fG ok (n+1+1) m):=⟨_,rfl⟩
 rw [←hd1,←hd2] at S
 have hd1:=ws hd1
 have hd2:=ws hd2
 have ⟨s0,s1,y0,y1,sl⟩:=S.box
 have ⟨t0,t1,z0,z1,tl⟩:=R.box
 go_wp2
 exact bodyPost_ret (v:=.agg #[.int .i64 d1,.int .i64 d2]) (by simp [results,Tryz.results59,go_sem, *]) rfl (⟨by rw [hd1.out,hd2.out],wu (wu B (xA _) _) (xA _) _⟩)
theorem bp.rowIs {w:World} {base:Nat} {v:Value} {vs:List Value} {rows:List (List (Int × Int × Int × Int))} (h:bp w base v vs rows) {i:Nat} {r:List (Int × Int × Int × Int)} (hr:rows[i]?=some r) (hne:r≠[]) :
  ∃ (g2 cap2:Nat),vs[i]?=some (.slice (some ⟨g2,0,none⟩) r.length cap2)∧r.length≤cap2∧g2<w.heap.size:=by
 have hi:=(List.getElem?_eq_some_iff.1 hr).1
 have hl:=h.2.1
 have hu:vs[i]?=some (vs[i]'(by omega)):=List.getElem?_eq_getElem (by omega)
 rcases (h.2.2.1 i _ r hu hr).forms with ⟨-,h4⟩ | ⟨g2,cap2,e,hg,hg2,hc2,-⟩
 ·exact absurd h4 hne
 exact ⟨g2,cap2,by rw [hu,e],hc2,hg2⟩
theorem bp.form {w:World} {base:Nat} {v:Value} {vs:List Value} {rows:List (List (Int × Int × Int × Int))} (h:bp w base v vs rows) (hne:rows≠[]):∃ (g cap:Nat),v=.slice (some ⟨g,0,none⟩) rows.length cap∧rows.length≤cap∧cap≤9223372036854775807∧g<w.heap.size:=by
 rcases h.1.2 with ⟨-,h2⟩ | ⟨g,cap,cur,e,hg,hh,hc,hm,-⟩
 ·exact absurd (List.eq_nil_of_length_eq_zero h2) hne
 exact ⟨g,cap,e,hc,by unfold maxLen at hm;omega,(Array.getElem?_eq_some_iff.1 hh).1⟩
theorem bp.gR {w:World} {base g n cap:Nat} {vs:List Value} {rows:List (List (Int × Int × Int × Int))} (h:bp w base (.slice (some ⟨g,0,none⟩) n cap) vs rows) {i:Nat} {u:Value} (hu:vs[i]?=some u):w.cell? ⟨g,i,none⟩=some u:=by
 have hi:=(List.getElem?_eq_some_iff.1 hu).1
 have hl:=h.2.1
 have h1:=h.1
 rcases h1.2 with ⟨e,-⟩ | ⟨g1,c1,cur1,e,-⟩
 ·cases e
 injection e with _ e2 _
 subst e2
 exact (World.ownsRow.cellAt h1 i (by omega)).trans hu
theorem bp.rowFrom {w:World} {base:Nat} {v:Value} {vs:List Value} {rows:List (List (Int × Int × Int × Int))} (h:bp w base v vs rows) {i g2 cap2 n2:Nat} {r:List (Int × Int × Int × Int)} (hu:vs[i]?=some (.slice (some ⟨g2,0,none⟩) n2 cap2)) (hr:rows[i]?=some r):Rw.From EN w (some ⟨g2,0,none⟩) r:=by
 have ho:=h.2.2.1 i _ r hu hr
 rcases ho.forms with ⟨e,-⟩ | ⟨g3,cap3,e,hg,hg3,hc3,-⟩
 ·cases e
 injection e with e1 e2 e3
 have:=ho.ur e2 (ho.lt g2 rfl).2 (ww _ w) r.length
 rw [List.take_length] at this
 exact this
theorem Rw.From.at4 {w:World} {g c:Nat} {r:List (Int × Int × Int × Int)} {q:Int × Int × Int × Int} (h:Rw.From EN w (some ⟨g,0,none⟩) r) (hq:r[c]?=some q):w.cell? ⟨g,c*4,none⟩=some (.int .i64 q.1)∧w.cell? ⟨g,c*4+1,none⟩=some (.int .i64 q.2.1)∧w.cell? ⟨g,c*4+2,none⟩=some (.int .i64 q.2.2.1)∧w.cell? ⟨g,c*4+3,none⟩=some (.int .i64 q.2.2.2):=by
 have hadd:∀ b i:Nat,(⟨b,0,none⟩:Addr).add i=⟨b,i,none⟩:=fun b i=>by unfold Addr.add;split <;> simp_all
 have hc:∀ (t:Nat) (u:Value),t<4→(EN.cells q)[t]?=some u→w.cell? ⟨g,c*4+t,none⟩=some u:=fun t u ht hu=>by
  obtain ⟨ad,e,hh⟩:=h (c*4+t) u ((Rw.flat_get EN r c t q hq ht).trans hu)
  have:=Option.some.inj e
  subst this
  rw [hadd] at hh
  exact hh
 exact ⟨hc 0 _ (by decide) rfl,hc 1 _ (by decide) rfl,hc 2 _ (by decide) rfl,hc 3 _ (by decide) rfl⟩
theorem Rw.gT {α:Type} {E:Rw.Enc α} {w W:World} {base:Nat} {v:Value} {xs:List α} {P:Program} {ts:TypeId} (F:Rw.Fits P E ts) (ty:TypeId) (ys:List α) (m:Nat) (hm:ys.length=m) (A:Option Addr) (c:Nat)
  (hr:Rw.From E w A ys) (hown:Rw.Own E w base v xs) (hW:Below base W w) (hB:base≤w.heap.size) (hl:xs.length+m≤100000000000) :
  ∃ v' w',(Builtin.append_ #[ts,ts] ty #[v,.slice A m c]).run P w=.ok v' w'∧Rw.Own E w' base v' (xs ++ ys)∧Below base W w':=by
 subst hm
 exact Rw.mu F ty ys A c hr hown hW hB hl
abbrev IvM:=List (List (Int × Int × Int × Int))
def M.fQ (m:IvM) (c:Nat):IvM:=m.tail.map fun r=>r.take c ++ r.drop (c+1)
theorem M.qN {m:IvM} {c i:Nat} {r:List (Int × Int × Int × Int)} (h:m[i+1]?=some r):(M.fQ m c)[i]?=some (r.take c ++ r.drop (c+1)):=by
 unfold M.fQ
 rw [List.getElem?_map,List.getElem?_tail,h]
 rfl
theorem M.nw {m:IvM} {c n:Nat} (h:m.length=n+1):(M.fQ m c).length=n:=by
 unfold M.fQ
 rw [List.length_map,List.length_tail,h]
 rfl
def uy (n:Nat) (r:List (Int × Int × Int × Int)) (c:Nat) (b2:Nat) (rows:IvM) (w0 w2:World) (x1 x5 x10 x11 x12 x13:Value) (w:World):Prop:=match n with
 | 0=>Below w0.heap.size w0 w
 | 1=>Rw.Own EN w w0.heap.size x1 []∧Below w0.heap.size w0 w
 | 2=>Rw.Own EN w w0.heap.size x5 (r.take c)∧Below w0.heap.size w0 w
 | 3=>Rw.Own EN w w0.heap.size x10 (r.take c ++ r.drop (c+1))∧Below w0.heap.size w0 w
 | 4=>∃ w3,w=w3.alloc (.cells #[x10] 100)∧x11=.slice (some ⟨w3.heap.size,0,none⟩) 1 1∧Rw.Own EN w3 w0.heap.size x10 (r.take c ++ r.drop (c+1))∧Below w0.heap.size w0 w3
 | 5=>dQ w b2 x12 (rows ++ [r.take c ++ r.drop (c+1)])∧Below b2 w2 w
 | _=>dQ w b2 x13 (rows ++ [r.take c ++ r.drop (c+1)])∧Below b2 w2 w
theorem qI (n c:Nat) (m:IvM) (v:Value) (base:Nat) (w:World) (hn:n≤2) (hml:m.length=n+2) (hmr:∀ r ∈ m,r.length=n+2) (hc:c<n+2) (hm:dQ w base v m) :
  Calls Tryz.prog 69 #[v,.int .i64 (c:Int)] w fun e w'=>∃ v',e=.returned v'∧dQ w' w.heap.size v' (M.fQ m c)∧Below w.heap.size w w':=by
 obtain ⟨vs,hm⟩:=hm
 obtain ⟨gm,capm,rfl,hcm,hcm2,hgm⟩:=hm.form (fun h=>by rw [h] at hml;simp only [List.length_nil] at hml;omega)
 rw [hml] at hm hcm ⊢
 have hmin:=ws (fun (i:Nat) (r:List (Int × Int × Int × Int)) (h:m[i+1]?=some r)=>M.qN (c:=c) h)
 have hminl:=ws (M.nw (c:=c) (n:=n+1) hml)
 obtain ⟨mm,hmm⟩:∃ x,x=M.fQ m c:=⟨_,rfl⟩
 rw [←hmm] at hmin hminl ⊢
 clear hmm
 have hml:=ws hml
 have hmr:=ws hmr
 have hm:=ws hm
 have hcap1:¬ capm=1:=by omega
 have hn1:(n:Int)≤2:=by omega
 go_enter Tryz.func69,Tryz.ntmps69
 go_wp2
 go_loopw [5,11] (fun vo vi wi=>∃ (i:Nat) (u:Value),i≤n+1∧vi=.int .i64 (i:Int)∧u=vo∧Hid (dQ wi w.heap.size u (mm.take i))∧Below w.heap.size w wi) (fun _ vi _=>n+1 - (intOf vi).toNat)
 case atStart=>exact ⟨0,_,Nat.zero_le _,rfl,rfl,ws (dQ.nil _ _),ww _ _⟩
 case round=>
 obtain ⟨i,vo,hi,rfl,rfl,hrow,Bi⟩:=hrel
 have hmi:=ws (hm.out.below Bi)
 by_cases hlt2:i<n+1
 ·obtain ⟨r,hr⟩:∃ r,m[i+1]?=some r:=⟨_,List.getElem?_eq_getElem (by have:=hml.out;omega)⟩
  have hrl:r.length=n+2:=hmr.out r (List.mem_of_getElem? hr)
  obtain ⟨gi,capi,hvi,hci,hgi⟩:=hmi.out.rowIs hr (fun h=>by rw [h] at hrl;simp only [List.length_nil] at hrl;omega)
  have kri:=hmi.out.gR hvi
  rw [Nat.add_comm i 1] at kri
  have FR:=hmi.out.rowFrom hvi hr
  rw [hrl] at kri hci
  have hcell:=hmin.out i r hr
  have F1:=ws (FR.cut c)
  have F2:=FR.pW (c+1) capi (by omega)
  have hEN:EN.k=4:=rfl
  rw [hEN] at F2
  have F2:=ws F2
  have hl1:(r.take c).length=c:=by rw [List.length_take];omega
  have hl2:(r.drop (c+1)).length=n+2 - (c+1):=by rw [List.length_drop,hrl]
  have hl1:=ws hl1
  have hl2:=ws hl2
  have hnx:=ws (M.iD hcell)
  obtain ⟨vs2,hvs2⟩:=hrow.out
  have hvs2:=ws hvs2
  have hlen:(mm.take i).length≤1000000000:=by rw [List.length_take];omega
  have hlen:=ws hlen
  clear hEN hcell FR hvi hr hrl
  have hcc:((c:Nat):Int)≤4:=by omega
  have hcc2:((c:Nat):Int)≤((n+2:Nat):Int):=by omega
  have hcc3:((c:Nat):Int)≤((capi:Nat):Int):=by omega
  have hcc4:((c:Nat):Int)+1≤((n+2:Nat):Int):=by omega
  go_upto_region 5 with fail
  refine Rg.tW (fun k v w2_=>uy k r c w.heap.size (mm.take i) wr w (v 1) (v 5) (v 10) (v 11) (v 12) (v 13) w2_) [1,5,10,11,12,13] [vo,undef,.slice (some ⟨gi,0,none⟩) (n+2) capi,.int .i64 ((c:Nat):Int),.slice (some ⟨gi,0,none⟩) c capi,undef,.slice (some ⟨gi,0,none⟩) (n+2) capi,.int .i64 ((c:Nat):Int),.int .i64 ((c:Nat)+1),.slice (if capi=c+1 then some ⟨gi,0,none⟩ else some ⟨gi,(c+1)*4,none⟩) (n+2 - (c+1)) (capi - (c+1)),undef,undef,undef,undef] (by kernel_rfl) (by kernel_rfl) (by kernel_rfl) (by decide) (fun k v v2 w h hj=>by rw [←h 1 (by decide),←h 5 (by decide),←h 10 (by decide),←h 11 (by decide),←h 12 (by decide),←h 13 (by decide)];exact hj) (fun _=>(ww _ wr).drew) ⟨?_,?_,?_,?_,?_,?_,?_,?_,?_,?_,?_,?_,?_,?_,trivial⟩ ?_
  ·unfold Rg.bK
   rw [if_neg (by decide)]
   intro ac_ w_ n_ vals_ hn_ hJ hr
   refine ⟨rfl,?_⟩
   have e5:ac_.tmps[5]?=some (vo):=hr 5 (by decide)
   go_simp
  ·unfold Rg.bK
   rw [if_pos (by decide)]
   intro ac_ w_ vals_ hJ hr
   refine ⟨rfl,?_⟩
   have hJ:Below wr.heap.size wr w_:=hJ
   refine Rg.uG (x:=.slice (some ⟨w_.heap.size,0,none⟩) 0 0) (ob:=.cells #[] 64) (by (first | (go_simp;done) | (go_simp;rfl))) ?_
   exact ⟨(Rw.Own.uH EN w_ _ hJ.size:Rw.Own EN _ wr.heap.size _ []),hJ.alloc hJ.size _⟩
  ·unfold Rg.bK
   rw [if_neg (by decide)]
   intro ac_ w_ n_ vals_ hn_ hJ hr
   refine ⟨rfl,?_⟩
   have e7:ac_.tmps[7]?=some (.slice (some ⟨gi,0,none⟩) (n+2) capi):=hr 7 (by decide)
   go_simp
  ·unfold Rg.bK
   rw [if_neg (by decide)]
   intro ac_ w_ n_ vals_ hn_ hJ hr
   refine ⟨rfl,?_⟩
   have e1:ac_.tmps[1]?=some (.int .i64 ((c:Nat):Int)):=hr 1 (by decide)
   go_simp
  ·unfold Rg.bK
   rw [if_neg (by decide)]
   intro ac_ w_ n_ vals_ hn_ hJ hr
   refine ⟨rfl,?_⟩
   have e17:ac_.tmps[17]?=some (.slice (some ⟨gi,0,none⟩) (n+2) capi):=hr 17 (by decide)
   have e18:ac_.tmps[18]?=some (.int .i64 ((c:Nat):Int)):=hr 18 (by decide)
   (first | (go_simp;done) | (go_simp;exact Rg.wr (by omega) (by omega)) | (go_simp;omega) | (go_simp;rfl))
  ·unfold Rg.bK
   rw [if_pos (by decide)]
   intro ac_ w_ vals_ hJ hr
   have e16:ac_.tmps[16]?=some (vals_ 1):=hr 16 (by decide)
   have e19:ac_.tmps[19]?=some (.slice (some ⟨gi,0,none⟩) c capi):=hr 19 (by decide)
   refine ⟨rfl,?_⟩
   obtain ⟨ho_,hb_⟩:=hJ
   have ho_:Rw.Own EN w_ wr.heap.size (vals_ 1) []:=ho_
   obtain ⟨v6,w6,q1_,q2_,q3_⟩:=Rw.gT mK (W:=wr) 100 (r.take c) c hl1.out (some ⟨gi,0,none⟩) capi (F1.out.below hb_) ho_ hb_ hb_.size (by simp only [List.length_nil];omega)
   refine Rg.oM (x:=v6) (w2:=w6) (Rg.iU rfl (Rg.ev e16) (Rg.ev e19) q1_) ?_
   exact ⟨q2_,q3_⟩
  ·unfold Rg.bK
   rw [if_neg (by decide)]
   intro ac_ w_ n_ vals_ hn_ hJ hr
   refine ⟨rfl,?_⟩
   have e7:ac_.tmps[7]?=some (.slice (some ⟨gi,0,none⟩) (n+2) capi):=hr 7 (by decide)
   go_simp
  ·unfold Rg.bK
   rw [if_neg (by decide)]
   intro ac_ w_ n_ vals_ hn_ hJ hr
   refine ⟨rfl,?_⟩
   have e1:ac_.tmps[1]?=some (.int .i64 ((c:Nat):Int)):=hr 1 (by decide)
   go_simp
  ·unfold Rg.bK
   rw [if_neg (by decide)]
   intro ac_ w_ n_ vals_ hn_ hJ hr
   refine ⟨rfl,?_⟩
   have e22:ac_.tmps[22]?=some (.int .i64 ((c:Nat):Int)):=hr 22 (by decide)
   have ec:=Rg.ec ac_
   (first | (go_simp;done) | (go_simp;exact Rg.wr (by omega) (by omega)) | (go_simp;omega) | (go_simp;rfl))
  ·unfold Rg.bK
   rw [if_neg (by decide)]
   intro ac_ w_ n_ vals_ hn_ hJ hr
   refine ⟨rfl,?_⟩
   have e21:ac_.tmps[21]?=some (.slice (some ⟨gi,0,none⟩) (n+2) capi):=hr 21 (by decide)
   have e23:ac_.tmps[23]?=some (.int .i64 ((c:Nat)+1)):=hr 23 (by decide)
   have hcN:((c:Nat):Int)+1≤((n+2:Nat):Int):=by omega
   (first | (go_simp;done) | (go_simp;exact Rg.wr (by omega) (by omega)) | (go_simp;omega) | (go_simp;rfl))
  ·unfold Rg.bK
   rw [if_pos (by decide)]
   intro ac_ w_ vals_ hJ hr
   have e20:ac_.tmps[20]?=some (vals_ 5):=hr 20 (by decide)
   have e24:ac_.tmps[24]?=some (.slice (if capi=c+1 then some ⟨gi,0,none⟩ else some ⟨gi,(c+1)*4,none⟩) (n+2 - (c+1)) (capi - (c+1))):=hr 24 (by decide)
   refine ⟨rfl,?_⟩
   obtain ⟨ho_,hb_⟩:=hJ
   have ho_:Rw.Own EN w_ wr.heap.size (vals_ 5) (r.take c):=ho_
   obtain ⟨v6,w6,q1_,q2_,q3_⟩:=Rw.gT mK (W:=wr) 100 (r.drop (c+1)) (n+2 - (c+1)) hl2.out _ (capi - (c+1)) (F2.out.below hb_) ho_ hb_ hb_.size (by rw [hl1.out];omega)
   refine Rg.oM (x:=v6) (w2:=w6) (Rg.iU rfl (Rg.ev e20) (Rg.ev e24) q1_) ?_
   exact ⟨q2_,q3_⟩
  ·unfold Rg.bK
   rw [if_pos (by decide)]
   intro ac_ w_ vals_ hJ hr
   have e25:ac_.tmps[25]?=some (vals_ 10):=hr 25 (by decide)
   refine ⟨rfl,?_⟩
   obtain ⟨ho_,hb_⟩:=hJ
   have ho_:Rw.Own EN w_ wr.heap.size (vals_ 10) _:=ho_
   refine Rg.uG (x:=.slice (some ⟨w_.heap.size,0,none⟩) 1 1) (ob:=.cells #[vals_ 10] 100) (by rcases ho_.forms with ⟨q_,-⟩ | ⟨g_,c_,q_,-⟩ <;> rw [q_] at e25 ⊢ <;> (first | (go_simp;done) | (go_simp;rfl))) ?_
   exact ⟨w_,rfl,rfl,ho_,hb_⟩
  ·unfold Rg.bK
   rw [if_pos (by decide)]
   intro ac_ w_ vals_ hJ hr
   have e15:ac_.tmps[15]?=some (vo):=hr 15 (by decide)
   have e26:ac_.tmps[26]?=some (vals_ 11):=hr 26 (by decide)
   refine ⟨rfl,?_⟩
   obtain ⟨w3,hw_,e10_,ho_,hb_⟩:=hJ
   subst hw_
   have e10_:vals_ 11=.slice (some ⟨w3.heap.size,0,none⟩) 1 1:=e10_
   have ho_:Rw.Own EN w3 wr.heap.size (vals_ 10) _:=ho_
   rw [e10_] at e26
   have hw3_:Below w.heap.size w w3:=Bi.trans (hb_.mono Bi.size)
   obtain ⟨v6,w6,q1_,q2_,q3_⟩:=jz (W:=w) (w:=w3) 83 w.heap.size (vals_ 10) _ vs2 _ _ (hvs2.out.below hb_) (ho_.down Bi.size) (hvs2.out.fresh ho_ (xA _)) hw3_ hw3_.size hlen.out
   refine Rg.oM (x:=v6) (w2:=w6) (Rg.iU rfl (Rg.ev e15) (Rg.ev e26) q1_) ?_
   exact ⟨⟨_,q2_⟩,q3_⟩
  ·unfold Rg.bK
   rw [if_pos (by decide)]
   intro ac_ w_ vals_ hJ hr
   have e27:ac_.tmps[27]?=some (vals_ 12):=hr 27 (by decide)
   refine ⟨rfl,?_⟩
   refine Rg.oM (x:=vals_ 12) (w2:=w_) (by (first | (go_simp;done) | (go_simp;rfl))) ?_
   exact hJ
  intro vals wz hJ hv
  simp only [Rg.ak,Rg.fill,Act.put,Nat.reduceAdd]
  clear hv
  obtain ⟨hM2,hB2⟩:=hJ
  have hM2:dQ wz w.heap.size (vals 13) (mm.take i ++ [r.take c ++ r.drop (c+1)]):=hM2
  rw [←hnx.out] at hM2
  have hM2:=ws hM2
  clear hnx hvs2
  go_wp2
  go_roundw
  case rel=>exact ⟨i+1,_,by omega,by go_num,rfl,hM2,hB2⟩
  case measure=>simp [intOf] <;> omega
 obtain rfl:i=n+1:=by omega
 have hM3:dQ wr w.heap.size vo mm:=by
  have h:=hrow.out
  rw [List.take_of_length_le (by rw [hminl.out];omega)] at h
  exact h
 have hM3:=ws hM3
 clear hrow hmi
 go_wp2
 go_ret
 exact ⟨_,rfl,hM3.out,Bi⟩
end
end Go.Proofs.YtgfkcoablfjbcaaGreat
