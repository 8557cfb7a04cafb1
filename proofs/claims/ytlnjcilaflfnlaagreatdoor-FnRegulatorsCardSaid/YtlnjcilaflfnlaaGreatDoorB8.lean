/-
  Joined: contracts, lemmas.
-/
import Derived.Test.YtlnjcilaflfnlaaGreatDoorB7
import Derived.Great.BuildSlice
import Derived.Laws.Tables
set_option linter.unusedSimpArgs false
set_option linter.unusedVariables false
set_option maxRecDepth 100000
set_option maxHeartbeats 8000000
namespace Go.Proofs.YtlnjcilaflfnlaaGreatDoor
open _root_.Go.Proofs.Tryz
section
open Go.RowKit Go.Shelf open Gr M Rg Rw Wh
theorem YX {p:Prop} (h:p:=by
 obtain rfl:i=N:=ω
 have hfin:=KO (xW (a:=a) (b:=b) (l:=l) hp.out (by rw [←hN.out];exact hkp.out));have QC:Hid (Below w w wr):=KO (B4.out.trans (hbr.mono z4));go_wp2;go_ret2;exact ⟨.slice A6 ks.length cap6,by rw [hfin.out.1];rfl,by rw [hfin.out.2];exact dL.2 ((dL.1 h6.out).down z4),QC.out⟩):p:=h
theorem Y6 {p:Prop} (h:p:=by
 go_wp2_with (with_reducible refine Km (PL.out _ hxc.out) fun w4 hb4=>?_;replace B:=p_ B hb4)
 go_ret2;exact ⟨.slice none 0 0,by rw [hfin.out.1];rfl,by rw [hfin.out.2];exact aF.nil _ _,B⟩):p:=h
theorem ZS {p:Prop} (h:p:=by
 unfold ck
 intro zZ w_ l_ d_ hJ LB LK Kq Kb hr;refine ⟨rfl,?_⟩;rw [if_neg δ];have e7:zZ.tmps[7]?=some (.slice A7 ps.length OJ):=hr 7 δ;go_simp):p:=h
theorem Zc {p:Prop} (h:p:=by
 rcases List.mem_append.1 hx with h | h
 ·exact HG.out.2 x (hi3 x h)
 obtain rfl:=List.mem_singleton.1 h
 exact HG.out.2 x (List.mem_of_getElem? hpi.out)):p:=h
theorem DQ {w:World} {H:Nat} (c:Int) (hH:w.heap.size=H):Rw.From EI (w.alloc (.cells #[c] 3)) (some ⟨H,0,none⟩) [c]:=Rw.From.lit EI w c H hH
theorem Fd {w:World} {H:Nat} (c:Pt) (hH:w.heap.size=H):Rw.From Lh (w.alloc (.cells #[c.1,c.2.1,c.2.2] 47)) (some ⟨H,0,none⟩) [c]:=Rw.From.lit Lh w c H hH
theorem ru:EI.t≠Lh.t:=by show (3:TypeId)≠47;decide
theorem rX:Lh.t≠EI.t:=fun h=>ru h.symm
theorem Il {W w4:World} {base Oh:Nat} {v7 v8:Value} {cs:List Pt} {ss:List Int} (h8:aF W base v8 ss) (h7:Rw.Own Lh W Oh v7 cs) (hg:W.grownBy w4 v7.ownBlock):aF w4 base v8 ss:=
 dL.2 (Rw.Own.kept (dL.1 h8) hg fun g hg'=>gL (dL.1 h8) h7 ru g hg')
theorem Di {W w4:World} {base Oh:Nat} {v7 v8:Value} {cs:List Pt} {ss:List Int} (h7:Rw.Own Lh W Oh v7 cs) (h8:aF W base v8 ss) (hg:W.grownBy w4 v8.ownBlock):Rw.Own Lh w4 Oh v7 cs:=
 Rw.Own.kept h7 hg fun g hg'=>gL h7 (dL.1 h8) rX g hg'
theorem jV (a b:Int) (v:Value) (l:List Pt) (w:World) (hx:dC w v l) (hn:l.length<=4000000) :
  Calls prog 13 #[.agg #[a,b],v] w fun e w'=>∃ v',e=.returned (.tuple #[v',td a b l])/\aF w' w v' (M.Qt a b l)/\Below w w w':=by
 obtain ⟨sa,cap,rfl,hv⟩:=hx
 have hx:dC w (.slice sa l.length cap) l:=⟨sa,cap,rfl,hv⟩
 have PL:=fun W h=>er a b (.slice sa l.length cap) l W h hn
 replace hx:=KO hx;obtain ⟨wc,hw3,C,B⟩:=cJ w #[a,b] 24;have hxc:=KO (hx.out.below B);have f_:=C.box.c0;have j_:=C.box.c1
 cases hp:ai a b l with
 | false=>
  rw [hp] at PL;have hfin:=KO (Dk hp);replace PL:=KO PL;clear hp;go_enter func13,ntmps13
  exact Y6
 | true=>
 rw [hp] at PL;replace PL:=KO PL;obtain ⟨hgd,hl1,hl4,hpt⟩:=aX hp
 obtain ⟨g,o_,rfl,hpa⟩:∃ g o_,sa=some ⟨g,o_,none⟩/\nG w g o_ l:=by
  rcases hv with h | h
  ·rw [h] at hl1;simp at hl1
  exact h
 have HP:=KO (hpa.below B);have HG:=KO (And.intro hgd hpt);have hp:=KO hp;clear hpa hv hgd hpt
 obtain ⟨N,hN⟩:∃ N,N=l.length:=⟨_,rfl⟩
 rw [←hN] at PL hxc hx hl1 hl4 ⊢;replace hN:=KO hN;go_enter func13,ntmps13
 go_wp2_with (with_reducible refine Km (PL.out _ hxc.out) fun w4 hb4=>?_;replace ⟨B,C⟩:=Kt hb4 B C;replace HP:=KO (HP.out.below hb4);clear hxc f_ j_ PL)
 have B4:=KO B;have z4:=B.size
 go_loopw [6,7,18] (fun v6 v7 vi wr=>∃ (i:Nat) (ks:List Int) (ps:List Pt),vi=.int .i64 i/\i<=N/\Hid (jW a b l i=some (ks,ps))/\Hid (aF wr w4 v6 ks)/\Hid (Rw.Own Lh wr w4 v7 ps)/\Below w4 w4 wr) (fun _ _ vi _=>N - (intOf vi).toNat)
 case atStart=>exact ⟨0,[],[],rfl,ω,KO rfl,KO (aF.nil _ _),KO (Rw.Own.nil _ _ _),KS _ _⟩
 case round=>
 obtain ⟨i,ks,ps,rfl,hi,hkp,h6,h7,hbr⟩:=hrel;have zr:=hbr.size
 obtain ⟨A7,OJ,rfl,-⟩:=h7.out.seen.pts.from'
 obtain ⟨A6,cap6,rfl⟩:=h6.out.ve
 by_cases hlt:i<N
 ·obtain ⟨p,hpi⟩:∃ p,Hid (l[i]?=some p):=⟨_,KO (List.getElem?_eq_getElem (by have:=hN.out;omega))⟩
  obtain ⟨d0,d1,d2⟩:=HP.out.below hbr i p hpi.out;have hnx:=KO (nd hkp.out hpi.out);obtain ⟨hi1,hi2,hi3⟩:=mW (by have:=hN.out;omega) hkp.out;replace hi1:ks.length=ps.length:=hi1;replace hi2:ps.length<=i:=hi2
  have hkl:ks.length<=4:=ω
  have hpl:ps.length<=4:=ω
  have hlen:(ps ++ [p]).length<=4:=by rw [List.length_append,List.length_singleton];omega
  have CL:=KO (fun v w (h:dC w v ps)=>xJ ps v w h ω)
  have RG:=fun v w (h:dC w v (ps ++ [p]))=>kP a b v (ps ++ [p]) w h HG.out.1 (by rw [List.length_append,List.length_singleton];omega) hlen (fun x hx=>by
   exact Zc)
  have hno:=fun h=>nc (a:=a) (b:=b) (s:=(ks,ps)) (i:=i) (p:=p) h
  have hyes:=fun q h=>lh (a:=a) (b:=b) (s:=(ks,ps)) (i:=i) (p:=p) (q:=q) h
  simp only [] at hno hyes;generalize fi a b (ps ++ [p])=rs,kA a b (ks,ps) i p=st at *;have hsome:Hid (rs=if rs.isSome then some (M.Kd rs,M.Kj rs) else none):=KO (by cases rs <;> rfl);replace hno:=KO hno;replace hyes:=KO hyes;generalize M.Kj rs=hh,M.Kd rs=lo,rs.isSome=fl at *;replace RG:=KO RG;clear hi1 hi2 hi3;obtain ⟨wp,hwp,Pv,Bp⟩:=cJ wr #[p.1,p.2.1,p.2.2] 47;have Cp:=(C.keep hbr).keep Bp;have Wf:=KO (h6.out.below Bp);have TQ:=KO (h7.out.below Bp);have hwp':=KO hwp;have zp:=Bp.size
  go_upto_region 8 with fail
  refine FA (fun l v w=>Mk wp ps p 72 (.tuple #[.agg #[lo,hh],fl]) #[(0:Int),(0:Int)] #[lo,hh] l v w) [2,4,5,6,10,11] [.agg #[a,b],.slice A7 ps.length OJ,undef,.agg #[p.1,p.2.1,p.2.2],undef,undef,undef,.tuple #[.agg #[lo,hh],fl],.agg #[lo,hh],.bool fl,undef,undef,.bool fl] κ κ δ (fun l l2 v v2 w h j=>Mk.congr h j) (fun _=>Mk.start) ⟨?_,?_,?_,?_,?_,?_,?_,?_,?_,?_,?_,?_,?_,trivial⟩ ?_
  ·unfold ck
   intro zZ w_ l_ d_ hJ LB LK Kq Kb hr;refine ⟨rfl,?_⟩;rw [if_neg δ];have e2:zZ.tmps[2]?=some (.pointer (some ⟨w,0,none⟩)):=hr 2 δ;have hC_:=Cp.keep hJ.B;have k0:=hC_.box.c0;have k1:=hC_.box.c1
   exact Lo
  ·exact ZS
  ·unfold ck
   intro zZ w_ l_ d_ hJ LB LK Kq Kb hr;have e25:zZ.tmps[25]?=some (.slice A7 ps.length OJ):=hr 25 δ
   have ef:∀ f,zZ.eval (.func f)=.func (.func f) #[] #[]:=fun _=>rfl
   refine ⟨rfl,?_⟩;rw [if_pos δ];refine jk τ ?_;refine (CL.out _ _ (TQ.out.below hJ.B).seen.pts).mono ?_;rintro e Ox ⟨u_,rfl,ME,Ka⟩;exact ⟨u_,rfl,hJ.clone Ka ME⟩
  ·unfold ck
   intro zZ w_ l_ d_ hJ LB LK Kq Kb hr;refine ⟨rfl,?_⟩;rw [if_neg δ];have e9:zZ.tmps[9]?=some (.pointer (some ⟨wr,0,none⟩)):=hr 9 δ;have hP_:=Pv.keep hJ.B;have ⟨k0,k1,k2⟩:=hP_.aM
   exact Lo
  ·unfold ck
   intro zZ w_ l_ d_ hJ LB LK Kq Kb hr;have e27:zZ.tmps[27]?=some (.agg #[p.1,p.2.1,p.2.2]):=hr 27 δ;refine ⟨rfl,?_⟩;rw [if_pos δ];refine rP (x:=.slice (some ⟨w_,0,none⟩) 1 1) (ob:=.cells #[p.1,p.2.1,p.2.2] 47) Lo ?_;exact hJ.lit
  ·unfold ck
   intro zZ w_ l_ d_ hJ LB LK Kq Kb hr;have e26:zZ.tmps[26]?=some (d_ 2):=hr 26 δ;have e28:zZ.tmps[28]?=some (d_ 4):=hr 28 δ;refine ⟨rfl,?_⟩;rw [if_pos δ]
   have l11_:l_ 11=false:=by
    cases q:l_ 11
    ·rfl
    have:=LK 6 κ;rw [Kb 6 7 κ (Kb 7 8 κ (Kb 8 11 κ q))] at this;cases this
   obtain ⟨H_,VQ,Wo,Ww⟩:=hJ.t (Kq 4 κ) LB;rw [VQ] at e28;have Tc:=hJ.c (Kq 2 κ) LB;obtain ⟨v_,Ox,PJ,PZ,Pw,-⟩:=oJ qO 25 [p] ⟨H_,0,none⟩ 1 Ww Tc hJ.B.size (by simp only [List.length_singleton];omega);refine gJ (x:=v_) (w2:=Ox) (ie rfl (Rg.ev e26) (Rg.ev e28) PJ) ?_;exact hJ.app yF (Kq 2 κ) LB (LK 6 κ) l11_ Pw PZ
  ·unfold ck
   intro zZ w_ l_ d_ hJ LB LK Kq Kb hr;have e24:zZ.tmps[24]?=some (.agg #[a,b]):=hr 24 δ;have e29:zZ.tmps[29]?=some (d_ 5):=hr 29 δ
   have ef:∀ f,zZ.eval (.func f)=.func (.func f) #[] #[]:=fun _=>rfl
   refine ⟨rfl,?_⟩;rw [if_pos δ];refine jk τ ?_;refine (RG.out _ _ (hJ.a (Kq 5 κ) LB).seen.pts).mono ?_;rintro e Ox ⟨rfl,Ka⟩;exact ⟨_,rfl,hJ.res Ka⟩
  ·unfold ck
   intro zZ w_ l_ d_ hJ LB LK Kq Kb hr;refine ⟨rfl,?_⟩;rw [if_neg δ];have e30:zZ.tmps[30]?=some (d_ 6):=hr 30 δ;have e6_:d_ 6=.tuple #[.agg #[lo,hh],fl]:=hJ.r (Kq 6 κ);rw [e6_] at e30
   exact Lo
  ·unfold ck
   intro zZ w_ l_ d_ hJ LB LK Kq Kb hr;refine ⟨rfl,?_⟩;rw [if_neg δ];have e23:zZ.tmps[23]?=some (.tuple #[.agg #[lo,hh],fl]):=hr 23 δ
   exact Lo
  ·unfold ck
   intro zZ w_ l_ d_ hJ LB LK Kq Kb hr;refine ⟨rfl,?_⟩;rw [if_neg δ];have e23:zZ.tmps[23]?=some (.tuple #[.agg #[lo,hh],fl]):=hr 23 δ
   exact Lo
  ·unfold ck
   intro zZ w_ l_ d_ hJ LB LK Kq Kb hr;refine ⟨rfl,?_⟩;rw [if_pos δ];refine rP (x:=.pointer (some ⟨w_,0,none⟩)) (ob:=.cells #[(0:Int),(0:Int)] 72) Lo ?_;exact hJ.var (LK 11 κ)
  ·unfold ck
   intro zZ w_ l_ d_ hJ LB LK Kq Kb hr;have e10:zZ.tmps[10]?=some (d_ 10):=hr 10 δ;have e31:zZ.tmps[31]?=some (.agg #[lo,hh]):=hr 31 δ;refine ⟨rfl,?_⟩;rw [if_pos δ];obtain ⟨H_,VQ,Wo,O4⟩:=hJ.n (Kq 10 κ) LB;rw [VQ] at e10;have l7_:l_ 7=true:=Kb 7 8 κ (Kq 8 κ);have l6_:=Kb 6 7 κ l7_;have UG:=Kb 5 6 κ l6_
   have hp_:=fun u=>hJ.put (u:=u) (Kb 2 5 κ UG) (Kb 4 5 κ UG) UG l6_ VQ Wo (O4.set2 (.int .i64 lo) (.int .i64 hh)) (KR (KR hJ.B Wo _) Wo _)
   have ⟨y0,y1,y2,y3,y4⟩:=O4.box;clear O4 hJ;unfold Oper.wp;go_simp
   all_goals first | exact ⟨undef,hp_ _⟩ | exact ⟨_,rfl,hp_ _⟩ | exact hp_ _
  ·unfold ck
   intro zZ w_ l_ d_ hJ LB LK Kq Kb hr;refine ⟨rfl,?_⟩;rw [if_neg δ];have e32:zZ.tmps[32]?=some (.bool fl):=hr 32 δ
   exact Lo
  intro vals wz hJ hv;have L6:vals 12=.bool fl:=hv 12 δ δ;simp only [bD,Rg.fill,Act.put,Nat.reduceAdd];clear hv;simp only [L6];clear L6;have Bz:=hJ.B;obtain ⟨H,e10,hH,V⟩:=hJ.s rfl;rw [e10];have Bw:Below w4 w4 wz:=(hbr.trans (Bp.mono zr)).trans (Bz.mono (Nat.le_trans zr zp));have QC:Hid (Below w w wz):=KO (B4.out.trans (Bw.mono z4));have Pz:=Pv.keep Bz;have SO:=Wf.out.below Bz;have h7z:=TQ.out.below Bz;have zz:=Bz.size;have zw:=Bw.size;have ⟨y0,y1,y2,y3,y4⟩:=V.box;clear hJ e10 Bz Cp CL RG d0 d1 d2 Wf TQ
  cases fl with
  | false=>
   have hst:st=none:=hno.out (by rw [hsome.out];rfl);have hfin:=KO (tf (a:=a) (b:=b) (l:=l) (by rw [←hN.out];exact nf (hnx.out.trans hst) N ω));go_wp2;go_ret2;exact ⟨.slice none 0 0,by rw [hfin.out.1];rfl,by rw [hfin.out.2];exact aF.nil _ _,QC.out⟩
  | true=>
  have hst:=hyes.out (lo,hh) (by rw [hsome.out];rfl);simp only [] at hst
  by_cases hpos:0<lo
  ·rw [if_pos hpos] at hst
   have hd:decide (lo > 0)=true:=decide_eq_true hpos;clear hsome hno hyes hwp' hlen
   go_wp2_with (first
    | (at_builtin;refine sZ HQ w4.heap.size [(i:Int)] ks _ ⟨_,0,none⟩ 1 1 (by rfl) (by rfl) (.tmp 38) (.tmp 40) (by rfl) (by rfl) (by rfl) (DQ (i:Int) σ) ((dL.1 SO).alloc _) (by simp;omega) (by simp;omega) ?_;intro v5 w5 hown5 hg5 hbl5;have Wg:=Di (h7z.alloc _) (aF.alloc SO _) hg5;have Py:=aG.DS (Pz.alloc _) ((dL.1 SO).alloc _) hg5 rX;(have ⟨y5,y6,y7⟩:=Py.aM);(have hb5:Below w4 w4 w5:=(bF Bw (.cells #[.int .i64 (i:Int)] 3)).grown hg5 (by simp;omega) (fun k hk=>(SO.lt k hk).1));have z5:=hb5.size;have h6y:=hown5)
    | (at_builtin;refine sZ qO w4.heap.size [p] ps _ ⟨_,0,none⟩ 1 1 (by rfl) (by rfl) (.tmp 42) (.tmp 44) (by rfl) (by rfl) (by rfl) (Fd p σ) (Wg.alloc _) (by simp;omega) (by simp;omega) ?_;intro v6 w6 hown6 Mu RP;have h6x:=Il (aF.alloc (dL.2 h6y) _) (Wg.alloc _) Mu;(have hb6:Below w4 w4 w6:=(bF hb5 (.cells #[p.1,p.2.1,p.2.2] 47)).grown Mu (by simp;omega) (fun k hk=>(Wg.lt k hk).1))))
   go_roundw
   case rel=>exact ⟨i+1,ks ++ [(i:Int)],ps ++ [p],ν,ω,KO (hnx.out.trans hst),KO h6x,KO hown6,hb6⟩
   case measure=>simp [intOf];omega
  rw [if_neg hpos] at hst;have hd:decide (lo > 0)=false:=decide_eq_false hpos;go_wp2
  go_roundw
  case rel=>exact ⟨i+1,ks,ps,ν,ω,KO (hnx.out.trans hst),KO SO,KO h7z,Bw⟩
  case measure=>simp [intOf];omega
 exact YX
end
section
open Go Go.RowKit open Gr M Rg
theorem U6 {p:Prop} (h:p:=by intro s' v h q;cases s' <;> first | exact q | exact trivial | cases h):p:=h
namespace Dw
inductive S1 where
 | any | i | b | c | z
 | n (lo hi:Nat)
 | k (t:Bool)
 | f (m:Nat)
 | p (own:Bool) (m:Nat)
 | s (m lo hi:Nat)
 | o (e m lo hi:Nat)
 | t2 (x y:S1)
 | t3 (x y u:S1)
def L4 (u:Value):Prop:=∃ x,u=.int .i64 x
def IB (g:Nat) (w:World) (b T M:Nat):Prop:=b≠g/\∃ xs:Array Value,w.heap[b]?=some (.cells xs T (0,0))/\xs.size=M/\∀ u ∈ xs.toList,L4 u
def Mon (g:Nat) (w w':World):Prop:=∀ b T M,IB g w b T M->IB g w' b T M
def ok (g z:Nat) (w:World):S1->Value->Prop
 | .any,_=>True
 | .i,v=>L4 v
 | .b,v=>∃ t,v=.bool t
 | .c,v=>v=.pointer (some ⟨g,0,none⟩)
 | .z,v=>v=.slice none 0 0
 | .n lo hi,v=>∃ x:Nat,v=.int .i64 x/\lo<=x/\x<=hi
 | .k t,v=>v=.bool t
 | .f m,v=>∃ xs:Array Value,v=.agg xs/\xs.size=m/\∀ u ∈ xs.toList,L4 u
 | .p o m,v=>∃ b off T M,v=.pointer (some ⟨b,off,none⟩)/\IB g w b T M/\off+m<=M/\(o=true->z<=b)
 | .s m lo hi,v=>∃ A len cap,v=.slice A len cap/\(lo<=len/\len<=hi/\len<=cap)/\(len=0∨∃ b off T M,A=some ⟨b,off,none⟩/\IB g w b T M/\off+len*m<=M)
 | .o e m lo hi,v=>∃ A len cap,v=.slice A len cap/\(lo<=len/\len<=hi/\len<=cap)/\(A=none/\cap=0∨∃ b,A=some ⟨b,0,none⟩/\z<=b/\cap<=maxLen/\IB g w b e (cap*m))
 | .t2 x y,v=>∃ a b,v=.tuple #[a,b]/\ok g z w x a/\ok g z w y b
 | .t3 x y u,v=>∃ a b c,v=.tuple #[a,b,c]/\ok g z w x a/\ok g z w y b/\ok g z w u c
theorem jG {g z:Nat} {w w':World} (h:Mon g w w'):∀ (s:S1) (v:Value),ok g z w s v->ok g z w' s v
 | .any,_,q | .i,_,q | .b,_,q | .c,_,q | .z,_,q | .n _ _,_,q | .k _,_,q | .f _,_,q=>q
 | .p _ _,_,⟨b,off,T,M,e,h1,h2⟩=>⟨b,off,T,M,e,h _ _ _ h1,h2⟩
 | .s _ _ _,_,⟨A,l,c,e,h1,h2⟩=>⟨A,l,c,e,h1,h2.imp id fun ⟨b,off,T,M,e,h1,h2⟩=>⟨b,off,T,M,e,h _ _ _ h1,h2⟩⟩
 | .o _ _ _ _,_,⟨A,l,c,e,h1,h2⟩=>⟨A,l,c,e,h1,h2.imp id fun ⟨b,e,h0,h1,h2⟩=>⟨b,e,h0,h1,h _ _ _ h2⟩⟩
 | .t2 x y,_,⟨a,b,e,h1,h2⟩=>⟨a,b,e,jG h x a h1,jG h y b h2⟩
 | .t3 x y u,_,⟨a,b,c,e,h1,h2,h3⟩=>⟨a,b,c,e,jG h x a h1,jG h y b h2,jG h u c h3⟩
theorem kr {g z z':Nat} {w:World} (h:z'<=z):∀ (s:S1) (v:Value),ok g z w s v->ok g z' w s v
 | .any,_,q | .i,_,q | .b,_,q | .c,_,q | .z,_,q | .n _ _,_,q | .k _,_,q | .f _,_,q | .s _ _ _,_,q=>q
 | .p _ _,_,⟨b,off,T,M,e,h1,h2,h3⟩=>⟨b,off,T,M,e,h1,h2,fun k=>Nat.le_trans h (h3 k)⟩
 | .o _ _ _ _,_,⟨A,l,c,e,h1,h2⟩=>⟨A,l,c,e,h1,h2.imp id fun ⟨b,e,h0,h1⟩=>⟨b,e,Nat.le_trans h h0,h1⟩⟩
 | .t2 x y,_,⟨a,b,e,h1,h2⟩=>⟨a,b,e,kr h x a h1,kr h y b h2⟩
 | .t3 x y u,_,⟨a,b,c,e,h1,h2,h3⟩=>⟨a,b,c,e,kr h x a h1,kr h y b h2,kr h u c h3⟩
def le:S1->S1->Bool
 | _,.any=>true
 | .i,.i | .b,.b | .c,.c | .z,.z | .n _ _,.i | .k _,.b=>true
 | .n a b,.n c d=>Nat.ble c a && Nat.ble b d
 | .k a,.k b=>a == b
 | .f a,.f b=>Nat.beq a b
 | .p a x,.p b y=>(!b || a) && Nat.ble y x
 | .s m a b,.s k c d=>Nat.beq m k && (Nat.ble c a && Nat.ble b d)
 | .o _ m a b,.s k c d=>Nat.beq m k && (Nat.ble c a && Nat.ble b d)
 | .o e m a b,.o f k c d=>Nat.beq e f && (Nat.beq m k && (Nat.ble c a && Nat.ble b d))
 | .z,.s _ c _=>Nat.beq c 0
 | .z,.o _ _ c _=>Nat.beq c 0
 | .t2 a d,.t2 e g=>le a e && le d g
 | .t3 a d x,.t3 e g y=>le a e && (le d g && le x y)
 | _,_=>false
theorem le_refl (s:S1):le s s=true:=by induction s <;> simp_all [le,Nat.beq_refl]
theorem kB {g z:Nat} {w:World}:∀ (s s':S1) (v:Value),le s s'=true->ok g z w s v->ok g z w s' v:=by
 intro s
 induction s with
 | any=>intro s' v h q;cases s' <;> first | exact trivial | cases h
 | i=>exact U6
 | b=>exact U6
 | c=>exact U6
 | z=>
  intro s' v h q
  cases s' with
  | any=>trivial
  | z=>exact q
  | s m a b=>
   have:a=0:=Nat.eq_of_beq_eq_true h;exact ⟨none,0,0,q,⟨ω,Nat.zero_le _,KT _⟩,.inl rfl⟩
  | o e m a b=>
   have:a=0:=Nat.eq_of_beq_eq_true h;exact ⟨none,0,0,q,⟨ω,Nat.zero_le _,KT _⟩,.inl ⟨rfl,rfl⟩⟩
  | _=>cases h
 | n lo hi=>
  intro s' v h q
  cases s' with
  | any=>trivial
  | i=>obtain ⟨x,e,-⟩:=q;exact ⟨_,e⟩
  | n a b=>
   simp only [le,Bool.and_eq_true,Nat.ble_eq] at h;obtain ⟨x,e,h1,h2⟩:=q;exact ⟨x,e,ω,ω⟩
  | _=>cases h
 | k t=>
  intro s' v h q
  cases s' with
  | any=>trivial
  | b=>exact ⟨t,q⟩
  | k t'=>simp only [le,beq_iff_eq] at h;subst h;exact q
  | _=>cases h
 | f m=>
  intro s' v h q
  cases s' with
  | any=>trivial
  | f k=>have:m=k:=Nat.eq_of_beq_eq_true h;subst this;exact q
  | _=>cases h
 | p o m=>
  intro s' v h q
  cases s' with
  | any=>trivial
  | p o' k=>
   simp only [le,Bool.and_eq_true,Nat.ble_eq] at h;obtain ⟨b,off,T,M,e,h1,h2,h3⟩:=q;refine ⟨b,off,T,M,e,h1,ω,fun k=>h3 ?_⟩;have h4:=h.1;rw [k] at h4
   simpa using h4
  | _=>cases h
 | s m lo hi=>
  intro s' v h q
  cases s' with
  | any=>trivial
  | s k a b=>
   simp only [le,Bool.and_eq_true,Nat.ble_eq] at h;have:m=k:=Nat.eq_of_beq_eq_true h.1;subst this;obtain ⟨A,l,c,e,h1,h2⟩:=q;exact ⟨A,l,c,e,ω,h2⟩
  | _=>cases h
 | o e m lo hi=>
  intro s' v h q
  cases s' with
  | any=>trivial
  | s k a b=>
   simp only [le,Bool.and_eq_true,Nat.ble_eq] at h;have:m=k:=Nat.eq_of_beq_eq_true h.1;subst this;obtain ⟨A,l,c,e,h1,h2⟩:=q;refine ⟨A,l,c,e,ω,?_⟩
   rcases h2 with ⟨h2,h3⟩ | ⟨b,h2,h3,h4,h5⟩
   ·exact .inl ω
   exact .inr ⟨b,0,_,_,h2,h5,by rw [Nat.zero_add];exact Nat.mul_le_mul_right m h1.2.2⟩
  | o e' k a b=>
   simp only [le,Bool.and_eq_true,Nat.ble_eq] at h;have h1:e=e':=Nat.eq_of_beq_eq_true h.1;have h2:m=k:=Nat.eq_of_beq_eq_true h.2.1;subst h1 h2;obtain ⟨A,l,c,e,h1,h2⟩:=q;exact ⟨A,l,c,e,ω,h2⟩
  | _=>cases h
 | t2 x y ix iy=>
  intro s' v h q
  cases s' with
  | any=>trivial
  | t2 x' y'=>
   simp only [le,Bool.and_eq_true] at h;obtain ⟨a,b,e,h1,h2⟩:=q;exact ⟨a,b,e,ix _ _ h.1 h1,iy _ _ h.2 h2⟩
  | _=>cases h
 | t3 x y u ix iy iu=>
 intro s' v h q
 cases s' with
 | any=>trivial
 | t3 x' y' u'=>
  simp only [le,Bool.and_eq_true] at h;obtain ⟨a,b,c,e,h1,h2,h3⟩:=q;exact ⟨a,b,c,e,ix _ _ h.1 h1,iy _ _ h.2.1 h2,iu _ _ h.2.2 h3⟩
 | _=>cases h
theorem Mon.refl (g:Nat) (w:World):Mon g w w:=fun _ _ _ h=>h
theorem Mon.trans {g:Nat} {a b c:World} (h:Mon g a b) (k:Mon g b c):Mon g a c:=fun _ _ _ q=>k _ _ _ (h _ _ _ q)
theorem IB.lt {g b T M:Nat} {w:World} (h:IB g w b T M):b<w.heap.size:=by
 obtain ⟨-,xs,h,-⟩:=h;exact (Array.getElem?_eq_some_iff.1 h).1
theorem Mon.grown {g:Nat} {w w':World} (h:w.grownBy w' (some g)):Mon g w w':=fun b T M q=>by
 have hl:=q.lt;obtain ⟨hn,xs,h1,h2⟩:=q;exact ⟨hn,xs,(h.block b hl (by simpa using hn)).trans h1,h2⟩
theorem Mon.alloc (g:Nat) (w:World) (o:Obj):Mon g w (w.alloc o):=.grown (w.grownBy_alloc o _)
theorem Mon.row {g b T M:Nat} {w:World} (h:IB g w b T M) {ys:Array Value} (hs:ys.size=M) (hi:∀ u ∈ ys.toList,L4 u):Mon g w (w.setRow b ys):=fun b' T' M' q=>by
 obtain ⟨hn,xs,h1,h2,h3⟩:=h;obtain ⟨hn',xs',h1',h2',h3'⟩:=q
 by_cases e:b'=b
 ·subst e
  rw [h1] at h1'
  injection h1' with h1'
  injection h1' with e1 e2 e3
  subst e1 e2;exact ⟨hn,ys,setRow_heap w b' xs ys T _ h1,ω,hi⟩
 exact ⟨hn',xs',(setRow_other w b b' ys e).trans h1',h2',h3'⟩
structure Wd (w0:World) (g B n:Nat) (v:Value) (K:Nat) (w:World):Prop where
 cur:dh w g B v n K
 gr:w0.grownBy w (some g)
 lt:B<=w0.heap.size
theorem Wd.up {w0 w:World} {g B n K K':Nat} {v:Value} (h:Wd w0 g B n v K w) (hK:K<=K'):Wd w0 g B n v K' w:=⟨h.cur.mono hK,h.gr,h.lt⟩
theorem Wd.call {w0 w w':World} {g B n K K':Nat} {v:Value} (h:Wd w0 g B n v K w) (hc:dh w' g B v n K') (hg:w.grownBy w' (some g)):Wd w0 g B n v K' w':=⟨hc,h.gr.trans hg,h.lt⟩
theorem Wd.below {w0 w w':World} {g B n K:Nat} {v:Value} (h:Wd w0 g B n v K w) (hb:Below w w w'):Wd w0 g B n v K w':=h.call (h.cur.keep hb) (bT hb _)
theorem Wd.alloc {w0 w:World} {g B n K:Nat} {v:Value} (h:Wd w0 g B n v K w) (o:Obj):Wd w0 g B n v K (w.alloc o):=h.below (((KS _ _).alloc (KT _) o))
theorem Wd.drew {w0 w:World} {g B n K:Nat} {v:Value} (h:Wd w0 g B n v K w):Wd w0 g B n v K w.drew:=h.below (KS _ _).drew
theorem Wd.row {w0 w:World} {g B n K b T M:Nat} {v:Value} (h:Wd w0 g B n v K w) (q:IB g w b T M) (hz:w0.heap.size<=b) (ys:Array Value):Wd w0 g B n v K (w.setRow b ys):=by
 obtain ⟨hn,xs,h1,-⟩:=q;have hl:=h.lt
 have hg:w.grownBy (w.setRow b ys) (some b):=⟨rfl,rfl,rfl,by simp [World.setRow],fun k _ hk=>setRow_other w b k ys (by simpa using hk)⟩
 refine ⟨h.cur.keepR hg (Ne.symm hn) ω,⟨hg.os.trans h.gr.os,hg.tape.trans h.gr.tape,hg.output.trans h.gr.output,Nat.le_trans h.gr.size hg.size,fun k hk hne=>?_⟩,hl⟩;exact (hg.block k (Nat.lt_of_lt_of_le hk h.gr.size) (by intro e;injection e with e;omega)).trans (h.gr.block k hk hne)
end Dw
end
section
open Go Go.RowKit open Dw Gr M Rg
namespace Dw
def dY (P:Program) (t m:Nat):Prop:=∃ i z,P.info? t=some i/\i.zero=some z/\i.size=m/\i.bytes<=1000/\0<m/\z.cells=Array.replicate m (.int .i64 0)/\
 ((m=1/\∃ q,P.underlying t=some (.int q))∨∃ fs,P.underlying t=some (.struct fs)/\2<=m/\fs.size=m/\∀ (j:Nat) f,fs[j]?=some f->f.offset=j/\∃ i',P.info? f.type=some i'/\i'.size=1)
def fv (m:Nat):S1:=bif Nat.beq m 1 then .i else .f m
theorem L4.one {u:Value} (h:L4 u):u.oneCell'=true:=by obtain ⟨x,rfl⟩:=h;rfl
theorem L4.cells {u:Value} (h:L4 u):u.cells=#[u]:=by obtain ⟨x,rfl⟩:=h;rfl
theorem vL {g z m:Nat} {w:World} {v:Value} (h:ok g z w (fv m) v):v.cells.size=m/\∀ u ∈ v.cells.toList,L4 u:=by
 unfold fv at h
 cases e:Nat.beq m 1 with
 | true=>
  rw [e] at h;have h:L4 v:=h;have:=Nat.eq_of_beq_eq_true e;rw [h.cells];refine ⟨by rw [this];rfl,fun u hu=>?_⟩;simp only [List.mem_singleton] at hu;subst hu;exact h
 | false=>
 rw [e] at h;obtain ⟨xs,rfl,h1,h2⟩:=h;exact ⟨h1,h2⟩
variable {P:Program} {g z t m:Nat} {w:World}
theorem He {u:Value} {m:Nat} (h:u ∈ (Array.replicate m (Value.int .i64 0)).toList):L4 u:=by
 rw [Array.toList_replicate] at h;exact ⟨0,(List.mem_replicate.1 h).2⟩
theorem BW (hT:dY P t m) (hg:g≠w.heap.size) (hz:z<=w.heap.size):∃ v w',(Instr.alloc t true (.tuple #[])).run P w=.ok v w'/\(∃ o,w'=w.alloc o)/\ok g z w' (.p true m) v:=by
 obtain ⟨i,y,h1,h2,h3,-,-,h4,-⟩:=hT;refine ⟨.pointer (some ⟨w,0,none⟩),w.alloc (.cells y.cells t),?_,⟨_,rfl⟩,w,0,t,m,rfl,⟨Ne.symm hg,y.cells,heap_alloc_new w _,by rw [h4];simp,fun u hu=>He (h4 ▸ hu)⟩,ω,fun _=>hz⟩;simp [Instr.alloc,zeroValue,typeInfo,h1,h2,newVar,newRow]
theorem IB.part {b T M off n:Nat} (h:IB g w b T M) (hl:off+n<=M):∃ cs:List Value,cs.length=n/\(∀ u ∈ cs,L4 u)/\∀ j v,cs[j]?=some v->w.cell? ((⟨b,off,none⟩:Addr).add j)=some v:=by
 obtain ⟨-,xs,h1,h2,h3⟩:=h;refine ⟨(xs.toList.drop off).take n,by simp;omega,fun u hu=>h3 u (List.mem_of_mem_drop (List.mem_of_mem_take hu)),fun j v hj=>?_⟩;rw [show (⟨b,off,none⟩:Addr).add j=⟨b,off+j,none⟩ by unfold Addr.add;split <;> simp_all,cell_of_row _ _ _ xs T (0,0) h1];rw [List.getElem?_take] at hj
 split at hj
 ·rw [List.getElem?_drop] at hj
  simpa using hj
 cases hj
theorem wL {o:Bool} {k:Nat} {v:Value} (hT:dY P t m) (h:ok g z w (.p o k) v) (hk:m<=k):∃ u,(Instr.loadAt t v).run P w=.ok u w/\ok g z w (fv m) u:=by
 obtain ⟨i,y,h1,-,h3,-,-,-,h4⟩:=hT;obtain ⟨b,off,T,M,rfl,hb,hl,-⟩:=h;obtain ⟨cs,c1,c2,c3⟩:=hb.part (n:=m) (show off+m<=M by omega)
 rcases h4 with ⟨rfl,q,hu⟩ | ⟨fs,hu,hm,-⟩
 ·obtain ⟨c,rfl⟩:∃ c,cs=[c]:=List.length_eq_one_iff.1 c1
  refine ⟨c,?_,c2 c σ⟩;have:=c3 0 c rfl;rw [show (⟨b,off,none⟩:Addr).add 0=⟨b,off,none⟩ from rfl] at this;simp [Instr.loadAt,Instr.sureAddr,loadVar,isAgg,run_underlying hu,this]
 refine ⟨.agg cs.toArray,?_,?_⟩
 ·have:=run_loadCells_list (P:=P) w ⟨b,off,none⟩ cs c3
  simp [Instr.loadAt,Instr.sureAddr,loadVar,isAgg,run_underlying hu,sizeOf,typeInfo,h1,h3,←c1,this]
 unfold fv
 have e:Nat.beq m 1=false:=by rw [Bool.eq_false_iff];intro e;have:=Nat.eq_of_beq_eq_true e;omega
 rw [e];exact ⟨cs.toArray,rfl,by simp [c1],fun u hu=>c2 u (by simpa using hu)⟩
theorem Bb {k K B n:Nat} {v u vc:Value} {w0:World} (hT:dY P t m) (h:ok g w0 w (.p true k) v) (hk:m<=k) (hu:ok g z w (fv m) u) (hw:Wd w0 g B n vc K w):∃ w',(Instr.storeAt t v u).run P w=.ok () w'/\Wd w0 g B n vc K w'/\Mon g w w':=by
 obtain ⟨i,y,h1,-,h3,-⟩:=hT;obtain ⟨b,off,T,M,rfl,hb,hl,hz⟩:=h;obtain ⟨c1,c2⟩:=vL hu;obtain ⟨hn,xs,k1,k2,k3⟩:=id hb;have hs:=run_storeCells_at P b off T u.cells.toList 0 xs w k1 (by simp [c1];omega) (fun v hv=>(c2 v hv).one);refine ⟨w.setRow b (xs.toList.take (off+0) ++ u.cells.toList ++ xs.toList.drop (off+0+u.cells.toList.length)).toArray,?_,hw.row hb (hz rfl) _,Mon.row hb ?_ ?_⟩
 ·simp [Instr.storeAt,Instr.sureAddr,storeVar,sizeOf,typeInfo,h1,h3,c1] at hs ⊢
  exact hs
 ·simp [c1];omega
 intro x hx;simp only [List.mem_append,Nat.add_zero] at hx
 rcases hx with (hx | hx) | hx
 ·exact k3 x (List.mem_of_mem_take hx)
 ·exact c2 x hx
 exact k3 x (List.mem_of_mem_drop hx)
theorem BX {o:Bool} {k f:Nat} {v:Value} (hT:dY P t m) (hm:2<=m) (h:ok g z w (.p o k) v) (hf:f<m) (hk:m<=k):∃ u,(Instr.fieldAt t v f).run P w=.ok u w/\ok g z w (.p o (k - f)) u:=by
 obtain ⟨i,y,h1,-,h3,-,-,-,h4⟩:=hT;obtain ⟨b,off,T,M,rfl,hb,hl,hz⟩:=h
 rcases h4 with ⟨rfl,-⟩ | ⟨fs,hu,-,hs,hfs⟩
 ·omega
 obtain ⟨fd,hfd⟩:∃ fd,fs[f]?=some fd:=⟨_,Array.getElem?_eq_getElem ω⟩
 obtain ⟨e,i',e1,e2⟩:=hfs f fd hfd;refine ⟨.pointer (some ⟨b,off+f,none⟩),?_,b,off+f,T,M,rfl,hb,ω,hz⟩
 have ha:(⟨b,off,none⟩:Addr).add f=⟨b,off+f,none⟩:=by unfold Addr.add;split <;> simp_all
 simp [Instr.fieldAt,Instr.sureAddr,run_underlying hu,hfd,fieldPlace,sizeOf,typeInfo,e1,e2,e,ha]
end Dw
namespace Dw
variable {P:Program} {g z t e m lo hi:Nat} {w:World}
theorem IA (b o n:Nat):(⟨b,o,none⟩:Addr).add n=⟨b,o+n,none⟩:=by unfold Addr.add;split <;> simp_all
theorem dY.size (hT:dY P t m):(sizeOf t).run P w=.ok m w:=by
 obtain ⟨i,y,h1,-,h3,-⟩:=hT;simp [sizeOf,typeInfo,h1,h3]
theorem qp {x l m M off:Nat} (h:off+l*m<=M) (hx:x<l):off+x*m+m<=M:=by
 have:=Nat.mul_le_mul_right m (show x+1<=l by omega);rw [Nat.succ_mul] at this;omega
theorem yD {a b:Nat} {v u:Value} (hs:P.underlying t=some (.slice e)) (hT:dY P e m) (h:ok g z w (.s m lo hi) v) (hu:ok g z w (.n a b) u) (hb:b<lo):∃ p,(Instr.indexAt t v u).run P w=.ok p w/\ok g z w (.p false m) p:=by
 obtain ⟨A,l,c,rfl,h1,h2⟩:=h;obtain ⟨x,rfl,h3,h4⟩:=hu
 rcases h2 with h2 | ⟨b',off,T,M,rfl,h5,h6⟩
 ·omega
 have hl:(x:Int)<(l:Int):=ω
 refine ⟨.pointer (some ⟨b',off+x*m,none⟩),?_,b',_,T,M,rfl,h5,qp h6 ω,fun h=>by cases h⟩;simp [Instr.indexAt,run_underlying hs,hT.size,IA,asIntOf]
 intro _;omega
theorem yC {a b:Nat} {v u:Value} (hs:P.underlying t=some (.slice e)) (hT:dY P e m) (h:ok g z w (.o e m lo hi) v) (hu:ok g z w (.n a b) u) (hb:b<lo):∃ p,(Instr.indexAt t v u).run P w=.ok p w/\ok g z w (.p true m) p:=by
 obtain ⟨A,l,c,rfl,h1,h2⟩:=h;obtain ⟨x,rfl,h3,h4⟩:=hu
 rcases h2 with h2 | ⟨b',rfl,h5,h6,h7⟩
 ·omega
 have hl:(x:Int)<(l:Int):=ω
 refine ⟨.pointer (some ⟨b',0+x*m,none⟩),?_,b',_,e,_,rfl,h7,qp (l:=c) ω ω,fun _=>h5⟩;simp [Instr.indexAt,run_underlying hs,hT.size,IA,asIntOf]
 intro _;omega
theorem wN {a b:Nat} {v u:Value} (hs:P.underlying t=some (.slice e)) (hT:dY P e m) (h:ok g z w (.o e m lo hi) v) (hu:ok g z w (.n a b) u) (hb:b<=lo):∃ p,(Instr.sliceAt t v none (some u) none).run P w=.ok p w/\ok g z w (.o e m a b) p:=by
 obtain ⟨A,l,c,rfl,h1,h2⟩:=h;obtain ⟨x,rfl,h3,h4⟩:=hu
 have hl:(x:Int)<=(c:Int):=ω
 refine ⟨.slice A x c,?_,A,x,c,rfl,ω,h2⟩
 have hA:A.map (fun a=>a.add 0)=A:=by cases A <;> rfl
 simp [Instr.sliceAt,Instr.slice,Instr.sliceBounds,Instr.sliceBound,run_underlying hs,hT.size,hA,asIntOf]
 intro _;omega
theorem wO {a b:Nat} {v u:Value} (hs:P.underlying t=some (.slice e)) (hT:dY P e m) (h:ok g z w (.o e m lo hi) v) (hu:ok g z w (.n a b) u) (hb:b<=lo):∃ p,(Instr.sliceAt t v (some u) none none).run P w=.ok p w/\ok g z w (.s m (lo - b) (hi - a)) p:=by
 obtain ⟨A,l,c,rfl,h1,h2⟩:=h;obtain ⟨x,rfl,h3,h4⟩:=hu
 have hl:(x:Int)<=(l:Int):=ω
 refine ⟨.slice (if c=x then A else A.map fun a=>a.add (x*m)) (l - x) (c - x),?_,_,_,_,rfl,ω,?_⟩
 ·simp [Instr.sliceAt,Instr.slice,Instr.sliceBounds,Instr.sliceBound,run_underlying hs,hT.size,asIntOf]
  intro _;omega
 by_cases hc:c=x
 ·exact .inl ω
 rcases h2 with ⟨-,h2⟩ | ⟨b',rfl,h5,h6,h7⟩
 ·exact .inl ω
 refine .inr ⟨b',0+x*m,e,_,by rw [if_neg hc,Option.map_some,IA],h7,?_⟩;rw [Nat.zero_add,←Nat.add_mul];exact Nat.mul_le_mul_right m ω
theorem Gf {ty:TypeId} {v:Value} (hs:P.underlying t=some (.slice e)) {A:Option Addr} {l c:Nat} (h:v=.slice A l c):(Builtin.len_ #[t] ty #[v]).run P w=.ok (.int .i64 l) w:=by
 subst h;simp [Builtin.len_,run_underlying hs,goInt]
theorem Ec {v:Value} (h:ok g z w (.s m lo hi) v) (h0:1<=lo):∃ (ad:Addr) (l c:Nat) (news:List Value),v=.slice (some ad) l c/\lo<=l/\l<=hi/\news.length=l*m/\(∀ u ∈ news,L4 u)/\∀ j u,news[j]?=some u->w.cell? (ad.add j)=some u:=by
 obtain ⟨A,l,c,rfl,h1,h2⟩:=h
 rcases h2 with h2 | ⟨b,off,T,M,rfl,h5,h6⟩
 ·omega
 obtain ⟨cs,c1,c2,c3⟩:=h5.part h6;exact ⟨_,l,c,cs,rfl,ω,ω,c1,c2,c3⟩
theorem JH {n:Nat} {u:Value} (h:u ∈ (Builtin.zeroCells (Array.replicate m (.int .i64 0)) n).toList) (hm:0<m):L4 u:=by
 unfold Builtin.zeroCells at h;obtain ⟨i,-,rfl⟩:=Array.mem_map.1 (Array.mem_toList_iff.1 h);rw [getElem!_pos _ _ (by have:=Nat.mod_lt i (show 0<(Array.replicate m (Value.int .i64 0)).size by simpa using hm);exact this),Array.getElem_replicate];exact ⟨0,rfl⟩
theorem yA {lo' hi' K B n:Nat} {v u vc:Value} {w0:World} {ty:TypeId} (hs:P.underlying t=some (.slice e)) (hT:dY P e m) (h:ok g w0 w (.o e m lo hi) v) (hu:ok g w0 w (.s m lo' hi') u) (h0:1<=lo') (h1:hi+hi'<=1000) (hw:Wd w0 g B n vc K w) :
  ∃ x w',(Builtin.append_ #[t,t] ty #[v,u]).run P w=.ok x w'/\ok g w0 w' (.o e m (lo+lo') (hi+hi')) x/\Wd w0 g B n vc K w'/\Mon g w w':=by
 obtain ⟨i,y,hi1,hi2,hi3,hi4,hi5,hi6,-⟩:=id hT;obtain ⟨ad,k,c',news,rfl,k1,k2,k3,k4,k5⟩:=Ec hu h0;have hle:=hw.gr.size;have hlt:=hw.cur.size
 have ho:∀ u ∈ news,u.oneCell'=true:=fun u hu=>(k4 u hu).one
 rw [←hi3] at k3;obtain ⟨A,l,c,rfl,l1,l2⟩:=h
 have new:∀ (olds:List Value) (N:Nat),olds.length=l*m->(∀ u ∈ olds,L4 u)->l+k<=N->N<=maxLen->
   ok g w0 (w.drew.alloc (.cells (olds.toArray ++ news.toArray ++ Builtin.zeroCells y.cells (N - (l+k))) e)) (.o e m (lo+lo') (hi+hi')) (.slice (some ⟨w,0,none⟩) (l+k) N)/\
   Wd w0 g B n vc K (w.drew.alloc (.cells (olds.toArray ++ news.toArray ++ Builtin.zeroCells y.cells (N - (l+k))) e))/\Mon g w (w.drew.alloc (.cells (olds.toArray ++ news.toArray ++ Builtin.zeroCells y.cells (N - (l+k))) e)):=by
  intro olds N q1 q2 q3 q4;refine ⟨⟨_,_,_,rfl,ω,.inr ⟨_,rfl,hle,q4,⟨ω,_,heap_alloc_new w.drew _,?_,?_⟩⟩⟩,hw.drew.alloc _,(Mon.alloc g w.drew _)⟩
  ·rw [hi6]
   simp only [Array.size_append,List.size_toArray,size_zeroCells,Array.size_replicate,q1,k3,hi3,←Nat.add_mul]
   congr 1
   omega
  intro x hx;simp only [Array.toList_append,List.mem_append] at hx
  rcases hx with (hx | hx) | hx
  ·exact q2 x hx
  ·exact k4 x hx
  rw [hi6] at hx;exact JH hx hi5
 have hb:(l+k)*i.bytes<=140737488355328:=by
  have:=Nat.mul_le_mul (show l+k<=1000 by omega) hi4;omega
 rcases l2 with ⟨rfl,rfl⟩ | ⟨b,rfl,hz,hc,hI⟩
 ·obtain rfl:l=0:=ω
  have hr:=run_append_nil (P:=P) w t ty e i y hs hi1 hi2 ad k c' news k3 k5 ω ω (by rw [Nat.zero_add] at hb;omega);have:=new [] (grownCap w k 0 e) σ σ (by have:=grownCap_ge w k 0 e;omega) (grownCap_le_maxLen w k 0 e (by unfold maxLen;omega));simp only [Nat.zero_add,Array.empty_append] at this;exact ⟨_,_,hr,this⟩
 obtain ⟨hn,xs,x1,x2,x3⟩:=id hI
 by_cases hroom:l+k<=c
 ·have hfit:l*i.size+news.length<=xs.size:=by rw [k3,hi3,x2,←Nat.add_mul];exact Nat.mul_le_mul_right _ hroom
  have hr:=run_append_room (P:=P) w t ty e i hs hi1 b l c xs x1 ad k c' news k3 k5 ho hroom hfit
  have hrow:Mon g w (w.setRow b (xs.toList.take (l*i.size) ++ news ++ xs.toList.drop (l*i.size+news.length)).toArray):=Mon.row hI (by simp;omega) (by
   intro x hx;simp only [List.mem_append] at hx
   rcases hx with (hx | hx) | hx
   ·exact x3 x (List.mem_of_mem_take hx)
   ·exact k4 x hx
   exact x3 x (List.mem_of_mem_drop hx))
  exact ⟨_,_,hr,⟨_,_,_,rfl,ω,.inr ⟨b,rfl,hz,hc,hrow _ _ _ hI⟩⟩,hw.row hI hz _,hrow⟩
 obtain ⟨cs,c1,c2,c3⟩:=hI.part (off:=0) (n:=l*m) (by rw [Nat.zero_add];exact Nat.mul_le_mul_right m l1.2.2);have hr:=run_append_grow (P:=P) w t ty e i y hs hi1 hi2 ⟨b,0,none⟩ l c cs (by rw [c1,hi3]) c3 ad k c' news k3 k5 ω ω (growslice_fits ω hb);exact ⟨_,_,hr,new cs _ c1 c2 (grownCap_ge w (l+k) c e) (grownCap_le_maxLen w (l+k) c e (by unfold maxLen;omega))⟩
theorem xM {m N:Nat}:∀ (ps:List (Nat × Value)) (cs:Array Value),cs.size=N*m->(∀ u ∈ cs.toList,L4 u)->(∀ q ∈ ps,q.1<N/\q.2.cells.size=m/\∀ u ∈ q.2.cells.toList,L4 u)->∃ ds,Instr.fill (fun i=>if i<N then some (i*m,m) else none) cs ps=some ds/\ds.size=N*m/\∀ u ∈ ds.toList,L4 u
 | [],cs,h1,h2,_=>⟨cs,rfl,h1,h2⟩
 | (i,v) :: ps,cs,h1,h2,h3=>by
  obtain ⟨q1,q2,q3⟩:=h3 (i,v) List.mem_cons_self;have hl:=qp (off:=0) (x:=i) (l:=N) (m:=m) (M:=N*m) ω q1
  have key:∀ (us:List (Value × Nat)) (cs:Array Value),cs.size=N*m->(∀ u ∈ cs.toList,L4 u)->(∀ u ∈ us,L4 u.1)->(us.foldl (fun cs (c:Value × Nat)=>cs.setIfInBounds (i*m+c.2) c.1) cs).size=N*m/\∀ u ∈ (us.foldl (fun cs (c:Value × Nat)=>cs.setIfInBounds (i*m+c.2) c.1) cs).toList,L4 u:=by
   intro us
   induction us with
   | nil=>intro cs h1 h2 _;exact ⟨h1,h2⟩
   | cons u us ih=>
   intro cs h1 h2 h3;rw [List.foldl_cons]
   refine ih _ (by simpa using h1) (fun x hx=>?_) fun x hx=>h3 x (List.mem_cons_of_mem _ hx)
   rw [Array.toList_setIfInBounds] at hx
   rcases List.mem_or_eq_of_mem_set hx with hx | rfl
   ·exact h2 x hx
   exact h3 u List.mem_cons_self
  obtain ⟨k1,k2⟩:=key v.cells.zipIdx.toList cs h1 h2 (fun u hu=>q3 u.1 (by
   obtain ⟨x,n⟩:=u;have:=Array.mem_zipIdx (Array.mem_toList_iff.1 hu)
   exact Array.mem_toList_iff.2 (by rw [this.2.2];exact Array.getElem_mem _)))
  obtain ⟨ds,d1,d2⟩:=xM ps _ k1 k2 fun q hq=>h3 q (List.mem_cons_of_mem _ hq)
  refine ⟨ds,?_,d2⟩;unfold Instr.fill;have q1:i<N:=q1;have q2:v.cells.size=m:=q2;rw [if_pos q1]
  dsimp only
  rw [q2,h1,if_neg (by simp;omega),←Array.foldl_toList];exact d1
theorem bc {p q:Nat->Option (Nat × Nat)}:∀ (ps:List (Nat × Value)) (cs:Array Value),(∀ x ∈ ps,p x.1=q x.1)->Instr.fill p cs ps=Instr.fill q cs ps
 | [],_,_=>rfl
 | (i,v) :: ps,cs,h=>by
  unfold Instr.fill;rw [←h (i,v) List.mem_cons_self]
  cases p i with
  | none=>rfl
  | some r=>
  dsimp only
  split
  ·rfl
  exact bc ps _ fun x hx=>h x (List.mem_cons_of_mem _ hx)
theorem vy (P:Program):∀ (fs:List Field) (k:Nat),(∀ (j:Nat) f,fs[j]?=some f->f.offset=k+j/\∃ i',P.info? f.type=some i'/\i'.size=1)->∃ ps,fs.mapM (fun f=>(P.info? f.type).map fun i=>(f.offset,i.size))=some ps/\∀ j,ps[j]?=if j<fs.length then some (k+j,1) else none
 | [],k,_=>⟨[],rfl,fun j=>rfl⟩
 | f :: fs,k,h=>by
  obtain ⟨e,i',h1,h2⟩:=h 0 f rfl
  obtain ⟨ps,h3,h4⟩:=vy P fs (k+1) fun j f' hj=>by
   have:=h (j+1) f' hj;rw [show k+1+j=k+(j+1) by omega];exact this
  refine ⟨(k,1) :: ps,?_,fun j=>?_⟩
  ·simp [List.mapM_cons,h1,h2,e,h3]
  cases j with
  | zero=>simp
  | succ j=>simp [h4,show k+1+j=k+(j+1) by omega]
theorem run_build (hT:dY P t m) (hm:2<=m) {ps:Array (Nat × Value)} (h:∀ q ∈ ps.toList,q.1<m/\L4 q.2):∃ v,(Instr.build t ps).run P w=.ok v w/\ok g z w (.f m) v:=by
 obtain ⟨i,y,h1,h2,-,-,-,h3,h4⟩:=hT
 rcases h4 with ⟨rfl,-⟩ | ⟨fs,hu,-,hs,hf⟩
 ·omega
 obtain ⟨pl,p1,p2⟩:=vy P fs.toList 0 fun j f hj=>by
  rw [Nat.zero_add];exact hf j f (by rw [←Array.getElem?_toList];exact hj)
 obtain ⟨ds,d1,d2,d3⟩:=xM (m:=1) (N:=m) ps.toList y.cells (by rw [h3];simp) (fun u hu=>He (h3 ▸ hu)) fun q hq=>⟨(h q hq).1,by rw [(h q hq).2.cells];rfl,by rw [(h q hq).2.cells];intro u hu;simp only [List.mem_singleton] at hu;subst hu;exact (h q hq).2⟩
 refine ⟨.agg ds,Go.run_build w t ps ds ?_,ds,rfl,by rw [d2,Nat.mul_one],d3⟩;unfold Program.built;rw [h1,hu]
 dsimp only
 rw [h2,p1]
 dsimp only
 rw [←d1]
 refine bc _ _ fun x hx=>?_
 have:=(h x hx).1;have e:=p2 x.1;rw [Array.length_toList,hs,if_pos this] at e;rw [if_pos this,Nat.mul_one]
 simpa using e
theorem yB {n:Nat} (hs:P.underlying t=some (.slice e)) (hT:dY P e m) (h1:1<=n) (h2:n<=100) (h3:m<=10) (hz:z<=w.heap.size) (hg:g≠w.heap.size) {ps:Array (Nat × Value)} (h:∀ q ∈ ps.toList,q.1<n/\ok g z w (fv m) q.2):∃ v w',(Instr.buildSlice t n ps).run P w=.ok v w'/\(∃ o,w'=w.alloc o)/\ok g z w' (.o e m n n) v:=by
 obtain ⟨i,y,i1,i2,i3,i4,i5,i6,-⟩:=hT;have hb:=Nat.mul_le_mul h2 h3;have hp:=Nat.mul_pos (show 0<n by omega) i5
 obtain ⟨ds,d1,d2,d3⟩:=xM (m:=m) (N:=n) ps.toList ((Array.range (n*m)).map (y.cells[· % y.cells.size]!)) σ (fun u hu=>by
  obtain ⟨j,-,rfl⟩:=Array.mem_map.1 (Array.mem_toList_iff.1 hu);rw [i6,getElem!_pos _ _ (by simpa using Nat.mod_lt j i5),Array.getElem_replicate]
  exact ⟨0,rfl⟩) fun q hq=>⟨(h q hq).1,vL (h q hq).2⟩
 refine ⟨_,_,Go.run_buildSlice w t e n ps ds i y hs i1 i2 (by rw [i3];omega) (by rw [i3];omega) ?_,⟨_,rfl⟩,_,n,n,rfl,ω,.inr ⟨_,rfl,hz,by unfold maxLen;omega,Ne.symm hg,ds,heap_alloc_new w _,d2,d3⟩⟩;rw [i3,←d1]
 refine bc _ _ fun x hx=>?_
 rw [if_pos (h x hx).1]
end Dw
namespace Dw
structure Env where
 fl:List (Nat × Nat)
 sl:List (Nat × Nat)
 fn:List (Nat × List S1 × S1 × Nat)
def iR:List (Nat × Nat)->Nat->Option Nat
 | [],_=>none
 | p :: l,t=>bif Nat.beq p.1 t then some p.2 else iR l t
def Ve:List S1->List S1->Bool
 | [],[]=>true
 | a :: l,e :: k=>le a e && Ve l k
 | _,_=>false
def DK:List (Nat × List S1 × S1 × Nat)->Nat->List S1->Option (S1 × Nat)
 | [],_,_=>none
 | p :: l,f,xs=>bif Nat.beq p.1 f && Ve xs p.2.1 then some p.2.2 else DK l f xs
def Qw (g z:Nat) (w:World):List S1->List Value->Prop
 | [],[]=>True
 | s :: l,v :: k=>ok g z w s v/\Qw g z w l k
 | _,_=>False
theorem Do {g z:Nat} {w:World}:∀ (l k:List S1) (vs:List Value),Ve l k=true->Qw g z w l vs->Qw g z w k vs
 | [],[],[],_,_=>trivial
 | a :: l,e :: k,v :: vs,h,q=>by
  rw [Ve,Bool.and_eq_true] at h;exact ⟨kB _ _ _ h.1 q.1,Do l k vs h.2 q.2⟩
 | [],_ :: _,_,h,_=>by cases h
 | _ :: _,[],_,h,_=>by cases h
 | [],[],_ :: _,_,q=>q.elim
 | _ :: _,_ :: _,[],_,q=>q.elim
def lE (P:Program) (f:Nat) (A:List S1) (r:S1) (c:Nat):Prop:=
 (∀ args w,(callFunc f args).run P w=.ok (.enter f args) w)/\
 ∀ (g B n:Nat) (v:Value) (K z:Nat) (w:World) (args:List Value),Qw g z w A args->dh w g B v n K->K+c<=700000000->
  Calls P f args.toArray w fun e w'=>∃ x,e=.returned x/\ok g w w' r x/\dh w' g B v n (K+c)/\w.grownBy w' (some g)
structure dU (P:Program) (E:Env):Prop where
 fl:∀ q ∈ E.fl,dY P q.1 q.2
 sl:∀ q ∈ E.sl,P.underlying q.1=some (.slice q.2)
 fn:∀ q ∈ E.fn,lE P q.1 q.2.1 q.2.2.1 q.2.2.2
theorem bg {l:List (Nat × Nat)} {t m:Nat} (h:iR l t=some m):(t,m) ∈ l:=by
 induction l with
 | nil=>cases h
 | cons p l ih=>
 unfold iR at h
 cases e:Nat.beq p.1 t with
 | true=>
  rw [e] at h;have:=Nat.eq_of_beq_eq_true e;obtain ⟨a,b⟩:=p;cases h
  subst this;exact List.mem_cons_self
 | false=>
 rw [e] at h;exact List.mem_cons_of_mem _ (ih h)
theorem DL {l:List (Nat × List S1 × S1 × Nat)} {f:Nat} {xs:List S1} {r:S1 × Nat} (h:DK l f xs=some r):∃ A,(f,A,r) ∈ l/\Ve xs A=true:=by
 induction l with
 | nil=>cases h
 | cons p l ih=>
 unfold DK at h
 cases e:Nat.beq p.1 f && Ve xs p.2.1 with
 | true=>
  rw [e] at h;rw [Bool.and_eq_true] at e;have:=Nat.eq_of_beq_eq_true e.1;obtain ⟨a,b,c⟩:=p;cases h
  subst this;exact ⟨b,List.mem_cons_self,e.2⟩
 | false=>
 rw [e] at h;obtain ⟨A,h1,h2⟩:=ih h;exact ⟨A,List.mem_cons_of_mem _ h1,h2⟩
def cS:Value->S1
 | .int .i64 (.ofNat k)=>.n k k
 | .int .i64 (.negSucc _)=>.i
 | .bool t=>.k t
 | .slice none 0 0=>.z
 | _=>.any
theorem HF (g z:Nat) (w:World) (v:Value):ok g z w (cS v) v:=by
 unfold cS
 split
 ·exact ⟨_,rfl,KT _,KT _⟩
 ·exact ⟨_,rfl⟩
 ·rfl
 ·rfl
 trivial
def IF (op:BinOp) (x y:S1):Option S1:=match op,x,y with
 | .add,.n a b,.n c d=>some (bif Nat.ble (b+d) 1000000 then .n (a+c) (b+d) else .i)
 | .lss,.n a b,.n c d=>some (bif Nat.blt b c then .k true else bif Nat.ble d a then .k false else .b)
 | .gtr,.n a b,.n c d=>some (bif Nat.blt d a then .k true else bif Nat.ble b c then .k false else .b)
 | .add,_,_ | .sub,_,_ | .mul,_,_=>bif le x .i && le y .i then some .i else none
 | .eql,_,_ | .lss,_,_ | .gtr,_,_ | .leq,_,_=>bif le x .i && le y .i then some .b else none
 | _,_,_=>none
def GB (e m:Nat) (s:S1):S1:=match s with
 | .z=>.o e m 0 0
 | s=>s
def Xl (E:Env) (ρ:Operand->S1) (o:Op):Option (S1 × Nat):=match o with
 | .move x | .assign x=>some (ρ x,0)
 | .pick c a b=>match ρ c with
  | .k t=>some (bif t then ρ a else ρ b,0)
  | _=>none
 | .alloc t=>(iR E.fl t).bind fun m=>some (.p true m,0)
 | .build t ps=>(iR E.fl t).bind fun m=>bif Nat.ble 2 m && ps.toList.all fun q=>Nat.blt q.1 m && le (ρ q.2) .i then some (.f m,0) else none
 | .buildSlice t n ps=>(iR E.sl t).bind fun e=>(iR E.fl e).bind fun m=>bif Nat.ble 1 n && (Nat.ble n 100 && (Nat.ble m 10 && ps.toList.all fun q=>Nat.blt q.1 n && le (ρ q.2) (fv m))) then some (.o e m n n,0) else none
 | .load t a=>(iR E.fl t).bind fun m=>match ρ a with
  | .p _ k=>bif Nat.ble m k then some (fv m,0) else none
  | _=>none
 | .store t a v=>(iR E.fl t).bind fun m=>match ρ a with
  | .p true k=>bif Nat.ble m k && le (ρ v) (fv m) then some (.any,0) else none
  | _=>none
 | .fieldAddr t x f=>(iR E.fl t).bind fun m=>match ρ x with
  | .p o k=>bif Nat.ble 2 m && (Nat.blt f m && Nat.ble m k) then some (.p o (k - f),0) else none
  | _=>none
 | .indexAddr t x i=>(iR E.sl t).bind fun e=>(iR E.fl e).bind fun m=>match ρ x,ρ i with
  | .s k lo _,.n _ b=>bif Nat.beq k m && Nat.blt b lo then some (.p false m,0) else none
  | .o d k lo _,.n _ b=>bif Nat.beq d e && (Nat.beq k m && Nat.blt b lo) then some (.p true m,0) else none
  | _,_=>none
 | .slice t x none (some h) none=>(iR E.sl t).bind fun e=>(iR E.fl e).bind fun m=>match ρ x,ρ h with
  | .o d k lo _,.n a b=>bif Nat.beq d e && (Nat.beq k m && Nat.ble b lo) then some (.o e m a b,0) else none
  | _,_=>none
 | .slice t x (some h) none none=>(iR E.sl t).bind fun e=>(iR E.fl e).bind fun m=>match ρ x,ρ h with
  | .o d k lo hi,.n a b=>bif Nat.beq d e && (Nat.beq k m && Nat.ble b lo) then some (.s m (lo - b) (hi - a),0) else none
  | _,_=>none
 | .extract x j=>match ρ x,j with
  | .t2 a _,0=>some (a,0)
  | .t2 _ d,1=>some (d,0)
  | .t3 a _ _,0=>some (a,0)
  | .t3 _ d _,1=>some (d,0)
  | .t3 _ _ d,2=>some (d,0)
  | _,_=>none
 | .binOp op _ x y _=>(IF op (ρ x) (ρ y)).bind fun s=>some (s,0)
 | .unOp .not _ x=>match ρ x with
  | .k t=>some (.k !t,0)
  | .b=>some (.b,0)
  | _=>none
 | .call { callee:=.value (.func f),args:=xs,.. }=>DK E.fn f (xs.toList.map ρ)
 | .call { callee:=.builtin .len,args:=⟨[x]⟩,argTypes:=⟨[t]⟩ }=>(iR E.sl t).bind fun _=>match ρ x with
  | .s _ lo hi | .o _ _ lo hi=>some (.n lo hi,0)
  | .z=>some (.n 0 0,0)
  | _=>none
 | .call { callee:=.builtin .append,args:=⟨[x,y]⟩,argTypes:=⟨[t,u]⟩ }=>(iR E.sl t).bind fun e=>(iR E.fl e).bind fun m=>match GB e m (ρ x),ρ y with
  | .o d k lo hi,.s j a b | .o d k lo hi,.o _ j a b=>bif Nat.beq t u && (Nat.beq d e && (Nat.beq k m && (Nat.beq j m && (Nat.ble 1 a && Nat.ble (hi+b) 1000)))) then some (.o e m (lo+a) (hi+b),0) else none
  | _,_=>none
 | _=>none
section
variable {P:Program} {Q:Exit->Act->World->Prop} {E:Env} {ρ:Operand->S1} {o:Oper} {a:Act} {w w0:World} {g B n K c:Nat} {vc:Value} {s:S1}
def Gv (w0 w:World) (g B n:Nat) (vc:Value) (K:Nat) (s:S1) (v:Value) (w':World):Prop:=ok g w0 w' s v/\Wd w0 g B n vc K w'/\Mon g w w'
theorem eO {v:Value} (hw:Wd w0 g B n vc K w) (h:(execOp a.eval o).run P w=.ok (.value v) w) (hv:ok g w0 w s v):o.wp P a w (fun a' w'=>∃ v,a'=a.put o.dst v/\Gv w0 w g B n vc (K+0) s v w') Q:=
 gJ h ⟨hv,hw,Mon.refl _ _⟩
theorem CQ {v:Value} {w':World} (hw:Wd w0 g B n vc K w) (h:(execOp a.eval o).run P w=.ok (.value v) w') (ho:∃ ob,w'=w.alloc ob) (hv:ok g w0 w' s v):o.wp P a w (fun a' w'=>∃ v,a'=a.put o.dst v/\Gv w0 w g B n vc (K+0) s v w') Q:=by
 obtain ⟨ob,rfl⟩:=ho;exact gJ h ⟨hv,hw.alloc ob,Mon.alloc _ _ _⟩
theorem KG {K':Value->World->Prop} {w':World} (h:(execOp a.eval o).run P w=.ok .skip w') (hK:K' undef w'):o.wp P a w (fun a' w'=>∃ v,a'=a.put o.dst v/\K' v w') Q:=by
 unfold Oper.wp;rw [h];exact ⟨_,rfl,hK⟩
end
end Dw
theorem Qh {p:Prop} (h:p:=by simp [execOp,Instr.extract,e]):p:=h
theorem Z7 {p:Prop} (h:p:=by
 rename_i e1
 cases h
 rw [e1] at hx;obtain ⟨A,l,c,e2,h1,-⟩:=hx;exact eO hw (fin e2) ⟨l,rfl,h1.1,h1.2.1⟩):p:=h
theorem wau6 {p:Prop} (h:p:=by simp only [Bool.and_eq_true] at h1 ⊢;exact ⟨h1.1,h1.2.1,h1.2.2.1,h1.2.2.2.2⟩):p:=h
namespace Dw
variable {P:Program} {Q:Exit->Act->World->Prop} {E:Env} {ρ:Operand->S1} {o:Oper} {a:Act} {w w0:World} {g B n K c:Nat} {vc:Value} {s:S1}
theorem cL {α:Type} {p:Bool} {x y:α} (h:(bif p then some x else none)=some y):p=true/\x=y:=by
 cases p
 ·cases h
 exact ⟨rfl,Option.some.inj h⟩
theorem ij {a b:Nat} (h:Nat.blt a b=true):a<b:=by rw [Nat.blt_eq] at h;exact h
theorem JF (n:Nat) (h:n<=1000000):IntKind.i64.wrap (n:Int)=(n:Int):=by
 have hm:(n:Int) % 18446744073709551616=n:=ω
 simp only [IntKind.wrap,IntKind.bits,IntKind.signed,show (2:Int) ^ 64=18446744073709551616 from δ,show (2:Int) ^ (64 - 1)=9223372036854775808 from δ,hm];rw [if_neg];simp
 omega
theorem Hs (x:Int):L4 (.int .i64 (IntKind.wrap .i64 x)):=⟨_,rfl⟩
theorem xT {g z:Nat} {w:World} {x:S1} {v:Value} (h:le x .i=true) (q:ok g z w x v):L4 v:=kB x .i v h q
theorem IG {z:Nat} {op:BinOp} {x y:S1} {u v:Value} {t:TypeId} (h:IF op x y=some s) (hx:ok g z w x u) (hy:ok g z w y v):∃ r,(binOp op t u v).run P w=.ok r w/\ok g z w s r/\L4 u/\L4 v:=by
 have gen:le x .i=true->le y .i=true->(∃ b d:Int,u=.int .i64 b/\v=.int .i64 d):=fun h1 h2=>by
  obtain ⟨b,e⟩:=xT h1 hx;obtain ⟨d,e'⟩:=xT h2 hy;exact ⟨b,d,e,e'⟩
 have ar:∀ {op:BinOp} {f:Int->Int->Int},(∀ b d:Int,(binOp op t (.int .i64 b) (.int .i64 d)).run P w=.ok (.int .i64 (IntKind.wrap .i64 (f b d))) w)->(bif le x .i && le y .i then some S1.i else none)=some s->∃ r,(binOp op t u v).run P w=.ok r w/\ok g z w s r/\L4 u/\L4 v:=fun hf h'=>by
  obtain ⟨k,rfl⟩:=cL h';rw [Bool.and_eq_true] at k;obtain ⟨b,d,rfl,rfl⟩:=gen k.1 k.2;exact ⟨_,hf b d,Hs _,⟨_,rfl⟩,⟨_,rfl⟩⟩
 have cm:∀ {op:BinOp} {f:Int->Int->Bool},(∀ b d:Int,(binOp op t (.int .i64 b) (.int .i64 d)).run P w=.ok (.bool (f b d)) w)->(bif le x .i && le y .i then some S1.b else none)=some s->∃ r,(binOp op t u v).run P w=.ok r w/\ok g z w s r/\L4 u/\L4 v:=fun hf h'=>by
  obtain ⟨k,rfl⟩:=cL h';rw [Bool.and_eq_true] at k;obtain ⟨b,d,rfl,rfl⟩:=gen k.1 k.2;exact ⟨_,hf b d,⟨_,rfl⟩,⟨_,rfl⟩,⟨_,rfl⟩⟩
 unfold IF at h
 split at h
 ·rename_i b1 b2 d1 d2
  obtain ⟨b,rfl,q1,q2⟩:=hx;obtain ⟨d,rfl,q3,q4⟩:=hy;cases h
  refine ⟨.int .i64 (IntKind.wrap .i64 (b+d)),rfl,?_,⟨_,rfl⟩,⟨_,rfl⟩⟩
  cases e:Nat.ble (b2+d2) 1000000 with
  | false=>exact Hs _
  | true=>
  rw [Nat.ble_eq] at e;refine ⟨b+d,?_,ω,ω⟩;rw [←Int.natCast_add]
  congr 1
  exact JF _ ω
 ·rename_i b1 b2 d1 d2
  obtain ⟨b,rfl,q1,q2⟩:=hx;obtain ⟨d,rfl,q3,q4⟩:=hy;cases h
  refine ⟨.bool (decide ((b:Int)<d)),rfl,?_,⟨_,rfl⟩,⟨_,rfl⟩⟩
  cases e:Nat.blt b2 d1 with
  | true=>
   have:b2<d1:=ij e
   show _=_
   rw [decide_eq_true ω]
  | false=>
  cases e':Nat.ble d2 b1 with
  | true=>
   rw [Nat.ble_eq] at e'
   show _=_
   rw [decide_eq_false ω]
  | false=>exact ⟨_,rfl⟩
 ·rename_i b1 b2 d1 d2
  obtain ⟨b,rfl,q1,q2⟩:=hx;obtain ⟨d,rfl,q3,q4⟩:=hy;cases h
  refine ⟨.bool (decide ((b:Int) > d)),rfl,?_,⟨_,rfl⟩,⟨_,rfl⟩⟩
  cases e:Nat.blt d2 b1 with
  | true=>
   have:d2<b1:=ij e
   show _=_
   rw [decide_eq_true ω]
  | false=>
  cases e':Nat.ble b2 d1 with
  | true=>
   rw [Nat.ble_eq] at e'
   show _=_
   rw [decide_eq_false ω]
  | false=>exact ⟨_,rfl⟩
 ·exact ar (fun _ _=>rfl) h
 ·exact ar (fun _ _=>rfl) h
 ·exact ar (fun _ _=>rfl) h
 ·exact cm (fun _ _=>rfl) h
 ·exact cm (fun _ _=>rfl) h
 ·exact cm (fun _ _=>rfl) h
 ·exact cm (fun _ _=>rfl) h
 cases h
theorem eqG {op:BinOp} {t:TypeId} {x y:Operand} {u v:Value} (hu:L4 u):(eqGuard op t x y u v).run P w=.ok () w:=by
 obtain ⟨b,rfl⟩:=hu;unfold eqGuard
 cases op <;> simp
theorem zH {z:Nat}:∀ xs:List Operand,(∀ x ∈ xs,ok g z w (ρ x) (a.eval x))->Qw g z w (xs.map ρ) (xs.map a.eval)
 | [],_=>trivial
 | x :: xs,h=>⟨h x List.mem_cons_self,zH xs fun y hy=>h y (List.mem_cons_of_mem _ hy)⟩
theorem Jy (hE:dU P E) (h:Xl E ρ o.op=some (s,c)) (hρ:∀ x ∈ o.op.operands.toList,ok g w0 w (ρ x) (a.eval x)) (hw:Wd w0 g B n vc K w) (hk:K+c<=700000000) :
  o.wp P a w (fun a' w'=>∃ v,a'=a.put o.dst v/\Gv w0 w g B n vc (K+c) s v w') Q:=by
 obtain ⟨dst,op,type,pos,after,guard⟩:=o
 dsimp only at h hρ
 have hlt:=hw.cur.size;have hle:=hw.gr.size;unfold Xl at h
 split at h
 ·rename_i x
  cases h
  exact eO hw rfl (hρ x (by simp [Op.operands]))
 ·rename_i x
  cases h
  exact eO hw rfl (hρ x (by simp [Op.operands]))
 ·rename_i c x y
  split at h
  ·rename_i t e
   cases h
   have hc:=hρ c (by simp [Op.operands]);rw [e] at hc;have hc:a.eval c=.bool t:=hc;refine eO (v:=if t then a.eval x else a.eval y) hw (by simp [execOp,hc,asBool]) ?_;cases t
   ·exact hρ y (by simp [Op.operands])
   exact hρ x (by simp [Op.operands])
  cases h
 ·rename_i t
  obtain ⟨m,hm,h⟩:=Option.bind_eq_some_iff.1 h;cases h
  obtain ⟨v,w',h1,h2,h3⟩:=BW (w:=w) (g:=g) (hE.fl _ (bg hm)) ω hle;exact CQ hw (by simp [execOp,h1]) h2 h3
 ·rename_i t ps
  obtain ⟨m,hm,h⟩:=Option.bind_eq_some_iff.1 h;obtain ⟨h1,h2⟩:=cL h;cases h2
  rw [Bool.and_eq_true,List.all_eq_true] at h1
  obtain ⟨v,h3,h4⟩:=run_build (P:=P) (w:=w) (g:=g) (z:=w0.heap.size) (hE.fl _ (bg hm)) (Nat.le_of_ble_eq_true h1.1) (ps:=ps.map fun (i,x)=>(i,a.eval x)) (fun q hq=>by
   obtain ⟨q',h5,rfl⟩:=Array.mem_map.1 (Array.mem_toList_iff.1 hq);have h6:=h1.2 q' (Array.mem_toList_iff.2 h5);rw [Bool.and_eq_true] at h6
   exact ⟨ij h6.1,xT h6.2 (hρ q'.2 (List.mem_map.2 ⟨q',Array.mem_toList_iff.2 h5,rfl⟩))⟩)
  exact eO hw (by simp [execOp,h3]) h4
 ·rename_i t k ps
  obtain ⟨e,he,h⟩:=Option.bind_eq_some_iff.1 h;obtain ⟨m,hm,h⟩:=Option.bind_eq_some_iff.1 h;obtain ⟨h1,h2⟩:=cL h;cases h2
  rw [Bool.and_eq_true,Bool.and_eq_true,Bool.and_eq_true,List.all_eq_true] at h1
  obtain ⟨v,w',h3,h4,h5⟩:=yB (P:=P) (w:=w) (g:=g) (z:=w0.heap.size) (hE.sl _ (bg he)) (hE.fl _ (bg hm)) (Nat.le_of_ble_eq_true h1.1) (Nat.le_of_ble_eq_true h1.2.1) (Nat.le_of_ble_eq_true h1.2.2.1) hle ω (ps:=ps.map fun (i,x)=>(i,a.eval x)) (fun q hq=>by
   obtain ⟨q',h5,rfl⟩:=Array.mem_map.1 (Array.mem_toList_iff.1 hq);have h6:=h1.2.2.2 q' (Array.mem_toList_iff.2 h5);rw [Bool.and_eq_true] at h6
   exact ⟨ij h6.1,kB _ _ _ h6.2 (hρ q'.2 (List.mem_map.2 ⟨q',Array.mem_toList_iff.2 h5,rfl⟩))⟩)
  exact CQ hw (by simp [execOp,h3]) h4 h5
 ·rename_i t x
  obtain ⟨m,hm,h⟩:=Option.bind_eq_some_iff.1 h
  split at h
  ·rename_i oo k e
   obtain ⟨h1,h2⟩:=cL h;cases h2
   have hx:=hρ x (by simp [Op.operands]);rw [e] at hx;obtain ⟨u,h3,h4⟩:=wL (hE.fl _ (bg hm)) hx (Nat.le_of_ble_eq_true h1);exact eO hw (by simp [execOp,h3]) h4
  cases h
 ·rename_i t x y
  obtain ⟨m,hm,h⟩:=Option.bind_eq_some_iff.1 h
  split at h
  ·rename_i k e
   obtain ⟨h1,h2⟩:=cL h;cases h2
   rw [Bool.and_eq_true] at h1;have hx:=hρ x (by simp [Op.operands]);rw [e] at hx;obtain ⟨w',h3,h4,h5⟩:=Bb (hE.fl _ (bg hm)) hx (Nat.le_of_ble_eq_true h1.1) (kB _ _ _ h1.2 (hρ y (by simp [Op.operands]))) hw;exact KG (by simp [execOp,h3]) ⟨trivial,h4,h5⟩
  cases h
 ·rename_i t x f
  obtain ⟨m,hm,h⟩:=Option.bind_eq_some_iff.1 h
  split at h
  ·rename_i oo k e
   obtain ⟨h1,h2⟩:=cL h;cases h2
   rw [Bool.and_eq_true,Bool.and_eq_true] at h1;have hx:=hρ x (by simp [Op.operands]);rw [e] at hx;obtain ⟨u,h3,h4⟩:=BX (hE.fl _ (bg hm)) (Nat.le_of_ble_eq_true h1.1) hx (ij h1.2.1) (Nat.le_of_ble_eq_true h1.2.2);exact eO hw (by simp [execOp,h3]) h4
  cases h
 ·rename_i t x y
  obtain ⟨e,he,h⟩:=Option.bind_eq_some_iff.1 h;obtain ⟨m,hm,h⟩:=Option.bind_eq_some_iff.1 h;have hx:=hρ x (by simp [Op.operands]);have hy:=hρ y (by simp [Op.operands])
  split at h
  ·rename_i e1 e2
   obtain ⟨h1,h2⟩:=cL h;cases h2
   rw [Bool.and_eq_true] at h1;rw [e1,Nat.eq_of_beq_eq_true h1.1] at hx;rw [e2] at hy;obtain ⟨u,h3,h4⟩:=yD (hE.sl _ (bg he)) (hE.fl _ (bg hm)) hx hy (ij h1.2);exact eO hw (by simp [execOp,h3]) h4
  ·rename_i e1 e2
   obtain ⟨h1,h2⟩:=cL h;cases h2
   rw [Bool.and_eq_true,Bool.and_eq_true] at h1;rw [e1,Nat.eq_of_beq_eq_true h1.1,Nat.eq_of_beq_eq_true h1.2.1] at hx;rw [e2] at hy;obtain ⟨u,h3,h4⟩:=yC (hE.sl _ (bg he)) (hE.fl _ (bg hm)) hx hy (ij h1.2.2);exact eO hw (by simp [execOp,h3]) h4
  cases h
 ·rename_i t x y
  obtain ⟨e,he,h⟩:=Option.bind_eq_some_iff.1 h;obtain ⟨m,hm,h⟩:=Option.bind_eq_some_iff.1 h;have hx:=hρ x (by simp [Op.operands]);have hy:=hρ y (by simp [Op.operands])
  split at h
  ·rename_i e1 e2
   obtain ⟨h1,h2⟩:=cL h;cases h2
   rw [Bool.and_eq_true,Bool.and_eq_true] at h1;rw [e1,Nat.eq_of_beq_eq_true h1.1,Nat.eq_of_beq_eq_true h1.2.1] at hx;rw [e2] at hy;obtain ⟨u,h3,h4⟩:=wN (hE.sl _ (bg he)) (hE.fl _ (bg hm)) hx hy (Nat.le_of_ble_eq_true h1.2.2);exact eO hw (by simp [execOp,h3]) h4
  cases h
 ·rename_i t x y
  obtain ⟨e,he,h⟩:=Option.bind_eq_some_iff.1 h;obtain ⟨m,hm,h⟩:=Option.bind_eq_some_iff.1 h;have hx:=hρ x (by simp [Op.operands]);have hy:=hρ y (by simp [Op.operands])
  split at h
  ·rename_i e1 e2
   obtain ⟨h1,h2⟩:=cL h;cases h2
   rw [Bool.and_eq_true,Bool.and_eq_true] at h1;rw [e1,Nat.eq_of_beq_eq_true h1.1,Nat.eq_of_beq_eq_true h1.2.1] at hx;rw [e2] at hy;obtain ⟨u,h3,h4⟩:=wO (hE.sl _ (bg he)) (hE.fl _ (bg hm)) hx hy (Nat.le_of_ble_eq_true h1.2.2);exact eO hw (by simp [execOp,h3]) h4
  cases h
 ·rename_i x j
  have hx:=hρ x (by simp [Op.operands])
  split at h
  all_goals first | (cases h;done) | skip
  all_goals
   rename_i e1
   rw [e1] at hx;cases h
   first
    | (obtain ⟨u1,u2,e,h1,h2⟩:=hx;first | exact eO hw Qh h1 | exact eO hw Qh h2)
    | (obtain ⟨u1,u2,u3,e,h1,h2,h3⟩:=hx;first | exact eO hw Qh h1 | exact eO hw Qh h2 | exact eO hw Qh h3)
 ·rename_i op t x y _
  obtain ⟨r,hr,h⟩:=Option.bind_eq_some_iff.1 h;cases h
  obtain ⟨v,h1,h2,h3,h4⟩:=IG (P:=P) (t:=t) hr (hρ x (by simp [Op.operands])) (hρ y (by simp [Op.operands]));exact eO hw (by simp [execOp,eqG h3,h1]) h2
 ·rename_i x
  have hx:=hρ x (by simp [Op.operands])
  split at h
  ·rename_i e
   cases h
   rw [e] at hx;have hx:a.eval x=_:=hx;exact eO (v:=.bool !_) hw (by simp [execOp,Op.unary,hx]) rfl
  ·rename_i e
   cases h
   rw [e] at hx;obtain ⟨t,hx⟩:=hx;exact eO (v:=.bool !t) hw (by simp [execOp,Op.unary,hx]) ⟨_,rfl⟩
  cases h
 ·rename_i f xs ts
  obtain ⟨A,h1,h2⟩:=DL h;obtain ⟨h3,h4⟩:=hE.fn _ h1;have hx:=Do _ _ _ h2 (zH xs.toList fun x hx=>hρ x (by simp [Op.operands,Call.operands];exact .inr (Array.mem_toList_iff.1 hx)));refine jk (args:=(xs.toList.map a.eval).toArray) ?_ ((h4 g B n vc K _ w _ hx hw.cur hk).mono ?_)
  ·have:=h3 (xs.map a.eval) w
   rw [←Array.toList_map,Array.toArray_toList]
   simpa [execOp,resolve,Act.eval,Deferred.ofValue,invoke] using this
  rintro e w' ⟨x,rfl,k1,k2,k3⟩;exact ⟨x,rfl,kr hle _ _ k1,hw.call k2 k3,.grown k3⟩
 ·rename_i x t
  obtain ⟨e,he,h⟩:=Option.bind_eq_some_iff.1 h;have hx:=hρ x (by simp [Op.operands,Call.operands])
  have fin:∀ {A l c},a.eval x=.slice A l c->(execOp a.eval ⟨dst,.call { callee:=.builtin .len,args:=⟨[x]⟩,argTypes:=⟨[t]⟩ },type,pos,after,guard⟩).run P w=.ok (.value (.int .i64 l)) w:=fun h=>by
   have:=Gf (P:=P) (w:=w) (ty:=type) (hE.sl _ (bg he)) h;simp [execOp,resolve,invoke,builtin]
   rw [show ({ toList:=[t] }:Array TypeId)=#[t] from rfl,this];rfl
  split at h
  ·exact Z7
  ·exact Z7
  ·rename_i e1
   cases h
   rw [e1] at hx;exact eO hw (fin hx) ⟨0,rfl,KT _,KT _⟩
  cases h
 ·rename_i x y t u
  obtain ⟨e,he,h⟩:=Option.bind_eq_some_iff.1 h;obtain ⟨m,hm,h⟩:=Option.bind_eq_some_iff.1 h;have hx:=hρ x (by simp [Op.operands,Call.operands]);have hy:=hρ y (by simp [Op.operands,Call.operands])
  have hx:ok g w0 w (GB e m (ρ x)) (a.eval x):=by
   unfold GB
   split
   ·rename_i e1
    rw [e1] at hx;exact kB .z _ _ rfl hx
   exact hx
  have fin:∀ {k lo hi a' b d:Nat},GB e m (ρ x)=.o d k lo hi->ok g w0 w (.s m a' b) (a.eval y)->(Nat.beq t u && (Nat.beq d e && (Nat.beq k m && (Nat.ble 1 a' && Nat.ble (hi+b) 1000))))=true->
    Oper.wp P ⟨dst,.call { callee:=.builtin .append,args:=⟨[x,y]⟩,argTypes:=⟨[t,u]⟩ },type,pos,after,guard⟩ a w (fun a1 w'=>∃ v,a1=a.put dst v/\Gv w0 w g B n vc (K+0) (.o e m (lo+a') (hi+b)) v w') Q:=by
   intro k lo hi a' b d e1 hy h1;simp only [Bool.and_eq_true] at h1;obtain ⟨q1,q2,q3,q4,q5⟩:=h1;obtain rfl:=Nat.eq_of_beq_eq_true q1;obtain rfl:=Nat.eq_of_beq_eq_true q2;obtain rfl:=Nat.eq_of_beq_eq_true q3;rw [e1] at hx;obtain ⟨r,w',r1,r2⟩:=yA (P:=P) (ty:=type) (hE.sl _ (bg he)) (hE.fl _ (bg hm)) hx hy (Nat.le_of_ble_eq_true q4) (Nat.le_of_ble_eq_true q5) hw;exact gJ (by simp [execOp,resolve,invoke,builtin];rw [show ({ toList:=[t,t] }:Array TypeId)=#[t,t] from rfl,r1];rfl) r2
  split at h
  ·rename_i d k lo hi j a' b e1 e2
   obtain ⟨h1,h2⟩:=cL h;cases h2
   rw [e2] at hy
   have hj:j=m:=by
    simp only [Bool.and_eq_true] at h1;exact Nat.eq_of_beq_eq_true h1.2.2.2.1
   subst hj;exact fin e1 hy wau6
  ·rename_i d k lo hi e' j a' b e1 e2
   obtain ⟨h1,h2⟩:=cL h;cases h2
   rw [e2] at hy
   have hj:j=m:=by
    simp only [Bool.and_eq_true] at h1;exact Nat.eq_of_beq_eq_true h1.2.2.2.1
   subst hj;exact fin e1 (kB _ (.s j a' b) _ (by simp [le,Nat.beq_eq]) hy) wau6
  cases h
 cases h
end Dw
namespace Dw
def jP (l:Nat->Bool) (i:Nat):Nat->Bool:=fun j=>if j=i then true else l j
def JL (ops:Array Oper) (l:Nat->Bool) (o:Oper):Prop:=∀ e ∈ o.after,Region.binds .any e=true->l e.on=true
theorem xw {P:Program} {Q:Exit->Act->World->Prop} {ops:Array Oper} {a:Act} {w:World} (I:(Nat->Bool)->Act->World->Prop) (hm:P.follows .mixedOrders=true) (id:Nat) (dr:Bool)
  (hac:∀ (i:Nat) o,ops[i]?=some o->∀ e ∈ o.after,Region.binds .any e=true->e.on<i)
  (h0:I (fun _=>false) a w/\I (fun _=>false) a { w with drawn:=w.drawn+1 })
  (hs:∀ l a w i o,I l a w->ops[i]?=some o->l i=false->JL ops l o->wpOp P ops Q i (fun a' w'=>I (jP l i) a' w') a w)
  (hQ:∀ l a w,I l a w->(∀ i,i<ops.size->l i=true)->Q .normal a w):(Code.region id ops dr).wp P Q a w:=by
 cases dr with
 | false=>
  refine wp_region ?_
  have key:∀ (n i:Nat) a w,i+n=ops.size->I (fun j=>decide (j<i)) a w->wpOps P ops Q (List.range' i n) a w:=by
   intro n
   induction n with
   | zero=>
    intro i a w hn hI
    exact hQ _ a w hI fun j hj=>decide_eq_true ω
   | succ n ih=>
   intro i a w hn hI
   obtain ⟨o,ho⟩:∃ o,ops[i]?=some o:=⟨_,Array.getElem?_eq_getElem ω⟩
   rw [List.range'_succ,wpOps_cons];refine wpOp_mono (fun a' w' h=>ih (i+1) a' w' ω ?_) (hs _ a w i o hI ho (decide_eq_false ω) fun e he hb=>decide_eq_true (hac i o ho e he hb))
   have e:(fun j=>decide (j<i+1))=jP (fun j=>decide (j<i)) i:=by
    funext j
    unfold jP
    split
    ·subst j;simp
    exact decide_eq_decide.2 ω
   rw [e];exact h
  rw [List.range_eq_range'];refine key _ 0 a w ω ?_
  have e:(fun j=>decide (j<0))=fun _=>false:=by funext j;simp
  rw [e];exact h0.1
 | true=>
 refine wp_region_any hm ?_
 have hall:∀ L:Array Bool,L.size=ops.size->Region.ready .any ops L=[]->∀ i,i<ops.size->L.getD i false=true:=by
  intro L hL hr i
  induction i using Nat.strongRecOn with
  | ind i ih=>
  intro hi
  cases hl:L.getD i false
  ·exfalso
   have hm:i ∈ Region.ready .any ops L:=by
    unfold Region.ready;rw [List.mem_filter];refine ⟨List.mem_range.2 hi,?_⟩
    have hg:L.getD i true=false:=by
     rw [Array.getD_eq_getD_getElem?,Array.getElem?_eq_getElem ω] at hl ⊢;exact hl
    rw [hg,Array.getElem?_eq_getElem hi];simp only [Bool.not_false,Bool.true_and,Option.map_some,Option.getD_some];rw [Array.all_eq_true_iff_forall_mem];intro e he
    cases hb:Region.binds .any e
    ·rfl
    have hlt:=hac i _ (Array.getElem?_eq_getElem hi) e he hb;simp [ih e.on hlt ω]
   rw [hr] at hm;cases hm
  rfl
 have key:∀ (fuel:Nat) (L:Array Bool) (a:Act) (w:World),L.size=ops.size->Rg.left (fun j=>L.getD j false) ops.size<=fuel->I (fun j=>L.getD j false) a w->wpAny P .any ops Q fuel L a w:=by
  intro fuel
  induction fuel with
  | zero=>
   intro L a w hL hl hI;have hz:=iP _ (Nat.le_zero.1 hl);refine ⟨?_,hQ _ a w hI hz⟩;unfold Region.ready;rw [List.filter_eq_nil_iff];intro i hi;have hi:=List.mem_range.1 hi;have h1:=hz i hi
   have hg:L.getD i true=true:=by
    simp only [Array.getD_eq_getD_getElem?] at h1 ⊢;rw [Array.getElem?_eq_getElem ω] at h1 ⊢;exact h1
   rw [hg];simp
  | succ fuel ih=>
  intro L a w hL hl hI;refine ⟨fun hr=>hQ _ a w hI (hall L hL hr),fun i hi=>?_⟩;obtain ⟨hun,o,ho,O5⟩:=mem_ready.1 hi;have hilt:i<ops.size:=(Array.getElem?_eq_some_iff.1 ho).1
  have hun':L.getD i false=false:=by
   exact R_
  have e1:(fun j=>(L.setIfInBounds i true).getD j false)=jP (fun j=>L.getD j false) i:=by
   funext j
   unfold jP;exact Rx
  refine wpOp_mono (fun a' w' h=>ih _ a' w' (by simpa using hL) ?_ (by rw [e1];exact h)) (hs _ a w i o hI ho hun' O5);have:=kC (l:=fun j=>L.getD j false) (l':=jP (fun j=>L.getD j false) i) hun' (if_pos rfl) (fun j hj=>if_neg hj) ops.size hilt;rw [e1];omega
 have e0:(fun j=>(Array.replicate ops.size false).getD j false)=fun _=>false:=by
  funext j
  exact SC
 refine key _ _ a _ σ ?_ (by rw [e0];exact h0.2);rw [e0]
 have:∀ n,Rg.left (fun _=>false) n<=n:=fun n=>by
  induction n with
  | zero=>exact KT _
  | succ n ih=>unfold Rg.left;simp only [Bool.false_eq_true,if_false];omega
 exact this _
end Dw
namespace Dw
def wr:List Oper->Nat->Nat->Option Nat
 | [],_,_=>none
 | o :: os,k,t=>match o.dst with
  | some d=>bif Nat.beq d t then some k else wr os (k+1) t
  | none=>wr os (k+1) t
def nth (l:List S1) (i:Nat):S1:=l.getD i .any
def ri (s:List S1) (os:List Oper) (T:List S1) (i:Nat):Operand->S1
 | .tmp t=>match wr os 0 t with
  | some j=>bif Nat.blt j i then nth T j else nth s t
  | none=>nth s t
 | .const v=>cS v
 | _=>.any
def onE (o:Oper) (j:Nat):Bool:=o.after.toList.any fun e=>Region.binds .any e && Nat.beq e.on j
def ck1 (E:Env) (s:List S1) (os:List Oper) (T:List S1) (C:List Nat) (j:Nat) (b:Bool) (i:Nat) (o:Oper):Bool:=
 let run:=match Xl E (ri s os T i) o.op with
  | some (r,c)=>Nat.ble c (C.getD i 0) && (bif Nat.beq i j then le r .b && (le (.k b) (nth T i) && (le (nth T i) (.k b) && o.dst.isSome)) else le r (nth T i))
  | none=>false
 match o.guard with
 | some (q,want)=>Nat.beq q j && (onE o j && (bif want == b then run else le .any (nth T i)))
 | none=>run
def TI (E:Env) (s:List S1) (os:List Oper) (T:List S1) (C:List Nat) (j:Nat) (b:Bool):Nat->List Oper->Bool
 | _,[]=>true
 | i,o :: l=>ck1 E s os T C j b i o && TI E s os T C j b (i+1) l
def VP (T U:List S1) (j:Nat):Nat->List Oper->Bool
 | _,[]=>true
 | i,o :: l=>(Nat.beq i j || (onE o j || (le (nth T i) (nth U i) && le (nth U i) (nth T i)))) && VP T U j (i+1) l
def sum:List Nat->Nat
 | []=>0
 | c :: C=>c+sum C
def cnt (l:Nat->Bool):List Nat->Nat->Nat
 | [],_=>0
 | c :: C,k=>(bif l k then c else 0)+cnt l C (k+1)
theorem lW (l:Nat->Bool):∀ C k,cnt l C k<=sum C
 | [],_=>KT _
 | c :: C,k=>by
  have:=lW l C (k+1);unfold cnt sum
  cases l k <;> simp <;> omega
theorem uw {l:Nat->Bool} {i:Nat}:∀ C k,i<k->cnt (jP l i) C k=cnt l C k
 | [],_,_=>rfl
 | c :: C,k,h=>by
  unfold cnt;rw [uw C (k+1) ω,show jP l i k=l k from if_neg ω]
theorem tI {l:Nat->Bool} {i c:Nat} (hl:l i=false):∀ C k,k<=i->c<=C.getD (i - k) 0->cnt l C k+c<=cnt (jP l i) C k
 | [],k,_,h=>by simp at h;unfold cnt;omega
 | d :: C,k,hk,h=>by
  unfold cnt
  by_cases e:i=k
  ·subst e
   rw [Nat.sub_self] at h;rw [uw C (i+1) ω,show jP l i i=true from if_pos rfl,hl];simp at h ⊢
   omega
  have:=tI (c:=c) hl C (k+1) ω (by rw [show i - k=(i - (k+1))+1 by omega] at h;simpa using h);rw [show jP l i k=l k from if_neg ω];omega
theorem tF {E:Env} {s:List S1} {os:List Oper} {T:List S1} {C:List Nat} {j:Nat} {b:Bool}:∀ (l:List Oper) (k i:Nat) (o:Oper),TI E s os T C j b k l=true->l[i]?=some o->ck1 E s os T C j b (k+i) o=true
 | [],_,_,_,_,h=>by simp at h
 | x :: l,k,0,o,h,ho=>by
  simp only [List.getElem?_cons_zero,Option.some.injEq] at ho;subst ho;rw [TI,Bool.and_eq_true] at h;exact h.1
 | x :: l,k,i+1,o,h,ho=>by
  rw [TI,Bool.and_eq_true] at h;have:=tF l (k+1) i o h.2 (by simpa using ho)
  rwa [show k+(i+1)=k+1+i by omega]
theorem Cd {T U:List S1} {j:Nat}:∀ (l:List Oper) (k i:Nat) (o:Oper),VP T U j k l=true->l[i]?=some o->k+i=j∨onE o j=true∨le (nth T (k+i)) (nth U (k+i))=true/\le (nth U (k+i)) (nth T (k+i))=true
 | [],_,_,_,_,h=>by simp at h
 | x :: l,k,0,o,h,ho=>by
  simp only [List.getElem?_cons_zero,Option.some.injEq] at ho;subst ho;rw [VP,Bool.and_eq_true,Bool.or_eq_true,Bool.or_eq_true,Bool.and_eq_true] at h;exact h.1.imp (fun h=>Nat.eq_of_beq_eq_true h) id
 | x :: l,k,i+1,o,h,ho=>by
  rw [VP,Bool.and_eq_true] at h;have:=Cd l (k+1) i o h.2 (by simpa using ho)
  rwa [show k+(i+1)=k+1+i by omega]
theorem ub {t:Nat}:∀ (os:List Oper) (k i:Nat),wr os k t=some i->∃ j o,i=k+j/\os[j]?=some o/\o.dst=some t
 | [],_,_,h=>by cases h
 | o :: os,k,i,h=>by
  unfold wr at h
  split at h
  ·rename_i d hd
   cases e:Nat.beq d t with
   | true=>
    rw [e] at h;cases h
    exact ⟨0,o,rfl,rfl,by rw [hd,Nat.eq_of_beq_eq_true e]⟩
   | false=>
   rw [e] at h;obtain ⟨j,x,h1,h2⟩:=ub os (k+1) i h;exact ⟨j+1,x,ω,by simpa using h2⟩
  obtain ⟨j,x,h1,h2⟩:=ub os (k+1) i h;exact ⟨j+1,x,ω,by simpa using h2⟩
theorem Hq {t:Nat}:∀ (os:List Oper) (k j:Nat) (o:Oper),Rg.apart os=true->os[j]?=some o->o.dst=some t->wr os k t=some (k+j)
 | [],_,_,_,_,h,_=>by simp at h
 | x :: os,k,0,o,ha,h,hd=>by
  simp only [List.getElem?_cons_zero,Option.some.injEq] at h;subst h;unfold wr;rw [hd];simp
 | x :: os,k,j+1,o,ha,h,hd=>by
  rw [Rg.apart,Bool.and_eq_true] at ha;have:=Hq os (k+1) j o ha.2 (by simpa using h) hd;have hs:=List.all_eq_true.1 ha.1 o (List.mem_of_getElem? (by simpa using h:os[j]?=some o));unfold wr;rw [show k+(j+1)=k+1+j by omega,←this]
  split
  ·rename_i d hd'
   rw [Rg.sep,hd',hd,bne_iff_ne] at hs
   have hne:d≠t:=fun e=>hs (by rw [e])
   have:Nat.beq d t=false:=by rw [Bool.eq_false_iff];intro e;exact hne (Nat.eq_of_beq_eq_true e)
   rw [this];rfl
  rfl
def sh (s:List S1) (os:List Oper) (T:List S1) (l:Nat->Bool) (t:Nat):S1:=match wr os 0 t with
 | some j=>bif l j then nth T j else nth s t
 | none=>nth s t
def fin (os:List Oper) (T:List S1):Nat->List S1->List S1
 | _,[]=>[]
 | t,x :: l=>(match wr os 0 t with | some j=>nth T j | none=>x) :: fin os T (t+1) l
theorem DJ {os:List Oper} {T:List S1}:∀ (l:List S1) (k t:Nat),t<l.length->nth (fin os T k l) t=match wr os 0 (k+t) with | some j=>nth T j | none=>nth l t
 | [],_,_,h=>by simp at h
 | x :: l,k,0,_=>rfl
 | x :: l,k,t+1,h=>by
  have:=DJ (os:=os) (T:=T) l (k+1) t (by simpa using h);rw [show k+(t+1)=k+1+t by omega];exact this
theorem tN {os:List Oper} {T:List S1}:∀ (l:List S1) (k:Nat),(fin os T k l).length=l.length
 | [],_=>rfl
 | x :: l,k=>by rw [fin,List.length_cons,tN l,List.length_cons]
structure Ok (w0:World) (g B n:Nat) (vc:Value) (s:List S1) (K:Nat) (a:Act) (w:World):Prop where
 wd:Wd w0 g B n vc K w
 sl:∀ t,ok g w0 w (nth s t) (a.eval (.tmp t))
 size:a.tmps.size=s.length
 de:a.defers=[]
end Dw
namespace Dw
variable {P:Program} {Q:Exit->Act->World->Prop} {E:Env} {ops:Array Oper} {w0:World} {g B n K j:Nat} {vc:Value} {s:List S1} {T:Bool->List S1} {C:List Nat}
structure Iv (w0:World) (g B n:Nat) (vc:Value) (s:List S1) (K:Nat) (ops:Array Oper) (T:Bool->List S1) (C:List Nat) (j:Nat) (l:Nat->Bool) (a:Act) (w:World):Prop where
 wd:Wd w0 g B n vc (K+cnt l C 0) w
 sl:∃ b,∀ t,ok g w0 w (sh s ops.toList (T b) l t) (a.eval (.tmp t))
 size:a.tmps.size=s.length
 de:a.defers=[]
 cl:∀ (i:Nat) o,ops[i]?=some o->l i=true->JL ops l o
theorem EG {a:Act} {d t:Nat} {v:Value} (h:d≠t):(a.put (some d) v).eval (.tmp t)=a.eval (.tmp t):=by
 simp [Act.eval,Act.put,Array.getElem?_setIfInBounds_ne h]
theorem qy {a:Act} {d:Nat} {v:Value} (h:d<a.tmps.size):(a.put (some d) v).eval (.tmp d)=v:=by
 simp [Act.eval,Act.put,h]
theorem EH {a:Act} {v:Value} {x:Operand}:(a.put none v).eval x=a.eval x:=rfl
theorem EF {a:Act} {d:Option Tmp} {v:Value}:(a.put d v).defers=a.defers:=by cases d <;> rfl
theorem xk {o:Oper} {j:Nat} (h:onE o j=true):∃ e ∈ o.after,Region.binds .any e=true/\e.on=j:=by
 obtain ⟨e,he,h⟩:=List.any_eq_true.1 h;rw [Bool.and_eq_true] at h;exact ⟨e,Array.mem_toList_iff.1 he,h.1,Nat.eq_of_beq_eq_true h.2⟩
theorem BT (hE:dU P E) (hm:P.follows .mixedOrders=true) {id:Nat} {dr:Bool} (hok:eo .any ops s.length=true) (hT:∀ b,TI E s ops.toList (T b) C j b 0 ops.toList=true) (hI:VP (T false) (T true) j 0 ops.toList=true)
  {a:Act} {w:World} (h:Ok w0 g B n vc s K a w) (hK:K+sum C<=700000000) (hQ:∀ b a' w',Ok w0 g B n vc (fin ops.toList (T b) 0 s) (K+sum C) a' w'->Q .normal a' w'):(Code.region id ops dr).wp P Q a w:=by
 rw [eo,Bool.and_eq_true,Bool.and_eq_true] at hok;obtain ⟨⟨hap,hrd⟩,hac⟩:=hok
 have Ly:∀ (i:Nat) o,ops[i]?=some o->(∀ e ∈ o.after,Region.binds .any e=true->e.on<i)/\∀ d,o.dst=some d->d<s.length:=fun i o hi=>by
  exact Rv
 have htl:∀ i,ops.toList[i]?=ops[i]?:=fun i=>Array.getElem?_toList
 have Mj:∀ {t i:Nat},wr ops.toList 0 t=some i->∃ o,ops[i]?=some o/\o.dst=some t:=fun {t i} h=>by
  obtain ⟨j,o,h1,h2,h3⟩:=ub _ 0 i h;rw [Nat.zero_add] at h1;subst h1;exact ⟨o,by rw [←htl];exact h2,h3⟩
 have Qi:∀ {t i:Nat} {o:Oper},ops[i]?=some o->o.dst=some t->wr ops.toList 0 t=some i:=fun {t i o} h1 h2=>by
  have:=Hq ops.toList 0 i o hap (by rw [htl];exact h1) h2
  rwa [Nat.zero_add] at this
 refine xw (Iv w0 g B n vc s K ops T C j) hm id dr (fun i o hi=>(Ly i o hi).1) ?_ ?_ ?_
 ·have c0:cnt (fun _=>false) C 0=0:=by
   have:∀ C k,cnt (fun _=>false) C k=0:=fun C=>by
    induction C with
    | nil=>intro _;rfl
    | cons c C ih=>intro k;unfold cnt;rw [ih];rfl
   exact this C 0
  have s0:∀ t,sh s ops.toList (T true) (fun _=>false) t=nth s t:=fun t=>by unfold sh;split <;> rfl
  exact ⟨⟨by rw [c0];exact h.wd,⟨true,fun t=>by rw [s0];exact h.sl t⟩,h.size,h.de,fun _ _ _ h=>by cases h⟩,
   ⟨by rw [c0];exact h.wd.drew,⟨true,fun t=>by rw [s0];exact jG (.grown (bT (KS _ _).drew _)) _ _ (h.sl t)⟩,h.size,h.de,fun _ _ _ h=>by cases h⟩⟩
 ·intro l a w i o hI' ho hl hd
  obtain ⟨wd,⟨b,sl⟩,sz,de,cl⟩:=hI';have hlt:i<ops.size:=(Array.getElem?_eq_some_iff.1 ho).1;have hrow:=tF ops.toList 0 i o (hT b) (by rw [htl];exact ho);rw [Nat.zero_add] at hrow
  have hρ:∀ x ∈ o.op.operands.toList,ok g w0 w (ri s ops.toList (T b) i x) (a.eval x):=by
   intro x hx
   cases x with
   | const v=>exact HF _ _ _ _
   | global _=>trivial
   | func _=>trivial
   | tmp t=>
   have ht:t ∈ o.looksAt ops:=List.mem_append.2 (.inl (List.mem_filterMap.2 ⟨_,hx,rfl⟩))
   have hr1:jJ .any ops i o t=true:=by
    have:=List.all_eq_true.1 hrd i (List.mem_range.2 hlt);rw [ho] at this;exact List.all_eq_true.1 this t ht
   have e:ri s ops.toList (T b) i (.tmp t)=sh s ops.toList (T b) l t:=by
    unfold ri sh
    dsimp only
    cases hw:wr ops.toList 0 t with
    | none=>rfl
    | some q=>
    dsimp only
    obtain ⟨x,hx1,hx2⟩:=Mj hw
    have key:l q=Nat.blt q i:=by
     rw [jJ,Bool.or_eq_true] at hr1
     rcases hr1 with p | p
     ·obtain ⟨e,he,hp⟩:=List.any_eq_true.1 p
      rw [Bool.and_eq_true,beq_iff_eq] at hp;obtain ⟨y,hy1,hy2⟩:=Option.bind_eq_some_iff.1 hp.2;have:=Qi hy1 hy2;rw [hw] at this
      injection this with this
      subst this;have h1:=hd e (Array.mem_toList_iff.1 he) hp.1;have h2:=(Ly i o ho).1 e (Array.mem_toList_iff.1 he) hp.1;rw [h1]
      symm
      rw [Nat.blt_eq];exact h2
     have:=List.all_eq_true.1 p q (List.mem_range.2 (Array.getElem?_eq_some_iff.1 hx1).1);rw [hx1] at this;simp only [Bool.or_eq_true,bne_iff_ne,ne_eq,beq_iff_eq,List.any_eq_true,Bool.and_eq_true] at this
     rcases this with (q1 | q1) | ⟨e,he,hb,hon⟩
     ·exact absurd hx2 q1
     ·subst q1
      rw [hl]
      symm
      rw [Bool.eq_false_iff];intro e;have:=ij e;omega
     have h1:l q=false:=by
      rw [Bool.eq_false_iff];intro e';have:=cl q x hx1 e' e (Array.mem_toList_iff.1 he) hb;rw [hon,hl] at this;cases this
     have h2:=(Ly q x hx1).1 e (Array.mem_toList_iff.1 he) hb;rw [h1]
     symm
     rw [Bool.eq_false_iff];intro e;have:=ij e;omega
    rw [key]
   rw [e];exact sl t
  have hc1:=lW (jP l i) C 0
  have next:∀ (b':Bool) (r:S1) (c:Nat) (v:Value) (w':World),(∀ t q,wr ops.toList 0 t=some q->l q=true->le (nth (T b) q) (nth (T b') q)=true)->Nat.ble c (C.getD i 0)=true->le r (nth (T b') i)=true->Gv w0 w g B n vc (K+cnt l C 0+c) r v w'->Iv w0 g B n vc s K ops T C j (jP l i) (a.put o.dst v) w':=by
   intro b' r c v w' hb hc hr hv;obtain ⟨v1,v2,v3⟩:=hv;have hcc:=tI (l:=l) hl C 0 (Nat.zero_le _) (Nat.le_of_ble_eq_true hc);refine ⟨v2.up ω,⟨b',fun t=>?_⟩,by rw [wD];exact sz,by rw [EF];exact de,fun q x hx hq e he hbd=>?_⟩
   ·have hold:(∀ q,wr ops.toList 0 t=some q->q≠i)->ok g w0 w' (sh s ops.toList (T b') (jP l i) t) (a.eval (.tmp t)):=fun hne=>by
     have h1:=jG v3 _ _ (sl t);unfold sh at h1 ⊢
     cases hw:wr ops.toList 0 t with
     | none=>rw [hw] at h1;exact h1
     | some q=>
     rw [hw] at h1
     dsimp only at h1 ⊢
     rw [show jP l i q=l q from if_neg (hne q hw)]
     cases hq:l q with
     | false=>rw [hq] at h1;exact h1
     | true=>rw [hq] at h1;exact kB _ _ _ (hb t q hw hq) h1
    cases hd':o.dst with
    | none=>
     rw [EH]
     refine hold fun q hq e=>?_
     subst e;obtain ⟨x,hx1,hx2⟩:=Mj hq;rw [ho] at hx1;cases hx1
     rw [hd'] at hx2;cases hx2
    | some d=>
    by_cases e:d=t
    ·subst e
     rw [qy (by rw [sz];exact (Ly i o ho).2 d hd')]
     have:sh s ops.toList (T b') (jP l i) d=nth (T b') i:=by
      unfold sh;rw [Qi ho hd']
      dsimp only
      rw [show jP l i i=true from if_pos rfl];rfl
     rw [this];exact kB _ _ _ hr v1
    rw [EG e]
    refine hold fun q hq e'=>?_
    subst e';obtain ⟨x,hx1,hx2⟩:=Mj hq;rw [ho] at hx1;cases hx1
    rw [hd'] at hx2;exact e (Option.some.inj hx2)
   unfold jP at hq ⊢
   split at hq
   ·rename_i e'
    subst e';rw [ho] at hx;cases hx
    have:=hd e he hbd;rw [this]
    split <;> rfl
   have:=cl q x hx hq e he hbd;rw [this]
   split <;> rfl
  have run:(match Xl E (ri s ops.toList (T b) i) o.op with
    | some (r,c)=>Nat.ble c (C.getD i 0) && (bif Nat.beq i j then le r .b && (le (.k b) (nth (T b) i) && (le (nth (T b) i) (.k b) && o.dst.isSome)) else le r (nth (T b) i))
    | none=>false)=true->(Nat.beq i j=true->∀ b',le (.k b') (nth (T b') i)=true)->o.wp P a w (fun a' w'=>Iv w0 g B n vc s K ops T C j (jP l i) a' w') Q:=by
   intro hr hj
   split at hr
   ·rename_i r c hop
    rw [Bool.and_eq_true] at hr;obtain ⟨hc,h2⟩:=hr;have hcc:=tI (l:=l) hl C 0 (Nat.zero_le _) (Nat.le_of_ble_eq_true hc);refine Oper.wp_mono ?_ (Jy hE hop hρ wd ω);rintro a' w' ⟨v,rfl,hv⟩
    cases hij:Nat.beq i j with
    | false=>
     rw [hij] at h2;exact next b r c v w' (fun _ _ _ _=>le_refl _) hc h2 hv
    | true=>
    rw [hij] at h2;have hij':=Nat.eq_of_beq_eq_true hij;have h2:(le r .b && (le (.k b) (nth (T b) i) && (le (nth (T b) i) (.k b) && o.dst.isSome)))=true:=h2;rw [Bool.and_eq_true] at h2;obtain ⟨b',hb'⟩:=kB r .b v h2.1 hv.1;refine next b' (.k b') c v w' (fun t q hq hlq=>?_) hc (hj hij b') ⟨hb',hv.2⟩;obtain ⟨x,hx,-⟩:=Mj hq;have:=Cd ops.toList 0 q x hI (by rw [htl];exact hx);rw [Nat.zero_add] at this
    rcases this with rfl | h3 | ⟨h3,h4⟩
    ·rw [←hij',hl] at hlq
     cases hlq
    ·obtain ⟨e,he,hbd,hon⟩:=xk h3
     have:=cl q x hx hlq e he hbd;rw [hon,←hij',hl] at this;cases this
    cases b <;> cases b'
    ·exact le_refl _
    ·exact h3
    ·exact h4
    exact le_refl _
   cases hr
  unfold wpOp;rw [ho]
  dsimp only
  unfold ck1 at hrow
  dsimp only at hrow
  cases hg:o.guard with
  | none=>
   rw [hg] at hrow;rw [if_pos (by simp [Region.wanted,hg])];refine .inl (run hrow fun hij b'=>?_);have h1:=tF ops.toList 0 i o (hT b') (by rw [htl];exact ho);rw [Nat.zero_add] at h1;unfold ck1 at h1
   dsimp only at h1
   rw [hg] at h1
   dsimp only at h1
   split at h1
   ·rw [hij,Bool.and_eq_true] at h1
    have h2:=h1.2;simp only [cond_true,Bool.and_eq_true] at h2;exact h2.2.1
   cases h1
  | some qw=>
  obtain ⟨q,want⟩:=qw;rw [hg] at hrow
  dsimp only at hrow
  rw [Bool.and_eq_true,Bool.and_eq_true] at hrow;obtain ⟨hq,hon,hrow⟩:=hrow;obtain rfl:=Nat.eq_of_beq_eq_true hq;obtain ⟨e,he,hbd,hon⟩:=xk hon;have hlq:=hd e he hbd;have hqi:=(Ly i o ho).1 e he hbd;rw [hon] at hlq hqi
  obtain ⟨x,hx⟩:∃ x,ops[q]?=some x:=⟨_,Array.getElem?_eq_getElem ω⟩
  have hrq:=tF ops.toList 0 q x (hT b) (by rw [htl];exact hx);rw [Nat.zero_add] at hrq
  have hxg:∃ d,x.dst=some d/\le (nth (T b) q) (.k b)=true:=by
   unfold ck1 at hrq
   dsimp only at hrq
   cases hxg:x.guard with
   | none=>
    rw [hxg] at hrq
    dsimp only at hrq
    split at hrq
    ·rw [Nat.beq_refl,Bool.and_eq_true] at hrq
     have h2:=hrq.2;simp only [cond_true,Bool.and_eq_true,Option.isSome_iff_exists] at h2;obtain ⟨d,hd⟩:=h2.2.2.2;exact ⟨d,hd,h2.2.2.1⟩
    cases hrq
   | some y=>
   obtain ⟨q',want'⟩:=y;rw [hxg] at hrq
   dsimp only at hrq
   rw [Bool.and_eq_true,Bool.and_eq_true] at hrq;obtain ⟨e',he',hbd',hon'⟩:=xk hrq.2.1;have:=(Ly q x hx).1 e' he' hbd';omega
  obtain ⟨d,hxd,hle⟩:=hxg;have hsl:=sl d
  have:sh s ops.toList (T b) l d=nth (T b) q:=by
   unfold sh;rw [Qi hx hxd]
   dsimp only
   rw [hlq];rfl
  rw [this] at hsl;have hval:a.eval (.tmp d)=.bool b:=kB _ _ _ hle hsl;have hdl:=(Ly q x hx).2 d hxd
  have hy:yielded ops a.tmps q=some b:=by
   unfold yielded;rw [hx,Option.bind_some,hxd,Option.bind_some];have h1:a.tmps.getD d undef=.bool b:=hval
   have hdl:d<a.tmps.size:=by rw [sz];exact hdl
   rw [Array.getD_eq_getD_getElem?,Array.getElem?_eq_getElem hdl] at h1;rw [Array.getElem?_eq_getElem hdl];simp only [Option.getD_some] at h1;rw [h1]
  have hij:Nat.beq i q=false:=by rw [Bool.eq_false_iff];intro e;have:=Nat.eq_of_beq_eq_true e;omega
  cases hwb:want == b with
  | true=>
   rw [hwb] at hrow;have:=(beq_iff_eq (a:=want) (b:=b)).1 hwb;subst this;rw [if_pos (by simp [Region.wanted,hg,hy])];exact .inl (run hrow fun h=>by rw [hij] at h;cases h)
  | false=>
  rw [hwb] at hrow;have:want≠b:=beq_eq_false_iff_ne.1 hwb;rw [if_neg (by simp [Region.wanted,hg,hy];exact Ne.symm this)];exact next b .any 0 undef w (fun _ _ _ _=>le_refl _) σ hrow ⟨trivial,wd,Mon.refl _ _⟩
 rintro l a w ⟨wd,⟨b,sl⟩,sz,de,-⟩ hall;refine hQ b a w ⟨wd.up (Nat.add_le_add_left (lW l C 0) K),fun t=>?_,by rw [tN];exact sz,de⟩
 by_cases ht:t<s.length
 ·rw [DJ s 0 t ht,Nat.zero_add]
  have h1:=sl t;unfold sh at h1
  cases hw:wr ops.toList 0 t with
  | none=>rw [hw] at h1;exact h1
  | some q=>
  rw [hw] at h1
  dsimp only at h1 ⊢
  obtain ⟨o,ho,-⟩:=Mj hw;rw [hall q (Array.getElem?_eq_some_iff.1 ho).1] at h1;exact h1
 have:nth (fin ops.toList (T b) 0 s) t=.any:=by
  unfold nth;rw [List.getD_eq_getElem?_getD,List.getElem?_eq_none (by rw [tN];omega)];rfl
 rw [this]
 trivial
end Dw
theorem Qe {p:Prop} (h:p:=by exact ⟨_,a₁,w₁,hq,.pass (x:=.inLoop c) rfl (fun _ _=>.inl σ) harr⟩):p:=h
theorem ZW {p:Prop} (h:p:=by
 rcases uZ R q h with ⟨i',h1,h2,h3⟩ | ⟨h1,h2⟩
 ·exact .inl ⟨i',h1,h2,List.mem_cons_of_mem _ h3⟩
 exact .inr ⟨h1,List.mem_cons_of_mem _ h2⟩):p:=h
namespace Dw
inductive Ex where
 | OZ | ext (q:Nat) | Vk
def Jh:Ex->Exit
 | .OZ=>.normal
 | .ext q=>.exit q
 | .Vk=>.ret
abbrev Nq:=Ex × List S1 × Nat
def mk (E:Env) (s:List S1) (os:List Oper) (j:Nat) (b:Bool):Nat->List Oper->List S1->List Nat->List S1 × List Nat
 | _,[],T,C=>(T,C)
 | i,o :: l,T,C=>
 bif (match o.guard with | some (_,want)=>!(want == b) | none=>false) then mk E s os j b (i+1) l (T ++ [.any]) (C ++ [0])
 else match Xl E (ri s os T i) o.op with
  | some (r,c)=>mk E s os j b (i+1) l (T ++ [bif Nat.beq i j then .k b else r]) (C ++ [c])
  | none=>(T,C)
def Ia:List Oper->Nat->Nat
 | [],n=>n
 | o :: l,n=>match o.guard with
  | some (q,_)=>q
  | none=>Ia l n
def mx:List Nat->List Nat->List Nat
 | a :: l,b :: k=>Nat.max a b :: mx l k
 | _,_=>[]
def ckT (E:Env) (cap k:Nat) (ops:Array Oper) (s:List S1) (T U:List S1) (C:List Nat) (j:Nat):Bool:=
 eo .any ops s.length && (TI E s ops.toList T C j false 0 ops.toList && (TI E s ops.toList U C j true 0 ops.toList && (VP T U j 0 ops.toList && Nat.ble (k+sum C) cap)))
def ckR (E:Env) (cap k:Nat) (ops:Array Oper) (s:List S1):Option (List Nq):=
 let j:=Ia ops.toList ops.size
 let t:=mk E s ops.toList j false 0 ops.toList [] []
 bif Nat.beq j ops.size then (bif ckT E cap k ops s t.1 t.1 t.2 j then some [(.OZ,fin ops.toList t.1 0 s,k+sum t.2)] else none)
 else
  let u:=mk E s ops.toList j true 0 ops.toList [] []
  let C:=mx t.2 u.2
  bif ckT E cap k ops s t.1 u.1 C j then some [(.OZ,fin ops.toList t.1 0 s,k+sum C),(.OZ,fin ops.toList u.1 0 s,k+sum C)] else none
def rZ:List Nq->(List S1->Nat->Option (List Nq))->Option (List Nq)
 | [],_=>some []
 | (.OZ,s,k) :: R,F=>(F s k).bind fun A=>(rZ R F).bind fun B=>some (A ++ B)
 | q :: R,F=>(rZ R F).bind fun B=>some (q :: B)
def ev (s:List S1):Operand->S1
 | .tmp t=>nth s t
 | .const v=>cS v
 | _=>.any
def Ub (id:Nat):List Nq->List Nq
 | []=>[]
 | (.ext q,s) :: R=>(bif Nat.beq q id then (.OZ,s) else (.ext q,s)) :: Ub id R
 | x :: R=>x :: Ub id R
def Ns (E:Env) (cap:Nat):Nat->Code->List S1->Nat->Option (List Nq)
 | 0,_,_,_=>none
 | _+1,.skip,s,k=>some [(.OZ,s,k)]
 | _+1,.label _,s,k=>some [(.OZ,s,k)]
 | _+1,.region _ ops _,s,k=>ckR E cap k ops s
 | f+1,.seq x y,s,k=>(Ns E cap f x s k).bind fun R=>rZ R (Ns E cap f y)
 | f+1,.cond c x y,s,k=>match ev s c with
  | .k true=>Ns E cap f x s k
  | .k false=>Ns E cap f y s k
  | .b=>(Ns E cap f x s k).bind fun A=>(Ns E cap f y s k).bind fun B=>some (A ++ B)
  | _=>none
 | f+1,.block id c,s,k=>(Ns E cap f c s k).bind fun R=>some (Ub id R)
 | f+1,.loop c,s,k=>(Ns E cap f c s k).bind fun R=>rZ R (Ns E cap f (.loop c))
 | _+1,.exit id,s,k=>some [(.ext id,s,k)]
 | _+1,.ret,s,k=>some [(.Vk,s,k)]
 | _+1,_,_,_=>none
theorem nL {F:List S1->Nat->Option (List Nq)}:∀ (R L:List Nq),rZ R F=some L->∀ q ∈ R,(q.1=.OZ/\∃ A,F q.2.1 q.2.2=some A/\∀ x ∈ A,x ∈ L)∨(q.1≠.OZ/\q ∈ L)
 | [],_,_,q,h=>by cases h
 | (.OZ,s,k) :: R,L,h,q,hq=>by
  obtain ⟨A,h1,h⟩:=Option.bind_eq_some_iff.1 h;obtain ⟨B,h2,h⟩:=Option.bind_eq_some_iff.1 h;cases h
  rcases List.mem_cons.1 hq with rfl | hq
  ·exact .inl ⟨rfl,A,h1,fun x hx=>List.mem_append_left _ hx⟩
  rcases nL R B h2 q hq with ⟨e,A',h3,h4⟩ | ⟨h3,h4⟩
  ·exact .inl ⟨e,A',h3,fun x hx=>List.mem_append_right _ (h4 x hx)⟩
  exact .inr ⟨h3,List.mem_append_right _ h4⟩
 | (.ext i,s,k) :: R,L,h,q,hq | (.Vk,s,k) :: R,L,h,q,hq=>by
  obtain ⟨B,h2,h⟩:=Option.bind_eq_some_iff.1 h;cases h
  rcases List.mem_cons.1 hq with rfl | hq
  ·exact .inr ⟨fun e=>(by cases e),List.mem_cons_self⟩
  rcases nL R B h2 q hq with ⟨e,A',h3,h4⟩ | ⟨h3,h4⟩
  ·exact .inl ⟨e,A',h3,fun x hx=>List.mem_cons_of_mem _ (h4 x hx)⟩
  exact .inr ⟨h3,List.mem_cons_of_mem _ h4⟩
theorem uZ {id:Nat}:∀ (R:List Nq) (q:Nq),q ∈ R->(∃ i,q.1=.ext i/\i=id/\(Ex.OZ,q.2) ∈ Ub id R)∨((∀ i,q.1=.ext i->i≠id)/\q ∈ Ub id R)
 | [],q,h=>by cases h
 | (.ext i,s) :: R,q,h=>by
  rcases List.mem_cons.1 h with rfl | h
  ·cases e:Nat.beq i id with
   | true=>
    exact .inl ⟨i,rfl,Nat.eq_of_beq_eq_true e,by unfold Ub;rw [e];exact List.mem_cons_self⟩
   | false=>
   refine .inr ⟨fun i' e'=>?_,by unfold Ub;rw [e];exact List.mem_cons_self⟩
   cases e'
   rintro rfl;rw [Nat.beq_refl] at e;cases e
  exact ZW
 | (.OZ,s) :: R,q,h | (.Vk,s) :: R,q,h=>by
  rcases List.mem_cons.1 h with rfl | h
  ·exact .inr ⟨fun i e=>(by cases e),List.mem_cons_self⟩
  exact ZW
def LW (P:Program) (c:Code) (Q:Exit->Act->World->Prop) (a:Act) (w:World):Prop:=
 ∀ (b:Frame) (k:List Item) (cs:List Frame),∃ e a' w',Q e a' w'/\Arrives P (lone (b.at a (.code c :: .inLoop c :: k)) cs w) b k cs e a' w'
section
variable {P:Program} {Q:Exit->Act->World->Prop} {E:Env} {w0:World} {g B n K cap:Nat} {vc:Value}
theorem LW.of {c:Code} {a:Act} {w:World} (h:c.wp P (Exit.then (LW P c Q) Q) a w):LW P c Q a w:=by
 intro b k cs;obtain ⟨e,a₁,w₁,hq,harr⟩:=h b (.inLoop c :: k) cs
 cases e with
 | normal=>
  obtain ⟨e₂,a₂,w₂,hq₂,harr₂⟩:=hq b k cs;exact ⟨e₂,a₂,w₂,hq₂,.of_steps (Steps.trans harr (.one step_inLoop)) harr₂⟩
 | exit id=>exact Qe
 | goto l=>exact Qe
 | ret=>exact Qe
 | panic ch=>exact Qe
 | outgrown=>exact Qe
theorem LW.wp {c:Code} {a:Act} {w:World} (h:LW P c Q a w):(Code.loop c).wp P Q a w:=fun b k cs=>
 let ⟨e,a',w',hq,harr⟩:=h b k cs
 ⟨e,a',w',hq,.of_steps (.one step_loop) harr⟩
theorem IK (hE:dU P E) (hm:P.follows .mixedOrders=true) (hK:K+cap<=700000000) {id k:Nat} {dr:Bool} {ops:Array Oper} {s:List S1} {R:List Nq} (h:ckR E cap k ops s=some R) {a:Act} {w:World} (hw:Ok w0 g B n vc s (K+k) a w) (hQ:∀ q ∈ R,∀ a' w',Ok w0 g B n vc q.2.1 (K+q.2.2) a' w'->Q (Jh q.1) a' w'):(Code.region id ops dr).wp P Q a w:=by
 unfold ckR at h
 dsimp only at h
 have key:∀ (T U:List S1) (C:List Nat) (j:Nat),ckT E cap k ops s T U C j=true->(∀ a' w',Ok w0 g B n vc (fin ops.toList T 0 s) (K+(k+sum C)) a' w'->Q .normal a' w')->(∀ a' w',Ok w0 g B n vc (fin ops.toList U 0 s) (K+(k+sum C)) a' w'->Q .normal a' w')->(Code.region id ops dr).wp P Q a w:=by
  intro T U C j h h1 h2;unfold ckT at h;simp only [Bool.and_eq_true,Nat.ble_eq] at h
  refine BT (T:=fun b=>bif b then U else T) (C:=C) (j:=j) hE hm h.1 (fun b=>?_) h.2.2.2.1 hw ω fun b a' w' h3=>?_
  ·cases b
   ·exact h.2.1
   exact h.2.2.1
  rw [Nat.add_assoc] at h3;cases b
  ·exact h1 a' w' h3
  exact h2 a' w' h3
 cases e:Nat.beq (Ia ops.toList ops.size) ops.size with
 | true=>
  rw [e] at h;obtain ⟨h1,rfl⟩:=cL h;exact key _ _ _ _ h1 (hQ _ List.mem_cons_self) (hQ _ List.mem_cons_self)
 | false=>
 rw [e] at h;obtain ⟨h1,rfl⟩:=cL h;exact key _ _ _ _ h1 (hQ _ List.mem_cons_self) (hQ _ (List.mem_cons_of_mem _ List.mem_cons_self))
theorem gX (hE:dU P E) (hm:P.follows .mixedOrders=true) (hK:K+cap<=700000000):∀ (f:Nat) (Q:Exit->Act->World->Prop) (c:Code) (s:List S1) (k:Nat) (R:List Nq) (a:Act) (w:World),Ok w0 g B n vc s (K+k) a w->(∀ q ∈ R,∀ a' w',Ok w0 g B n vc q.2.1 (K+q.2.2) a' w'->Q (Jh q.1) a' w')->(Ns E cap f c s k=some R->c.wp P Q a w)/\(Ns E cap f (.loop c) s k=some R->LW P c Q a w)
 | 0,_,_,_,_,_,_,_,_,_=>⟨fun h=>(by cases h),fun h=>(by cases h)⟩
 | f+1,Q,c,s,k,R,a,w,hw,hQ=>by
  have sub:∀ (x:Code) (K':Act->World->Prop) (F:List S1->Nat->Option (List Nq)),((Ns E cap f x s k).bind fun R=>rZ R F)=some R->(∀ s' k' A a' w',F s' k'=some A->(∀ q ∈ A,q ∈ R)->Ok w0 g B n vc s' (K+k') a' w'->K' a' w')->x.wp P (Exit.then K' Q) a w:=by
   intro x K' F h hF;obtain ⟨R1,h1,h2⟩:=Option.bind_eq_some_iff.1 h;refine (gX hE hm hK f _ x s k R1 a w hw fun q hq a' w' h3=>?_).1 h1
   rcases nL R1 R h2 q hq with ⟨e,A,h4,h5⟩ | ⟨e,h4⟩
   ·rw [e]
    exact hF _ _ A a' w' h4 h5 h3
   have:=hQ q h4 a' w' h3;obtain ⟨qe,q2⟩:=q;cases qe
   ·exact absurd rfl e
   ·exact this
   exact this
  have lp:Ns E cap (f+1) (.loop c) s k=some R->LW P c Q a w:=fun h=>by
   refine LW.of (sub c (LW P c Q) _ h fun s' k' A a' w' h1 h2 h3=>?_);exact (gX hE hm hK f Q c s' k' A a' w' h3 fun q hq=>hQ q (h2 q hq)).2 h1
  refine ⟨fun h=>?_,lp⟩
  have IH:=fun (x:Code) (R':List Nq) (hR:∀ q ∈ R',q ∈ R)=>(gX hE hm hK f Q x s k R' a w hw fun q hq=>hQ q (hR q hq)).1
  cases c with
  | skip=>cases h;exact wp_skip (hQ _ List.mem_cons_self a w hw)
  | label l=>cases h;exact wp_label (hQ _ List.mem_cons_self a w hw)
  | region id ops dr=>exact IK hE hm hK h hw hQ
  | seq x y=>
   refine wp_seq (sub x (y.wp P Q) _ h fun s' k' A a' w' h1 h2 h3=>?_);exact (gX hE hm hK f Q y s' k' A a' w' h3 fun q hq=>hQ q (h2 q hq)).1 h1
  | cond c x y=>
   unfold Ns at h
   have hc:ok g w0 w (ev s c) (a.eval c):=by
    cases c with
    | tmp t=>exact hw.sl t
    | const v=>exact HF _ _ _ _
    | _=>trivial
   split at h
   ·rename_i e
    rw [e] at hc;exact wp_cond_true hc (IH x R (fun _ h=>h) h)
   ·rename_i e
    rw [e] at hc;exact wp_cond_false hc (IH y R (fun _ h=>h) h)
   ·rename_i e
    rw [e] at hc;obtain ⟨t,hc⟩:=hc;obtain ⟨A,h1,h⟩:=Option.bind_eq_some_iff.1 h;obtain ⟨B,h2,h⟩:=Option.bind_eq_some_iff.1 h;cases h
    exact wp_cond_split hc (fun _=>IH x A (fun q hq=>List.mem_append_left _ hq) h1) fun _=>IH y B (fun q hq=>List.mem_append_right _ hq) h2
   cases h
  | block id c=>
   unfold Ns at h;obtain ⟨R1,h1,h⟩:=Option.bind_eq_some_iff.1 h;cases h
   refine wp_block ((gX hE hm hK f _ c s k R1 a w hw fun q hq a' w' h3=>?_).1 h1)
   rcases uZ (id:=id) R1 q hq with ⟨i,e,e',h4⟩ | ⟨e,h4⟩
   ·rw [e]
    subst e';have:=hQ _ h4 a' w' h3
    show if i=i then Q .normal a' w' else _
    rw [if_pos rfl];exact this
   have:=hQ q h4 a' w' h3;obtain ⟨qe,q2⟩:=q
   cases qe with
   | OZ=>exact this
   | Vk=>exact this
   | ext i=>
   show if i=id then _ else Q (.exit i) a' w'
   rw [if_neg (e i rfl)];exact this
  | loop c=>
   exact ((LW.wp (LW.of (sub c (LW P c Q) _ h fun s' k' A a' w' h1 h2 h3=>(gX hE hm hK f Q c s' k' A a' w' h3 fun q hq=>hQ q (h2 q hq)).2 h1))))
  | exit id=>cases h;exact wp_exit (hQ _ List.mem_cons_self a w hw)
  | ret=>cases h;exact wp_ret (hQ _ List.mem_cons_self a w hw)
  | _=>cases h
end
end Dw
namespace Dw
def KE (E:Env) (s:List S1):ResultVar->Option S1
 | .tmp t=>some (nth s t)
 | .cell a t=>(iR E.fl t).bind fun m=>match nth s a with
  | .p _ k=>bif Nat.ble m k then some (fv m) else none
  | _=>none
def Gc (E:Env) (s:List S1):List ResultVar->Option (List S1)
 | []=>some []
 | r :: l=>(KE E s r).bind fun x=>(Gc E s l).bind fun y=>some (x :: y)
def KM:List S1->Option S1
 | [a]=>some a
 | [a,d]=>some (.t2 a d)
 | [a,d,e]=>some (.t3 a d e)
 | _=>none
def IZ:S1->Bool
 | .p o _=>!o
 | .o .. | .t2 .. | .t3 ..=>false
 | _=>true
def ckQ (E:Env) (cap:Nat) (rs:List ResultVar) (r:S1) (q:Nq):Bool:=(match q.1 with | .ext _=>false | _=>true) && (Nat.ble q.2.2 cap && match (Gc E q.2.1 rs).bind KM with
 | some x=>le x r
 | none=>false)
def CT (A:List S1) (n:Nat):List S1:=A ++ List.replicate (n - A.length) .any
def ckC (E:Env) (rs:List ResultVar) (c:Code) (s:List S1) (r:S1) (cap fuel:Nat):Bool:=match Ns E cap fuel c s 0 with
 | some R=>R.all (ckQ E cap rs r)
 | none=>false
def ckF (E:Env) (fn:Func) (A:List S1) (r:S1) (cap fuel:Nat):Bool:=A.all IZ && match fn.body with
 | some c=>ckC E fn.results.toList c (CT A fn.ntmps) r cap fuel
 | none=>false
theorem Fc {g z z':Nat} {w:World} {s:S1} {v:Value} (h:IZ s=true) (q:ok g z w s v):ok g z' w s v:=by
 cases s with
 | p o m=>
  obtain ⟨b,off,T,M,e,h1,h2,h3⟩:=q;refine ⟨b,off,T,M,e,h1,h2,fun k=>?_⟩;rw [k] at h;cases h
 | o _ _ _ _=>cases h
 | t2 _ _=>cases h
 | t3 _ _ _=>cases h
 | _=>exact q
theorem Dz {g z:Nat} {w:World}:∀ (A:List S1) (vs:List Value),A.all IZ=true->Qw g z w A vs->A.length=vs.length/\∀ z' t,ok g z' w (nth A t) (vs.getD t undef)
 | [],[],_,_=>⟨rfl,fun _ _=>trivial⟩
 | a :: A,v :: vs,hf,h=>by
  rw [List.all_cons,Bool.and_eq_true] at hf;obtain ⟨h1,h2⟩:=Dz A vs hf.2 h.2;refine ⟨by rw [List.length_cons,h1,List.length_cons],fun z' t=>?_⟩
  cases t with
  | zero=>exact Fc hf.1 h.1
  | succ t=>exact h2 z' t
 | [],_ :: _,_,h | _ :: _,[],_,h=>h.elim
section
variable {P:Program} {E:Env} {w0 w:World} {g B n K:Nat} {vc:Value} {s:List S1} {a:Act}
def rsF (tmps:Array Value):ResultVar->Sem Value
 | .tmp t=>pure (tmps.getD t undef)
 | .cell d t=>do loadVar t (←asAddr (tmps.getD d undef))
theorem xx (fn:Func) (tmps:Array Value):results fn tmps=(do
  let vs ←fn.results.mapM (rsF tmps)
  pure (if h:vs.size=1 then vs[0] else .tuple vs)):=by
 unfold results
 congr 1
theorem Gd (hE:dU P E) (h:Ok w0 g B n vc s K a w) {r:ResultVar} {x:S1} (hx:KE E s r=some x):∃ v,(rsF a.tmps r).run P w=.ok v w/\ok g w0 w x v:=by
 cases r with
 | tmp t=>cases hx;exact ⟨_,rfl,h.sl t⟩
 | cell d t=>
 obtain ⟨m,hm,hx⟩:=Option.bind_eq_some_iff.1 hx;have hd:=h.sl d
 split at hx
 ·rename_i o k e
  obtain ⟨h1,h2⟩:=cL hx;cases h2
  rw [e] at hd;obtain ⟨u,h3,h4⟩:=wL (hE.fl _ (bg hm)) hd (Nat.le_of_ble_eq_true h1);refine ⟨u,?_,h4⟩;obtain ⟨b,off,T,M,hv,-⟩:=hd;have hv2:a.tmps.getD d undef=_:=hv;rw [hv] at h3
  show (do loadVar t (←asAddr (a.tmps.getD d undef)):Sem Value).run P w=_
  rw [hv2]
  simpa [Instr.loadAt,Instr.sureAddr,asAddr] using h3
 cases hx
theorem zZ (hE:dU P E) (h:Ok w0 g B n vc s K a w):∀ (rs:List ResultVar) (L:List S1),Gc E s rs=some L->∃ vs,(rs.mapM (rsF a.tmps)).run P w=.ok vs w/\Qw g w0 w L vs
 | [],L,hL=>by
  cases hL
  exact ⟨[],σ,trivial⟩
 | r :: rs,L,hL=>by
  obtain ⟨x,hx,hL⟩:=Option.bind_eq_some_iff.1 hL;obtain ⟨y,hy,hL⟩:=Option.bind_eq_some_iff.1 hL;cases hL
  obtain ⟨v,h1,h2⟩:=Gd hE h hx;obtain ⟨vs,h3,h4⟩:=zZ hE h rs y hy;refine ⟨v :: vs,?_,h2,h4⟩;rw [List.mapM_cons];simp only [Sem.run_bind,h1,Result.andThen_ok,h3];rfl
theorem I8 (hE:dU P E) (h:Ok w0 g B n vc s K a w) {fn:Func} {x:S1} (hx:(Gc E s fn.results.toList).bind KM=some x):∃ v,(results fn a.tmps).run P w=.ok v w/\ok g w0 w x v:=by
 obtain ⟨L,hL,hx⟩:=Option.bind_eq_some_iff.1 hx;obtain ⟨vs,h1,h2⟩:=zZ hE h _ _ hL;rw [xx,Array.mapM_eq_mapM_toList]
 have e:∀ v,(if h:vs.toArray.size=1 then vs.toArray[0] else .tuple vs.toArray)=v->((do
   let vs ←List.toArray <$> List.mapM (rsF a.tmps) fn.results.toList
   pure (if h:vs.size=1 then vs[0] else .tuple vs)):Sem Value).run P w=.ok v w:=fun v hv=>by
  simp only [Sem.run_bind,Sem.run_map,h1,Result.andThen_ok];rw [←hv];rfl
 match L,vs,hx,h2,e with
 | [a],[u],hx,h2,e=>
  cases hx
  exact ⟨u,e u rfl,h2.1⟩
 | [a,d],[u,v],hx,h2,e=>
  cases hx
  exact ⟨.tuple #[u,v],e _ rfl,u,v,rfl,h2.1,h2.2.1⟩
 | [a,d,l],[u,v,y],hx,h2,e=>
 cases hx
 exact ⟨.tuple #[u,v,y],e _ rfl,u,v,y,rfl,h2.1,h2.2.1,h2.2.2.1⟩
end
theorem pU {P:Program} {E:Env} (hE:dU P E) (hm:P.follows .mixedOrders=true) {fn:Func} {r:S1} {cap:Nat} (fuel:Nat) {c:Code} {w0 w:World} {g B n K:Nat} {v:Value} {s:List S1} {a:Act} (hK:K+cap<=700000000) (hw:Ok w0 g B n v s K a w) (h:ckC E fn.results.toList c s r cap fuel=true)
  {R:Ending->World->Prop} (hR:∀ x w',ok g w0 w' r x->dh w' g B v n (K+cap)->w0.grownBy w' (some g)->R (.returned x) w'):c.wp P (bodyPost P fn R) a w:=by
 unfold ckC at h
 split at h
 ·rename_i L hL
  refine (gX hE hm hK fuel _ c s 0 L a w hw fun q hq a' w' h3=>?_).1 hL;have hq:=List.all_eq_true.1 h q hq;unfold ckQ at hq;rw [Bool.and_eq_true,Bool.and_eq_true] at hq;obtain ⟨q1,q2,q3⟩:=hq
  split at q3
  ·rename_i x hx
   obtain ⟨u,h4,h5⟩:=I8 hE h3 hx
   have fin:bodyPost P fn R .normal a' w':=⟨h3.de,u,h4,hR u w' (kB _ _ _ q3 h5) (h3.wd.cur.mono (by have:=Nat.le_of_ble_eq_true q2;omega)) h3.wd.gr⟩
   obtain ⟨qe,q'⟩:=q
   cases qe with
   | OZ=>exact fin
   | Vk=>exact fin
   | ext _=>cases q1
  cases q3
 cases h
theorem rp {P:Program} {E:Env} (hE:dU P E) (hm:P.follows .mixedOrders=true) {f:Nat} {fn:Func} {A:List S1} {r:S1} {cap fuel:Nat} (hf:P.funcs[f]?=some fn) (hc:∀ args w,(callFunc f args).run P w=.ok (.enter f args) w) (h:ckF E fn A r cap fuel=true):lE P f A r cap:=by
 refine ⟨hc,fun g B n v K z w args hargs hcur hK=>?_⟩;unfold ckF at h;rw [Bool.and_eq_true] at h;obtain ⟨hfree,h⟩:=h
 split at h
 ·rename_i c hb
  obtain ⟨hl,hs⟩:=Dz A args hfree hargs;have hg:=hcur.size;refine calls_of_wp hf hb (pU hE hm fuel hK ⟨⟨hcur,eK _ _,by have:=hcur.elim fun _ h=>h.2.lt;omega⟩,fun t=>?_,?_,rfl⟩ h fun x w' h1 h2 h3=>⟨x,rfl,h1,h2,h3⟩)
  ·unfold CT
   by_cases ht:t<A.length
   ·have:=hs w t
    have e1:nth (A ++ List.replicate (fn.ntmps - A.length) .any) t=nth A t:=by
     unfold nth;rw [List.getD_eq_getElem?_getD,List.getD_eq_getElem?_getD,List.getElem?_append_left ht]
    have e2:Act.eval { tmps:=args.toArray ++ Array.replicate (fn.ntmps - args.toArray.size) undef,defers:=[] } (.tmp t)=args.getD t undef:=by
     show Array.getD _ _ _=_
     rw [Array.getD_eq_getD_getElem?,Array.getElem?_append_left (by simp;omega),List.getD_eq_getElem?_getD];simp
    rw [e1,e2];exact this
   have:nth (A ++ List.replicate (fn.ntmps - A.length) .any) t=.any:=by
    unfold nth;rw [List.getD_eq_getElem?_getD,List.getElem?_append_right ω,List.getElem?_replicate]
    split <;> rfl
   rw [this]
   trivial
  unfold CT;simp [hl]
 cases h
end Dw
end
section
open Go Go.RowKit Go.Shelf open Dw Gr M Rg
namespace Dw
section
variable {g z:Nat} {w:World} {v:Value}
theorem HJ (a b c:Int):ok g z w (.f 3) (.agg #[a,b,c]):=⟨_,rfl,rfl,fun u hu=>by
 simp only [List.mem_cons,List.not_mem_nil,or_false] at hu
 rcases hu with rfl | rfl | rfl <;> exact ⟨_,rfl⟩⟩
theorem rm (h:ok g z w (.f 2) v):∃ a b:Int,v=.agg #[a,b]:=by
 obtain ⟨⟨xs⟩,rfl,h1,h2⟩:=h
 match xs,h1,h2 with
 | [x,y],_,h2=>
 obtain ⟨a,rfl⟩:=h2 x σ;obtain ⟨b,rfl⟩:=h2 y σ;exact ⟨a,b,rfl⟩
theorem Ji (h:ok g z w (.f 3) v):∃ a b c:Int,v=.agg #[a,b,c]:=by
 obtain ⟨⟨xs⟩,rfl,h1,h2⟩:=h
 match xs,h1,h2 with
 | [x,y,t],_,h2=>
 obtain ⟨a,rfl⟩:=h2 x σ;obtain ⟨b,rfl⟩:=h2 y σ;obtain ⟨c,rfl⟩:=h2 t σ;exact ⟨a,b,c,rfl⟩
end
theorem dU.cons {P:Program} {E:Env} (h:dU P E) {f:Nat} {A:List S1} {r:S1} {c:Nat} (hf:lE P f A r c):dU P { E with fn:=(f,A,r,c) :: E.fn }:=
 ⟨h.fl,h.sl,fun q hq=>by
  rcases List.mem_cons.1 hq with rfl | hq
  ·exact hf
  exact h.fn q hq⟩
theorem dU.add {P:Program} {E:Env} (h:dU P E) {α:Type} {F:α->Nat × List S1 × S1 × Nat} {l:List α} (hF:∀ x ∈ l,lE P (F x).1 (F x).2.1 (F x).2.2.1 (F x).2.2.2):dU P { E with fn:=l.map F ++ E.fn }:=
 ⟨h.fl,h.sl,fun q hq=>by
  rcases List.mem_append.1 hq with hq | hq
  ·obtain ⟨x,hx,rfl⟩:=List.mem_map.1 hq
   exact hF x hx
  exact h.fn q hq⟩
theorem mixed:prog.follows .mixedOrders=true:=κ
theorem tP {P:Program} {t m b:Nat} {y:Value} (h:(P.info? t).map (fun i=>(i.zero,i.size,i.bytes))=some (some y,m,b)) (hb:b<=1000) (hm:0<m) (hy:y.cells=Array.replicate m (.int .i64 0)) (hu:(m=1/\∃ q,P.underlying t=some (.int q))∨∃ fs,P.underlying t=some (.struct fs)/\2<=m/\fs.size=m/\∀ (j:Nat) f,fs[j]?=some f->f.offset=j/\∃ i',P.info? f.type=some i'/\i'.size=1):dY P t m:=by
 obtain ⟨i,h1,h2⟩:=Option.map_eq_some_iff.1 h
 obtain ⟨h3,h4,h5⟩:i.zero=some y/\i.size=m/\i.bytes=b:=by simpa using h2
 exact ⟨i,y,h1,h3,h4,ω,hm,hy,hu⟩
theorem HW:(prog.info? 3).map (fun i=>(i.zero,i.size,i.bytes))=some (some (.int .i64 0),1,8):=κ
theorem De:∃ i',prog.info? 3=some i'/\i'.size=1:=by
 obtain ⟨i,h1,h2⟩:=Option.map_eq_some_iff.1 HW;exact ⟨i,h1,by simp at h2;exact h2.2.1⟩
theorem Jl:dY prog 3 1:=tP HW δ δ rfl (.inl ⟨rfl,_,Tryz.underlying3⟩)
theorem FY:dY prog 24 2:=tP (b:=16) (y:=.agg #[(0:Int),(0:Int)]) κ δ δ rfl (.inr ⟨_,Tryz.underlying24,δ,rfl,fun j f hj=>match j,hj with
 | 0,hj=>by cases hj;exact ⟨rfl,De⟩
 | 1,hj=>by cases hj;exact ⟨rfl,De⟩
 | j+2,hj=>by simp at hj⟩)
theorem FZ:dY prog 47 3:=tP (b:=24) (y:=.agg #[(0:Int),(0:Int),(0:Int)]) κ δ δ rfl (.inr ⟨_,Tryz.underlying47,δ,rfl,fun j f hj=>match j,hj with
 | 0,hj=>by cases hj;exact ⟨rfl,De⟩
 | 1,hj=>by cases hj;exact ⟨rfl,De⟩
 | 2,hj=>by cases hj;exact ⟨rfl,De⟩
 | j+3,hj=>by simp at hj⟩)
def E0:Env:=⟨[(3,1),(24,2),(47,3)],[(41,3),(25,47)],[]⟩
theorem JM:dU prog E0:=⟨fun q hq=>by
  simp only [E0,List.mem_cons,List.not_mem_nil,or_false] at hq
  rcases hq with rfl | rfl | rfl
  ·exact Jl
  ·exact FY
  ·exact FZ,fun q hq=>by
  simp only [E0,List.mem_cons,List.not_mem_nil,or_false] at hq
  rcases hq with rfl | rfl
  ·exact Tryz.underlying41
  exact Tryz.underlying25,fun _ h=>by cases h⟩
theorem zS (lo hi:Nat) (h1:1<=lo) (h2:hi<=60000):lE prog 58 [.c,.n lo hi] (.n 0 (hi - 1)) 2:=by
 refine ⟨enters_of func58 κ rfl,fun g B n v K z w args ha hc hk=>?_⟩
 match args,ha with
 | [x,y],⟨hx,⟨m,hy,hm1,hm2⟩,_⟩=>
 have hx:x=_:=hx;subst hx hy;refine (gt g B v n K (m:Int) w hc ω ω ω).mono ?_;rintro e w' ⟨u,rfl,⟨hu1,hu2⟩,hc',hg⟩;exact ⟨_,rfl,⟨u.toNat,by rw [Int.toNat_of_nonneg hu1],ω,ω⟩,hc',hg⟩
def pk (m:Nat):Nat × List S1 × S1 × Nat:=(58,[.c,.n (m+1) (m+1)],.n 0 m,2)
def E1:Env:={ E0 with fn:=[(58,[.c,.n 1 60000],.n 0 59999,2)] }
theorem G1:dU prog E1:=JM.cons (zS 1 60000 δ δ)
theorem It:lE prog 108 [.c,.n 1 60000] .b 2:=rp G1 mixed func108 (enters_of func108 κ rfl) (fuel:=20) κ
def E2:Env:={ E1 with fn:=(List.range 12).map pk ++ ((108,[.c,.n 1 60000],.b,2) :: E1.fn) }
theorem G3:dU prog E2:=(G1.cons It).add (F:=pk) fun m hm=>zS (m+1) (m+1) ω (by have:=List.mem_range.1 hm;omega)
def am (m:Nat):Nat × List S1 × S1 × Nat:=(77,[.c,.s 1 m m],.i,2)
theorem CR (m:Nat) (h:m ∈ [2,3,4,5,7,9,10]):lE prog 77 [.c,.s 1 m m] .i 2:=rp G3 mixed func77 (enters_of func77 κ rfl) (fuel:=20) (by
 simp only [List.mem_cons,List.not_mem_nil,or_false] at h
 rcases h with rfl | rfl | rfl | rfl | rfl | rfl | rfl <;> kernel_rfl)
def E3:Env:={ E2 with fn:=[2,3,4,5,7,9,10].map am ++ E2.fn }
theorem JN:dU prog E3:=G3.add (F:=am) CR
end Dw
end
section
open Go.RowKit open Gr M Rg Rw Wh
theorem Uh {p:Prop} (h:p:=by go_wp2;exact KU results60 ⟨0,0,0,rfl,(((st.aQ (c:=w.heap.size+1) (o:=0) ω ω ω (.int .i64 0)).aQ (c:=w.heap.size+1) (o:=1) ω ω ω (.int .i64 0)).aQ (c:=w.heap.size+1) (o:=2) ω ω ω (.int .i64 0)).cur.mono ω,(((st.aQ (c:=w.heap.size+1) (o:=0) ω ω ω (.int .i64 0)).aQ (c:=w.heap.size+1) (o:=1) ω ω ω (.int .i64 0)).aQ (c:=w.heap.size+1) (o:=2) ω ω ω (.int .i64 0)).gr⟩):p:=h
theorem SB {p:Prop} (h:p:=by exact ⟨by (try dsimp only);rw [dA δ];exact Kp,⟨_,rfl⟩,cV.self _ _⟩):p:=h
theorem Yv {p:Prop} (h:p:=by refine jk τ ?_;refine (ky a b X Y E x_ _ hgp.out.1 hgp.out.2 ω ω).mono ?_;rintro e_ Ox ⟨rfl,Ka⟩;exact ⟨_,rfl,by (try dsimp only);rw [dA δ];exact Kp.keep Ka,⟨_,_,_,_,rfl⟩,cV.below Ka⟩):p:=h
theorem ZJ {p:Prop} (h:p:=by
 unfold bP
 intro zZ w_ l_ d_ Kp LU LB LK Kq Kb hr;refine ⟨rfl,?_⟩;rw [if_neg δ];have e0:zZ.tmps[0]?=some (.pointer (some ⟨g,0,none⟩)):=hr 0 δ;go_simp):p:=h
theorem ZP {p:Prop} (h:p:=by rintro e_ Ox ⟨u_,rfl,hI_,hc2_,KZ⟩;exact ⟨_,rfl,by (try dsimp only);rw [Dj (c:=2) δ rfl LB];exact Kp.call hc2_ KZ,⟨u_,hI_,rfl⟩,cV.grown KZ hgr⟩):p:=h
theorem Zs {p:Prop} (h:p:=by exact ⟨by (try dsimp only);rw [dA δ];exact Kp.keep (bA _ _),⟨_,rfl,Kp.2.size,⟨0,0,0,aG.new _ _ _⟩⟩,cV.below (bA _ _)⟩):p:=h
theorem wau5 {p:Prop} (h:p:=by exact ⟨by (try dsimp only);rw [dA δ];exact Kp,⟨_,_,_,_,rfl⟩,cV.self _ _⟩):p:=h
theorem wau9 {p:Prop} (h:p:=by obtain ⟨TP,We,h3_,h4_⟩:=h;exact ⟨TP,We,h3_,hR TP h3_ h4_⟩):p:=h
def ue (W:World) (h:Nat):Prop:=∃ X Y E:Int,aG W h 47 #[X,Y,E]
def cV (S:Nat) (W W':World):Prop:=∀ h,S<=h->ue W h->ue W' h
theorem cV.self (S:Nat) (W:World):cV S W W:=fun _ _ h=>h
theorem cV.below {S:Nat} {W W':World} (hb:Below W W W'):cV S W W':=fun _ _ h=>by
 obtain ⟨X,Y,E,h⟩:=h;exact ⟨X,Y,E,h.keep hb⟩
theorem cV.grown {S g:Nat} {W W':World} (hg:W.grownBy W' (some g)) (hS:g<S):cV S W W':=fun _ hS2 h=>by
 obtain ⟨X,Y,E,h⟩:=h;exact ⟨X,Y,E,h.bf hg ω⟩
theorem cV.put {S g:Nat} {W:World} (h:ue W g) (X Y E:Int):cV S W (((W.setCell ⟨g,0,none⟩ (.int .i64 X)).setCell ⟨g,1,none⟩ (.int .i64 Y)).setCell ⟨g,2,none⟩ (.int .i64 E)):=fun k _ hk=>by
 by_cases e:k=g
 ·subst e
  obtain ⟨X0,Y0,E0,h⟩:=h;exact ⟨X,Y,E,h.Hi _ _ _⟩
 obtain ⟨X0,Y0,E0,hk⟩:=hk;exact ⟨X0,Y0,E0,((hk.other e _).other e _).other e _⟩
theorem cV.J4 {S g:Nat} {W:World} (h:∃ a b:Int,aG W g 24 #[a,b]) (hT:(24:TypeId)≠47) (X Y:Int):cV S W ((W.setCell ⟨g,0,none⟩ (.int .i64 X)).setCell ⟨g,1,none⟩ (.int .i64 Y)):=fun k _ hk=>by
 obtain ⟨X0,Y0,E0,hk⟩:=hk
 have e:k≠g:=by
  rintro rfl;obtain ⟨a,b,h⟩:=h;unfold aG at h hk;rw [h] at hk;cases hk
 exact ⟨X0,Y0,E0,(hk.other e _).other e _⟩
def PkF (lo hi:Int) (u:Value):Prop:=∃ x:Int,(lo<=x/\x<=hi)/\u=.int .i64 x
def FI (u:Value):Prop:=∃ (X Y E:Int) (q:Bool),u=.tuple #[.agg #[X,Y,E],q]
def JJ (u:Value):Prop:=∃ X Y E:Int,u=.agg #[X,Y,E]
def yN (u:Value):Prop:=∃ q:Bool,u=.bool q
def CA (S:Nat) (u:Value) (W:World):Prop:=∃ h,u=.pointer (some ⟨h,0,none⟩)/\S<=h/\ue W h
theorem BL (g B:Nat) (v:Value) (n K:Nat) (a b:Int) (w:World) (h:dh w g B v n K) (hk:K<=700000000) :
  Calls prog 60 #[.pointer (some ⟨g,0,none⟩),.agg #[a,b]] w (AO w g B v n (K+10)):=by
 have hl:=h.size;obtain ⟨wc,hw3,C,R,BB⟩:=dQ w #[a,b] 24 #[(0:Int),(0:Int),(0:Int)] 47;have st:=(St.start h).keep BB;have hB:=st.lt;have hwc:=BB.size
 have nC:w.heap.size≠g:=ω
 have nR:w.heap.size+1≠g:=ω
 have hRl:=R.lt
 have HG:=fun w=>jo a b w
 clear h BB;go_enter func60,ntmps60
 go_wp2_with fail
 refine (Ha g B v n _ 8 _ st.cur ω ω ω).mono ?_;rintro e w_t1 ⟨t1,rfl,Kb,KZ⟩;replace st:=st.call Kb KZ;have sz_t1:=KZ.size;replace C:=C.bf KZ nC;replace R:=R.bf KZ nR;have ⟨C_0,C_1,Se,Sf,C_l⟩:=C.box;have ⟨Sq,Sr,R_2,B_,C_,KV⟩:=R.bQ;have Ss:=R.lt;cases t1
 case true=>
  exact Uh
 case false=>
 cases hg:M.good a b <;> rw [hg] at HG <;> replace HG:=KO HG
 ·go_wp2_with fail
  refine (HG.out _).mono ?_;rintro e w9 ⟨rfl,Kr⟩;replace ⟨st,C,R⟩:=Ky Kr st C R;have ⟨C_0,C_1,Se,Sf,C_l⟩:=C.box;have ⟨Sq,Sr,R_2,B_,C_,KV⟩:=R.bQ;have Ss:=R.lt;exact Uh
 go_wp2_with fail
 refine (HG.out _).mono ?_;rintro e w9 ⟨rfl,Kr⟩;replace ⟨st,C,R⟩:=Ky Kr st C R;have sz9:=Kr.size;have hgd:=KO hg
 go_wp2_with fail
 refine (gt g B v n _ 60 _ st.cur ω ω ω).mono ?_;rintro e w_f ⟨f,rfl,⟨f_lo,f_hi⟩,Kb,KZ⟩;replace st:=st.call Kb KZ;have sz_f:=KZ.size;replace C:=C.bf KZ nC;replace R:=R.bf KZ nR
 go_upto_region 4 with fail
 have hf1:-30<=f - 30:=ω
 have hf2:f - 30<=29:=ω
 generalize f - 30=F at *;go_wp2
 go_loopw [6] (fun vi wq=>∃ j:Nat,j<=60/\vi=.int .i64 j/\St w wq g B v n (K+2+2)/\aG wq w 24 #[a,b]/\aG wq (w.heap.size+1) 47 #[(0:Int),(0:Int),(0:Int)]) (fun vi _=>60 - (intOf vi).toNat)
 case atStart=>exact ⟨0,ω,rfl,st,C,R⟩
 case round=>
 clear st C R;obtain ⟨j,hj,rfl,st,C,R⟩:=hrel
 by_cases hlt:j<60
 ·have hx1:-200<=F+(j:Int):=ω
  have hx2:F+(j:Int)<=200:=ω
  have PA:=KO fun W=>GN a b (F+(j:Int)) W hgd.out hx1 hx2
  have ⟨C_0,C_1,Se,Sf,C_l⟩:=C.box
  go_wp2_with fail
  (refine (PA.out _).mono ?_);rintro e w7 ⟨A,l,cp,rfl,hl2,hP,hok,KY⟩
  clear C_0 C_1 Se Sf C_l;replace hok:=KO hok;have sz7:=KY.size;have zr7:=st.size;have zs7:=st.le;replace ⟨st,C,R⟩:=Ky KY st C R
  obtain ⟨m,hm⟩:∃ m,Hid (l.length=m):=⟨_,KO rfl⟩
  rw [hm.out] at hl2 ⊢;replace hP:=KO hP
  by_cases hm0:m=0
  ·subst hm0
   go_wp2
   go_roundw
   case rel=>exact ⟨j+1,ω,ν,st,C,R⟩
   case measure=>simp [intOf];omega
  have hmp:(0:Int)<(m:Int):=ω
  go_wp2_with fail
  refine (gt g B v n _ m _ st.cur ω ω ω).mono ?_;rintro e w_i ⟨i,rfl,⟨i_lo,i_hi⟩,Kb,KZ⟩
  obtain ⟨i,rfl⟩:∃ k:Nat,i=k:=⟨i.toNat,ω⟩
  obtain ⟨⟨X,Y,E⟩,hp⟩:∃ p,l[i]?=some p:=⟨_,List.getElem?_eq_getElem (by have:=hm.out;omega)⟩
  obtain ⟨ga,rfl,hga,q0,q1,q2⟩:=hP.out i _ hp;have hgp:=KO (And.intro hgd.out (hok.out _ (List.mem_of_getElem? hp)))
  dsimp only at q0 q1 q2 hgp
  replace q0:=iK KZ q0 ω;replace q1:=iK KZ q1 ω;replace q2:=iK KZ q2 ω;replace st:=st.call Kb KZ;have sz_i:=KZ.size;replace C:=C.bf KZ nC;replace R:=R.bf KZ nR
  have him:(i:Int)<(m:Int):=ω
  have him2:i<m:=ω
  have hRi:=R.lt;have hCi:=C.lt;have Q:=aG.new w_i #[X,Y,E] 47;have zi:=st.size;have zj:=st.le;replace st:=st.alloc (.cells #[X,Y,E] 47);replace C:=C.alloc (.cells #[X,Y,E] 47);replace R:=R.alloc (.cells #[X,Y,E] 47)
  have nQ:w_i.heap.size≠g:=ω
  go_upto_region 10 with fail
  clear q0 q1 q2;generalize hG:w_i.heap.size=G at *;have hRl2:=R.lt;have hCl2:=C.lt;have hGl:=Q.lt;have hgr:=st.size;generalize w_i.alloc (.cells #[X,Y,E] 47)=wr at *;refine FB (fun l W=>Ml wr g B v n ((K+2+2+2)+Rg.NJ [(3,2)] l) W) (fun i u W=>match i with | 3=>PkF 0 3 u | 4=>PkF (1) 4 u | 5=>FI u | 6=>FI u | 7=>JJ u | 8=>yN u | 9=>CA wr u W | 11=>yN u | _=>True) (cV wr) [3,4,5,6,7,8,9,10,11] [.agg #[a,b],.agg #[X,Y,E],.pointer (some ⟨g,0,none⟩),undef,undef,undef,undef,undef,undef,undef,undef,undef] κ κ δ (fun l l2 W h q=>by rw [←tc (C:=[(3,2)]) (l:=l) fun p hp=>h p.1 (by revert p;decide)];exact q) (fun i u w1 w2 hR h=>match i,h with | 0,h=>(trivial) | 1,h=>(trivial) | 2,h=>(trivial) | 3,h=>(h) | 4,h=>(h) | 5,h=>(h) | 6,h=>(h) | 7,h=>(h) | 8,h=>(h) | 9,h=>wau9 | 10,h=>(trivial) | 11,h=>(h) | n_+12,_=>trivial) (Ml.start st) ⟨?_,?_,?_,?_,?_,?_,?_,?_,?_,?_,?_,?_,trivial⟩ ?_
  ·unfold bP
   intro zZ w_ l_ d_ Kp LU LB LK Kq Kb hr;refine ⟨rfl,?_⟩;rw [if_neg δ];have e3:zZ.tmps[3]?=some (.pointer (some ⟨w,0,none⟩)):=hr 3 δ;have Ke:=C.bf Kp.2 nC;have ⟨k0,k1,_,_,_⟩:=Ke.box
   exact Lg
  ·unfold bP
   intro zZ w_ l_ d_ Kp LU LB LK Kq Kb hr;refine ⟨rfl,?_⟩;rw [if_neg δ];have e8:zZ.tmps[8]?=some (.pointer (some ⟨G,0,none⟩)):=hr 8 δ;have Ke:=Q.bf Kp.2 nQ;have ⟨k0,k1,k2⟩:=Ke.aM
   exact Lg
  ·exact ZJ
  ·unfold bP
   intro zZ w_ l_ d_ Kp LU LB LK Kq Kb hr;have e44:zZ.tmps[44]?=some (.pointer (some ⟨g,0,none⟩)):=hr 44 δ
   have ef:∀ f,zZ.eval (.func f)=.func (.func f) #[] #[]:=fun _=>rfl
   have ec:=Rg.ec zZ;refine ⟨rfl,?_⟩;rw [if_pos δ];have kk_:=xV [(3,2)] l_;rw [show Rg.NJ [(3,2)] (fun _=>true)=2 from rfl] at kk_;refine jk τ ?_;refine (gt g B v n _ 4 _ Kp.1 ω ω ω).mono ?_;exact ZP
  ·unfold bP
   intro zZ w_ l_ d_ Kp LU LB LK Kq Kb hr;have e45:zZ.tmps[45]?=some (d_ 3):=hr 45 δ;have ec:=Rg.ec zZ;refine ⟨rfl,?_⟩;rw [if_pos δ];obtain ⟨x_,⟨UB,UC⟩,MM⟩:=LU 3 δ (Kq 3 κ);rw [MM] at e45;refine gJ (x:=.int .i64 (1+x_)) (w2:=w_) Lg ?_;exact ⟨by (try dsimp only);rw [dA δ];exact Kp,⟨_,ω,rfl⟩,cV.self _ _⟩
  ·unfold bP
   intro zZ w_ l_ d_ Kp LU LB LK Kq Kb hr;have e42:zZ.tmps[42]?=some (.agg #[a,b]):=hr 42 δ;have e43:zZ.tmps[43]?=some (.agg #[X,Y,E]):=hr 43 δ;have e46:zZ.tmps[46]?=some (d_ 4):=hr 46 δ
   have ef:∀ f,zZ.eval (.func f)=.func (.func f) #[] #[]:=fun _=>rfl
   refine ⟨rfl,?_⟩;rw [if_pos δ];obtain ⟨x_,⟨UB,UC⟩,MM⟩:=LU 4 δ (Kq 4 κ);rw [MM] at e46;exact Yv
  ·unfold bP
   intro zZ w_ l_ d_ Kp LU LB LK Kq Kb hr;have e47:zZ.tmps[47]?=some (d_ 5):=hr 47 δ;refine ⟨rfl,?_⟩;rw [if_pos δ];obtain ⟨X_,Y_,E_,q_,MM⟩:=LU 5 δ (Kq 5 κ);rw [MM] at e47;refine gJ (x:=.tuple #[.agg #[X_,Y_,E_],q_]) (w2:=w_) Lg ?_;exact wau5
  ·unfold bP
   intro zZ w_ l_ d_ Kp LU LB LK Kq Kb hr;have e41:zZ.tmps[41]?=some (d_ 6):=hr 41 δ;refine ⟨rfl,?_⟩;rw [if_pos δ];obtain ⟨X_,Y_,E_,q_,MM⟩:=LU 6 δ (Kq 6 κ);rw [MM] at e41;refine gJ (x:=.agg #[X_,Y_,E_]) (w2:=w_) Lg ?_;exact ⟨by (try dsimp only);rw [dA δ];exact Kp,⟨_,_,_,rfl⟩,cV.self _ _⟩
  ·unfold bP
   intro zZ w_ l_ d_ Kp LU LB LK Kq Kb hr;have e41:zZ.tmps[41]?=some (d_ 6):=hr 41 δ;refine ⟨rfl,?_⟩;rw [if_pos δ];obtain ⟨X_,Y_,E_,q_,MM⟩:=LU 6 δ (Kq 6 κ);rw [MM] at e41;refine gJ (x:=.bool q_) (w2:=w_) Lg ?_;exact SB
  ·unfold bP
   intro zZ w_ l_ d_ Kp LU LB LK Kq Kb hr;refine ⟨rfl,?_⟩;rw [if_pos δ];refine rP (x:=.pointer (some ⟨w_,0,none⟩)) (ob:=.cells #[(0:Int),(0:Int),(0:Int)] 47) Lg ?_;exact Zs
  ·unfold bP
   intro zZ w_ l_ d_ Kp LU LB LK Kq Kb hr;have e9:zZ.tmps[9]?=some (d_ 9):=hr 9 δ;have e48:zZ.tmps[48]?=some (d_ 7):=hr 48 δ;refine ⟨rfl,?_⟩;rw [if_pos δ];obtain ⟨h_,eh_,NI,O4⟩:=LU 9 δ (Kq 9 κ);rw [eh_] at e9;obtain ⟨X_,Y_,E_,MM⟩:=LU 7 δ (Kq 7 κ);rw [MM] at e48
   have OM:Ml wr g B v n ((K+2+2+2)+Rg.NJ [(3,2)] (Rg.upd l_ 10)) (((w_.setCell ⟨h_,0,none⟩ (.int .i64 X_)).setCell ⟨h_,1,none⟩ (.int .i64 Y_)).setCell ⟨h_,2,none⟩ (.int .i64 E_))/\True/\cV wr w_ (((w_.setCell ⟨h_,0,none⟩ (.int .i64 X_)).setCell ⟨h_,1,none⟩ (.int .i64 Y_)).setCell ⟨h_,2,none⟩ (.int .i64 E_)):=⟨by (try dsimp only);rw [dA δ];exact ((Kp.put ω ω NI 0 _).put ω ω NI 1 _).put ω ω NI 2 _,trivial,cV.put O4 _ _ _⟩
   obtain ⟨X0_,Y0_,E0_,O4⟩:=O4;have ⟨WV,WW,c2_,Wb,Wc,f2_⟩:=O4.bQ;exact R8
  ·unfold bP
   intro zZ w_ l_ d_ Kp LU LB LK Kq Kb hr;have e49:zZ.tmps[49]?=some (d_ 8):=hr 49 δ;refine ⟨rfl,?_⟩;rw [if_pos δ];obtain ⟨q_,MM⟩:=LU 8 δ (Kq 8 κ);rw [MM] at e49;refine gJ (x:=.bool q_) (w2:=w_) Lg ?_;exact SB
  intro vals wz Kp hF hv;obtain ⟨h_,MX,NI,XN,YN,EN,N⟩:=hF 9 δ;obtain ⟨ok,MV⟩:=hF 11 δ;simp only [bD,Rg.fill,Act.put,Nat.reduceAdd];simp only [MX,MV];replace Kp:Ml wr g B v n ((K+2+2+2)+2) wz:=Kp;replace st:=st.call Kp.1 Kp.2;replace C:=C.bf Kp.2 nC;replace R:=R.bf Kp.2 nR;replace Q:=Q.bf Kp.2 nQ;have szz:=Kp.2.size
  have nRN:w.heap.size+1≠h_:=ω
  have nRG:w.heap.size+1≠G:=ω
  have ⟨Sq,Sr,R_2,B_,C_,KV⟩:=R.bQ;have Ss:=R.lt;have ⟨Q_0,Q_1,Q_2,Qz,Q0,Q3⟩:=Q.bQ;have Q_l:=Q.lt;have ⟨N_0,N_1,N_2,N_f0,N_f1,N_f2⟩:=N.bQ;have N_l:=N.lt;cases ok
  ·go_wp2
   exact KU results60 ⟨X,Y,E,rfl,(((st.aQ (c:=w.heap.size+1) (o:=0) ω ω ω (.int .i64 X)).aQ (c:=w.heap.size+1) (o:=1) ω ω ω (.int .i64 Y)).aQ (c:=w.heap.size+1) (o:=2) ω ω ω (.int .i64 E)).cur.mono ω,(((st.aQ (c:=w.heap.size+1) (o:=0) ω ω ω (.int .i64 X)).aQ (c:=w.heap.size+1) (o:=1) ω ω ω (.int .i64 Y)).aQ (c:=w.heap.size+1) (o:=2) ω ω ω (.int .i64 E)).gr⟩
  go_wp2;exact KU results60 ⟨XN,YN,EN,rfl,(((st.aQ (c:=w.heap.size+1) (o:=0) ω ω ω (.int .i64 XN)).aQ (c:=w.heap.size+1) (o:=1) ω ω ω (.int .i64 YN)).aQ (c:=w.heap.size+1) (o:=2) ω ω ω (.int .i64 EN)).cur.mono ω,(((st.aQ (c:=w.heap.size+1) (o:=0) ω ω ω (.int .i64 XN)).aQ (c:=w.heap.size+1) (o:=1) ω ω ω (.int .i64 YN)).aQ (c:=w.heap.size+1) (o:=2) ω ω ω (.int .i64 EN)).gr⟩
 obtain rfl:j=60:=ω
 have ⟨Sq,Sr,R_2,B_,C_,KV⟩:=R.bQ;have Ss:=R.lt;exact Uh
theorem wat5 {p:Prop} (h:p:=by
 unfold aY
 rw [if_neg δ,if_neg δ];intro zZ w_ hB hr;have e34:=Rg.A_ (hr 34 δ);exact aS rfl γ):p:=h
theorem M.Ip {a b:Int} {l:List Pt} {n:List Int} {j:Nat} {p:Pt} (hp:ai a b l=true) (hf:M.fits n l.length=true) (hj:j<l.length) (hl:l[j]?=some p):M.MW a b p.1 p.2.1 p.2.2 (n.getD j 0)=jZ a p.1 p.2.1 p.2.2 (n.getD j 0):=by
 obtain ⟨hg,-,-,hall⟩:=aX hp;obtain ⟨-,h1,h2⟩:=gG hf hj
 have hi:gw a b p.1 p.2.1 p.2.2=true:=by unfold gw;rw [hg,hall p (List.mem_of_getElem? hl)];rfl
 unfold M.MW;rw [hi,iB.2 ⟨h1,h2⟩];rfl
theorem Fv (l:List Int) (v:Value) (lo hi:Int) (w:World) (hx:cE w v l) :
  cB 82 #[v,lo,hi] w (l.all (fun x=>M.ins x lo hi)):=by
 obtain ⟨a,cap,rfl,hm,hv⟩:=hx;have hv:=KO hv
 obtain ⟨N,hN⟩:∃ N,Hid (l.length=N):=⟨_,KO rfl⟩
 rw [hN.out] at hv hm ⊢;go_enter func82,ntmps82
 go_wp2
 go_loopw [8,11] (fun _ vi wr=>∃ k:Nat,k<=N/\vi=.int .i64 k/\Hid ((l.take k).all (fun x=>M.ins x lo hi)=true)/\Below w w wr) (fun _ vi _=>N - (intOf vi).toNat)
 case atStart=>exact ⟨0,Nat.zero_le _,rfl,KO rfl,KS _ _⟩
 case round=>
 obtain ⟨k,hk,rfl,hall,hbr⟩:=hrel
 by_cases hlt:k<N
 ·obtain ⟨g,o,y,rfl,hg,hy,hcell⟩:=hv.out k hlt
  have hc:=aE hbr hcell
  have PI:=fun W=>eW y lo hi W
  have hno:M.ins y lo hi=false->l.all (fun x=>M.ins x lo hi)=false:=fun h=>by
   cases q:l.all (fun x=>M.ins x lo hi)
   ·rfl
   rw [List.all_eq_true] at q;rw [q y (List.mem_of_getElem? hy.out)] at h;cases h
  have hnx:M.ins y lo hi=true->(l.take (k+1)).all (fun x=>M.ins x lo hi)=true:=fun h=>by
   rw [List.take_add_one,hy.out,List.all_append,hall.out]
   simpa using h
  generalize M.ins y lo hi=t at *;cases t
  ·replace PI:=KO PI
   have hfin:=KO (hno rfl);clear hcell hy hno hnx
   go_wp2_with (with_reducible refine Kw (PI.out _) ?_)
   go_ret;exact ⟨by rw [hfin.out];rfl,hbr⟩
  replace PI:=KO PI;have hfin:=KO (hnx rfl);clear hcell hy hno hnx
  go_wp2_with (with_reducible refine Kw (PI.out _) ?_)
  go_roundw
  case rel=>exact ⟨k+1,ω,ν,hfin,hbr⟩
  case measure=>simp [intOf];omega
 obtain rfl:k=N:=ω
 have hfin:=hall;rw [←hN.out,List.take_length] at hfin;go_wp2;go_ret;exact ⟨by rw [hfin.out];rfl,hbr⟩
theorem ot (a:Option Addr) (m cap:Nat) (v:Value) (n:List Int) (w:World) (hx:cE w v n) :
  cB 41 #[.slice a m cap,v] w (M.fits n m):=by
 have PF:=Fv n v (-12) 12 w hx;have hfit:M.fits n m=(((n.length:Int) == (m:Int)) && n.all (fun x=>M.ins x (-12) 12)):=rfl;obtain ⟨sa,cp,rfl,-,-⟩:=hx;have PF:=KO PF;rw [hfit];generalize n.all (fun x=>M.ins x (-12) 12)=t at *;clear hfit;generalize n.length=N at *
 cases hc:((N:Int) == (m:Int))
 ·clear PF
  go_enter func41,ntmps41
  go_wp2;go_ret;exact ⟨rfl,KS _ _⟩
 go_enter func41,ntmps41
 go_wp2_with (go_at_call 82;(refine PF.out.mono ?_);rintro e w4 ⟨rfl,hb4⟩)
 go_ret;exact ⟨rfl,hb4⟩
theorem lJ (a b:Int) (v nv:Value) (l:List Pt) (n:List Int) (w:World) (hx:dC w v l) (hns:cE w nv n) (hn:l.length<=4000000) :
  cB 17 #[.agg #[a,b],v,nv] w (.tuple #[.agg #[M.pX (dJ a b l n),M.pY (dJ a b l n),M.pE (dJ a b l n)],.bool (dJ a b l n).isSome]):=by
 have PL:=fun W h=>gj a b v l W h hn
 obtain ⟨pa,NE,hpv,hpv2⟩:=id hx
 have PF:=fun W (h:cE W nv n)=>ot pa l.length NE nv n W h
 rw [←hpv] at PF;replace hx:=KO hx;have hnx:=KO hns;replace hns:=KO hns;obtain ⟨na,Lt,rfl,hnl,-⟩:=id hns.out;subst hpv
 obtain ⟨N,hN⟩:∃ N,N=l.length:=⟨_,rfl⟩
 obtain ⟨wc,hw3,C,R,B⟩:=dQ w #[a,b] 24 #[(0:Int),(0:Int),(0:Int)] 47;have ⟨c0,c1,_,_,_⟩:=C.box;have ⟨r0,r1,r2,u0,u1,u2⟩:=R.bQ
 have e0:=fun h=>Ce (a:=a) (b:=b) (l:=l) (n:=n) h
 have e1:=fun h1 h2=>yY (a:=a) (b:=b) (l:=l) (n:=n) h1 h2
 have e2:=fun hp hf (j:Nat) (p:Pt)=>Ip (a:=a) (b:=b) (l:=l) (n:=n) (j:=j) (p:=p) hp hf
 have hpl:=fun h=>aX (a:=a) (b:=b) (l:=l) h
 have Wx:=fun h=>mP (n:=n) (k:=l.length) h
 have hfa:=fun h=>fun i=>gG (n:=n) (k:=l.length) (i:=i) h
 have hcn:(ai a b l && M.fits n l.length)=false->dJ a b l n=none:=fun h=>if_neg (by rw [h];decide)
 rw [←hN] at PL PF hx e0 e1 e2 hpl Wx hfa hcn ⊢;replace PL:=KO PL;replace PF:=KO PF
 cases hp:ai a b l <;> cases hf:M.fits n N
 iterate 3
  have hfin:=KO (hcn (by rw [hp,hf];rfl));rw [hp] at PL;rw [hf] at PF;replace PL:=KO PL.out;replace PF:=KO PF.out;clear e0 e1 e2 hpl Wx hfa hcn hp hf hpv2 hN hnx;go_enter func17,ntmps17
  go_wp2_with first | (with_reducible refine Km (PL.out _ (hx.out.below B)) fun w4 hb4=>?_;replace ⟨B,C,R⟩:=Ky hb4 B C R;(have ⟨c0,c1,_,_,_⟩:=C.box);(have ⟨r0,r1,r2,u0,u1,u2⟩:=R.bQ)) | (with_reducible refine Km (PF.out _ (hns.out.keep B)) fun w5 hb5=>?_;replace ⟨B,C,R⟩:=Ky hb5 B C R;(have ⟨c0,c1,_,_,_⟩:=C.box);(have ⟨r0,r1,r2,u0,u1,u2⟩:=R.bQ))
  exact KU (v:=.tuple #[.agg #[(0:Int),(0:Int),(0:Int)],false]) results17 ⟨by rw [hfin.out];rfl,MN B⟩
 rw [hp] at PL;rw [hf] at PF;replace PL:=KO PL.out;replace PF:=KO PF.out;rw [e1 hp hf];replace e2:=KO (e2 hp hf)
 replace hfa:=KO fun i=>hfa hf i
 obtain ⟨hg,hl1,hl4,hall⟩:=hpl hp;have hfl:=(Wx hf).1;clear e0 e1 hpl Wx hcn hp hf
 obtain ⟨res,hres⟩:∃ r,gE a b l n N=r:=⟨_,rfl⟩
 rw [hres]
 have hno:=KO fun j h hj=>hres.symm.trans (nP (j:=j) h N hj)
 have Ti:=KO fun j s h=>tH (l:=l) (n:=n) hg j s h
 have PA:=KO fun (s q:M.LM) W h1 h2=>uE a b s.1 s.2.1 s.2.2 q.1 q.2.1 q.2.2 W hg h1 h2
 have PM:=KO fun X Y E k W h h1 h2=>ky a b X Y E k W hg h h1 h2
 replace hall:=KO hall;obtain ⟨g,o_,rfl,Mv⟩:=hpv2.resolve_left (fun h=>by rw [h] at hN;simp at hN;omega);rw [hfl] at PF hnx hns hnl ⊢;replace hN:=KO hN;replace hres:=KO hres;have Mv:=KO Mv;clear hfl hg hpv2;go_enter func17,ntmps17
 go_wp2_with first | (with_reducible refine Km (PL.out _ (hx.out.below B)) fun w4 hb4=>?_;replace ⟨B,C,R⟩:=Ky hb4 B C R;(have ⟨c0,c1,_,_,_⟩:=C.box);(have ⟨r0,r1,r2,u0,u1,u2⟩:=R.bQ)) | (with_reducible refine Km (PF.out _ (hns.out.keep B)) fun w5 hb5=>?_;replace ⟨B,C,R⟩:=Ky hb5 B C R;(have ⟨c0,c1,_,_,_⟩:=C.box);(have ⟨r0,r1,r2,u0,u1,u2⟩:=R.bQ))
 have S:=aG.new w5 #[(0:Int),(0:Int),(0:Int)] 47;have b_:=bA w5 (.cells #[(0:Int),(0:Int),(0:Int)] 47);have hS:w.heap.size+1<w5.heap.size:=R.lt;clear hw3
 go_loopw [29] (fun vi wq=>∃ (i:Nat) (s:M.LM),i<=N/\vi=.int .i64 (i:Int)/\Hid (gE a b l n i=some s)/\aG wq w 24 #[a,b]/\aG wq (w.heap.size+1) 47 #[(0:Int),(0:Int),(0:Int)]/\aG wq w5 47 #[s.1,s.2.1,s.2.2]/\Below w w wq) (fun vi _=>N - (intOf vi).toNat)
 case atStart=>exact ⟨0,(0,0,0),Nat.zero_le _,rfl,KO rfl,C.keep b_,R.keep b_,S,p_ B b_⟩
 case round=>
 clear C R S B b_ c0 c1 r0 r1 r2 u0 u1 u2;generalize w5.heap.size=sb at *;obtain ⟨i,⟨X,Y,E⟩,hi,rfl,hs,C,R,S,B⟩:=hrel;have hsz:=B.size;have hSl:=S.lt
 by_cases hlt:i<N
 ·obtain ⟨⟨x1,x2,x3⟩,hq⟩:∃ p,l[i]?=some p:=⟨_,List.getElem?_eq_getElem (by have:=hN.out;omega)⟩
  obtain ⟨ni,Re,Sa⟩:=hfa.out i hlt;obtain ⟨gn,Vi,hgn,ci⟩:=(hnx.out.keep B).at ni;have ⟨p0,p1,p2⟩:=Mv.out i _ hq
  dsimp only at p0 p1 p2
  replace p0:=aE B p0;replace p1:=aE B p1;replace p2:=aE B p2
  obtain ⟨r,hr⟩:∃ r,M.MW a b x1 x2 x3 (n.getD i 0)=r:=⟨_,rfl⟩
  have hst:=rf hs.out hq ni hr;have hp1:=HZ a b x1 x2 x3 (n.getD i 0);have ht:=e2.out i _ hlt hq
  replace PM:=fun W=>PM.out x1 x2 x3 (n.getD i 0) W (hall.out _ (List.mem_of_getElem? hq)) ω ω
  dsimp only at ht
  rw [←ht,hr] at PM;rw [hr] at hp1;clear ht
  replace PA:=fun W=>PA.out (X,Y,E) (M.pX r,M.pY r,M.pE r) W (Ti.out i _ hs.out) hp1
  replace hno:=KO fun h=>hno.out (i+1) h hlt
  dsimp only at PA hst
  generalize M.pE r=y3,M.pY r=y2,M.pX r=y1 at *;generalize eD a X Y E y1 y2 y3=z3,ft a X Y E y1 y2 y3=z2,eI a X Y E y1 y2 y3=z1 at *
  obtain ⟨f2,hf2⟩:∃ x,dI a X Y E y1 y2 y3=x:=⟨_,rfl⟩
  obtain ⟨f1,hf1⟩:∃ x,r.isSome=x:=⟨_,rfl⟩
  rw [hf2] at PA hst;rw [hf1] at PM hst;clear hf1 hf2 hr hp1 hq Re Sa;replace PA:=KO PA;replace PM:=KO PM;replace hst:=KO hst;generalize n.getD i 0=k at *;subst hgn
  have hii:((i:Nat):Int)<(N:Int):=ω
  have Bv:=bA wr (.cells #[x1,x2,x3] 47);have X_:=aG.new wr #[x1,x2,x3] 47;replace ⟨C,R,S,B⟩:=Kl Bv C R S B;replace ci:=aE Bv ci;generalize hw2:wr.alloc (.cells #[x1,x2,x3] 47)=wb at *;clear Bv ni
  go_upto_region 7 with fail
  refine AK 10 11 47 #[(0:Int),(0:Int),(0:Int)] #[y1,y2,y3] [.is (.agg #[a,b]),.is (.agg #[x1,x2,x3]),.is (.slice (some ⟨gn,Vi,none⟩) N Lt),.is (.int .i64 ((i:Nat):Int)),.is (.pointer (some ⟨gn,Vi+i,none⟩)),.is k,.is (.tuple #[.agg #[y1,y2,y3],f1]),.is (.tuple #[.agg #[y1,y2,y3],f1]),.is (.agg #[y1,y2,y3]),.is f1,.is (undef),.is (undef),.is f1] κ κ κ (fun j h1 h2=>match j,h1,h2 with | 0,h1,h2=>rfl | 1,h1,h2=>rfl | 2,h1,h2=>rfl | 3,h1,h2=>rfl | 4,h1,h2=>rfl | 5,h1,h2=>rfl | 6,h1,h2=>rfl | 7,h1,h2=>rfl | 8,h1,h2=>rfl | 9,h1,h2=>rfl | 10,h1,h2=>absurd rfl h1 | 11,h1,h2=>absurd rfl h2 | 12,h1,h2=>rfl | n+13,_,_=>rfl) δ ⟨?_,?_,?_,?_,?_,?_,?_,?_,?_,?_,?_,?_,?_,trivial⟩ ?_
  ·exact ZB
  ·exact Yo
  ·exact Zh
  ·exact Zw
  ·unfold aY
   rw [if_neg δ,if_neg δ];intro zZ w_ hB hr;have e37:=Rg.A_ (hr 37 δ);have e38:=Rg.A_ (hr 38 δ);exact aS rfl L7
  ·unfold aY
   rw [if_neg δ,if_neg δ];intro zZ w_ hB hr;have e39:=Rg.A_ (hr 39 δ);have k0:=aE hB ci;exact aS rfl L7
  ·unfold aY
   rw [if_neg δ,if_neg δ];intro zZ w_ hB hr;have e35:=Rg.A_ (hr 35 δ);have e36:=Rg.A_ (hr 36 δ);have e40:=Rg.A_ (hr 40 δ);have ef:=Rg.ef zZ;exact bO rfl γ (PM.out _)
  ·unfold aY
   rw [if_neg δ,if_neg δ];intro zZ w_ hB hr;have e41:=Rg.A_ (hr 41 δ);exact aS rfl γ
  ·exact wat5
  ·exact wat5
  ·unfold aY
   exact Ph
  ·unfold aY
   rw [if_neg δ,if_pos rfl];intro zZ w_ h_ hh hn hr;have e11:zZ.tmps[11]?=some (.pointer (some ⟨h_,0,none⟩)):=hr 11 δ;have e42:=Rg.A_ (hr 42 δ);exact Zk
  ·unfold aY
   rw [if_neg δ,if_neg δ];intro zZ w_ hB hr;have e43:=Rg.A_ (hr 43 δ);exact aS rfl γ
  intro vals wz h_ hh hn LG hB hv;have L6:vals 12=.bool f1:=hv 12 δ δ δ;simp only [bD,Rg.fill,Act.put,Nat.reduceAdd];clear hv;simp only [LG,L6];clear LG L6;have Nw:sb<h_:=Nat.lt_of_lt_of_le S.lt hh;replace ⟨C,R,S,B⟩:=Kl hB C R S B;clear hB X_ ci p0 p1 p2 hw2
  cases f1 <;> cases f2
  all_goals
   have ⟨c0,c1,_,_,_⟩:=C.box;have ⟨s0,s1,s2⟩:=S.aM;have ⟨n0,n1,n2⟩:=hn.aM;have ⟨r0,r1,r2,u0,u1,u2⟩:=R.bQ
   go_wp2_with (with_reducible refine G_ PA fun w7 KY=>?_;replace ⟨B,C,R,S⟩:=Kl KY B C R S;have b_:=bA w7 (.cells #[z1,z2,z3] 47);replace ⟨B,C,R,S⟩:=Kl b_ B C R S;(have ⟨r0,r1,r2,u0,u1,u2⟩:=R.bQ);(have ⟨s0,s1,s2,t0,t1,t2⟩:=S.bQ))
  iterate 3
   have hfin:=KO (hno.out hst.out);exact KU (v:=.tuple #[.agg #[(0:Int),(0:Int),(0:Int)],false]) results17 ⟨by rw [hfin.out];rfl,MN B⟩
  exact Y5
 obtain rfl:i=N:=ω
 have hfin:=KO (hres.out.symm.trans hs.out);have ⟨s0,s1,s2⟩:=S.aM;have ⟨r0,r1,r2,u0,u1,u2⟩:=R.bQ;go_wp2;exact KU (v:=.tuple #[.agg #[X,Y,E],true]) results17 ⟨by rw [hfin.out];rfl,MN B⟩
end
section
open Go Go.RowKit Go.Shelf open Dw Gr M Rg Rw Wh
namespace Dw
theorem Jm {P:Program} {f:Nat} {A:List S1} {r:S1} (hc:∀ args w,(callFunc f args).run P w=.ok (.enter f args) w) (h:∀ args g z w,Qw g z w A args->Calls P f args.toArray w fun e w'=>∃ x,e=.returned x/\(∀ g z w',ok g z w' r x)/\Below w w w'):lE P f A r 0:=
 ⟨hc,fun g B n v K z w args ha hk _=>(h args g z w ha).mono fun e w' ⟨x,e1,h1,h2⟩=>⟨x,e1,h1 _ _ _,hk.keep h2,bT h2 _⟩⟩
theorem Ai:lE prog 69 [.f 2] .b 0:=Jm (enters_of func69 κ rfl) fun args g z w ha=>by
 match args,ha with
 | [x],⟨hx,_⟩=>
 obtain ⟨a,b,rfl⟩:=rm hx
 exact (jo a b w).mono fun e w' ⟨h1,h2⟩=>⟨_,h1,fun _ _ _=>⟨_,rfl⟩,h2⟩
theorem vY:lE prog 59 [.f 2,.f 3,.i] (.t2 (.f 3) .b) 0:=Jm (enters_of func59 κ rfl) fun args g z w ha=>by
 match args,ha with
 | [x,y,u],⟨hx,hy,⟨n,hu⟩,_⟩=>
 obtain ⟨a,b,rfl⟩:=rm hx;obtain ⟨X,Y,E,rfl⟩:=Ji hy;subst hu
 exact (lK a b X Y E n w).mono fun e w' ⟨h1,h2⟩=>⟨_,h1,fun _ _ _=>⟨_,_,rfl,HJ _ _ _,_,rfl⟩,h2⟩
theorem xo:lE prog 60 [.c,.f 2] (.f 3) 10:=⟨enters_of func60 κ rfl,fun g B n v K z w args ha hk hK=>by
 match args,ha with
 | [x,y],⟨hx,hy,_⟩=>
 obtain ⟨a,b,rfl⟩:=rm hy;have hx:x=_:=hx;subst hx
 exact (BL g B v n K a b w hk ω).mono fun e w' ⟨X,Y,E,h1,h2,h3⟩=>⟨_,h1,HJ _ _ _,h2,h3⟩⟩
theorem Ed {g z:Nat} {w:World} {a:Act} {m:Nat}:∀ (s:List S1),Qw g z w s (a.tmps.toList.take s.length)->∀ t,ok g z w (nth (s ++ List.replicate m .any) t) (a.eval (.tmp t)):=by
 have key:∀ (s:List S1) (vs:List Value),Qw g z w s (vs.take s.length)->∀ t,ok g z w (nth (s ++ List.replicate m .any) t) (vs.getD t undef):=by
  intro s
  induction s with
  | nil=>
   intro vs _ t
   have:nth ([] ++ List.replicate m .any) t=.any:=by
    unfold nth;rw [List.nil_append,List.getD_eq_getElem?_getD,List.getElem?_replicate]
    split <;> rfl
   rw [this]
   trivial
  | cons x s ih=>
  intro vs h t
  cases vs with
  | nil=>exact h.elim
  | cons v vs=>
  cases t with
  | zero=>exact h.1
  | succ t=>exact ih vs h.2 t
 intro s h t;have:=key s a.tmps.toList h t
 rwa [List.getD_eq_getElem?_getD,Array.getElem?_toList,←Array.getD_eq_getD_getElem?] at this
theorem aG.ib {w:World} {g b T:Nat} {xs:List Int} (h:aG w b T (xs.map (Value.int .i64)).toArray) (hg:b≠g):IB g w b T xs.length:=⟨hg,_,h,σ,fun u hu=>by
 obtain ⟨x,-,rfl⟩:=List.mem_map.1 hu
 exact ⟨x,rfl⟩⟩
theorem aG.own {w:World} {g z b T:Nat} {xs:List Int} (h:aG w b T (xs.map (Value.int .i64)).toArray) (hg:b≠g) (hz:z<=b):ok g z w (.p true xs.length) (.pointer (some ⟨b,0,none⟩)):=⟨b,0,T,xs.length,rfl,aG.ib h hg,ω,fun _=>hz⟩
theorem useK {P:Program} {c:Code} {Q:Exit->Act->World->Prop} {K:Act->World->Prop} {a:Act} {w:World} (h:∀ a w,Code.wp P c Q a w->K a w) (h2:c.wp P Q a w):K a w:=h a w h2
def E4:Env:={ E3 with fn:=(69,[.f 2],.b,0) :: (60,[.c,.f 2],.f 3,10) :: (59,[.f 2,.f 3,.i],.t2 (.f 3) .b,0) :: E3.fn }
theorem G4:dU prog E4:=((JN.cons vY).cons xo).cons Ai
theorem Cr:lE prog 174 [.c] (.f 2) 30:=rp G4 mixed func174 (enters_of func174 κ rfl) (fuel:=60) κ
def E5:Env:={ E4 with fn:=(174,[.c],.f 2,30) :: E4.fn }
theorem G5:dU prog E5:=G4.cons Cr
theorem ug:lE prog 152 [.c] (.f 2) 40:=rp G5 mixed func152 (enters_of func152 κ rfl) (fuel:=60) κ
def E6:Env:={ E5 with fn:=(152,[.c],.f 2,40) :: E5.fn }
theorem G6:dU prog E6:=G5.cons ug
end Dw
theorem Dw.xC (g B:Nat) (v:Value) (n K:Nat) (w:World) (h:dh w g B v n K) (hk:K+100<=700000000) :
  Calls prog 109 #[.pointer (some ⟨g,0,none⟩)] w fun e w'=>∃ x,e=.returned x/\Dw.ok g w w' (.t2 (.f 2) (.f 3)) x/\dh w' g B v n (K+100)/\w.grownBy w' (some g):=by
 have hl:=h.size;obtain ⟨wc,hw3,R,Q,BB⟩:=dQ w #[(0:Int),(0:Int)] 24 #[(0:Int),(0:Int),(0:Int)] 47;have st:=(St.start h).keep BB;have hB:=st.lt;have hwc:=BB.size
 have nR:w.heap.size≠g:=ω
 have nQ:w.heap.size+1≠g:=ω
 clear h BB;go_enter func109,ntmps109
 go_wp2_with fail
 refine (BM g B v n _ _ st.cur ω).mono ?_;rintro e X5 ⟨a,b,X,Y,E,rfl,hgp,Kb,KZ⟩;replace st:=st.call Kb KZ;have sz_c:=KZ.size;replace R:=R.bf KZ nR;replace Q:=Q.bf KZ nQ;clear Kb KZ;have zrc:=R.lt;have zqc:=Q.lt;have C:=aG.new X5 #[a,b] 24;have zlC:=st.size;have zgC:=st.le;replace st:=st.alloc (.cells #[a,b] 24);replace R:=R.alloc (.cells #[a,b] 24);replace Q:=Q.alloc (.cells #[a,b] 24)
 have nC:X5.heap.size≠g:=ω
 have U:=aG.new (X5.alloc (.cells #[a,b] 24)) #[X,Y,E] 47;have zlU:=st.size;have zgU:=st.le;replace st:=st.alloc (.cells #[X,Y,E] 47);replace R:=R.alloc (.cells #[X,Y,E] 47);replace Q:=Q.alloc (.cells #[X,Y,E] 47);replace C:=C.alloc (.cells #[X,Y,E] 47);rw [KQ] at U zlU zgU
 have nU:X5.heap.size+1≠g:=ω
 go_wp2_with fail
 generalize X5.heap.size=G at *;refine (Ha g B v n _ 3 _ st.cur ω ω ω).mono ?_;rintro e Vm ⟨t,rfl,Kb,KZ⟩;replace st:=st.call Kb KZ;have sz_t:=KZ.size;replace R:=R.bf KZ nR;replace Q:=Q.bf KZ nQ;replace C:=C.bf KZ nC;replace U:=U.bf KZ nU;clear Kb KZ
 go_upto_if 15 with fail
 go_cut [] from 6 to 26 (fun wx=>St w wx g B v n (K+20+2+2)/\aG wx w 24 #[(0:Int),(0:Int)]/\aG wx (w.heap.size+1) 47 #[(0:Int),(0:Int),(0:Int)]/\aG wx G 24 #[a,b]/\ue wx (G+1))
 case first=>as_aux_lemma=>
  cases t
  case false=>
   go_wp2
   go_meet
   exact ⟨st.up ω,R,Q,C,⟨X,Y,E,U⟩⟩
  case true=>
  go_upto_region 3 with fail
  have hRl2:=R.lt;have hCl2:=C.lt;have hUl:=U.lt;have hQl:=Q.lt;have hgr:=st.size;refine FB (fun l W=>Ml Vm g B v n ((K+20+2)+Rg.NJ [(3,2)] l) W) (fun i u W=>match i with | 3=>PkF 0 8 u | 4=>PkF (-4) 4 u | 5=>FI u | 6=>FI u | 7=>JJ u | 8=>yN u | 9=>CA Vm u W | 11=>yN u | _=>True) (cV Vm) [3,4,5,6,7,8,9,10,11] [.agg #[a,b],.agg #[X,Y,E],.pointer (some ⟨g,0,none⟩),undef,undef,undef,undef,undef,undef,undef,undef,undef] κ κ δ (fun l l2 W h q=>by rw [←tc (C:=[(3,2)]) (l:=l) fun p hp=>h p.1 (by revert p;decide)];exact q) (fun i u w1 w2 hR h=>match i,h with | 0,h=>(trivial) | 1,h=>(trivial) | 2,h=>(trivial) | 3,h=>(h) | 4,h=>(h) | 5,h=>(h) | 6,h=>(h) | 7,h=>(h) | 8,h=>(h) | 9,h=>wau9 | 10,h=>(trivial) | 11,h=>(h) | n_+12,_=>trivial) (Ml.start st) ⟨?_,?_,?_,?_,?_,?_,?_,?_,?_,?_,?_,?_,trivial⟩ ?_
  ·unfold bP
   intro zZ w_ l_ d_ Kp LU LB LK Kq Kb hr;refine ⟨rfl,?_⟩;rw [if_neg δ];have e4:zZ.tmps[4]?=some (.pointer (some ⟨G,0,none⟩)):=hr 4 δ;have Ke:=C.bf Kp.2 nC;have ⟨k0,k1,_,_,_⟩:=Ke.box
   exact Lg
  ·unfold bP
   intro zZ w_ l_ d_ Kp LU LB LK Kq Kb hr;refine ⟨rfl,?_⟩;rw [if_neg δ];have e5:zZ.tmps[5]?=some (.pointer (some ⟨G+1,0,none⟩)):=hr 5 δ;have Ke:=U.bf Kp.2 nU;have ⟨k0,k1,k2⟩:=Ke.aM
   exact Lg
  ·exact ZJ
  ·unfold bP
   intro zZ w_ l_ d_ Kp LU LB LK Kq Kb hr;have e19:zZ.tmps[19]?=some (.pointer (some ⟨g,0,none⟩)):=hr 19 δ
   have ef:∀ f,zZ.eval (.func f)=.func (.func f) #[] #[]:=fun _=>rfl
   have ec:=Rg.ec zZ;refine ⟨rfl,?_⟩;rw [if_pos δ];have kk_:=xV [(3,2)] l_;rw [show Rg.NJ [(3,2)] (fun _=>true)=2 from rfl] at kk_;refine jk τ ?_;refine (gt g B v n _ 9 _ Kp.1 ω ω ω).mono ?_;exact ZP
  ·unfold bP
   intro zZ w_ l_ d_ Kp LU LB LK Kq Kb hr;have e20:zZ.tmps[20]?=some (d_ 3):=hr 20 δ;have ec:=Rg.ec zZ;refine ⟨rfl,?_⟩;rw [if_pos δ];obtain ⟨x_,⟨UB,UC⟩,MM⟩:=LU 3 δ (Kq 3 κ);rw [MM] at e20;refine gJ (x:=.int .i64 (x_ - 4)) (w2:=w_) Lg ?_;exact ⟨by (try dsimp only);rw [dA δ];exact Kp,⟨_,ω,rfl⟩,cV.self _ _⟩
  ·unfold bP
   intro zZ w_ l_ d_ Kp LU LB LK Kq Kb hr;have e17:zZ.tmps[17]?=some (.agg #[a,b]):=hr 17 δ;have e18:zZ.tmps[18]?=some (.agg #[X,Y,E]):=hr 18 δ;have e21:zZ.tmps[21]?=some (d_ 4):=hr 21 δ
   have ef:∀ f,zZ.eval (.func f)=.func (.func f) #[] #[]:=fun _=>rfl
   refine ⟨rfl,?_⟩;rw [if_pos δ];obtain ⟨x_,⟨UB,UC⟩,MM⟩:=LU 4 δ (Kq 4 κ);rw [MM] at e21;exact Yv
  ·unfold bP
   intro zZ w_ l_ d_ Kp LU LB LK Kq Kb hr;have e22:zZ.tmps[22]?=some (d_ 5):=hr 22 δ;refine ⟨rfl,?_⟩;rw [if_pos δ];obtain ⟨X_,Y_,E_,q_,MM⟩:=LU 5 δ (Kq 5 κ);rw [MM] at e22;refine gJ (x:=.tuple #[.agg #[X_,Y_,E_],q_]) (w2:=w_) Lg ?_;exact wau5
  ·unfold bP
   intro zZ w_ l_ d_ Kp LU LB LK Kq Kb hr;have e16:zZ.tmps[16]?=some (d_ 6):=hr 16 δ;refine ⟨rfl,?_⟩;rw [if_pos δ];obtain ⟨X_,Y_,E_,q_,MM⟩:=LU 6 δ (Kq 6 κ);rw [MM] at e16;refine gJ (x:=.agg #[X_,Y_,E_]) (w2:=w_) Lg ?_;exact ⟨by (try dsimp only);rw [dA δ];exact Kp,⟨_,_,_,rfl⟩,cV.self _ _⟩
  ·unfold bP
   intro zZ w_ l_ d_ Kp LU LB LK Kq Kb hr;have e16:zZ.tmps[16]?=some (d_ 6):=hr 16 δ;refine ⟨rfl,?_⟩;rw [if_pos δ];obtain ⟨X_,Y_,E_,q_,MM⟩:=LU 6 δ (Kq 6 κ);rw [MM] at e16;refine gJ (x:=.bool q_) (w2:=w_) Lg ?_;exact SB
  ·unfold bP
   intro zZ w_ l_ d_ Kp LU LB LK Kq Kb hr;refine ⟨rfl,?_⟩;rw [if_pos δ];refine rP (x:=.pointer (some ⟨w_,0,none⟩)) (ob:=.cells #[(0:Int),(0:Int),(0:Int)] 47) Lg ?_;exact Zs
  ·unfold bP
   intro zZ w_ l_ d_ Kp LU LB LK Kq Kb hr;have e6:zZ.tmps[6]?=some (d_ 9):=hr 6 δ;have e23:zZ.tmps[23]?=some (d_ 7):=hr 23 δ;refine ⟨rfl,?_⟩;rw [if_pos δ];obtain ⟨h_,eh_,NI,O4⟩:=LU 9 δ (Kq 9 κ);rw [eh_] at e6;obtain ⟨X_,Y_,E_,MM⟩:=LU 7 δ (Kq 7 κ);rw [MM] at e23
   have OM:Ml Vm g B v n ((K+20+2)+Rg.NJ [(3,2)] (Rg.upd l_ 10)) (((w_.setCell ⟨h_,0,none⟩ (.int .i64 X_)).setCell ⟨h_,1,none⟩ (.int .i64 Y_)).setCell ⟨h_,2,none⟩ (.int .i64 E_))/\True/\cV Vm w_ (((w_.setCell ⟨h_,0,none⟩ (.int .i64 X_)).setCell ⟨h_,1,none⟩ (.int .i64 Y_)).setCell ⟨h_,2,none⟩ (.int .i64 E_)):=⟨by (try dsimp only);rw [dA δ];exact ((Kp.put ω ω NI 0 _).put ω ω NI 1 _).put ω ω NI 2 _,trivial,cV.put O4 _ _ _⟩
   obtain ⟨X0_,Y0_,E0_,O4⟩:=O4;have ⟨WV,WW,c2_,Wb,Wc,f2_⟩:=O4.bQ;exact R8
  ·unfold bP
   intro zZ w_ l_ d_ Kp LU LB LK Kq Kb hr;have e24:zZ.tmps[24]?=some (d_ 8):=hr 24 δ;refine ⟨rfl,?_⟩;rw [if_pos δ];obtain ⟨q_,MM⟩:=LU 8 δ (Kq 8 κ);rw [MM] at e24;refine gJ (x:=.bool q_) (w2:=w_) Lg ?_;exact SB
  intro vals wz Kp hF hv;obtain ⟨h_,MX,NI,XN,YN,EN,N⟩:=hF 9 δ;obtain ⟨ok,MV⟩:=hF 11 δ;simp only [bD,Rg.fill,Act.put,Nat.reduceAdd];clear hv hF;simp only [MX,MV];clear MX MV;replace Kp:Ml Vm g B v n ((K+20+2)+2) wz:=Kp;replace st:=st.call Kp.1 Kp.2;replace R:=R.bf Kp.2 nR;replace Q:=Q.bf Kp.2 nQ;replace C:=C.bf Kp.2 nC;replace U:=U.bf Kp.2 nU;have szz:=Kp.2.size;clear Kp;have ⟨U_0,U_1,U_2,MP,MQ,U_f2⟩:=U.bQ;have U_l:=U.lt;have ⟨N_0,N_1,N_2,N_f0,N_f1,N_f2⟩:=N.bQ;have N_l:=N.lt;cases ok
  ·go_wp2
   go_meet
   exact ⟨st.up ω,R,Q,C,⟨X,Y,E,U⟩⟩
  go_wp2
  go_meet
  exact ⟨((((st.aQ (c:=G+1) (o:=0) ω ω ω _).aQ (c:=G+1) (o:=1) ω ω ω _).aQ (c:=G+1) (o:=2) ω ω ω _)).up ω,((R.other ω _).other ω _).other ω _,((Q.other ω _).other ω _).other ω _,((C.other ω _).other ω _).other ω _,⟨XN,YN,EN,U.rC _ _ _⟩⟩
 case rest=>
 obtain ⟨st,R,Q,C,X1,Y1,E1,U⟩:=hcut;refine Dw.useK ψ ?_
 refine pU (w0:=w) (g:=g) (B:=B) (n:=n) (v:=v) (K:=K+24) (cap:=76) (r:=.t2 (.f 2) (.f 3)) (s:=[.c,.any,.p true 2,.p true 3,.p true 2,.p true 3] ++ List.replicate 64 .any) G6 Dw.mixed 60 ω ⟨⟨st.cur,st.gr,ω⟩,Ed [.c,.any,.p true 2,.p true 3,.p true 2,.p true 3] ?_,rfl,rfl⟩ κ fun x w' h1 h2 h3=>⟨x,rfl,h1,h2,h3⟩
 exact ⟨rfl,trivial,Dw.aG.own (xs:=[0,0]) R nR ω,Dw.aG.own (xs:=[0,0,0]) Q nQ ω,Dw.aG.own (xs:=[a,b]) C nC ω,Dw.aG.own (xs:=[X1,Y1,E1]) U nU ω,trivial⟩
namespace Dw
theorem uh:lE prog 109 [.c] (.t2 (.f 2) (.f 3)) 100:=⟨enters_of func109 κ rfl,fun g B n v K z w args ha hk hK=>by
 match args,ha with
 | [x],⟨hx,_⟩=>
 have hx:x=_:=hx;subst hx
 exact xC g B v n K w hk hK⟩
end Dw
namespace Dw
def E7:Env:={ E6 with fn:=(109,[.c],(.t2 (.f 2) (.f 3)),100) :: E6.fn }
theorem G7:dU prog E7:=G6.cons uh
theorem uY:lE prog 57 [.c] (.t3 (.f 2) (.f 3) (.f 3)) 120:=rp G7 mixed func57 (enters_of func57 κ rfl) (fuel:=60) κ
def E8:Env:={ E7 with fn:=(57,[.c],(.t3 (.f 2) (.f 3) (.f 3)),120) :: E7.fn }
theorem G8:dU prog E8:=G7.cons uY
theorem rW:lE prog 27 [.c] (.t2 (.f 2) (.s 3 0 5)) 200:=rp G8 mixed func27 (enters_of func27 κ rfl) (fuel:=60) κ
def E9:Env:={ E8 with fn:=(27,[.c],(.t2 (.f 2) (.s 3 0 5)),200) :: E8.fn }
theorem G9:dU prog E9:=G8.cons rW
end Dw
theorem lG (v:Value) (n:Nat) (w:World) (h:ei w w v n) :
  Calls prog 4 #[v] w fun e w'=>∃ x,e=.returned x/\(∃ g z,Dw.ok g z w' (.t2 (.f 2) (.s 3 0 5)) x)/\Below w w w':=by
 obtain ⟨A,cap,rfl,hn,Ka⟩:=h
 have h:ei w w (.slice A n cap) n:=⟨A,cap,rfl,hn,Ka⟩
 clear Ka hn;obtain ⟨wc,hw3,R,BB⟩:=cJ w #[(0:Int),(0:Int)] 24;have st:=St.Jw h BB 64;have zc:=R.lt;have zw:=BB.size;replace R:=R.alloc (.cells #[.slice A n cap,(0:Int),.int .u64 0] 64);clear h BB;go_enter func4,ntmps4
 refine wp_seq_k fun K1 hK1=>?_
 replace hK1:=KO hK1;go_wp2;refine hK1.out _ _ ?_
 refine wp_seq_k fun K2 hK2=>?_
 replace hK2:=KO hK2;go_wp2;refine hK2.out _ _ ?_
 refine pU (w0:=w) (g:=wc.heap.size) (B:=w.heap.size) (n:=n) (v:=.slice A n cap) (K:=0) (cap:=260) (r:=(.t2 (.f 2) (.s 3 0 5))) (s:=[.any,.any,.p true 2,.z,.c] ++ List.replicate 7 .any) G9 Dw.mixed 60 ω ⟨⟨st.cur,st.gr,ω⟩,Ed [.any,.any,.p true 2,.z,.c] ?_,rfl,rfl⟩ κ fun x w' h1 _ h3=>⟨x,rfl,⟨_,_,h1⟩,cw h3 (KT _) fun k hk=>by cases hk;exact zw⟩
 exact ⟨trivial,trivial,Dw.aG.own (xs:=[0,0]) R ω ω,rfl,rfl,trivial⟩
theorem lF (v:Value) (n:Nat) (w:World) (h:ei w w v n) :
  Calls prog 38 #[v] w fun e w'=>∃ x,e=.returned x/\(∃ g z,Dw.ok g z w' (.t3 (.f 2) (.s 3 0 5) (.s 1 0 5)) x)/\Below w w w':=by
 obtain ⟨A,cap,rfl,hn,Ka⟩:=h
 have h:ei w w (.slice A n cap) n:=⟨A,cap,rfl,hn,Ka⟩
 clear Ka hn;obtain ⟨wc,hw3,R,BB⟩:=cJ w #[(0:Int),(0:Int)] 24;have st:=St.Jw h BB 64;have zc:=R.lt;have zw:=BB.size;replace R:=R.alloc (.cells #[.slice A n cap,(0:Int),.int .u64 0] 64);clear h BB;go_enter func38,ntmps38
 refine wp_seq_k fun K1 hK1=>?_
 replace hK1:=KO hK1;go_wp2;refine hK1.out _ _ ?_
 refine wp_seq_k fun K2 hK2=>?_
 replace hK2:=KO hK2;go_wp2;refine hK2.out _ _ ?_
 refine pU (w0:=w) (g:=wc.heap.size) (B:=w.heap.size) (n:=n) (v:=.slice A n cap) (K:=0) (cap:=300) (r:=(.t3 (.f 2) (.s 3 0 5) (.s 1 0 5))) (s:=[.any,.any,.p true 2,.z,.z,.c] ++ List.replicate 44 .any) G9 Dw.mixed 60 ω ⟨⟨st.cur,st.gr,ω⟩,Ed [.any,.any,.p true 2,.z,.z,.c] ?_,rfl,rfl⟩ κ fun x w' h1 _ h3=>⟨x,rfl,⟨_,_,h1⟩,cw h3 (KT _) fun k hk=>by cases hk;exact zw⟩
 exact ⟨trivial,trivial,Dw.aG.own (xs:=[0,0]) R ω ω,rfl,rfl,rfl,trivial⟩
end
section
open Go.RowKit open Dw Gr M Rg Rw Wh
theorem wat8 {p:Prop} (h:p:=by
 go_wp2
 go_roundw
 case rel=>exact ⟨k+1,ω,ν,p_ hbr hbq⟩
 case measure=>simp [intOf];omega):p:=h
theorem GT (v u:Value) (xs:List Int) (h1 h2:Nat) (w:World) (hx:jh w h1 v xs) (hy:jh w h2 u xs) :
  cB 21 #[v,u] w true:=by
 obtain ⟨A,cap,rfl,hm,hv⟩:=hx;obtain ⟨A',cap',rfl,-,hv'⟩:=hy;go_enter func21,ntmps21
 go_wp2
 go_loopw [13] (fun vi wr=>∃ k:Nat,k<=xs.length/\vi=.int .i64 k/\Below w w wr/\(∀ p,wr.cell? p=w.cell? p)) (fun vi _=>xs.length - (intOf vi).toNat)
 case atStart=>exact ⟨0,ω,rfl,KS _ _,fun _=>rfl⟩
 case round=>
 obtain ⟨k,hk,rfl,hbr,hc⟩:=hrel;have Hc:=KO hc;clear hc
 by_cases hlt:k<xs.length
 ·obtain ⟨g,x,rfl,hg,hx,hcell⟩:=hv k hlt
  obtain ⟨g',x',rfl,hg',hx',hcell'⟩:=hv' k hlt;obtain rfl:=Option.some.inj (hx.out.symm.trans hx'.out);have q0:=(Hc.out _).trans hcell;have q1:=(Hc.out _).trans hcell';clear hv hv' hcell hcell';go_wp2
  go_quiet (fail)
  go_wp2
  go_roundw
  case rel=>exact ⟨k+1,ω,ν,aP hbr _,fun p=>Hc.out p⟩
  case measure=>simp [intOf];omega
 obtain rfl:k=xs.length:=ω
 clear hv hv';go_wp2;go_ret;exact ⟨rfl,hbr⟩
theorem GC {α:Type} {o:Option α} (h:o.isSome=false):o=none:=by
 cases o with
 | none=>rfl
 | some _=>cases h
theorem lH (a b:Int) (v nv:Value) (l:List Pt) (n:List Int) (w:World) (hx:dC w v l) (hnx:cE w nv n) (hn:l.length<=4000000) :
  cB 16 #[.agg #[a,b],v,nv] w (.tuple #[.agg #[M.pX (dJ a b l n),M.pY (dJ a b l n),M.pE (dJ a b l n)],.bool (dJ a b l n).isSome]):=by
 have PL:=fun W h=>er a b v l W h hn
 obtain ⟨pa,NE,hpv,-⟩:=id hx
 have PF:=fun W (h:cE W nv n)=>lO pa l.length NE nv n W h
 rw [←hpv] at PF
 have PC:=fun h1 h2 W hx hnx=>Ac a b v nv l n W hx hnx h1 h2
 have e1:=fun h1 h2=>yY (a:=a) (b:=b) (l:=l) (n:=n) h1 h2
 have e0:=fun h=>Ce (a:=a) (b:=b) (l:=l) (n:=n) h
 obtain ⟨na,Lt,SR,hnl,hnc⟩:=hnx;have hnx:=KO (show cE w nv n from ⟨na,Lt,SR,hnl,hnc⟩);replace hx:=KO hx;subst SR hpv;clear hnc hnl;generalize n.length=K,l.length=N at *;obtain ⟨wc,hw3,C,R,B⟩:=dQ w #[a,b] 24 #[(0:Int),(0:Int),(0:Int)] 47;have ⟨c0,c1,_,_,_⟩:=C.box;have ⟨r0,r1,r2,z0,z1,z2⟩:=R.bQ;replace PL:=KO PL;replace PF:=KO PF
 cases hp:ai a b l <;> cases hf:M.fits n N
 iterate 3
  have q1:=GC (e0 (by rw [hp,hf];rfl)).2;rw [q1];rw [hp] at PL;rw [hf] at PF;replace PL:=KO PL.out;replace PF:=KO PF.out;clear PC e0 e1 q1 hp hf;go_enter func16,ntmps16
  go_wp2_with first | (with_reducible refine Km (PL.out _ (hx.out.below B)) fun w4 hb4=>?_;replace ⟨B,C⟩:=Kt hb4 B C;(have ⟨c0,c1,_,_,_⟩:=C.box);replace R:=R.keep hb4;(have ⟨r0,r1,r2,z0,z1,z2⟩:=R.bQ)) | (with_reducible refine Km (PF.out _ (hnx.out.keep B)) fun w5 hb5=>?_;replace ⟨B,C⟩:=Kt hb5 B C;(have ⟨c0,c1,_,_,_⟩:=C.box);replace R:=R.keep hb5;(have ⟨r0,r1,r2,z0,z1,z2⟩:=R.bQ))
  exact KU results16 ⟨rfl,LV⟩
 rw [e1 hp hf];rw [hp] at PL;rw [hf] at PF;replace PL:=KO PL.out;replace PF:=KO PF.out;replace PC:=KO (PC hp hf);clear e0 e1 hp hf;generalize gE a b l n N=r at *;generalize M.pX r=x,M.pY r=y,M.pE r=z,r.isSome=t at *;go_enter func16,ntmps16
 go_wp2_with first | (with_reducible refine Km (PL.out _ (hx.out.below B)) fun w4 hb4=>?_;replace ⟨B,C⟩:=Kt hb4 B C;(have ⟨c0,c1,_,_,_⟩:=C.box);replace R:=R.keep hb4;(have ⟨r0,r1,r2,z0,z1,z2⟩:=R.bQ)) | (with_reducible refine Km (PF.out _ (hnx.out.keep B)) fun w5 hb5=>?_;replace ⟨B,C⟩:=Kt hb5 B C;(have ⟨c0,c1,_,_,_⟩:=C.box);replace R:=R.keep hb5;(have ⟨r0,r1,r2,z0,z1,z2⟩:=R.bQ)) | (with_reducible refine Km (PC.out _ (hx.out.below B) (hnx.out.keep B)) fun w6 hb6=>?_;replace ⟨B,R⟩:=Kt hb6 B R;(have ⟨r0,r1,r2,z0,z1,z2⟩:=R.bQ))
 exact KU results16 ⟨rfl,LV⟩
theorem tX (lo hi:Int) (w:World) (h:aJ lo hi=true) :
  cB 25 #[.agg #[M.pn lo,M.pd lo,M.pn hi,M.pd hi]] w (.tuple #[(if 0<lo then 1 else if hi<0 then -1 else 0:Int),true]):=by
 have PS:=KO fun W=>Ei lo hi W h
 clear h;generalize M.pn lo=p1,M.pd lo=p2,M.pn hi=p3,M.pd hi=p4 at *
 by_cases h1:0<lo <;> by_cases h2:hi<0
 all_goals
  first | rw [if_pos h1] | rw [if_neg h1]
  try first | rw [if_pos h2] | rw [if_neg h2]
  go_enter func25,ntmps25
  go_wp2_with (with_reducible refine G_ PS fun w4 hb4=>?_)
  go_ret2;exact ⟨rfl,LV⟩
theorem cZ.len {w:World} {base:Nat} {v:Value} {rows:N8} (h:cZ w base v rows) (h2:∀ r ∈ rows,1<=r.length):∃ A cap,v=.slice A rows.length cap/\∀ (i:Nat) (r:List (Int × Int × Int × Int)),rows[i]?=some r->∃ g,A=some ⟨g,0,none⟩:=by
 cases rows with
 | nil=>
  obtain ⟨vs,⟨-,a2⟩,-⟩:=h
  rcases a2 with ⟨e,-⟩ | ⟨g,cap,cur,e,-⟩
  ·exact ⟨none,0,e,fun i r h=>by cases h⟩
  exact ⟨_,cap,e,fun i r h=>by cases h⟩
 | cons r rows=>
 obtain ⟨g,cap,e⟩:=h.form σ h2;exact ⟨_,cap,e,fun _ _ _=>⟨g,rfl⟩⟩
theorem BS (v u:Value) (V:N8) (x y:Nat) (w:World) (hx:cZ w x v V) (hy:cZ w y u V) (hV:V.length<=4) (hr:∀ r ∈ V,1<=r.length/\r.length<=4) :
  cB 20 #[v,u] w true:=by
 obtain ⟨A,cap,rfl,hA⟩:=hx.len fun r h=>(hr r h).1
 obtain ⟨A',cap',rfl,hA'⟩:=hy.len fun r h=>(hr r h).1
 have Hx:=KO hx;have Hy:=KO hy;have Hr:=KO hr;clear hx hy hr
 obtain ⟨N,hN⟩:∃ N,N=V.length:=⟨_,rfl⟩
 rw [←hN] at Hx Hy hV ⊢;replace hN:=KO hN;replace hA:=KO hA;replace hA':=KO hA';go_enter func20,ntmps20
 go_wp2
 go_loopw [14] (fun vi wr=>∃ k:Nat,k<=N/\vi=.int .i64 k/\Below w w wr) (fun vi _=>N - (intOf vi).toNat)
 case atStart=>exact ⟨0,ω,rfl,KS _ _⟩
 case round=>
 obtain ⟨k,hk,rfl,hbr⟩:=hrel
 by_cases hlt:k<N
 ·obtain ⟨r,hr⟩:∃ r,Hid (V[k]?=some r):=⟨_,KO (List.getElem?_eq_getElem (by have:=hN.out;omega))⟩
  obtain ⟨hr1,hr4⟩:=Hr.out r (List.mem_of_getElem? hr.out);obtain ⟨g,rfl⟩:=hA.out k r hr.out;obtain ⟨g',rfl⟩:=hA'.out k r hr.out;obtain ⟨g2,cap2,e1,hq⟩:=(Hx.out.below hbr).oI hr.out hr1;obtain ⟨g3,TF,e2,hq'⟩:=(Hy.out.below hbr).oI hr.out hr1;replace hq:=KO hq;replace hq':=KO hq'
  obtain ⟨L,hL⟩:∃ L,L=r.length:=⟨_,rfl⟩
  rw [←hL] at e1 e2 hr4 hr1;replace hL:=KO hL;go_wp2
  go_quiet (fail)
  go_wp2
  go_loopw [33] (fun vj wq=>∃ j:Nat,j<=L/\vj=.int .i64 j/\Below wr wr wq) (fun vj _=>L - (intOf vj).toNat)
  case atStart=>exact ⟨0,ω,rfl,aP (KS _ _) _⟩
  case round=>
  obtain ⟨j,hj,rfl,hbq⟩:=hrel
  by_cases hjl:j<L
  ·obtain ⟨q,hqj⟩:∃ q,Hid (r[j]?=some q):=⟨_,KO (List.getElem?_eq_getElem (by have:=hL.out;omega))⟩
   obtain ⟨d0,d1,d2,d3⟩:=hq.out j q hqj.out;obtain ⟨f0,f1,f2,f3⟩:=hq'.out j q hqj.out;replace d0:=aE hbq d0;replace d1:=aE hbq d1;replace d2:=aE hbq d2;replace d3:=aE hbq d3;replace f0:=aE hbq f0;replace f1:=aE hbq f1;replace f2:=aE hbq f2;replace f3:=aE hbq f3;replace e1:=aE hbq e1;replace e2:=aE hbq e2;obtain ⟨q1,q2,q3,q4⟩:=q;simp only [] at d0 d1 d2 d3 f0 f1 f2 f3;go_wp2
   go_quiet (fail)
   go_wp2
   go_roundw
   case rel=>exact ⟨j+1,ω,ν,aP hbq _⟩
   case measure=>simp [intOf];omega
  obtain rfl:j=L:=ω
  exact wat8
 obtain rfl:k=N:=ω
 go_wp2;go_ret;exact ⟨rfl,hbr⟩
theorem Dw.Mon.KF (g:Nat) (w:World) (k i:Nat) (a:Int):Dw.Mon g w (w.setCell ⟨k,i,none⟩ (.int .i64 a)):=fun b T M ⟨hn,xs,h1,h2,h3⟩=>by
 by_cases e:b=k
 ·subst e
  refine ⟨hn,xs.setIfInBounds i (.int .i64 a),by simp [World.setCell,Array.getElem?_modify,h1],by simpa using h2,fun u hu=>?_⟩;rw [Array.toList_setIfInBounds] at hu
  rcases List.mem_or_eq_of_mem_set hu with hu | rfl
  ·exact h3 u hu
  exact ⟨_,rfl⟩
 exact ⟨hn,xs,(Below.heap_setCell _ _ _ _ e).trans h1,h2,h3⟩
theorem jl (v:Value) (n:Nat) (w:World) (h:ei w w v n) :
  Calls prog 15 #[v] w fun e w'=>∃ x,e=.returned x/\(∃ g z,Dw.ok g z w' (.t3 (.f 2) (.s 3 0 5) (.s 1 0 5)) x)/\Below w w w':=by
 obtain ⟨A,cap,rfl,hn,Ka⟩:=h
 have h:ei w w (.slice A n cap) n:=⟨A,cap,rfl,hn,Ka⟩
 clear Ka hn;obtain ⟨wc,hw3,R,B⟩:=cJ w #[(0:Int),(0:Int)] 24;go_enter func15,ntmps15
 go_wp2_with (refine (lF _ n _ ((h.keepW B).HY B.size)).mono ?_;rintro e w4 ⟨x,rfl,⟨g_,z_,hx⟩,hb4⟩;obtain ⟨x1,x2,x3,rfl,h1,h2,h3⟩:=hx;obtain ⟨a,b,rfl⟩:=rm h1;replace ⟨R,B⟩:=Kt hb4 R B;have ⟨c0,c1,_,_,_⟩:=R.box)
 have M:=fun a b=>(Dw.Mon.KF g_ w4 w 0 a).trans (Dw.Mon.KF g_ _ w 1 b)
 exact KU results15 ⟨_,rfl,⟨g_,z_,_,_,_,rfl,h1,jG (M a b) _ _ h2,jG (M a b) _ _ h3⟩,LV⟩
end
section
open Go.RowKit open Gr M Rg Rw Wh
theorem Ur {p:Prop} (h:p:=by
 unfold aw
 rw [if_neg δ];intro zZ w_ n_ d_ Li hJ hr;refine ⟨rfl,?_⟩;have e10:zZ.tmps[10]?=some (.pointer (some ⟨w6,0,none⟩)):=hr 10 δ;go_simp):p:=h
theorem ZH {p:Prop} (h:p:=by exact KU (v:=.tuple #[.agg #[(0:Int),(0:Int),(0:Int),(0:Int)],false]) results18 ⟨by rw [hfin.out];rfl,KR (KR (KR (KR B σ _) σ _) σ _) σ _⟩):p:=h
theorem Zd {p:Prop} (h:p:=by
 unfold aw
 rw [if_neg δ];intro zZ w_ n_ d_ Li hJ hr;refine ⟨rfl,?_⟩;have e16:zZ.tmps[16]?=some (.int .i64 (x1*x2*4096)):=hr 16 δ;go_simp):p:=h
structure db (kb sb xb Mq:Nat) (f:Bool) (us q:Int × Int) (w5 W:World):Prop where
 K:aG W kb 83 #[f]
 S:aG W sb 72 #[us.1,us.2]
 X:aG W xb 72 #[q.1,q.2]
 B:Below Mq w5 W
 d1:kb≠sb
 d2:kb≠xb
 d3:sb≠xb
 l1:Mq<=kb
 l2:Mq<=sb
theorem db.drew {kb sb xb Mq:Nat} {f:Bool} {us q:Int × Int} {w5 W:World} (h:db kb sb xb Mq f us q w5 W):db kb sb xb Mq f us q w5 W.drew:=⟨h.K,h.S,h.X,h.B.drew,h.d1,h.d2,h.d3,h.l1,h.l2⟩
theorem db.call {kb sb xb Mq:Nat} {f f2:Bool} {us q:Int × Int} {w5 W W':World} (h:db kb sb xb Mq f us q w5 W) (hb:Below W (W.setCell ⟨kb,0,none⟩ (.bool f2)) W') (hs:Mq<=W.heap.size):db kb sb xb Mq f2 us q w5 W':=by
 have hb2:=bI hb;exact ⟨(h.K.one _).keep hb2,(h.S.other (fun e=>h.d1 e.symm) _).keep hb2,(h.X.other (fun e=>h.d2 e.symm) _).keep hb2,(KR h.B (by exact h.l1) _).trans (hb.mono hs),h.d1,h.d2,h.d3,h.l1,h.l2⟩
theorem db.put {kb sb xb Mq:Nat} {f:Bool} {us q:Int × Int} {w5 W:World} (h:db kb sb xb Mq f us q w5 W) (u:Int × Int):db kb sb xb Mq f u q w5 ((W.setCell ⟨sb,0,none⟩ (.int .i64 u.1)).setCell ⟨sb,1,none⟩ (.int .i64 u.2)):=
 ⟨(h.K.other h.d1 _).other h.d1 _,aG.set2 h.S _ _,(h.X.other (fun e=>h.d3 e.symm) _).other (fun e=>h.d3 e.symm) _,KR (KR h.B (by exact h.l2) _) (by exact h.l2) _,h.d1,h.d2,h.d3,h.l1,h.l2⟩
def pq (n kb sb xb Mq:Nat) (f f2 f3:Bool) (us u2 u3 q:Int × Int) (w5:World) (x7 x8:Value) (W:World):Prop:=match n with
 | 0=>db kb sb xb Mq f us q w5 W
 | 1=>db kb sb xb Mq f2 us q w5 W/\x7=.agg #[u2.1,u2.2]
 | 2=>db kb sb xb Mq f3 us q w5 W/\x8=.agg #[u3.1,u3.2]
 | _=>db kb sb xb Mq f3 u3 q w5 W
theorem pq.S {n kb sb xb Mq:Nat} {f f2 f3:Bool} {us u2 u3 q:Int × Int} {w5:World} {x7 x8:Value} {W:World} (h:pq n kb sb xb Mq f f2 f3 us u2 u3 q w5 x7 x8 W) (hn:n<=2):aG W sb 72 #[us.1,us.2]:=by
 match n,hn,h with
 | 0,_,h=>exact db.S h
 | 1,_,h=>exact h.1.S
 | 2,_,h=>exact h.1.S
theorem pq.X {n kb sb xb Mq:Nat} {f f2 f3:Bool} {us u2 u3 q:Int × Int} {w5:World} {x7 x8:Value} {W:World} (h:pq n kb sb xb Mq f f2 f3 us u2 u3 q w5 x7 x8 W):aG W xb 72 #[q.1,q.2]:=by
 match n,h with
 | 0,h=>exact db.X h
 | 1,h=>exact h.1.X
 | 2,h=>exact h.1.X
 | n+3,h=>exact db.X h
structure fZ (kb sb rb Mz:Nat) (f:Bool) (us:Int × Int) (w W:World):Prop where
 K:aG W kb 83 #[f]
 S:aG W sb 72 #[us.1,us.2]
 B:Below Mz w W
 d1:kb≠rb
 d2:sb≠rb
 l1:Mz<=rb
theorem fZ.drew {kb sb rb Mz:Nat} {f:Bool} {us:Int × Int} {w W:World} (h:fZ kb sb rb Mz f us w W):fZ kb sb rb Mz f us w W.drew:=⟨h.K,h.S,h.B.drew,h.d1,h.d2,h.l1⟩
theorem fZ.keep {kb sb rb Mz:Nat} {f:Bool} {us:Int × Int} {w W W':World} (h:fZ kb sb rb Mz f us w W) (hb:Below W W W') (hs:Mz<=W.heap.size):fZ kb sb rb Mz f us w W':=⟨h.K.keep hb,h.S.keep hb,h.B.trans (hb.mono hs),h.d1,h.d2,h.l1⟩
theorem fZ.put4 {kb sb rb Mz:Nat} {f:Bool} {us:Int × Int} {w W:World} {x1 x2 x3 x4:Int} (h:fZ kb sb rb Mz f us w W) (hR:aG W rb 34 #[x1,x2,x3,x4]) (y1 y2 y3 y4:Int):(fZ kb sb rb Mz f us w ((((W.setCell ⟨rb,0,none⟩ (.int .i64 y1)).setCell ⟨rb,1,none⟩ (.int .i64 y2)).setCell ⟨rb,2,none⟩ (.int .i64 y3)).setCell ⟨rb,3,none⟩ (.int .i64 y4)))/\aG ((((W.setCell ⟨rb,0,none⟩ (.int .i64 y1)).setCell ⟨rb,1,none⟩ (.int .i64 y2)).setCell ⟨rb,2,none⟩ (.int .i64 y3)).setCell ⟨rb,3,none⟩ (.int .i64 y4)) rb 34 #[y1,y2,y3,y4]:=
 ⟨⟨(((h.K.other h.d1 _).other h.d1 _).other h.d1 _).other h.d1 _,(((h.S.other h.d2 _).other h.d2 _).other h.d2 _).other h.d2 _,KR (KR (KR (KR h.B h.l1 _) h.l1 _) h.l1 _) h.l1 _,h.d1,h.d2,h.l1⟩,aG.oK hR _ _ _ _⟩
def lw (n kb sb rb Mz:Nat) (f:Bool) (us:Int × Int) (i1 i2 i3 i4:Int) (w:World) (x5:Value) (W:World):Prop:=match n with
 | 0=>fZ kb sb rb Mz f us w W/\aG W rb 34 #[(0:Int),(0:Int),(0:Int),(0:Int)]
 | 1=>(fZ kb sb rb Mz f us w W/\aG W rb 34 #[(0:Int),(0:Int),(0:Int),(0:Int)])/\x5=.tuple #[.agg #[i1,i2,i3,i4],f]
 | _=>(fZ kb sb rb Mz f us w W/\aG W rb 34 #[i1,i2,i3,i4])/\x5=.tuple #[.agg #[i1,i2,i3,i4],f]
theorem lw.st {n kb sb rb Mz:Nat} {f:Bool} {us:Int × Int} {i1 i2 i3 i4:Int} {w:World} {x5:Value} {W:World} (h:lw n kb sb rb Mz f us i1 i2 i3 i4 w x5 W):fZ kb sb rb Mz f us w W:=by
 match n,h with
 | 0,h=>exact h.1
 | 1,h=>exact h.1.1
 | n+2,h=>exact h.1.1
theorem lw.val {n kb sb rb Mz:Nat} {f:Bool} {us:Int × Int} {i1 i2 i3 i4:Int} {w:World} {x5:Value} {W:World} (h:lw n kb sb rb Mz f us i1 i2 i3 i4 w x5 W) (hn:0<n):x5=.tuple #[.agg #[i1,i2,i3,i4],f]:=by
 match n,hn,h with
 | 1,_,h=>exact h.2
 | n+2,_,h=>exact h.2
theorem jw (a b:Int) (v nv:Value) (l:List Pt) (n:List Int) (w:World) (hx:dC w v l) (hnx:cE w nv n) (hn:l.length<=4000000) :
  cB 18 #[.agg #[a,b],v,nv] w (.tuple #[.agg #[M.Kc (dg a b l n),M.Kf (dg a b l n),M.Kg (dg a b l n),M.Kh (dg a b l n)],.bool (dg a b l n).isSome]):=by
 have PL:=fun W h=>er a b v l W h hn
 have PM:=fun (hp:ai a b l=true) W h=>fy a b v l W h (aX hp).1 (aX hp).2.2.1 (aX hp).2.2.2
 have hpl:=fun h=>aX (a:=a) (b:=b) (l:=l) h
 have eno:=fun h=>yZ (a:=a) (b:=b) (l:=l) (n:=n) h
 have Lr:=fun h=>ux (a:=a) (b:=b) (l:=l) (n:=n) h
 have QO:rg a b l n=(ai a b l && M.fits n l.length):=rfl;rw [QO] at eno Lr;clear QO
 have K8:=fun h=>fh (a:=a) (b:=b) (l:=l) h
 have hok:=fun h=>gq (a:=a) (b:=b) (l:=l) h
 have hpn:=fun h=>vg (a:=a) (b:=b) (l:=l) h
 obtain ⟨pa,NE,hpv,-⟩:=id hx
 have PF:=fun W (h:cE W nv n)=>lO pa l.length NE nv n W h
 rw [←hpv] at PF;clear hpv;obtain ⟨na,Lt,SR,hnl,hnc⟩:=hnx;have hnx:=KO (show cE w nv n from ⟨na,Lt,SR,hnl,hnc⟩);subst SR;clear hnc;replace hx:=KO hx;obtain ⟨wc,hw3,C,R,B⟩:=dQ w #[a,b] 24 #[(0:Int),(0:Int),(0:Int),(0:Int)] 34;have f_:=C.box.c0;have j_:=C.box.c1
 cases hp:ai a b l with
 | false=>
  rw [hp] at PL eno;have hfin:=KO (eno rfl);replace PL:=KO PL;clear PM PF eno Lr hp K8 hok hpl hpn;go_enter func18,ntmps18
  go_wp2_with ((with_reducible refine (PL.out _ (hx.out.below B)).mono ?_);rintro e w4 ⟨rfl,hb4⟩;replace ⟨B,C,R⟩:=Ky hb4 B C R;have f_:=C.box.c0;have j_:=C.box.c1;(have ⟨r0,r1,r2,r3,z0,z1,z2,z3,rl⟩:=R.aI))
  exact ZH
 | true=>
 rw [hp] at PL eno Lr;replace PL:=KO PL
 cases hft:M.fits n l.length with
 | false=>
  rw [hft] at PF eno;have hfin:=KO (eno rfl);replace PF:=KO PF;clear PM eno Lr hp K8 hok hpl hpn hft;go_enter func18,ntmps18
  go_wp2_with first | ((with_reducible refine (PL.out _ (hx.out.below B)).mono ?_);rintro e w4 ⟨rfl,hb4⟩;replace ⟨B,C,R⟩:=Ky hb4 B C R;have f_:=C.box.c0;have j_:=C.box.c1;(have ⟨r0,r1,r2,r3,z0,z1,z2,z3,rl⟩:=R.aI)) | ((with_reducible refine (PF.out _ (hnx.out.keep B)).mono ?_);rintro e w5 ⟨rfl,hb5⟩;replace ⟨B,C,R⟩:=Ky hb5 B C R;have f_:=C.box.c0;have j_:=C.box.c1;(have ⟨r0,r1,r2,r3,z0,z1,z2,z3,rl⟩:=R.aI))
  exact ZH
 | true=>
 rw [hft] at PF eno Lr;replace PF:=KO PF;obtain ⟨-,hl1,hl4,-⟩:=hpl hp;replace PM:=PM hp
 have hV:dg a b l n=if M.Ld a b l=true then rL n (cf a b l) else none:=by
  cases h:M.Ld a b l with
  | true=>rw [if_pos rfl];exact Lr (by rw [h];rfl)
  | false=>rw [if_neg δ];exact eno (by rw [h];rfl)
 clear eno Lr hp hpl
 obtain ⟨N,hN⟩:∃ N,N=l.length:=⟨_,rfl⟩
 rw [←hN] at hl1 hl4 K8 hft
 obtain ⟨Ov,W6⟩:∃ x,x=M.Ld a b l:=⟨_,rfl⟩
 rw [←W6] at K8 hok hpn PM hV
 obtain ⟨rows,hrows⟩:∃ x,x=cf a b l:=⟨_,rfl⟩
 rw [←hrows] at K8 hok hpn PM hV
 obtain ⟨V,Ws⟩:∃ x,x=dg a b l n:=⟨_,rfl⟩
 rw [←Ws] at hV;have Ws:=KO Ws;clear hrows W6;have hfl:=(mP hft).1;rw [hfl] at hnl
 obtain ⟨NR,VR⟩:∃ x,x=rows.length:=⟨_,rfl⟩
 have hyes:0<NR->Ov=true/\NR=N:=fun h=>by
  cases hb:Ov with
  | true=>exact ⟨rfl,by rw [VR];exact (K8 hb).1⟩
  | false=>have:=hpn hb;rw [this] at VR;rw [VR] at h;exact absurd h δ
 have hNR4:(NR:Int)<=4:=by
  rcases Nat.eq_zero_or_pos NR with h | h
  ·omega
  have:=(hyes h).2;omega
 have hfin:M.gd (Ov && (dV n rows NR).isSome) (cn (some (2048,2048)) (dV n rows NR))=V:=by
  rw [hV,VR]
  cases Ov with
  | true=>rw [if_pos rfl,Bool.true_and];exact Ck _ _
  | false=>rfl
 have hVo:M.LR V:=by rw [←hfin];exact kH kq
 have hfz:(Ov && (dV n rows NR).isSome)=true->(dV n rows NR).isSome=true:=fun h=>by rw [Bool.and_eq_true] at h;exact h.2
 have PT:=fun kb W K=>qb kb (Ov && (dV n rows NR).isSome) (some (2048,2048)) (dV n rows NR) W K (fun p hp=>by obtain rfl:=Option.some.inj hp;decide) (iS _) (fun _=>rfl) hfz
 rw [hfin] at PT
 have e1:M.Kd (some (2048,2048))=2048/\M.Kj (some (2048,2048))=2048:=⟨rfl,rfl⟩
 rw [e1.1,e1.2] at PT
 have PI:=fun W=>jD (M.Kd V) (M.Kj V) V.isSome W
 obtain ⟨q1,q2,q3,q4,q5⟩:=zR hVo;rw [q1,q2,q3,q4,q5] at PI;clear q1 q2 q3 q4 q5 e1 hfin hVo hfz hV;rw [Ws.out.symm]
 obtain ⟨i1,hi1⟩:∃ x,x=M.Kc V:=⟨_,rfl⟩
 obtain ⟨i2,hi2⟩:∃ x,x=M.Kf V:=⟨_,rfl⟩
 obtain ⟨i3,hi3⟩:∃ x,x=M.Kg V:=⟨_,rfl⟩
 obtain ⟨i4,hi4⟩:∃ x,x=M.Kh V:=⟨_,rfl⟩
 rw [←hi1,←hi2,←hi3,←hi4] at PI ⊢;clear hi1 hi2 hi3 hi4 Ws;generalize M.Kj V=hV,M.Kd V=lV,V.isSome=fV at *;have hft:=KO hft;have K8:=KO K8;have hok:=KO hok;have hyes:=KO hyes;have RK:=KO VR;clear hpn VR;replace PM:=KO PM;replace PT:=KO PT;replace PI:=KO PI;rw [hfl] at PF hnx ⊢;replace hN:=KO hN;replace hfl:=KO hfl;go_enter func18,ntmps18
 go_wp2_with first | ((with_reducible refine (PL.out _ (hx.out.below B)).mono ?_);rintro e w4 ⟨rfl,hb4⟩;replace ⟨B,C,R⟩:=Ky hb4 B C R;have f_:=C.box.c0;have j_:=C.box.c1;(have ⟨r0,r1,r2,r3,z0,z1,z2,z3,rl⟩:=R.aI)) | ((with_reducible refine (PF.out _ (hnx.out.keep B)).mono ?_);rintro e w5 ⟨rfl,hb5⟩;replace ⟨B,C,R⟩:=Ky hb5 B C R;have f_:=C.box.c0;have j_:=C.box.c1;(have ⟨r0,r1,r2,r3,z0,z1,z2,z3,rl⟩:=R.aI)) | ((with_reducible refine (PM.out _ (hx.out.below B)).mono ?_);rintro e w6 ⟨mv,rfl,⟨vs,hM⟩,hb6⟩;have hs6:=Nat.le_trans B.size hb6.size;replace ⟨B,R⟩:=Kt hb6 B R;clear C f_ j_;obtain ⟨ma,mcap,rfl,-,-⟩:=hM.view;replace hM:=KO hM)
 rw [←RK.out] at hM;have K:=(aG.new w6 #[Ov] 83).alloc (.cells #[(0:Int),(0:Int)] 72);have S:=aG.new (w6.alloc (.cells #[Ov] 83)) #[(0:Int),(0:Int)] 72;rw [KQ] at S;have Bw:=(bA w6 (.cells #[Ov] 83)).alloc (by rw [KQ];omega) (.cells #[(0:Int),(0:Int)] 72);have hS9:=S.lt;generalize hwd:(w6.alloc (.cells #[Ov] 83)).alloc (.cells #[(0:Int),(0:Int)] 72)=wd at *;rw [←RK.out]
 go_loopw [40] (fun vi wq=>∃ i:Nat,i<=NR/\vi=.int .i64 (i:Int)/\aG wq w6 83 #[.bool (Ov && (dV n rows i).isSome)]/\aG wq (w6.heap.size+1) 72 #[M.Kd (dV n rows i),M.Kj (dV n rows i)]/\w6.heap.size+1<wq.heap.size/\Below w6 w6 wq) (fun vi _=>NR - (intOf vi).toNat)
 case atStart=>exact ⟨0,Nat.zero_le _,rfl,by
  have e:(Ov && (dV n rows 0).isSome)=Ov:=by cases Ov <;> rfl
  rw [e];exact K,S,hS9,Bw⟩
 case round=>
 clear K S Bw hS9 hwd;obtain ⟨i,hi,rfl,K,S,hz,Bw⟩:=hrel
 by_cases hlt:i<NR
 ·obtain ⟨LN,hNN⟩:=hyes.out ω
  subst LN;obtain rfl:NR=N:=hNN;obtain ⟨hml,hmr⟩:=K8.out rfl;have W7:=hok.out rfl
  obtain ⟨r,hr⟩:∃ r,rows[i]?=some r:=⟨_,List.getElem?_eq_getElem (by have:=RK.out;omega)⟩
  have hrl:r.length=NR:=hmr r (List.mem_of_getElem? hr);have Lb:=KO (hM.out.below Bw);obtain ⟨gi,Kn,My,hci,hgi⟩:=Lb.out.rowIs hr (fun h=>by rw [h] at hrl;simp only [List.length_nil] at hrl;omega)
  obtain ⟨gm,hgm⟩:∃ gm,ma=some ⟨gm,0,none⟩:=by
   obtain ⟨g_,c_,e_,-⟩:=hM.out.form (fun h=>by have:=RK.out;rw [h] at this;simp only [List.length_nil] at this;omega)
   injection e_ with e_ _ _
   exact ⟨g_,e_⟩
  subst hgm;have O_:=Lb.out.iD My;rw [hrl] at O_;have hro:=KO (W7 r (List.mem_of_getElem? hr));have Ln:=gY (n:=n) hr;rw [hrl] at Ln;have Ln:=KO Ln;have hs0:=iS (n:=n) (m:=rows) i;obtain ⟨ni,Xc,Xd⟩:=gG hft.out hlt;have ni:=KO ni;have My:=KO My;have hr:=KO hr;have hrl:=KO hrl;rw [Bool.true_and] at K
  obtain ⟨s0,XF⟩:∃ s,s=dV n rows i:=⟨_,rfl⟩
  rw [←XF] at K S Ln hs0;have hs0:=KO hs0;clear XF hml hmr W7 Lb hci hgi;generalize hwo:wr=wo at *;clear hwo;go_wp2
  go_loopw [47] (fun vj wq=>∃ j:Nat,j<=NR/\vj=.int .i64 (j:Int)/\aG wq w6 83 #[.bool (dj n i r s0 j).isSome]/\aG wq (w6.heap.size+1) 72 #[M.Kd (dj n i r s0 j),M.Kj (dj n i r s0 j)]/\w6.heap.size+1<wq.heap.size/\Below w6 w6 wq) (fun vj _=>NR - (intOf vj).toNat)
  case atStart=>exact ⟨0,Nat.zero_le _,rfl,K,S,hz,Bw⟩
  case round=>
  clear K S Bw hz O_;obtain ⟨j,hj,rfl,K,S,hz,Bw⟩:=hrel
  by_cases hlt2:j<NR
  ·obtain ⟨q,hq⟩:∃ q,r[j]?=some q:=⟨_,List.getElem?_eq_getElem (by have:=hrl.out;omega)⟩
   obtain ⟨d0,d1⟩:=((hM.out.below Bw).rowFrom My.out hr.out).at2 hq;have Qr:=hro.out q (List.mem_of_getElem? hq)
   have hqo:M.LR (some q):=fun p hp=>by obtain rfl:=Option.some.inj hp;exact Qr
   obtain ⟨nj,Re,Sa⟩:=gG hft.out hlt2;have hxo:=D2 hft.out hlt hlt2;have Ot:=ej n i r s0 j;rw [hq] at Ot;have huo:=ll (n:=n) (i:=i) (r:=r) hs0.out j
   obtain ⟨us,T_⟩:∃ s,s=dj n i r s0 j:=⟨_,rfl⟩
   rw [←T_] at K S Ot huo;have hcs:=Cm us (some (qJ n i j)) (some q);rw [←Ot] at hcs
   obtain ⟨u2,hu2⟩:∃ s,s=M.gd us.isSome (cn (some (qJ n i j)) (some q)):=⟨_,rfl⟩
   have SI:=fun W K=>qb w6 us.isSome (some (qJ n i j)) (some q) W K hxo hqo (fun _=>rfl) (fun _=>rfl)
   have O7:u2.isSome=true->us.isSome=true:=fun h=>by rw [hu2] at h;exact (ke h).1
   have So:=fun W K=>tg w6 u2.isSome us u2 W K huo (by rw [hu2];exact kH kq) O7 (fun h=>h)
   rw [←hu2] at SI hcs;rw [hcs] at So
   have ex:M.Kd (some (qJ n i j))=n.getD i 0*n.getD j 0*4096/\M.Kj (some (qJ n i j))=n.getD i 0*n.getD j 0*4096:=⟨rfl,rfl⟩
   rw [ex.1,ex.2] at SI;obtain ⟨q1,q2⟩:=q
   have ey:M.Kd (some (q1,q2))=q1/\M.Kj (some (q1,q2))=q2:=⟨rfl,rfl⟩
   rw [ey.1,ey.2] at SI;simp only [] at d0 d1
   obtain ⟨u3,hu3⟩:∃ s,s=dj n i r s0 (j+1):=⟨_,rfl⟩
   rw [←hu3] at So;replace hu3:=KO hu3;clear ex ey hcs hu2 O7 Ot huo T_ hxo hqo Qr hq;have SN:=hnx.out.keep (B.trans (Bw.mono hs6));obtain ⟨gn,on,hgn,ci⟩:=SN.at ni.out;obtain ⟨gn2,on2,hgn2,cj⟩:=SN.at nj;rw [hgn] at hgn2
   obtain ⟨rfl,rfl⟩:gn=gn2/\on=on2:=by injection hgn2 with h;injection h with h1 h2;exact ⟨h1,h2⟩
   clear hgn2 SN nj;subst hgn
   obtain ⟨x1,hx1⟩:∃ x,x=n.getD i 0:=⟨_,rfl⟩
   obtain ⟨x2,hx2⟩:∃ x,x=n.getD j 0:=⟨_,rfl⟩
   rw [←hx1] at ci Xc Xd;rw [←hx2] at cj Re Sa;rw [←hx1,←hx2] at SI;clear hx1 hx2;obtain ⟨XK,XL⟩:=xu Xc Xd Re Sa
   have hii:((i:Nat):Int)<(NR:Int):=ω
   have hjj:((j:Nat):Int)<(NR:Int):=ω
   have Bv:=bA wr (.cells #[q1,q2] 72);have X:=aG.new wr #[q1,q2] 72;replace ⟨K,S,Bw⟩:=Ky Bv K S Bw;replace ci:=aE Bv ci;replace cj:=aE Bv cj;have hX:=X.lt;generalize hw2:wr.alloc (.cells #[q1,q2] 72)=wb at *;clear Bv
   obtain ⟨f1,hf1⟩:∃ x,x=us.isSome:=⟨_,rfl⟩
   obtain ⟨l1,hl1⟩:∃ x,x=M.Kd us:=⟨_,rfl⟩
   obtain ⟨h1,Nv⟩:∃ x,x=M.Kj us:=⟨_,rfl⟩
   rw [←hf1] at K SI;rw [←hl1,←Nv] at S So;clear hf1 hl1 Nv;generalize M.Kj u2=h2,M.Kd u2=l2,u2.isSome=f2 at *
   obtain ⟨f3,hf3⟩:∃ x,x=u3.isSome:=⟨_,rfl⟩
   obtain ⟨l3,hl3⟩:∃ x,x=M.Kd u3:=⟨_,rfl⟩
   obtain ⟨h3,hh3⟩:∃ x,x=M.Kj u3:=⟨_,rfl⟩
   rw [←hf3,←hl3,←hh3] at So;rw [hu3.out] at hf3 hl3 hh3;replace hf3:=KO hf3;replace hl3:=KO hl3;replace hh3:=KO hh3;clear hu3 u3 us u2;replace SI:=KO SI;replace So:=KO So
   go_upto_region 12 with fail
   refine be 11 [.is (.slice (some ⟨gn,on,none⟩) NR Lt),.is (.int .i64 ((i:Nat):Int)),.is (.pointer (some ⟨gn,on+i,none⟩)),.is x1,.is (.slice (some ⟨gn,on,none⟩) NR Lt),.is (.int .i64 ((j:Nat):Int)),.is (.pointer (some ⟨gn,on+j,none⟩)),.is x2,.is (x1*x2:Int),.is ((x1*x2)*4096:Int),.is ((x1*x2)*4096:Int)] κ κ κ ⟨?_,?_,?_,?_,?_,?_,?_,?_,?_,?_,?_,trivial⟩ ?_
   all_goals try ((first | (refine Rg.b1 ?_;intro zZ w_ hB e) | (refine Rg.b2 ?_;intro zZ w_ hB e f));have kz:=aE hB ci;have kz:=aE hB cj;have ec:=Rg.ec zZ;(first | (go_simp;done) | (go_simp;exact Rg.wo ω) | ((first | (go_simp;done) | (go_simp;omega));done)))
   intro vals wz hB hv hne;have LG:vals 10=.int .i64 ((x1*x2)*4096):=hv 10 δ;simp only [bD,Rg.fill,Act.put,Nat.reduceAdd];clear hv;simp only [LG];clear LG;unfold aU;have hXg:wr.heap.size<wb.heap.size:=hX;have hJ0:=KO (show db w6 (w6.heap.size+1) wr w6 f1 (l1,h1) (q1,q2) w6 wz from ⟨K.keep hB,S.keep hB,X.keep hB,p_ Bw hB,ω,ω,ω,KT _,ω⟩);clear K S X Bw hB ci cj
   go_upto_region 13 with fail
   refine AJ (fun k v W=>pq k w6 (w6.heap.size+1) wr w6 f1 f2 f3 (l1,h1) (l2,h2) (l3,h3) (q1,q2) w6 (v 7) (v 8) W) [7,8,9] [.pointer (some ⟨w6,0,none⟩),.agg #[l1,h1],.pointer (some ⟨w6,0,none⟩),.int .i64 (x1*x2*4096),.int .i64 (x1*x2*4096),.agg #[(x1*x2*4096:Int),(x1*x2*4096:Int)],.agg #[q1,q2],undef,undef,undef] κ κ κ δ (fun k v v2 W h hj=>by rw [←h 7 δ,←h 8 δ];exact hj) (fun _=>hJ0.out.drew) ⟨?_,?_,?_,?_,?_,?_,?_,?_,?_,?_,trivial⟩ ?_
   ·exact Ur
   ·unfold aw
    rw [if_neg δ];intro zZ w_ n_ d_ Li hJ hr;refine ⟨rfl,?_⟩;have e11:zZ.tmps[11]?=some (.pointer (some ⟨w6.heap.size+1,0,none⟩)):=hr 11 δ;have QS:=Li.2.1 9 δ κ;have Qo:aG w_ (w6.heap.size+1) 72 #[l1,h1]:=pq.S hJ QS;have ⟨k0,k1,_,_,_⟩:=Qo.box
    exact L7
   ·exact Ur
   ·exact Zd
   ·exact Zd
   ·unfold aw
    rw [if_neg δ];intro zZ w_ n_ d_ Li hJ hr;refine ⟨rfl,?_⟩;have e65:zZ.tmps[65]?=some (.int .i64 (x1*x2*4096)):=hr 65 δ;have e66:zZ.tmps[66]?=some (.int .i64 (x1*x2*4096)):=hr 66 δ;go_simp
   ·unfold aw
    rw [if_neg δ];intro zZ w_ n_ d_ Li hJ hr;refine ⟨rfl,?_⟩;have e15:zZ.tmps[15]?=some (.pointer (some ⟨wr,0,none⟩)):=hr 15 δ;have hX_:aG w_ wr 72 #[q1,q2]:=pq.X hJ;have ⟨k0,k1,_,_,_⟩:=hX_.box
    exact L7
   ·unfold aw
    rw [if_pos δ];intro zZ w_ d_ hJ hr;have e64:zZ.tmps[64]?=some (.pointer (some ⟨w6,0,none⟩)):=hr 64 δ;have e67:zZ.tmps[67]?=some (.agg #[(x1*x2*4096:Int),(x1*x2*4096:Int)]):=hr 67 δ;have e68:zZ.tmps[68]?=some (.agg #[q1,q2]):=hr 68 δ
    have ef:∀ f,zZ.eval (.func f)=.func (.func f) #[] #[]:=fun _=>rfl
    refine ⟨rfl,?_⟩;have Md:db w6 (w6.heap.size+1) wr w6 f1 (l1,h1) (q1,q2) w6 w_:=hJ;refine jk τ ?_;refine (SI.out _ Md.K).mono ?_;rintro e Ox ⟨rfl,Ka⟩;exact ⟨_,rfl,(Md.call Ka Md.B.size:db w6 (w6.heap.size+1) wr w6 f2 (l1,h1) (q1,q2) w6 Ox),rfl⟩
   ·unfold aw
    rw [if_pos δ];intro zZ w_ d_ hJ hr;have e62:zZ.tmps[62]?=some (.pointer (some ⟨w6,0,none⟩)):=hr 62 δ;have e63:zZ.tmps[63]?=some (.agg #[l1,h1]):=hr 63 δ;have e69:zZ.tmps[69]?=some (d_ 7):=hr 69 δ
    have ef:∀ f,zZ.eval (.func f)=.func (.func f) #[] #[]:=fun _=>rfl
    refine ⟨rfl,?_⟩;obtain ⟨Md,e7_⟩:=hJ;have Md:db w6 (w6.heap.size+1) wr w6 f2 (l1,h1) (q1,q2) w6 w_:=Md;have e7_:d_ 7=.agg #[l2,h2]:=e7_;rw [e7_] at e69;refine jk τ ?_;refine (So.out _ Md.K).mono ?_;rintro e Ox ⟨rfl,Ka⟩;exact ⟨_,rfl,(Md.call Ka Md.B.size:db w6 (w6.heap.size+1) wr w6 f3 (l1,h1) (q1,q2) w6 Ox),rfl⟩
   ·unfold aw
    rw [if_pos δ];intro zZ w_ d_ hJ hr;have e11:zZ.tmps[11]?=some (.pointer (some ⟨w6.heap.size+1,0,none⟩)):=hr 11 δ;have e70:zZ.tmps[70]?=some (d_ 8):=hr 70 δ;refine ⟨rfl,?_⟩;obtain ⟨Md,Wa⟩:=hJ;have Md:db w6 (w6.heap.size+1) wr w6 f3 (l1,h1) (q1,q2) w6 w_:=Md;have Wa:d_ 8=.agg #[l3,h3]:=Wa;rw [Wa] at e70;have TR:db w6 (w6.heap.size+1) wr w6 f3 (l3,h3) (q1,q2) w6 _:=Md.put (l3,h3);have ⟨y0,y1,y2,y3,y4⟩:=Md.S.box;clear Md;unfold Oper.wp;go_simp
    all_goals first | exact TR | exact ⟨_,rfl,TR⟩ | exact ⟨undef,TR⟩
   intro vals2 wy hJ hv;simp only [bD,Rg.fill,Act.put,Nat.reduceAdd];clear hv;have hJ2:db w6 (w6.heap.size+1) wr w6 f3 (l3,h3) (q1,q2) w6 wy:=hJ;have hz3:=hJ2.S.lt;have K3:=hJ2.K;have S3:=hJ2.S;have B3:=hJ2.B;clear hJ2 hJ0;go_wp2
   go_roundw
   case rel=>exact ⟨j+1,ω,ν,by rw [←hf3.out];exact K3,by rw [←hl3.out,←hh3.out];exact S3,hz3,B3⟩
   case measure=>simp [intOf] <;> omega
  obtain rfl:NR=j:=ω
  rw [←Ln.out] at K S;go_wp2
  go_roundw
  case rel=>exact ⟨i+1,ω,ν,by rw [Bool.true_and];exact K,S,hz,Bw⟩
  case measure=>simp [intOf] <;> omega
 obtain rfl:NR=i:=ω
 have hRl:=R.lt
 have nR:w6.heap.size≠w.heap.size+1:=ω
 have nR2:w6.heap.size+1≠w.heap.size+1:=ω
 have nS:w6.heap.size+1≠w6.heap.size:=ω
 have R0:=R.keep Bw;have B0:=B.trans (Bw.mono hs6);have hw0:=B0.size;have ⟨s0,s1,_,_,_⟩:=S.box;clear R
 go_wp2_with ((with_reducible refine (PT.out w6 _ K).mono ?_);rintro e w9 ⟨rfl,Kr⟩;have hb2:=bI Kr;have K9:=(K.one (.bool fV)).keep hb2;have S9:=(S.other (i:=0) (fun e=>nS e) (.bool fV)).keep hb2;have R9:=(R0.other (i:=0) (fun e=>nR e.symm) (.bool fV)).keep hb2;have B9:=(KR B0 hs6 (.bool fV)).trans (Kr.mono hw0);clear s0 s1;(have ⟨s0,s1,s2,s3,s4⟩:=S9.box))
 have hJ0:=KO (show fZ w6 (w6.heap.size+1) (w.heap.size+1) w fV (lV,hV) w ((w9.setCell ⟨w6.heap.size+1,0,none⟩ (.int .i64 lV)).setCell ⟨w6.heap.size+1,1,none⟩ (.int .i64 hV))/\aG ((w9.setCell ⟨w6.heap.size+1,0,none⟩ (.int .i64 lV)).setCell ⟨w6.heap.size+1,1,none⟩ (.int .i64 hV)) (w.heap.size+1) 34 #[(0:Int),(0:Int),(0:Int),(0:Int)] from ⟨⟨(K9.other (fun e=>nS e.symm) _).other (fun e=>nS e.symm) _,aG.set2 S9 _ _,KR (KR B9 (by exact Nat.le_succ_of_le hs6) _) (by exact Nat.le_succ_of_le hs6) _,nR,nR2,ω⟩,(R9.other (fun e=>nR2 e.symm) _).other (fun e=>nR2 e.symm) _⟩);clear K S R0 B0 Bw K9 S9 R9 B9 s0 s1 s2 s3 s4 hb2 Kr
 go_upto_region 17 with fail
 refine AJ (fun k v W=>lw k w6 (w6.heap.size+1) (w.heap.size+1) w fV (lV,hV) i1 i2 i3 i4 w (v 5) W) [5,8] [.agg #[lV,hV],.pointer (some ⟨w6,0,none⟩),.pointer (some ⟨w6,0,none⟩),.pointer (some ⟨w6,0,none⟩),.bool fV,undef,.agg #[i1,i2,i3,i4],.bool fV,undef,.bool fV] κ κ κ δ (fun k v v2 W h hj=>by rw [←h 5 δ];exact hj) (fun _=>⟨hJ0.out.1.drew,hJ0.out.2⟩) ⟨?_,?_,?_,?_,?_,?_,?_,?_,?_,?_,trivial⟩ ?_
 ·unfold aw
  rw [if_neg δ];intro zZ w_ n_ d_ Li hJ hr;refine ⟨rfl,?_⟩;have e11:zZ.tmps[11]?=some (.pointer (some ⟨w6.heap.size+1,0,none⟩)):=hr 11 δ;have Qo:=(lw.st hJ).S;have ⟨k0,k1,_,_,_⟩:=Qo.box
  exact L7
 ·exact Ur
 ·unfold aw
  rw [if_neg δ];intro zZ w_ n_ d_ Li hJ hr;refine ⟨rfl,?_⟩;have e78:zZ.tmps[78]?=some (.pointer (some ⟨w6,0,none⟩)):=hr 78 δ
  exact L7
 ·unfold aw
  rw [if_neg δ];intro zZ w_ n_ d_ Li hJ hr;refine ⟨rfl,?_⟩;have e79:zZ.tmps[79]?=some (.pointer (some ⟨w6,0,none⟩)):=hr 79 δ;go_simp
 ·unfold aw
  rw [if_neg δ];intro zZ w_ n_ d_ Li hJ hr;refine ⟨rfl,?_⟩;have e80:zZ.tmps[80]?=some (.pointer (some ⟨w6,0,none⟩)):=hr 80 δ;have hK_:=(lw.st hJ).K;have k0:=hK_.cell 0
  exact L7
 ·unfold aw
  rw [if_pos δ];intro zZ w_ d_ hJ hr;have e77:zZ.tmps[77]?=some (.agg #[lV,hV]):=hr 77 δ;have e81:zZ.tmps[81]?=some (.bool fV):=hr 81 δ
  have ef:∀ f,zZ.eval (.func f)=.func (.func f) #[] #[]:=fun _=>rfl
  refine ⟨rfl,?_⟩;have Md:fZ w6 (w6.heap.size+1) (w.heap.size+1) w fV (lV,hV) w w_/\aG w_ (w.heap.size+1) 34 #[(0:Int),(0:Int),(0:Int),(0:Int)]:=hJ;refine jk τ ?_;refine (PI.out _).mono ?_;rintro e Ox ⟨rfl,Ka⟩;exact ⟨_,rfl,⟨Md.1.keep Ka Md.1.B.size,Md.2.keep Ka⟩,rfl⟩
 ·unfold aw
  rw [if_neg δ];intro zZ w_ n_ d_ Li hJ hr;refine ⟨rfl,?_⟩;have e82:zZ.tmps[82]?=some (d_ 5):=hr 82 δ;have QS:=Li.2.2 5 δ κ;have TO:d_ 5=.tuple #[.agg #[i1,i2,i3,i4],fV]:=lw.val hJ (Nat.lt_of_le_of_lt (Nat.zero_le _) QS);rw [TO] at e82
  exact L7
 ·unfold aw
  rw [if_neg δ];intro zZ w_ n_ d_ Li hJ hr;refine ⟨rfl,?_⟩;have e82:zZ.tmps[82]?=some (d_ 5):=hr 82 δ;have QS:=Li.2.2 5 δ κ;have TO:d_ 5=.tuple #[.agg #[i1,i2,i3,i4],fV]:=lw.val hJ (Nat.lt_of_le_of_lt (Nat.zero_le _) QS);rw [TO] at e82
  exact L7
 ·unfold aw
  rw [if_pos δ];intro zZ w_ d_ hJ hr;have e6:zZ.tmps[6]?=some (.pointer (some ⟨w.heap.size+1,0,none⟩)):=hr 6 δ;have e83:zZ.tmps[83]?=some (.agg #[i1,i2,i3,i4]):=hr 83 δ;refine ⟨rfl,?_⟩;obtain ⟨⟨Md,hR_⟩,TO⟩:(fZ w6 (w6.heap.size+1) (w.heap.size+1) w fV (lV,hV) w w_/\aG w_ (w.heap.size+1) 34 #[(0:Int),(0:Int),(0:Int),(0:Int)])/\d_ 5=.tuple #[.agg #[i1,i2,i3,i4],fV]:=hJ;have TR:=Md.put4 hR_ i1 i2 i3 i4;have ⟨y0,y1,y2,y3,y4,y5,y6,y7,y8⟩:=hR_.aI;clear Md hR_;unfold Oper.wp;go_simp
  all_goals first | exact ⟨TR,TO⟩ | exact ⟨_,rfl,TR,TO⟩ | exact ⟨undef,TR,TO⟩
 ·unfold aw
  rw [if_neg δ];intro zZ w_ n_ d_ Li hJ hr;refine ⟨rfl,?_⟩;have e84:zZ.tmps[84]?=some (.bool fV):=hr 84 δ;go_simp
 intro Xz wy hJ hv;have MX:Xz 9=.bool fV:=hv 9 δ δ;simp only [bD,Rg.fill,Act.put,Nat.reduceAdd];clear hv;simp only [MX];clear MX;have hJ2:fZ w6 (w6.heap.size+1) (w.heap.size+1) w fV (lV,hV) w wy/\aG wy (w.heap.size+1) 34 #[i1,i2,i3,i4]:=hJ.1;have B7:=hJ2.1.B;have R7:=hJ2.2;have ⟨r0,r1,r2,r3,_,_,_,_,_⟩:=R7.aI;clear hJ2 hJ0 hJ;go_wp2;exact KU results18 ⟨rfl,B7⟩
end
end Go.Proofs.YtlnjcilaflfnlaaGreatDoor
