/-
  Joined: contracts, lemmas.
-/
import Derived.Test.YtlnjcilaflfnlaaGreatDoorB8
set_option linter.unusedSimpArgs false
set_option linter.unusedVariables false
set_option maxRecDepth 100000
set_option maxHeartbeats 8000000
namespace Go.Proofs.YtlnjcilaflfnlaaGreatDoor
open _root_.Go.Proofs.Tryz
section
open Go.RowKit open Gr M Rg Rw Wh
theorem Un {p:Prop} (h:p:=by exact KU (v:=.tuple #[.agg #[(0:Int),(0:Int),(0:Int),(0:Int)],false]) results19 ⟨by rw [hfin.out];rfl,KR (KR (KR (KR B σ _) σ _) σ _) σ _⟩):p:=h
theorem ZF {p:Prop} (h:p:=by exact KU (v:=.tuple #[.agg #[(0:Int),(0:Int),(0:Int),(0:Int)],false]) results19 ⟨by rw [hfin.out];rfl,KR (KR (KR (KR B2 σ _) σ _) σ _) σ _⟩):p:=h
theorem Zm {p:Prop} (h:p:=by
 unfold aY
 rw [if_neg δ,if_neg δ];intro zZ w_ hB hr;have e2:zZ.tmps[2]?=some (.slice (some ⟨gn,on,none⟩) N Lt):=hr 2 δ;exact aS rfl γ):p:=h
theorem wat6 {p:Prop} (h:p:=by
 unfold aY
 rw [if_neg δ,if_neg δ];intro zZ w_ hB hr;have e57:=Rg.A_ (hr 57 δ);exact aS rfl γ):p:=h
theorem M.IO {n:List Int} {m:M.LD} {i j:Nat} {r:List (Int × Int)} {s:M.Sp} (hr:m[i]?=some r) (hs:dV n m i=s) (h:dj n i r s j=none) (hj:j<=r.length):rL n m=none:=by
 have h1:dV n m (i+1)=none:=by rw [gY hr,hs];exact oi h _ hj
 exact Aa (qI h1 _ (List.getElem?_eq_some_iff.1 hr).1 (KT _))
theorem kS (a b:Int) (v nv:Value) (l:List Pt) (n:List Int) (w:World) (hx:dC w v l) (hnx:cE w nv n) (hn:l.length<=4000000) :
  cB 19 #[.agg #[a,b],v,nv] w (.tuple #[.agg #[M.Kc (dg a b l n),M.Kf (dg a b l n),M.Kg (dg a b l n),M.Kh (dg a b l n)],.bool (dg a b l n).isSome]):=by
 have PL:=fun W h=>gj a b v l W h hn
 have PM:=fun (hp:ai a b l=true) W h=>jC a b v l W h (aX hp).1 (aX hp).2.2.1 (aX hp).2.2.2
 have hpl:=fun h=>aX (a:=a) (b:=b) (l:=l) h
 have eno:=fun h=>yZ (a:=a) (b:=b) (l:=l) (n:=n) h
 have Lr:=fun h=>ux (a:=a) (b:=b) (l:=l) (n:=n) h
 have QO:rg a b l n=(ai a b l && M.fits n l.length):=rfl;rw [QO] at eno Lr;clear QO
 have K8:=fun h=>fh (a:=a) (b:=b) (l:=l) h
 have hok:=fun h=>gq (a:=a) (b:=b) (l:=l) h
 have hiv:=fun h=>qg (a:=a) (b:=b) (l:=l) h
 obtain ⟨pa,NE,hpv,-⟩:=id hx
 have PF:=fun W (h:cE W nv n)=>ot pa l.length NE nv n W h
 rw [←hpv] at PF;clear hpv;obtain ⟨na,Lt,SR,hnl,hnc⟩:=hnx;have hnx:=KO (show cE w nv n from ⟨na,Lt,SR,hnl,hnc⟩);subst SR;clear hnc;replace hx:=KO hx
 have P0:=KO fun W=>tR 0 W
 obtain ⟨wc,hw3,C,R,B⟩:=dQ w #[a,b] 24 #[(0:Int),(0:Int),(0:Int),(0:Int)] 34;have f_:=C.box.c0;have j_:=C.box.c1;have ⟨r0,r1,r2,r3,z0,z1,z2,z3,rl⟩:=R.aI
 cases hp:ai a b l with
 | false=>
  rw [hp] at PL eno;have hfin:=KO (eno rfl);replace PL:=KO PL;clear PM PF eno Lr hp K8 hok hpl hiv;go_enter func19,ntmps19
  go_wp2_with (with_reducible refine Km (PL.out _ (hx.out.below B)) fun w4 hb4=>?_;replace ⟨B,C,R⟩:=Ky hb4 B C R;have f_:=C.box.c0;have j_:=C.box.c1;(have ⟨r0,r1,r2,r3,z0,z1,z2,z3,rl⟩:=R.aI))
  exact Un
 | true=>
 rw [hp] at PL eno Lr;replace PL:=KO PL
 cases hft:M.fits n l.length with
 | false=>
  rw [hft] at PF eno;have hfin:=KO (eno rfl);replace PF:=KO PF;clear PM eno Lr hp K8 hok hpl hiv hft;go_enter func19,ntmps19
  go_wp2_with first | (with_reducible refine Km (PL.out _ (hx.out.below B)) fun w4 hb4=>?_;replace ⟨B,C,R⟩:=Ky hb4 B C R;have f_:=C.box.c0;have j_:=C.box.c1;(have ⟨r0,r1,r2,r3,z0,z1,z2,z3,rl⟩:=R.aI)) | (with_reducible refine Km (PF.out _ (hnx.out.keep B)) fun w5 hb5=>?_;replace ⟨B,C,R⟩:=Ky hb5 B C R;have f_:=C.box.c0;have j_:=C.box.c1;(have ⟨r0,r1,r2,r3,z0,z1,z2,z3,rl⟩:=R.aI))
  exact Un
 | true=>
 rw [hft] at PF eno Lr;replace PF:=KO PF;obtain ⟨-,hl1,hl4,-⟩:=hpl hp;replace PM:=PM hp
 cases hmo:M.Ld a b l with
 | false=>
  rw [hmo] at PM eno;have hfin:=KO (eno rfl);replace PM:=KO PM;clear eno Lr hp K8 hok hpl hiv hft hmo;go_enter func19,ntmps19
  go_wp2_with first | (with_reducible refine Km (PL.out _ (hx.out.below B)) fun w4 hb4=>?_;replace ⟨B,C,R⟩:=Ky hb4 B C R;have f_:=C.box.c0;have j_:=C.box.c1;(have ⟨r0,r1,r2,r3,z0,z1,z2,z3,rl⟩:=R.aI)) | (with_reducible refine Km (PF.out _ (hnx.out.keep B)) fun w5 hb5=>?_;replace ⟨B,C,R⟩:=Ky hb5 B C R;have f_:=C.box.c0;have j_:=C.box.c1;(have ⟨r0,r1,r2,r3,z0,z1,z2,z3,rl⟩:=R.aI)) | ((with_reducible refine (PM.out _ (hx.out.below B)).mono ?_);rintro e w6 ⟨mv,rfl,hM,hb6⟩;replace ⟨B,C,R⟩:=Ky hb6 B C R;have f_:=C.box.c0;have j_:=C.box.c1;(have ⟨r0,r1,r2,r3,z0,z1,z2,z3,rl⟩:=R.aI))
  exact Un
 | true=>
 rw [hmo] at PM Lr;rw [hiv hmo] at PM;have hV:=Lr rfl;replace K8:=K8 hmo;replace hok:=hok hmo;clear eno Lr hp hpl hiv hmo
 obtain ⟨N,hN⟩:∃ N,N=l.length:=⟨_,rfl⟩
 rw [←hN] at hl1 hl4 K8 hft
 obtain ⟨rows,hrows⟩:∃ x,x=cf a b l:=⟨_,rfl⟩
 rw [←hrows] at K8 hok PM hV;have hfl:=(mP hft).1;rw [hfl] at hnl;have hlr:rows.length=N:=K8.1
 have hlm:(M.MS rows).length=N:=by rw [pM];exact hlr
 have hmr:=KO K8.2;have hnone:=KO (fun i j r s hr hs h hj=>hV.trans (IO (n:=n) (m:=rows) (i:=i) (j:=j) (r:=r) (s:=s) hr hs h hj));have hft:=KO hft;have hok:=KO hok;have hV:=KO hV;have hlr:=KO hlr;rw [hfl] at PF hnx ⊢;replace hN:=KO hN;replace hfl:=KO hfl;replace PM:=KO PM;clear hrows K8;have hlm:=KO hlm;go_enter func19,ntmps19
 go_wp2_with first | (with_reducible refine Km (PL.out _ (hx.out.below B)) fun w4 hb4=>?_;replace ⟨B,C,R⟩:=Ky hb4 B C R;have f_:=C.box.c0;have j_:=C.box.c1;(have ⟨r0,r1,r2,r3,z0,z1,z2,z3,rl⟩:=R.aI)) | (with_reducible refine Km (PF.out _ (hnx.out.keep B)) fun w5 hb5=>?_;replace ⟨B,C,R⟩:=Ky hb5 B C R;have f_:=C.box.c0;have j_:=C.box.c1;(have ⟨r0,r1,r2,r3,z0,z1,z2,z3,rl⟩:=R.aI)) | ((with_reducible refine (PM.out _ (hx.out.below B)).mono ?_);rintro e w6 ⟨mv,rfl,⟨vs,hM⟩,hb6⟩;have hs6:=Nat.le_trans B.size hb6.size;replace ⟨B,R⟩:=Kt hb6 B R;clear C f_ j_ r0 r1 r2 r3 z0 z1 z2 z3 rl;obtain ⟨ma,mcap,rfl,-,-⟩:=hM.view;replace hM:=KO hM;(rw [hlm.out]);have Bw:=KS w6 w6) | (with_reducible refine G_ P0 fun w7 KY=>?_;replace Bw:=p_ Bw KY)
 rw [hlm.out] at hM;have S:=aG.new w7 #[(0:Int),(1:Int),(0:Int),(1:Int)] 34;have Ko:=bA w7 (.cells #[(0:Int),(1:Int),(0:Int),(1:Int)] 34);have hs7:=Bw.size;replace Bw:=Bw.alloc hs7 (.cells #[(0:Int),(1:Int),(0:Int),(1:Int)] 34);have hsl:=S.lt
 have nSR:w7.heap.size≠w.heap.size+1:=by have:=R.lt;omega
 clear Ko
 go_loopw [45] (fun vi wq=>∃ (i:Nat) (s:Int × Int),i<=N/\vi=.int .i64 (i:Int)/\Hid (dV n rows i=some s)/\aG wq w7 34 #[M.Kc (some s),M.Kf (some s),M.Kg (some s),M.Kh (some s)]/\w7.heap.size<wq.heap.size/\Below w6 w6 wq) (fun vi _=>N - (intOf vi).toNat)
 case atStart=>
  obtain ⟨e1,e2,e3,e4⟩:=yv;exact ⟨0,(0,0),Nat.zero_le _,rfl,KO rfl,by rw [e1,e2,e3,e4];exact S,hsl,Bw⟩
 case round=>
 clear S Bw hsl;generalize w7.heap.size=sb at *;obtain ⟨i,s0,hi,rfl,hs0,S,hz,Bw⟩:=hrel
 by_cases hlt:i<N
 ·obtain ⟨r,hr⟩:∃ r,rows[i]?=some r:=⟨_,List.getElem?_eq_getElem (by have:=hlr.out;omega)⟩
  have hrl:r.length=N:=hmr.out r (List.mem_of_getElem? hr)
  obtain ⟨rN,Ng⟩:∃ x,x=r.map fun q=>M.Mo (some q):=⟨_,rfl⟩
  have RW:(M.MS rows)[i]?=some rN:=by rw [Ng];exact xU hr
  have MF:rN.length=N:=by rw [Ng,List.length_map];exact hrl
  have Lb:=KO (hM.out.below Bw);obtain ⟨gi,Kn,My,hci,hgi⟩:=Lb.out.rowIs RW (fun h=>by rw [h] at MF;simp only [List.length_nil] at MF;omega)
  obtain ⟨gm,hgm⟩:∃ gm,ma=some ⟨gm,0,none⟩:=by
   obtain ⟨g_,c_,e_,-⟩:=hM.out.form (fun h=>by have:=hlm.out;rw [h] at this;simp only [List.length_nil] at this;omega)
   injection e_ with e_ _ _
   exact ⟨g_,e_⟩
  subst hgm;have O_:=Lb.out.iD My;rw [MF] at O_;have hro:=KO (hok.out r (List.mem_of_getElem? hr));have Ln:=gY (n:=n) hr;rw [hrl,hs0.out] at Ln;have Ln:=KO Ln;have hno:=KO (fun j h hj=>hnone.out i j r (some s0) hr hs0.out h (by rw [hrl];exact hj));have Tv:aJ s0.1 s0.2=true:=iS (n:=n) (m:=rows) i s0 hs0.out;have Tv:=KO Tv;obtain ⟨ni,Xc,Xd⟩:=gG hft.out hlt;have ni:=KO ni;have My:=KO My;have Ng:=KO Ng;have RW:=KO RW;have hrl:=KO hrl;clear Lb hci hgi hr MF;generalize hwo:wr=wo at *;clear hwo;go_wp2
  go_loopw [52] (fun vj wq=>∃ (j:Nat) (s:Int × Int),j<=N/\vj=.int .i64 (j:Int)/\Hid (dj n i r (some s0) j=some s)/\aG wq sb 34 #[M.Kc (some s),M.Kf (some s),M.Kg (some s),M.Kh (some s)]/\sb<wq.heap.size/\Below w6 w6 wq) (fun vj _=>N - (intOf vj).toNat)
  case atStart=>exact ⟨0,s0,Nat.zero_le _,rfl,KO rfl,S,hz,Bw⟩
  case round=>
  clear S Bw hz O_;obtain ⟨j,s,hj,rfl,hs,S,hz,Bw⟩:=hrel
  by_cases hlt2:j<N
  ·obtain ⟨q,hq⟩:∃ q,r[j]?=some q:=⟨_,List.getElem?_eq_getElem (by have:=hrl.out;omega)⟩
   have Ts:rN[j]?=some (M.Mo (some q)):=by rw [Ng.out,List.getElem?_map,hq];rfl
   obtain ⟨d0,d1,d2,d3⟩:=((hM.out.below Bw).rowFrom My.out RW.out).at4 Ts;simp only [M.Mo] at d0 d1 d2 d3;have Qr:=hro.out q (List.mem_of_getElem? hq);have hss:aJ s.1 s.2=true:=ll (n:=n) (i:=i) (r:=r) (s:=some s0) (fun p hp=>by obtain rfl:=Option.some.inj hp;exact Tv.out) j s hs.out;obtain ⟨nj,Re,Sa⟩:=gG hft.out hlt2;have Ot:=ej n i r (some s0) j;rw [hq,hs.out] at Ot;have hno:=KO (fun h=>hno.out (j+1) h hlt2)
   have PT:=fun W (h1:-144<=n.getD i 0*n.getD j 0) h2=>Ao q (n.getD i 0*n.getD j 0) W Qr h1 h2
   have ecx:qJ n i j=(n.getD i 0*n.getD j 0*4096,n.getD i 0*n.getD j 0*4096):=rfl;rw [ecx] at Ot;have SN:=hnx.out.keep (B.trans (Bw.mono hs6));obtain ⟨gn,on,hgn,ci⟩:=SN.at ni.out;obtain ⟨gn2,on2,hgn2,cj⟩:=SN.at nj;rw [hgn] at hgn2
   obtain ⟨rfl,rfl⟩:gn=gn2/\on=on2:=by injection hgn2 with h;injection h with h1 h2;exact ⟨h1,h2⟩
   clear hgn2 SN nj ecx Qr hq Ts;subst hgn
   obtain ⟨x1,hx1⟩:∃ x,x=n.getD i 0:=⟨_,rfl⟩
   obtain ⟨x2,hx2⟩:∃ x,x=n.getD j 0:=⟨_,rfl⟩
   rw [←hx1] at ci Xc Xd;rw [←hx2] at cj Re Sa;rw [←hx1,←hx2] at PT Ot;clear hx1 hx2;obtain ⟨XK,XL⟩:=xu Xc Xd Re Sa
   replace PT:=fun W=>PT W XK XL
   obtain ⟨pp,hpp⟩:∃ x,x=cn (some (x1*x2*4096,x1*x2*4096)) (some q):=⟨_,rfl⟩
   have hpo:M.LR pp:=by rw [hpp];exact kq
   rw [←hpp] at PT Ot;have hpo:=KO hpo;have Ot:=KO Ot;clear hpp
   obtain ⟨p1,hp1⟩:∃ x,x=M.Kc pp:=⟨_,rfl⟩
   obtain ⟨p2,hp2⟩:∃ x,x=M.Kf pp:=⟨_,rfl⟩
   obtain ⟨p3,hp3⟩:∃ x,x=M.Kg pp:=⟨_,rfl⟩
   obtain ⟨p4,Qq⟩:∃ x,x=M.Kh pp:=⟨_,rfl⟩
   obtain ⟨fp,hfp⟩:∃ x,x=pp.isSome:=⟨_,rfl⟩
   rw [←hp1,←hp2,←hp3,←Qq,←hfp] at PT;replace hp1:=KO hp1;replace hp2:=KO hp2;replace hp3:=KO hp3;replace Qq:=KO Qq;replace hfp:=KO hfp;generalize M.Kh (some q)=q4,M.Kg (some q)=q3,M.Kf (some q)=q2,M.Kc (some q)=q1 at *
   obtain ⟨s1,hs1⟩:∃ x,x=M.Kc (some s):=⟨_,rfl⟩
   obtain ⟨s2,hs2⟩:∃ x,x=M.Kf (some s):=⟨_,rfl⟩
   obtain ⟨s3,hs3⟩:∃ x,x=M.Kg (some s):=⟨_,rfl⟩
   obtain ⟨s4,hs4⟩:∃ x,x=M.Kh (some s):=⟨_,rfl⟩
   rw [←hs1,←hs2,←hs3,←hs4] at S;replace hs1:=KO hs1;replace hs2:=KO hs2;replace hs3:=KO hs3;replace hs4:=KO hs4;replace PT:=KO PT
   have hii:((i:Nat):Int)<(N:Int):=ω
   have hjj:((j:Nat):Int)<(N:Int):=ω
   have Bv:=bA wr (.cells #[q1,q2,q3,q4] 34);have X:=aG.new wr #[q1,q2,q3,q4] 34;replace ⟨S,Bw⟩:=Kt Bv S Bw;replace ci:=aE Bv ci;replace cj:=aE Bv cj;have hX:=X.lt;generalize hw2:wr.alloc (.cells #[q1,q2,q3,q4] 34)=wb at *;clear Bv
   go_upto_region 13 with fail
   refine AK 14 15 34 #[(0:Int),(0:Int),(0:Int),(0:Int)] #[p1,p2,p3,p4] [.is (.agg #[q1,q2,q3,q4]),.is (.slice (some ⟨gn,on,none⟩) N Lt),.is (.int .i64 ((i:Nat):Int)),.is (.pointer (some ⟨gn,on+i,none⟩)),.is x1,.is (.slice (some ⟨gn,on,none⟩) N Lt),.is (.int .i64 ((j:Nat):Int)),.is (.pointer (some ⟨gn,on+j,none⟩)),.is x2,.is (x1*x2:Int),.is (.tuple #[.agg #[p1,p2,p3,p4],fp]),.is (.tuple #[.agg #[p1,p2,p3,p4],fp]),.is (.agg #[p1,p2,p3,p4]),.is fp,.is (undef),.is (undef),.is fp] κ κ κ (fun j h1 h2=>match j,h1,h2 with | 0,h1,h2=>rfl | 1,h1,h2=>rfl | 2,h1,h2=>rfl | 3,h1,h2=>rfl | 4,h1,h2=>rfl | 5,h1,h2=>rfl | 6,h1,h2=>rfl | 7,h1,h2=>rfl | 8,h1,h2=>rfl | 9,h1,h2=>rfl | 10,h1,h2=>rfl | 11,h1,h2=>rfl | 12,h1,h2=>rfl | 13,h1,h2=>rfl | 14,h1,h2=>absurd rfl h1 | 15,h1,h2=>absurd rfl h2 | 16,h1,h2=>rfl | n+17,_,_=>rfl) δ ⟨?_,?_,?_,?_,?_,?_,?_,?_,?_,?_,?_,?_,?_,?_,?_,?_,?_,trivial⟩ ?_
   ·unfold aY
    rw [if_neg δ,if_neg δ];intro zZ w_ hB hr;have e14:zZ.tmps[14]?=some (.pointer (some ⟨wr,0,none⟩)):=hr 14 δ;have k0:=aE hB X.aI.c0;have k1:=aE hB X.aI.c1;have k2:=aE hB X.aI.c2;have k3:=aE hB X.aI.c3;exact aS rfl γ
   ·exact Zm
   ·unfold aY
    rw [if_neg δ,if_neg δ];intro zZ w_ hB hr;have e11:zZ.tmps[11]?=some (.int .i64 ((i:Nat):Int)):=hr 11 δ;exact aS rfl γ
   ·unfold aY
    rw [if_neg δ,if_neg δ];intro zZ w_ hB hr;have e59:=Rg.A_ (hr 59 δ);have e60:=Rg.A_ (hr 60 δ);exact aS rfl L7
   ·unfold aY
    rw [if_neg δ,if_neg δ];intro zZ w_ hB hr;have e61:=Rg.A_ (hr 61 δ);have k0:=aE hB ci;exact aS rfl L7
   ·exact Zm
   ·unfold aY
    rw [if_neg δ,if_neg δ];intro zZ w_ hB hr;have e13:zZ.tmps[13]?=some (.int .i64 ((j:Nat):Int)):=hr 13 δ;exact aS rfl γ
   ·unfold aY
    rw [if_neg δ,if_neg δ];intro zZ w_ hB hr;have e63:=Rg.A_ (hr 63 δ);have e64:=Rg.A_ (hr 64 δ);exact aS rfl L7
   ·unfold aY
    rw [if_neg δ,if_neg δ];intro zZ w_ hB hr;have e65:=Rg.A_ (hr 65 δ);have k0:=aE hB cj;exact aS rfl L7
   ·unfold aY
    rw [if_neg δ,if_neg δ];intro zZ w_ hB hr;have e62:=Rg.A_ (hr 62 δ);have e66:=Rg.A_ (hr 66 δ);exact aS rfl (by go_simp <;> exact Rg.wo ω)
   ·unfold aY
    rw [if_neg δ,if_neg δ];intro zZ w_ hB hr;have e58:=Rg.A_ (hr 58 δ);have e67:=Rg.A_ (hr 67 δ);have ef:=Rg.ef zZ;exact bO rfl γ (PT.out _)
   ·unfold aY
    rw [if_neg δ,if_neg δ];intro zZ w_ hB hr;have e68:=Rg.A_ (hr 68 δ);exact aS rfl γ
   ·exact wat6
   ·exact wat6
   ·unfold aY
    exact Ph
   ·unfold aY
    rw [if_neg δ,if_pos rfl];intro zZ w_ h_ hh hn hr;have e15:zZ.tmps[15]?=some (.pointer (some ⟨h_,0,none⟩)):=hr 15 δ;have e69:=Rg.A_ (hr 69 δ);have ⟨y0,y1,y2,y3,x0,x1,x2,x3,_⟩:=hn.aI;refine ⟨rfl,?_⟩;unfold Oper.wp;go_simp
    exact ⟨aG.oK hn _ _ _ _,KR (KR (KR (KR (KS _ _) hh _) hh _) hh _) hh _⟩
   ·unfold aY
    rw [if_neg δ,if_neg δ];intro zZ w_ hB hr;have e70:=Rg.A_ (hr 70 δ);exact aS rfl γ
   intro vals wz h_ hh hn Xt hB hv;have Nl:vals 16=.bool fp:=hv 16 δ δ δ;simp only [bD,Rg.fill,Act.put,Nat.reduceAdd];clear hv;simp only [Xt,Nl];clear Xt Nl;replace ⟨S,Bw⟩:=Kt hB S Bw;have hzs:=S.lt;have Nw:=hn.lt;have R2:=R.keep Bw;have ⟨r0,r1,r2,r3,z0,z1,z2,z3,rl⟩:=R2.aI;have B2:=B.trans (Bw.mono hs6);clear X hX ci cj hB
   cases pp with
   | none=>
    obtain rfl:fp=false:=hfp.out;have hfin:=KO (hno.out Ot.out);go_wp2;exact ZF
   | some p=>
   obtain rfl:fp=true:=hfp.out
   have PA:=fun W=>qX s p W hss (hpo.out p rfl)
   rw [←hs1.out,←hs2.out,←hs3.out,←hs4.out,←hp1.out,←hp2.out,←hp3.out,←Qq.out] at PA
   obtain ⟨ad,had⟩:∃ x,x=fQ (some s) (some p):=⟨_,rfl⟩
   rw [←had] at PA;have RU:=Ot.out.trans had.symm;have RU:=KO RU;clear had Ot hpo hp1 hp2 hp3 Qq hfp;have ⟨OT,OU,OV,OW,_,_,_,_,_⟩:=S.aI;have ⟨kp0,LL,Kt,Ky,_,_,_,_,_⟩:=hn.aI
   cases ad with
   | none=>
    have hfin:=KO (hno.out RU.out);have e9:=KO mT;rw [e9.out.1,e9.out.2.1,e9.out.2.2.1,e9.out.2.2.2.1,e9.out.2.2.2.2] at PA;clear e9;replace PA:=KO PA
    go_wp2_with (with_reducible refine G_ PA fun w9 Kr=>?_;replace B2:=(p_ B2 Kr).alloc (Nat.le_trans B2.size Kr.size) (.cells #[(0:Int),(0:Int),(0:Int),(0:Int)] 34);replace R2:=(R2.keep Kr).alloc (.cells #[(0:Int),(0:Int),(0:Int),(0:Int)] 34);clear r0 r1 r2 r3 z0 z1 z2 z3 rl;(have ⟨r0,r1,r2,r3,z0,z1,z2,z3,rl⟩:=R2.aI))
    exact ZF
   | some sx=>
   have e5:(some sx:M.Sp).isSome=true:=rfl;rw [e5] at PA;clear e5
   obtain ⟨y1,hy1⟩:∃ x,x=M.Kc (some sx):=⟨_,rfl⟩
   obtain ⟨y2,hy2⟩:∃ x,x=M.Kf (some sx):=⟨_,rfl⟩
   obtain ⟨y3,hy3⟩:∃ x,x=M.Kg (some sx):=⟨_,rfl⟩
   obtain ⟨y4,hy4⟩:∃ x,x=M.Kh (some sx):=⟨_,rfl⟩
   rw [←hy1,←hy2,←hy3,←hy4] at PA;replace hy1:=KO hy1;replace hy2:=KO hy2;replace hy3:=KO hy3;replace hy4:=KO hy4;replace PA:=KO PA;clear B2 R2 r0 r1 r2 r3 z0 z1 z2 z3 rl
   go_wp2_with (with_reducible refine G_ PA fun w9 Kr=>?_;have B9:=(bA w9 (.cells #[y1,y2,y3,y4] 34));replace S:=(S.keep Kr).keep B9;replace Bw:=(p_ Bw Kr).trans (B9.mono (Nat.le_trans Bw.size Kr.size));have Y:=aG.new w9 #[y1,y2,y3,y4] 34;(have ⟨y0_,Pl,Qj,Sd,_,_,_,_,_⟩:=Y.aI);clear OT OU OV OW;(have ⟨OT,OU,OV,OW,ks4,ks5,ks6,ks7,ks8⟩:=S.aI);have hz9:=S.lt)
   go_roundw
   case rel=>exact ⟨j+1,sx,ω,ν,RU,by rw [←hy1.out,←hy2.out,←hy3.out,←hy4.out];exact aG.oK S _ _ _ _,by rw [aO,aO,aO,aO];omega,KR (KR (KR (KR Bw hs7 _) hs7 _) hs7 _) hs7 _⟩
   case measure=>simp [intOf] <;> omega
  obtain rfl:N=j:=ω
  have hs2:=KO (Ln.out.trans hs.out);go_wp2
  go_roundw
  case rel=>exact ⟨i+1,s,ω,ν,hs2,S,hz,Bw⟩
  case measure=>simp [intOf] <;> omega
 obtain rfl:N=i:=ω
 have hss:aJ s0.1 s0.2=true:=iS (n:=n) (m:=rows) _ s0 hs0.out
 have PX:=fun W=>qZ (2048,2048) s0 W δ hss
 have hcs:dg a b l n=cn (some (2048,2048)) (some s0):=by rw [hV.out];unfold rL;rw [hlr.out,hs0.out]
 rw [←hcs] at PX;rw [pL.1,pL.2.1,pL.2.2.1,pL.2.2.2] at PX;clear hcs hss hs0
 obtain ⟨i1,hi1⟩:∃ x,x=M.Kc (dg a b l n):=⟨_,rfl⟩
 obtain ⟨i2,hi2⟩:∃ x,x=M.Kf (dg a b l n):=⟨_,rfl⟩
 obtain ⟨i3,hi3⟩:∃ x,x=M.Kg (dg a b l n):=⟨_,rfl⟩
 obtain ⟨i4,hi4⟩:∃ x,x=M.Kh (dg a b l n):=⟨_,rfl⟩
 obtain ⟨fV,hfV⟩:∃ x,x=(dg a b l n).isSome:=⟨_,rfl⟩
 rw [←hi1,←hi2,←hi3,←hi4,←hfV] at PX;replace hi1:=KO hi1;replace hi2:=KO hi2;replace hi3:=KO hi3;replace hi4:=KO hi4;replace hfV:=KO hfV;generalize M.Kh (some s0)=s4,M.Kg (some s0)=s3,M.Kf (some s0)=s2,M.Kc (some s0)=s1 at *;replace PX:=KO PX;have R2:=R.keep Bw;have B2:=B.trans (Bw.mono hs6);have Bh:=bA wr (.cells #[(1:Int),(2:Int)] 32);have H:=aG.new wr #[(1:Int),(2:Int)] 32;replace ⟨S,R2,B2⟩:=Ky Bh S R2 B2;have ⟨Md,TP,_,_,_⟩:=H.box;have ⟨OT,OU,OV,OW,_,_,_,_,_⟩:=S.aI;clear Bh
 go_wp2_with (with_reducible refine G_ PX fun w9 Kr=>?_;replace ⟨B2,R2⟩:=Kt Kr B2 R2;(have ⟨r0,r1,r2,r3,z0,z1,z2,z3,rl⟩:=R2.aI))
 exact KU (v:=.tuple #[.agg #[i1,i2,i3,i4],fV]) results19 ⟨by rw [hi1.out,hi2.out,hi3.out,hi4.out,hfV.out],KR (KR (KR (KR B2 σ _) σ _) σ _) σ _⟩
end
section
open Go.RowKit Go.Shelf open Gr M Rg Rw Wh
theorem jX (a b:Int) (v:Value) (l:List Pt) (w:World) (hx:dC w v l) (hn:l.length<=4000000) :
  Calls prog 14 #[.agg #[a,b],v] w fun e w'=>∃ v',e=.returned (.tuple #[v',td a b l])/\aF w' w v' (M.Qt a b l)/\Below w w w':=by
 obtain ⟨sa,cap,rfl,hv⟩:=hx
 have hx:dC w (.slice sa l.length cap) l:=⟨sa,cap,rfl,hv⟩
 have PL:=fun W h=>gj a b (.slice sa l.length cap) l W h hn
 replace hx:=KO hx;obtain ⟨wc,hw3,C,B⟩:=cJ w #[a,b] 24;have hxc:=KO (hx.out.below B);have f_:=C.box.c0;have j_:=C.box.c1
 cases hp:ai a b l with
 | false=>
  rw [hp] at PL;have hfin:=KO (Dk hp);replace PL:=KO PL;clear hp;go_enter func14,ntmps14
  exact Y6
 | true=>
 rw [hp] at PL;replace PL:=KO PL;obtain ⟨hgd,hl1,hl4,hpt⟩:=aX hp
 obtain ⟨g,o_,rfl,hpa⟩:∃ g o_,sa=some ⟨g,o_,none⟩/\nG w g o_ l:=by
  rcases hv with h | h
  ·rw [h] at hl1;simp at hl1
  exact h
 have HP:=KO (hpa.below B);have HG:=KO (And.intro hgd hpt);have hp:=KO hp;clear hpa hv hgd hpt
 obtain ⟨N,hN⟩:∃ N,N=l.length:=⟨_,rfl⟩
 rw [←hN] at PL hxc hx hl1 hl4 ⊢;replace hN:=KO hN;go_enter func14,ntmps14
 go_wp2_with (with_reducible refine Km (PL.out _ hxc.out) fun w4 hb4=>?_;replace ⟨B,C⟩:=Kt hb4 B C;replace HP:=KO (HP.out.below hb4);clear hxc f_ j_ PL)
 have B4:=KO B;have z4:=B.size
 go_loopw [6,7,19] (fun v6 v7 vi wr=>∃ (i:Nat) (ks:List Int) (ps:List Pt),vi=.int .i64 i/\i<=N/\Hid (jW a b l i=some (ks,ps))/\Hid (aF wr w4 v6 ks)/\Hid (Rw.Own Lh wr w4 v7 ps)/\Below w4 w4 wr) (fun _ _ vi _=>N - (intOf vi).toNat)
 case atStart=>exact ⟨0,[],[],rfl,ω,KO rfl,KO (aF.nil _ _),KO (Rw.Own.nil _ _ _),KS _ _⟩
 case round=>
 obtain ⟨i,ks,ps,rfl,hi,hkp,h6,h7,hbr⟩:=hrel;have zr:=hbr.size
 obtain ⟨A7,OJ,rfl,-⟩:=h7.out.seen.pts.from'
 obtain ⟨A6,cap6,rfl⟩:=h6.out.ve
 by_cases hlt:i<N
 ·obtain ⟨p,hpi⟩:∃ p,Hid (l[i]?=some p):=⟨_,KO (List.getElem?_eq_getElem (by have:=hN.out;omega))⟩
  obtain ⟨d0,d1,d2⟩:=HP.out.below hbr i p hpi.out;have hnx:=KO (nd hkp.out hpi.out);obtain ⟨hi1,hi2,hi3⟩:=mW (by have:=hN.out;omega) hkp.out;replace hi1:ks.length=ps.length:=hi1;replace hi2:ps.length<=i:=hi2
  have hkl:ks.length<=4:=ω
  have hpl:ps.length<=4:=ω
  have hlen:(ps ++ [p]).length<=4:=by rw [List.length_append,List.length_singleton];omega
  have RG:=fun v w (h:dC w v (ps ++ [p]))=>iG a b v (ps ++ [p]) w h HG.out.1 (by rw [List.length_append,List.length_singleton];omega) hlen (fun x hx=>by
   exact Zc)
  have hno:=fun h=>nc (a:=a) (b:=b) (s:=(ks,ps)) (i:=i) (p:=p) h
  have hyes:=fun q h=>lh (a:=a) (b:=b) (s:=(ks,ps)) (i:=i) (p:=p) (q:=q) h
  simp only [] at hno hyes;have hi4:=yu (zD (a:=a) (b:=b) (l:=ps ++ [p]));generalize fi a b (ps ++ [p])=rs,kA a b (ks,ps) i p=st at *;have hsome:Hid (rs=if rs.isSome then some (M.Kd rs,M.Kj rs) else none):=KO (by cases rs <;> rfl);replace hno:=KO hno;replace hyes:=KO hyes;generalize M.Kj rs=hh,M.Kd rs=lo,M.Kh rs=n4,M.Kg rs=n3,M.Kf rs=n2,M.Kc rs=n1,rs.isSome=fl at *;replace RG:=KO RG;clear hi1 hi2 hi3;obtain ⟨wp,hwp,Pv,Bp⟩:=cJ wr #[p.1,p.2.1,p.2.2] 47;have Cp:=(C.keep hbr).keep Bp;have Wf:=KO (h6.out.below Bp);have TQ:=KO (h7.out.below Bp)
  have hf7:=KO (show ∀ w',Below wp wp w'->Rw.From Lh w' A7 ps by
   obtain ⟨A8,RE,e8,h8⟩:=TQ.out.seen.pts.from'
   injection e8 with q1 q2 q3
   subst q1
   exact h8)
  have hwp':=KO hwp;have zp:=Bp.size
  go_upto_region 8 with fail
  refine FA (fun l v w=>M6 wp ps p l v w) [0,2,4,5,6] [undef,.slice A7 ps.length OJ,undef,.agg #[p.1,p.2.1,p.2.2],undef,undef,undef] κ κ δ (fun l l2 v v2 w h j=>M6.congr h j) (fun _=>M6.start) ⟨?_,?_,?_,?_,?_,?_,?_,trivial⟩ ?_
  ·unfold ck
   intro zZ w_ l_ d_ hJ LB LK Kq Kb hr;refine ⟨rfl,?_⟩;rw [if_pos δ];refine rP (x:=.slice (some ⟨w_,0,none⟩) 0 0) (ob:=.cells #[] 47) Lo ?_;exact hJ.empty (LK 2 κ)
  ·exact ZS
  ·unfold ck
   intro zZ w_ l_ d_ hJ LB LK Kq Kb hr;have e24:zZ.tmps[24]?=some (d_ 0):=hr 24 δ;have e25:zZ.tmps[25]?=some (.slice A7 ps.length OJ):=hr 25 δ;refine ⟨rfl,?_⟩;rw [if_pos δ]
   have UG:l_ 5=false:=by
    cases q:l_ 5
    ·rfl
    rw [Kb 2 5 κ q] at LB;cases LB
   have l6_:l_ 6=false:=by
    cases q:l_ 6
    ·rfl
    rw [Kb 5 6 κ q] at UG;cases UG
   have he_:=hJ.e (Kq 0 κ) LB;obtain ⟨v_,Ox,PJ,PZ,Pw,q4_⟩:=BZ qO (W:=wp) (base:=wp.heap.size) 25 ps A7 OJ (hf7.out _ hJ.B) he_ hJ.B hJ.B.size (by simp only [List.length_nil];omega);refine gJ (x:=v_) (w2:=Ox) (ie rfl (Rg.ev e24) (Rg.ev e25) PJ) ?_;exact hJ.copy (Kq 0 κ) LB UG l6_ q4_ PZ
  ·unfold ck
   intro zZ w_ l_ d_ hJ LB LK Kq Kb hr;refine ⟨rfl,?_⟩;rw [if_neg δ];have e9:zZ.tmps[9]?=some (.pointer (some ⟨wr,0,none⟩)):=hr 9 δ;have hP_:=Pv.keep hJ.B;have ⟨k0,k1,k2⟩:=hP_.aM
   exact Lo
  ·unfold ck
   intro zZ w_ l_ d_ hJ LB LK Kq Kb hr;have e27:zZ.tmps[27]?=some (.agg #[p.1,p.2.1,p.2.2]):=hr 27 δ;refine ⟨rfl,?_⟩;rw [if_pos δ];refine rP (x:=.slice (some ⟨w_,0,none⟩) 1 1) (ob:=.cells #[p.1,p.2.1,p.2.2] 47) Lo ?_;exact hJ.lit
  ·unfold ck
   intro zZ w_ l_ d_ hJ LB LK Kq Kb hr;have e26:zZ.tmps[26]?=some (d_ 2):=hr 26 δ;have e28:zZ.tmps[28]?=some (d_ 4):=hr 28 δ;refine ⟨rfl,?_⟩;rw [if_pos δ];obtain ⟨H_,VQ,Wo,-,Ww,-⟩:=hJ.t (Kq 4 κ) LB;rw [VQ] at e28;have Tc:=hJ.c (Kq 2 κ) LB;obtain ⟨v_,Ox,PJ,PZ,Pw,-⟩:=oJ qO 25 [p] ⟨H_,0,none⟩ 1 Ww Tc hJ.B.size (by simp only [List.length_singleton];omega);refine gJ (x:=v_) (w2:=Ox) (ie rfl (Rg.ev e26) (Rg.ev e28) PJ) ?_;exact hJ.app (Kq 2 κ) LB (LK 6 κ) Pw PZ
  ·unfold ck
   intro zZ w_ l_ d_ hJ LB LK Kq Kb hr;have e29:zZ.tmps[29]?=some (d_ 5):=hr 29 δ;refine ⟨rfl,?_⟩;rw [if_pos δ];refine gJ (x:=d_ 5) (w2:=w_) Lo ?_;exact hJ.take (Kq 5 κ)
  intro vals wz hJ hv;simp only [bD,Rg.fill,Act.put,Nat.reduceAdd];clear hv;have Bz:=hJ.B;have hm:=hJ.m rfl
  obtain ⟨P_,SK,e10,-⟩:=hm.seen.pts.from'
  rw [e10] at hm ⊢
  have SV:(ps ++ [p]).length=ps.length+1:=σ
  rw [SV] at hm ⊢;have hm:=KO hm;have Bw:Below w4 w4 wz:=(hbr.trans (Bp.mono zr)).trans (Bz.mono (Nat.le_trans zr zp));have Pz:=Pv.keep Bz;have Cz:=Cp.keep Bz;have SO:=Wf.out.below Bz;have h7z:=TQ.out.below Bz;have zz:=Bz.size;have zw:=Bw.size;have f_:=Cz.box.c0;have j_:=Cz.box.c1;have hms:=KO (show dC wz (.slice P_ (ps.length+1) SK) (ps ++ [p]) from hm.out.seen.pts);clear hJ e10 Bz Cp d0 d1 d2 Wf TQ hf7
  cases fl with
  | false=>
   have hst:st=none:=hno.out (by rw [hsome.out];rfl);have hfin:=KO (tf (a:=a) (b:=b) (l:=l) (by rw [←hN.out];exact nf (hnx.out.trans hst) N ω))
   go_wp2_with (with_reducible refine Km (RG.out _ _ hms.out) fun w7 KY=>?_;replace Bw:=Bw.trans (KY.mono zw);(have QC:Hid (Below w w w7):=KO (B4.out.trans (Bw.mono z4))))
   go_ret2;exact ⟨.slice none 0 0,by rw [hfin.out.1];rfl,by rw [hfin.out.2];exact aF.nil _ _,bF QC.out _⟩
  | true=>
  have hst:=hyes.out (lo,hh) (by rw [hsome.out];rfl);simp only [] at hst
  by_cases hpos:0<lo
  ·rw [if_pos hpos] at hst
   have hd:decide (n1 > 0)=true:=hi4.trans (decide_eq_true hpos);clear hsome hno hyes hwp' hlen hi4
   go_wp2_with (first
    | (with_reducible refine Km (RG.out _ _ hms.out) fun w7 KY=>?_;have Ko:=(KS w7 w7).alloc (KT _) (.cells #[n1,n2,n3,n4] 34);have V:=aG.new w7 #[n1,n2,n3,n4] 34;(have ⟨v0,v1,v2,v3,_,_,_,_,_⟩:=V.aI);replace Bw:=(Bw.trans (KY.mono zw)).trans (Ko.mono (Nat.le_trans zw KY.size));replace KY:=p_ KY Ko;have h6w:=KO (SO.below KY);have hmw:=KO (hm.out.below KY);have zx:=Bw.size)
    | (at_builtin;refine sZ HQ w4.heap.size [(i:Int)] ks _ ⟨_,0,none⟩ 1 1 (by rfl) (by rfl) (.tmp 43) (.tmp 45) (by rfl) (by rfl) (by rfl) (DQ (i:Int) σ) ((dL.1 h6w.out).alloc _) (by simp at zx ⊢;omega) (by simp;omega) ?_;intro v5 w5 hown5 hg5 hbl5;have Wg:=Di (hmw.out.alloc _) (aF.alloc h6w.out _) hg5;(have hb5:Below w4 w4 w5:=(bF Bw (.cells #[.int .i64 (i:Int)] 3)).grown hg5 (by simp at zx ⊢;omega) (fun k hk=>(h6w.out.lt k hk).1))))
   go_roundw
   case rel=>exact ⟨i+1,ks ++ [(i:Int)],ps ++ [p],ν,ω,KO (hnx.out.trans hst),KO (dL.2 hown5),KO (Wg.down (Nat.le_trans zr zp)),hb5⟩
   case measure=>simp [intOf];omega
  rw [if_neg hpos] at hst;have hd:decide (n1 > 0)=false:=hi4.trans (decide_eq_false hpos);clear hsome hno hyes hwp' hlen hi4
  go_wp2_with (with_reducible refine Km (RG.out _ _ hms.out) fun w7 KY=>?_;have Ko:=(KS w7 w7).alloc (KT _) (.cells #[n1,n2,n3,n4] 34);have V:=aG.new w7 #[n1,n2,n3,n4] 34;(have ⟨v0,v1,v2,v3,_,_,_,_,_⟩:=V.aI);replace Bw:=(Bw.trans (KY.mono zw)).trans (Ko.mono (Nat.le_trans zw KY.size));replace KY:=p_ KY Ko;have h6w:=KO (SO.below KY);have h7w:=KO (h7z.below KY))
  go_roundw
  case rel=>exact ⟨i+1,ks,ps,ν,ω,KO (hnx.out.trans hst),h6w,h7w,Bw⟩
  case measure=>simp [intOf];omega
 exact YX
end
section
open Go.RowKit open Gr M Rg Rw Wh
theorem jx (a b X Y E:Int) (w:World) :
  cB 26 #[.agg #[a,b],.agg #[X,Y,E]] w (.tuple #[.bool (gw a b X Y E && decide ((X,Y,E) ∈ oV a b)),gw a b X Y E]):=by
 have PT:∀ W,cB 50 #[.agg #[a,b],.agg #[X,Y,E]] W (gw a b X Y E):=fun W=>kh a b X Y E W
 obtain ⟨wc,hw3,C,Q,B⟩:=dQ w #[a,b] 24 #[X,Y,E] 47;have ⟨c0,c1,_,_,_⟩:=C.box;have ⟨q0,q1,q2⟩:=Q.aM
 cases h0:gw a b X Y E with
 | false=>
  rw [h0] at PT;replace PT:=KO PT;rw [Bool.false_and];go_enter func26,ntmps26
  go_wp2_with (first | (with_reducible refine G_ PT fun w4 hb4=>?_;replace ⟨B,C,Q⟩:=Ky hb4 B C Q;(have ⟨c0,c1,_,_,_⟩:=C.box);(have ⟨q0,q1,q2⟩:=Q.aM)))
  go_ret2;exact ⟨rfl,B⟩
 | true=>
 rw [h0] at PT;obtain ⟨hg,hp1⟩:=lc h0;rw [Bool.true_and];replace PT:=KO PT
 have PL:=KO fun W=>pC a b W hg
 have PC:=KO fun (v:Value) W (h:jT W v (oV a b)) (hl:(oV a b).length<=12100)=>tJ X Y E v (oV a b) W h hl
 generalize oV a b=ts,decide ((X,Y,E) ∈ oV a b)=res at *;clear h0 hg hp1;go_enter func26,ntmps26
 go_upto_region 3 with (first | (with_reducible refine G_ PT fun w4 hb4=>?_;replace ⟨B,C,Q⟩:=Ky hb4 B C Q;(have ⟨c0,c1,_,_,_⟩:=C.box);(have ⟨q0,q1,q2⟩:=Q.aM)))
 refine be 6 [.is (.agg #[a,b]),.at (fun v W=>jT W v ts/\ts.length<=12100),.is (.agg #[X,Y,E]),.is res,.is res,.is true] κ κ κ ⟨?_,?_,?_,?_,?_,?_,trivial⟩ ?_
 all_goals try ((first | (refine Rg.b0 ?_;intro zZ w_ hB) | (refine Rg.b1 ?_;intro zZ w_ hB e));have Ke:=C.keep hB;have ⟨k0,k1,_,_,_⟩:=Ke.box;have Ke:=Q.keep hB;have ⟨k0,k1,k2⟩:=Ke.aM;have ec:=Rg.ec zZ;(go_simp;done))
 ·refine Rg.o1 ?_;intro zZ w_ hB e
  have ef:=Rg.ef zZ;refine aj rfl τ ?_;refine (PL.out w_).mono ?_;rintro e w5 ⟨v5,rfl,LZ,hl5,hb5⟩;exact ⟨_,rfl,fun w6 hb6=>⟨LZ.below hb6,hl5⟩,hb5⟩
 ·intro _ zZ w_ hB hr
  obtain ⟨v11,e11,n11⟩:∃ v,zZ.tmps[11]?=some v/\(Rg.Val.at (fun v W=>jT W v ts/\ts.length<=12100)).ok v w_:=hr 11 δ;have e12:=Rg.A_ (hr 12 δ);have ef:=Rg.ef zZ;exact bO rfl γ (PC.out v11 w_ (cX n11).1 (cX n11).2)
 intro vals wz hB hv hne;have Pg:vals 4=.bool res:=hv 4 δ;have Ow:vals 5=.bool true:=hv 5 δ;simp only [bD,Rg.fill,Act.put,Nat.reduceAdd];clear hv;simp only [Pg,Ow];clear Pg Ow;replace B:=p_ B hB;clear hB hne;unfold aU;go_wp2;go_ret2;exact ⟨rfl,B⟩
end
section
open Go Go.RowKit open Dw Gr M Rg Rw Wh
theorem Dw.IB.int {g b T M i:Nat} {w:World} (h:Dw.IB g w b T M) (hi:i<M):∃ x:Int,w.cell? ⟨b,i,none⟩=some (.int .i64 x):=by
 obtain ⟨-,xs,x1,rfl,x3⟩:=h;obtain ⟨x,hx⟩:=x3 xs[i] (Array.getElem_mem_toList hi);exact ⟨x,by rw [cell_of_row _ _ _ xs T (0,0) x1,Array.getElem?_eq_getElem hi,hx]⟩
theorem M.listed {α:Type} (P:Nat->α->Prop):∀ n:Nat,(∀ k,k<n->∃ x,P k x)->∃ l:List α,l.length=n/\∀ (k:Nat) (x:α),l[k]?=some x->P k x
 | 0,_=>⟨[],rfl,fun k x h=>by cases h⟩
 | n+1,h=>by
  obtain ⟨l,hl,q⟩:=M.listed P n fun k hk=>h k ω
  obtain ⟨x,hx⟩:=h n ω;refine ⟨l ++ [x],by rw [List.length_append,hl];rfl,fun k y hy=>?_⟩
  rcases Nat.lt_or_ge k l.length with hk | hk
  ·rw [List.getElem?_append_left hk] at hy
   exact q k y hy
  rw [List.getElem?_append_right hk] at hy
  cases e:k - l.length with
  | zero=>
   rw [e] at hy;cases hy
   obtain rfl:k=n:=ω
   exact hx
  | succ j=>rw [e] at hy;cases hy
theorem Dw.EE {g z lo hi:Nat} {w:World} {v:Value} (h:Dw.ok g z w (.s 3 lo hi) v):∃ l:List Pt,dC w v l/\l.length<=hi:=by
 obtain ⟨A,len,cap,rfl,⟨-,h1,-⟩,h2⟩:=h
 rcases h2 with rfl | ⟨b,off,T,N,rfl,hb,hM⟩
 ·exact ⟨[],⟨A,cap,rfl,.inl rfl⟩,Nat.zero_le _⟩
 obtain ⟨l,rfl,hl⟩:=M.listed (α:=Pt) (fun k p=>w.cell? ⟨b,off+k*3,none⟩=some (.int .i64 p.1)/\w.cell? ⟨b,off+(k*3+1),none⟩=some (.int .i64 p.2.1)/\w.cell? ⟨b,off+(k*3+2),none⟩=some (.int .i64 p.2.2)) len fun k hk=>by
  obtain ⟨x,hx⟩:=hb.int (i:=off+k*3) ω;obtain ⟨y,hy⟩:=hb.int (i:=off+(k*3+1)) ω;obtain ⟨u,hu⟩:=hb.int (i:=off+(k*3+2)) ω;exact ⟨(x,y,u),hx,hy,hu⟩
 exact ⟨l,⟨_,cap,rfl,.inr ⟨b,off,rfl,hl⟩⟩,h1⟩
theorem Dw.Fk {g z lo hi:Nat} {w:World} {v:Value} (h:Dw.ok g z w (.s 1 lo hi) v) (hh:hi<=1000):∃ l:List Int,cE w v l:=by
 obtain ⟨A,len,cap,rfl,⟨-,h1,-⟩,h2⟩:=h
 rcases h2 with rfl | ⟨b,off,T,N,rfl,hb,hM⟩
 ·exact ⟨[],⟨A,cap,rfl,δ,fun k h=>by cases h⟩⟩
 obtain ⟨l,rfl,hl⟩:=M.listed (fun k (p:Int)=>w.cell? ⟨b,off+k,none⟩=some (.int .i64 p)) len fun k hk=>hb.int ω
 exact ⟨l,⟨_,cap,rfl,ω,fun k hk=>⟨b,off,l[k],rfl,hb.lt,KO (List.getElem?_eq_getElem hk),hl k _ (List.getElem?_eq_getElem hk)⟩⟩⟩
end
section
open Go Go.RowKit Go.Shelf open Dw Gr M Rg Rw Wh
theorem Tab.on3 {w w':World} (h:Tab w w) (hb:Below w w w'):Tab w' w':=fun W hW=>h W (p_ hb hW)
namespace M
theorem Im (a b:Int) (l:List Pt):(Qt a b l).length<=l.length:=by
 cases hp:ai a b l with
 | false=>rw [(Dk hp).2];exact Nat.zero_le _
 | true=>
 cases h:jW a b l l.length with
 | none=>rw [(tf h).2];exact Nat.zero_le _
 | some s=>
 rw [(xW hp h).2];obtain ⟨h1,h2,-⟩:=mW (KT _) h;omega
theorem Fz (a b:Int) (l:List Pt):(iH a b l).length<=4/\∀ r:List (Int × Int × Int × Int),r ∈ iH a b l->1<=r.length/\r.length<=4:=by
 cases h:dK a b l with
 | false=>rw [km h];exact ⟨Nat.zero_le _,fun r h=>by cases h⟩
 | true=>
 obtain ⟨h1,h2,h3,h4⟩:=kj h;exact ⟨ω,fun r hr=>by have:=(h4 r hr).1;omega⟩
theorem F0 {a b:Int} {l:List Pt} (h:dK a b l=true):(iH a b l).length=l.length/\∀ (i:Nat) (r:List (Int × Int × Int × Int)),(iH a b l)[i]?=some r->r.length=l.length:=by
 obtain ⟨h1,-,-,h4⟩:=kj h;exact ⟨h1,fun i r hr=>(h4 r (List.mem_of_getElem? hr)).1⟩
theorem GW {a b:Int} {l:List Pt} (h:(dS a b l).isSome=true):dK a b l=true/\∃ lo hi:Int,aJ lo hi=true/\Kc (dS a b l)=pn lo/\Kf (dS a b l)=pd lo/\Kg (dS a b l)=pn hi/\Kh (dS a b l)=pd hi/\tY a b l=decide (0<lo):=by
 refine ⟨GX h,?_⟩;have ho:=kI (a:=a) (b:=b) (l:=l);unfold tY
 cases e:dS a b l with
 | none=>rw [e] at h;cases h
 | some p=>rw [e] at ho;exact ⟨p.1,p.2,ho p rfl,rfl,rfl,rfl,rfl,rfl⟩
theorem D1 {a b:Int} {l:List Pt} {n:List Int}:LR (dg a b l n):=by
 unfold dg
 split
 ·unfold rL;exact kq
 exact eN
theorem BF {a b X Y E:Int}:LR (cI a b X Y E):=by
 unfold cI gd gw
 split
 ·rename_i h
  rw [Bool.and_eq_true] at h;exact nt h.1 h.2
 exact eN
theorem FQ {a b:Int} {l:List Pt} {n:List Int} (h1:(dJ a b l n).isSome=true) (h2:(dg a b l n).isSome=true):∃ lo hi lo' hi':Int,aJ lo hi=true/\aJ lo' hi'=true/\lo<=hi'/\lo'<=hi/\Kc (dg a b l n)=pn lo/\Kf (dg a b l n)=pd lo/\Kg (dg a b l n)=pn hi/\Kh (dg a b l n)=pd hi/\
  (cI a b (pX (dJ a b l n)) (pY (dJ a b l n)) (pE (dJ a b l n))).isSome=true/\Kc (cI a b (pX (dJ a b l n)) (pY (dJ a b l n)) (pE (dJ a b l n)))=pn lo'/\Kf (cI a b (pX (dJ a b l n)) (pY (dJ a b l n)) (pE (dJ a b l n)))=pd lo'/\Kg (cI a b (pX (dJ a b l n)) (pY (dJ a b l n)) (pE (dJ a b l n)))=pn hi'/\Kh (cI a b (pX (dJ a b l n)) (pY (dJ a b l n)) (pE (dJ a b l n)))=pd hi':=by
 obtain ⟨c,hc⟩:=Option.isSome_iff_exists.1 h1;obtain ⟨q,hq⟩:=Option.isSome_iff_exists.1 h2;obtain ⟨d,hd,d1,d2⟩:=Cj hq hc;have o1:=D1 (a:=a) (b:=b) (l:=l) (n:=n);have o2:=BF (a:=a) (b:=b) (X:=c.1) (Y:=c.2.1) (E:=c.2.2);rw [hd] at o2;rw [hq] at o1;rw [hc,hq]
 show ∃ lo hi lo' hi':Int,aJ lo hi=true/\aJ lo' hi'=true/\lo<=hi'/\lo'<=hi/\_/\_/\_/\_/\(cI a b c.1 c.2.1 c.2.2).isSome=true/\Kc (cI a b c.1 c.2.1 c.2.2)=pn lo'/\Kf (cI a b c.1 c.2.1 c.2.2)=pd lo'/\Kg (cI a b c.1 c.2.1 c.2.2)=pn hi'/\Kh (cI a b c.1 c.2.1 c.2.2)=pd hi'
 rw [hd];exact ⟨q.1,q.2,d.1,d.2,o1 q rfl,o2 d rfl,d1,d2,rfl,rfl,rfl,rfl,rfl,rfl,rfl,rfl,rfl⟩
end M
class Sl (A H:Prop) (B:outParam Prop):Prop where
 kp:A->H->B
instance {w w':World} {v:Value} {l:List Pt}:Sl (dC w v l) (Below w w w') (dC w' v l):=⟨fun x h=>x.below h⟩
instance {w w':World} {b:Nat} {v:Value} {l:List (List (Int × Int × Int × Int))}:Sl (cZ w b v l) (Below w w w') (cZ w' b v l):=⟨fun x h=>x.below h⟩
instance {w w':World} {b:Nat} {v:Value} {l:List Int}:Sl (aF w b v l) (Below w w w') (aF w' b v l):=⟨fun x h=>x.below h⟩
instance {w w':World} {v:Value} {l:List Int}:Sl (cE w v l) (Below w w w') (cE w' v l):=⟨fun x h=>x.keep h⟩
theorem _root_.Go.RowKit.Hid.keep {A H B:Prop} [Sl A H B] (x:Hid A) (h:H):Hid B:=KO (Sl.kp x.out h)
instance {A H B:Prop} [Sl A H B]:HAdd (PLift (Hid A)) (PLift H) (PLift (Hid B)):=⟨fun x h=>⟨x.down.keep h.down⟩⟩
theorem law_Regulators (v u:Value) (n m:Nat) (w:World) (hv:ei w w v n) (hu:ei w w u m) (HT:Tab w w) :
  cB 3 #[v,u] w true:=by
 have Hv:=KO hv;have Hu:=KO hu;replace HT:=KO HT;obtain ⟨Av,cv,rfl,hn,-⟩:=hv;obtain ⟨Au,cu,rfl,hm,-⟩:=hu;have B:Below w w w:=KS _ _
 by_cases hbig:1048576<wrap64 ((n:Int)+(m:Int))
 ·go_enter func3,ntmps3
  go_wp2;go_ret;exact ⟨rfl,B⟩
 go_enter func3,ntmps3
 go_wp2_with fail
 refine (lG _ n _ Hv.out).mono ?_;rintro e w1 ⟨x,rfl,⟨g_,z_,hx⟩,Ka⟩;obtain ⟨x1,x2,rfl,h1,h2⟩:=hx;obtain ⟨a,b,rfl⟩:=rm h1;obtain ⟨l,hP,hl⟩:=EE h2;obtain ⟨A,cap,rfl⟩:=slV hP;clear h1 h2 Hv hbig hn hm;replace B:=B.trans Ka;have b_:=bA w1 (.cells #[a,b] 24);have C:=aG.new w1 #[a,b] 24;replace hP:=KO (hP.below b_);replace B:=p_ B b_;clear b_ Ka
 have F2:=fun h=>F0 (a:=a) (b:=b) (l:=l) h
 have F3:=fun h i k r x hr hx=>Io (a:=a) (b:=b) (l:=l) (i:=i) (k:=k) (r:=r) (x:=x) h hr hx
 obtain ⟨F4,F5⟩:=Fz a b l;have F6:=Im a b l
 have F7:=fun h=>GW (a:=a) (b:=b) (l:=l) h
 have F8:=fun h P hP=>Fj (a:=a) (b:=b) (l:=l) (P:=P) h hP
 have E1:=fun W h=>fz a b (.slice A l.length cap) l W h ω
 have E2:=fun W h=>lL a b (.slice A l.length cap) l W h ω
 have E3:=fun W h=>mS a b (.slice A l.length cap) l W h ω
 have E4:=fun W h=>mo a b (.slice A l.length cap) l W h ω
 have E5:=fun W h=>jv a b (.slice A l.length cap) l W h ω
 have E6:=fun W h=>kR a b (.slice A l.length cap) l W h ω
 have E7:=fun W h0 h=>nZ a b (.slice A l.length cap) l W h0 h ω
 have E8:=fun W h=>oP a b (.slice A l.length cap) l W h ω
 have E9:=fun W h=>jV a b (.slice A l.length cap) l W h ω
 have Vq:=fun W h=>jX a b (.slice A l.length cap) l W h ω
 have Pm:=fun W X Y Z=>jx a b X Y Z W
 generalize M.Kc (dS a b l)=r1,M.Kf (dS a b l)=r2,M.Kg (dS a b l)=r3,M.Kh (dS a b l)=r4,(dS a b l).isSome=t_,iH a b l=V,dK a b l=o_,M.Qt a b l=K_,td a b l=k_,tY a b l=i_,bs (dG (iH a b l))=s_,oV a b=TT at *
 obtain ⟨L,hL⟩:∃ L,L=l.length:=⟨_,rfl⟩
 rw [←hL] at hP F2 F6 hl E1 E2 E3 E4 E5 E6 E7 E8 E9 Vq ⊢;replace hL:=KO hL
 obtain ⟨N,hN⟩:∃ N,N=V.length:=⟨_,rfl⟩
 rw [←hN] at F2;replace hN:=KO hN;replace E1:=KO E1;replace E2:=KO E2;replace E3:=KO E3;replace E4:=KO E4;replace E5:=KO E5;replace E6:=KO E6;replace E7:=KO E7;replace E8:=KO E8;replace E9:=KO E9;replace Vq:=KO Vq;replace Pm:=KO Pm;replace F2:=KO F2;replace F3:=KO F3;replace F5:=KO F5;replace F7:=KO F7;replace F8:=KO F8;have ⟨c0,c1,_,_,_⟩:=C.box
 go_wp2_with fail
 (with_reducible refine (E1.out _ hP.out).mono ?_);rintro e w2 ⟨m1,rfl,M1,Ka⟩
 clear E1 c0 c1;replace ⟨hP,C,B⟩:=Ky Ka hP C B;clear Ka
 obtain ⟨A1,cap1,e_,hA1⟩:=M1.len fun r h=>(F5.out r h).1
 rw [←hN.out] at e_;subst e_;replace M1:=KO M1;replace hA1:=KO hA1;have ⟨c0,c1,_,_,_⟩:=C.box
 go_wp2_with fail
 (with_reducible refine (E2.out _ hP.out).mono ?_);rintro e w3 ⟨m2,rfl,M2,Ka⟩
 clear E2 c0 c1;replace ⟨hP,M1,C,B⟩:=Kl Ka hP M1 C B;clear Ka
 obtain ⟨A2,cap2,e_,hA2⟩:=M2.len fun r h=>(F5.out r h).1
 rw [←hN.out] at e_;subst e_;replace M2:=KO M2;replace hA2:=KO hA2;have ⟨c0,c1,_,_,_⟩:=C.box
 go_wp2_with fail
 with_reducible refine Km (E3.out _ hP.out) fun w4 Ka=>?_
 clear E3 c0 c1;replace ⟨hP,M1,M2,C,B⟩:=Lp Ka hP M1 M2 C B;clear Ka;have b_:=bA w4 (.cells #[r1,r2,r3,r4] 34);have V_:=aG.new w4 #[r1,r2,r3,r4] 34;replace ⟨hP,M1,M2,C,B⟩:=Lp b_ hP M1 M2 C B;have R:=V_;clear b_ V_
 try simp only [KQ] at *
 have ⟨c0,c1,_,_,_⟩:=C.box
 go_wp2_with fail
 with_reducible refine Km (E4.out _ hP.out) fun w5 Ka=>?_
 clear E4 c0 c1;replace ⟨hP,M1,M2,C,R,B⟩:=Ps Ka hP M1 M2 C R B;clear Ka;have b_:=bA w5 (.cells #[r1,r2,r3,r4] 34);have V_:=aG.new w5 #[r1,r2,r3,r4] 34;replace ⟨hP,M1,M2,C,R,B⟩:=Ps b_ hP M1 M2 C R B;have U:=V_;clear b_ V_
 try simp only [KQ] at *
 have ⟨c0,c1,_,_,_⟩:=C.box
 go_wp2_with fail
 with_reducible refine Km (E5.out _ hP.out) fun w6 Ka=>?_
 clear E5 c0 c1;replace ⟨hP,M1,M2,C,R,U,B⟩:=Qs Ka hP M1 M2 C R U B;clear Ka;have ⟨c0,c1,_,_,_⟩:=C.box
 go_wp2_with fail
 with_reducible refine Km (E6.out _ hP.out) fun w7 Ka=>?_
 clear E6 c0 c1;replace ⟨hP,M1,M2,C,R,U,B⟩:=Qs Ka hP M1 M2 C R U B;clear Ka;have ⟨c0,c1,_,_,_⟩:=C.box
 go_wp2_with fail
 with_reducible refine Km (E7.out _ (HT.out.on3 B) hP.out) fun w8 Ka=>?_
 clear E7 c0 c1;replace ⟨hP,M1,M2,C,R,U,B⟩:=Qs Ka hP M1 M2 C R U B;clear Ka;have ⟨c0,c1,_,_,_⟩:=C.box
 go_wp2_with fail
 with_reducible refine Km (E8.out _ hP.out) fun w9 Ka=>?_
 clear E8 c0 c1;replace ⟨hP,M1,M2,C,R,U,B⟩:=Qs Ka hP M1 M2 C R U B;clear Ka;have ⟨c0,c1,_,_,_⟩:=C.box
 go_wp2_with fail
 (with_reducible refine (E9.out _ hP.out).mono ?_);rintro e X4 ⟨kv9,rfl,K1,Ka⟩
 clear E9 c0 c1;replace ⟨hP,M1,M2,C,R,U,B⟩:=Qs Ka hP M1 M2 C R U B;clear Ka;obtain ⟨A9,cap9,rfl,-,-⟩:=K1.seen;replace K1:=KO (K1.base (Nat.zero_le _));have ⟨c0,c1,_,_,_⟩:=C.box
 go_wp2_with fail
 (with_reducible refine (Vq.out _ hP.out).mono ?_);rintro e w11 ⟨kv10,rfl,K2,Ka⟩
 clear Vq c0 c1;replace ⟨hP,M1,M2,K1,C,R,U,B⟩:=kp8 Ka hP M1 M2 K1 C R U B;clear Ka;obtain ⟨P_,SK,rfl,-,-⟩:=K2.seen;replace K2:=KO (K2.base (Nat.zero_le _))
 go_wp2_with fail
 refine (jl _ m _ ((Hu.out.keepW B).HY B.size)).mono ?_;rintro e w12 ⟨x,rfl,⟨g_,z_,hx⟩,Ka⟩;obtain ⟨x1,x2,x3,rfl,h1,h2,h3⟩:=hx;obtain ⟨a',b',rfl⟩:=rm h1;obtain ⟨l',hP',hl'⟩:=EE h2;obtain ⟨A',cap',rfl⟩:=slV hP';obtain ⟨n',hI⟩:=Fk h3 δ;obtain ⟨An,RF,rfl,hr9,-⟩:=id hI;clear h1 h2 h3 Hu;replace ⟨hP,M1,M2,K1,K2,C,R,U,B⟩:=kp9 Ka hP M1 M2 K1 K2 C R U B;clear Ka;replace hP':=KO hP';replace hI:=KO hI;have b_:=bA w12 (.cells #[a',b'] 24);have V_:=aG.new w12 #[a',b'] 24;replace ⟨hP,M1,M2,K1,K2⟩:=Lp b_ hP M1 M2 K1 K2;replace hP':=hP'.keep b_;replace ⟨hI,C,R,U,B⟩:=Lp b_ hI C R U B;have D:=V_;clear b_ V_
 try simp only [KQ] at *
 have F9:=fun h1 h2=>FQ (a:=a') (b:=b') (l:=l') (n:=n') h1 h2
 have Vr:=fun W h h2=>lH a' b' (.slice A' l'.length cap') (.slice An n'.length RF) l' n' W h h2 ω
 have Vs:=fun W h h2=>lJ a' b' (.slice A' l'.length cap') (.slice An n'.length RF) l' n' W h h2 ω
 have Vt:=fun W h h2=>jw a' b' (.slice A' l'.length cap') (.slice An n'.length RF) l' n' W h h2 ω
 have Vu:=fun W h h2=>kS a' b' (.slice A' l'.length cap') (.slice An n'.length RF) l' n' W h h2 ω
 have Sg:=fun W X Y Z=>nY a' b' X Y Z W
 have Si:=fun W X Y Z=>oO a' b' X Y Z W
 replace Sg:=fun W=>Sg W (M.pX (dJ a' b' l' n')) (M.pY (dJ a' b' l' n')) (M.pE (dJ a' b' l' n'))
 replace Si:=fun W=>Si W (M.pX (dJ a' b' l' n')) (M.pY (dJ a' b' l' n')) (M.pE (dJ a' b' l' n'))
 generalize M.pX (dJ a' b' l' n')=p1,M.pY (dJ a' b' l' n')=p2,M.pE (dJ a' b' l' n')=p3,(dJ a' b' l' n').isSome=t1,M.Kc (dg a' b' l' n')=h1,M.Kf (dg a' b' l' n')=h2,M.Kg (dg a' b' l' n')=h3,M.Kh (dg a' b' l' n')=h4,(dg a' b' l' n').isSome=t2 at *
 obtain ⟨L',hL'⟩:∃ L,L=l'.length:=⟨_,rfl⟩
 obtain ⟨N',hN'⟩:∃ L,L=n'.length:=⟨_,rfl⟩
 generalize M.Kc (cI a' b' p1 p2 p3)=q1,M.Kf (cI a' b' p1 p2 p3)=q2,M.Kg (cI a' b' p1 p2 p3)=q3,M.Kh (cI a' b' p1 p2 p3)=q4,(cI a' b' p1 p2 p3).isSome=t3,uj a' b' p1 p2 p3=q5 at *;rw [←hL',←hN'] at Vr Vs Vt Vu;rw [←hL'] at hP' ⊢;rw [←hN'] at hI ⊢;replace hL':=KO hL';replace hN':=KO hN';replace F9:=KO F9;replace Vr:=KO Vr;replace Vs:=KO Vs;replace Vt:=KO Vt;replace Vu:=KO Vu;replace Sg:=KO Sg;replace Si:=KO Si;have ⟨d0,d1,_,_,_⟩:=D.box
 go_wp2_with fail
 with_reducible refine Km (Vr.out _ hP'.out hI.out) fun w13 Ka=>?_
 clear Vr d0 d1;replace ⟨hP,M1,M2,K1,K2⟩:=Lp Ka hP M1 M2 K1 K2;replace hP':=hP'.keep Ka;replace ⟨hI,C,R,U,D,B⟩:=Ps Ka hI C R U D B;clear Ka;have b_:=bA w13 (.cells #[p1,p2,p3] 47);have V_:=aG.new w13 #[p1,p2,p3] 47;replace ⟨hP,M1,M2,K1,K2⟩:=Lp b_ hP M1 M2 K1 K2;replace hP':=hP'.keep b_;replace ⟨hI,C,R,U,D,B⟩:=Ps b_ hI C R U D B;have X:=V_;clear b_ V_
 try simp only [KQ] at *
 have ⟨d0,d1,_,_,_⟩:=D.box
 go_wp2_with fail
 with_reducible refine Km (Vs.out _ hP'.out hI.out) fun w14 Ka=>?_
 clear Vs d0 d1;replace ⟨hP,M1,M2,K1,K2⟩:=Lp Ka hP M1 M2 K1 K2;replace hP':=hP'.keep Ka;replace ⟨hI,C,R,U,D,X,B⟩:=Qs Ka hI C R U D X B;clear Ka;have b_:=bA w14 (.cells #[p1,p2,p3] 47);have V_:=aG.new w14 #[p1,p2,p3] 47;replace ⟨hP,M1,M2,K1,K2⟩:=Lp b_ hP M1 M2 K1 K2;replace hP':=hP'.keep b_;replace ⟨hI,C,R,U,D,X,B⟩:=Qs b_ hI C R U D X B;have Y:=V_;clear b_ V_
 try simp only [KQ] at *
 have ⟨d0,d1,_,_,_⟩:=D.box
 go_wp2_with fail
 with_reducible refine Km (Vt.out _ hP'.out hI.out) fun w15 Ka=>?_
 clear Vt d0 d1;replace ⟨hP,M1,M2,K1,K2⟩:=Lp Ka hP M1 M2 K1 K2;replace hP':=hP'.keep Ka;replace ⟨hI,C,R,U,D,X,Y,B⟩:=kp8 Ka hI C R U D X Y B;clear Ka;have b_:=bA w15 (.cells #[h1,h2,h3,h4] 34);have V_:=aG.new w15 #[h1,h2,h3,h4] 34;replace ⟨hP,M1,M2,K1,K2⟩:=Lp b_ hP M1 M2 K1 K2;replace hP':=hP'.keep b_;replace ⟨hI,C,R,U,D,X,Y,B⟩:=kp8 b_ hI C R U D X Y B;have G:=V_;clear b_ V_
 try simp only [KQ] at *
 have ⟨d0,d1,_,_,_⟩:=D.box
 go_wp2_with fail
 with_reducible refine Km (Vu.out _ hP'.out hI.out) fun w16 Ka=>?_
 clear Vu d0 d1;replace ⟨hP,M1,M2,K1,K2⟩:=Lp Ka hP M1 M2 K1 K2;replace hP':=hP'.keep Ka;replace ⟨hI,C,R,U,D,X,Y,G,B⟩:=kp9 Ka hI C R U D X Y G B;clear Ka;have b_:=bA w16 (.cells #[h1,h2,h3,h4] 34);have V_:=aG.new w16 #[h1,h2,h3,h4] 34;replace ⟨hP,M1,M2,K1,K2⟩:=Lp b_ hP M1 M2 K1 K2;replace hP':=hP'.keep b_;replace ⟨hI,C,R,U,D,X,Y,G,B⟩:=kp9 b_ hI C R U D X Y G B;have H:=V_;clear b_ V_
 try simp only [KQ] at *
 clear hP' hI hl' hr9
 go_upto_region 19 with fail
 go_cut [245] from 159 to 245 (fun x wx=>x=.bool false/\Below (w16.alloc (.cells #[h1,h2,h3,h4] 34)).heap.size (w16.alloc (.cells #[h1,h2,h3,h4] 34)) wx)
 case first=>as_aux_lemma=>
  have F7:=fun h=>(F7.out h).1
  replace F7:=KO F7;have ⟨r0,r1,r2,r3,_,_,_,_,_⟩:=R.aI;have ⟨u0,u1,u2,u3,_,_,_,_,_⟩:=U.aI;have ⟨x0,x1,x2⟩:=X.aM;have ⟨y0,y1,y2⟩:=Y.aM;have ⟨g0,g1,g2,g3,_,_,_,_,_⟩:=G.aI;have ⟨h0,h1,h2,h3,_,_,_,_,_⟩:=H.aI;cases t_
  rotate_left
  obtain rfl:=F7.out rfl
  all_goals
   go_wp2_with first | (go_at_call 20;(refine (BS _ _ V _ _ _ M1.out M2.out F4 F5.out).mono ?_);rintro e wp ⟨rfl,hbp⟩;replace ⟨R,U,X,Y,G,H⟩:=Ps hbp R U X Y G H;(have ⟨r0,r1,r2,r3,_,_,_,_,_⟩:=R.aI);(have ⟨u0,u1,u2,u3,_,_,_,_,_⟩:=U.aI);(have ⟨x0,x1,x2⟩:=X.aM);(have ⟨y0,y1,y2⟩:=Y.aM);(have ⟨g0,g1,g2,g3,_,_,_,_,_⟩:=G.aI);(have ⟨h0,h1,h2,h3,_,_,_,_,_⟩:=H.aI)) | (go_at_call 21;(refine (GT _ _ _ _ _ _ (K1.out.below hbp).seen (K2.out.below hbp).seen).mono ?_);rintro e wq ⟨rfl,hbq⟩;replace ⟨R,U,X,Y,G,H⟩:=Ps hbq R U X Y G H;(have ⟨r0,r1,r2,r3,_,_,_,_,_⟩:=R.aI);(have ⟨u0,u1,u2,u3,_,_,_,_,_⟩:=U.aI);(have ⟨x0,x1,x2⟩:=X.aM);(have ⟨y0,y1,y2⟩:=Y.aM);(have ⟨g0,g1,g2,g3,_,_,_,_,_⟩:=G.aI);(have ⟨h0,h1,h2,h3,_,_,_,_,_⟩:=H.aI))
   go_meet
   exact ⟨rfl,p_ hbp hbq⟩
 case rest=>as_aux_lemma=>
 obtain ⟨rfl,Ka⟩:=hcut;generalize wc=wx at *;clear U G M1 K1 K2 hA1;replace ⟨hP,M2,C,R,D,X,Y,H,B⟩:=kp9 Ka hP M2 C R D X Y H B;clear Ka
 go_upto_region 21 with fail
 go_cut [249] from 246 to 249 (fun x wy=>x=.bool (t1 && t2)/\wy=wx)
 case first=>
  cases t1
  all_goals
   go_wp2
   go_meet
   exact ⟨rfl,rfl⟩
 case rest=>
 obtain ⟨rfl,rfl⟩:=hcut;generalize wc=wx at *
 obtain ⟨c_,Kb⟩:∃ c,(t1 && t2)=c:=⟨_,rfl⟩
 rw [Kb];replace Kb:=KO Kb
 go_upto_if 249 with fail
 go_cut [38,39,40,41,42,43] from 250 to 288 (fun _ _ _ _ _ _ wy=>Below wx wx wy)
 case first=>as_aux_lemma=>
  cases c_ with
  | false=>
   go_wp2
   go_meet
   exact KS _ _
  | true=>
  obtain ⟨rfl,rfl⟩:=(Bool.and_eq_true _ _).mp Kb.out;clear Kb;obtain ⟨lo,hi,lo',hi',s1,s2,j1,j2,rfl,rfl,rfl,rfl,rfl,rfl,rfl,rfl,rfl⟩:=F9.out rfl rfl;obtain ⟨-,u1,u2⟩:=bM s1;obtain ⟨-,u3,u4⟩:=bM s2;obtain ⟨u5,-⟩:=bM s1;obtain ⟨u6,-⟩:=bM s2
  have Q1:=fun W=>zY hi lo' W ω ω ω ω
  have Q2:=fun W=>zY hi' lo W ω ω ω ω
  rw [decide_eq_false ω] at Q1 Q2;replace Q1:=KO Q1;replace Q2:=KO Q2;clear F9 u1 u2 u3 u4 u5 u6 j1 j2 s1 s2;generalize M.pn lo'=c1',M.pd lo'=c2',M.pn hi'=c3',M.pd hi'=c4',M.pn lo=a1,M.pd lo=a2,M.pn hi=a3,M.pd hi=a4 at *;have ⟨d0,d1,_,_,_⟩:=D.box;have ⟨x0,x1,x2⟩:=X.aM
  go_wp2_with fail
  with_reducible refine G_ Sg fun w20 RO=>?_
  clear Sg d0 d1 x0 x1 x2;replace ⟨D,X,Y,H⟩:=Kl RO D X Y H;have b_:=bA w20 (.cells #[c1',c2',c3',c4'] 34);have O1:=aG.new w20 #[c1',c2',c3',c4'] 34;replace ⟨D,X,Y,H,RO⟩:=Lp b_ D X Y H RO;clear b_;have ⟨d0,d1,_,_,_⟩:=D.box;have ⟨y0,y1,y2⟩:=Y.aM
  go_wp2_with fail
  with_reducible refine G_ Si fun w21 Ms=>?_
  clear Si d0 d1 y0 y1 y2;replace ⟨H,O1⟩:=Kt Ms H O1;have b_:=bA w21 (.cells #[c1',c2',c3',c4'] 34);have O2:=aG.new w21 #[c1',c2',c3',c4'] 34;replace ⟨H,O1⟩:=Kt b_ H O1;replace Ms:=p_ RO Ms;replace Ms:=p_ Ms b_;clear b_;have ⟨h_0,h_1,h_2,h_3,_,_,_,_,_⟩:=H.aI;have ⟨k_0,k_1,k_2,k_3,_,_,_,_,_⟩:=O1.aI;have ⟨m_0,m_1,m_2,m_3,_,_,_,_,_⟩:=O2.aI
  go_wp2_with first | (with_reducible refine G_ Q1 fun w22 hb22=>?_;replace ⟨Ms,H,O1,O2⟩:=Kl hb22 Ms H O1 O2;(have ⟨h_0,h_1,h_2,h_3,_,_,_,_,_⟩:=H.aI);(have ⟨k_0,k_1,k_2,k_3,_,_,_,_,_⟩:=O1.aI);(have ⟨m_0,m_1,m_2,m_3,_,_,_,_,_⟩:=O2.aI)) | (with_reducible refine G_ Q2 fun w23 hb23=>?_;replace Ms:=p_ Ms hb23)
  go_meet
  exact Ms
 case rest=>as_aux_lemma=>
 generalize wc=wy at *;clear D X Y H Sg Si F9 Kb;replace ⟨hP,M2,C,R,B⟩:=Lp hcut hP M2 C R B;clear hcut
 go_upto_if 289 with fail
 go_cut [44,45,46,47] from 290 to 319 (fun _ _ _ _ wa=>Below wy wy wa)
 case first=>as_aux_lemma=>
  cases o_ with
  | false=>
   go_wp2
   go_meet
   exact KS _ _
  | true=>
  obtain ⟨rfl,f2⟩:=F2.out rfl;have f3:=F3.out rfl;replace f2:=KO f2;replace f3:=KO f3;clear F2 F3 F6 F7 F8 Pm;go_wp2
  go_loopw [292] (fun vi wr=>∃ k:Nat,k<=N/\vi=.int .i64 k/\Below wy wy wr) (fun vi _=>N - (intOf vi).toNat)
  case atStart=>exact ⟨0,ω,rfl,KS _ _⟩
  case round=>
  obtain ⟨k,hk,rfl,hbr⟩:=hrel
  by_cases hlt:k<N
  ·obtain ⟨r,hr⟩:∃ r,Hid (V[k]?=some r):=⟨_,KO (List.getElem?_eq_getElem (by have:=hN.out;omega))⟩
   have hrl:=f2.out k r hr.out;obtain ⟨g,rfl⟩:=hA2.out k r hr.out;have hM:=KO (M2.out.below hbr);obtain ⟨g2,TF,e1,hq⟩:=hM.out.oI hr.out ω;replace hq:=KO hq;rw [hrl] at e1;replace hrl:=KO hrl;go_wp2
   go_loopw [304] (fun vj wq=>∃ j:Nat,j<=N/\vj=.int .i64 j/\Below wr wr wq) (fun vj _=>N - (intOf vj).toNat)
   case atStart=>exact ⟨0,ω,rfl,KS _ _⟩
   case round=>
   obtain ⟨j,hj,rfl,hbq⟩:=hrel
   by_cases hjl:j<N
   ·obtain ⟨q,hqj⟩:∃ q,Hid (r[j]?=some q):=⟨_,KO (List.getElem?_eq_getElem (by have:=hrl.out;omega))⟩
    obtain ⟨r',hr',hx'⟩:=f3.out k j r q hr.out hqj.out;obtain ⟨g3,cap4,e3,hq'⟩:=hM.out.oI hr' (by have:=f2.out j r' hr';omega);rw [f2.out j r' hr'] at e3;obtain ⟨d0,d1,d2,d3⟩:=hq.out j q hqj.out;obtain ⟨f4,f5,f6,f7⟩:=hq' k q hx';obtain ⟨y1,y2,y3,y4⟩:=q
    dsimp only at d0 d1 d2 d3 f4 f5 f6 f7
    clear hq' hr' hx';have b_:=bA wr (.cells #[y1,y2,y3,y4] 34);have O1:=aG.new wr #[y1,y2,y3,y4] 34;have hbb:=p_ hbq b_;have ⟨k_0,k_1,k_2,k_3,_,_,_,_,_⟩:=O1.aI;replace d0:=aE hbq d0;replace d1:=aE hbq d1;replace d2:=aE hbq d2;replace d3:=aE hbq d3;have e5:=aE hbb e1;replace e3:=aE hbb e3;replace f4:=aE hbb f4;replace f5:=aE hbb f5;replace f6:=aE hbb f6;replace f7:=aE hbb f7;clear O1 b_;go_wp2
    go_quiet (fail)
    go_wp2
    go_roundw
    case rel=>exact ⟨j+1,ω,ν,aP hbb _⟩
    case measure=>simp [intOf];omega
   obtain rfl:j=N:=ω
   exact wat8
  obtain rfl:k=N:=ω
  go_wp2
  go_meet
  exact hbr
 case rest=>as_aux_lemma=>
 generalize wc=wa at *;clear M2 hA2 F2 F3 F4 F5;replace ⟨hP,C,R,B⟩:=Kl hcut hP C R B;clear hcut
 go_upto_if 320 with fail
 go_cut [48,49] from 321 to 333 (fun _ _ wb=>Below wa wa wb)
 case first=>as_aux_lemma=>
  cases t_ with
  | false=>
   go_wp2
   go_meet
   exact KS _ _
  | true=>
  obtain ⟨-,lo,hi,s1,rfl,rfl,rfl,rfl,hi_⟩:=F7.out rfl
  have S1:=fun W=>tX lo hi W s1
  have hs2:i_=decide ((if 0<lo then (1:Int) else if hi<0 then -1 else 0)=1):=by
   rw [hi_]
   by_cases h1:0<lo
   ·simp [h1]
   by_cases h2:hi<0 <;> simp [h1,h2]
  generalize (if 0<lo then (1:Int) else if hi<0 then -1 else 0)=sg at *;clear hi_ s1 F8 F6 F7 Pm;generalize M.pn lo=a1,M.pd lo=a2,M.pn hi=a3,M.pd hi=a4 at *;replace S1:=KO S1;have ⟨r0,r1,r2,r3,_,_,_,_,_⟩:=R.aI;cases i_
  ·have hsg:¬ sg=1:=by simpa using hs2
   clear hs2
   go_wp2_with (with_reducible refine G_ S1 fun w30 Ta=>?_)
   go_meet
   exact Ta
  have hsg:sg=1:=by simpa using hs2
  clear hs2;subst hsg
  go_wp2_with (with_reducible refine G_ S1 fun w30 Ta=>?_)
  go_meet
  exact Ta
 case rest=>as_aux_lemma=>
 generalize wc=wb at *;clear R F7;replace ⟨hP,C,B⟩:=Ky hcut hP C B;clear hcut
 go_upto_region 43 with fail
 go_cut [337] from 334 to 337 (fun x wy=>x=.bool (t_ && i_)/\wy=wb)
 case first=>
  cases t_
  all_goals
   go_wp2
   go_meet
   exact ⟨rfl,rfl⟩
 case rest=>
 obtain ⟨rfl,rfl⟩:=hcut;generalize wc=wb at *
 obtain ⟨c_,Kb⟩:∃ c,(t_ && i_)=c:=⟨_,rfl⟩
 rw [Kb];replace Kb:=KO Kb
 go_upto_if 337 with fail
 go_cut [51,52,53] from 338 to 355 (fun _ _ _ wc=>Below wb wb wc)
 case first=>as_aux_lemma=>
  cases c_ with
  | false=>
   go_wp2
   go_meet
   exact KS _ _
  | true=>
  obtain ⟨rfl,rfl⟩:=(Bool.and_eq_true _ _).mp Kb.out;clear Kb;replace F8:=KO (F8.out rfl);clear F6;have hP0:=hP.out;obtain ⟨pa,NE,e0,hpv⟩:=hP0;replace hL:=hL.out;cases e0
  go_wp2
  go_loopw [340] (fun vi wr=>∃ k:Nat,k<=l.length/\vi=.int .i64 k/\Below wb wb wr) (fun vi _=>l.length - (intOf vi).toNat)
  case atStart=>exact ⟨0,ω,rfl,KS _ _⟩
  case round=>
  obtain ⟨k,hk,rfl,hbr⟩:=hrel
  by_cases hlt:k<l.length
  ·have hq:l[k]?=some l[k]:=List.getElem?_eq_getElem hlt
   obtain ⟨g,o9,rfl,Mv⟩:=hpv.resolve_left (fun h=>by rw [h] at hlt;simp at hlt);obtain ⟨p0,q0,x0⟩:=Mv k _ hq;obtain ⟨t5,t6⟩:=F8.out _ (List.mem_of_getElem? hq)
   have Pm:=fun W=>Pm.out W (l[k]).1 (l[k]).2.1 (l[k]).2.2
   rw [t5,t6] at Pm;generalize l[k]=p at *;obtain ⟨y1,y2,y3⟩:=p
   dsimp only at p0 q0 x0 Pm
   replace Pm:=KO Pm;replace p0:=aE hbr p0;replace q0:=aE hbr q0;replace x0:=aE hbr x0;have b_:=bA wr (.cells #[y1,y2,y3] 47);have O1:=aG.new wr #[y1,y2,y3] 47;have hbb:=p_ hbr b_;have ⟨k_0,k_1,k_2⟩:=O1.aM;have ⟨c0,c1,_,_,_⟩:=(C.keep hbb).box;clear O1 b_ hq Mv hpv
   go_wp2_with (with_reducible refine G_ Pm fun w40 hb40=>?_)
   go_roundw
   case rel=>exact ⟨k+1,ω,ν,p_ hbb hb40⟩
   case measure=>simp [intOf];omega
  obtain rfl:k=l.length:=ω
  go_wp2
  go_meet
  exact hbr
 case rest=>as_aux_lemma=>
 replace B:=p_ B hcut;have hd:decide ((K_.length:Int)<=(L:Int))=true:=decide_eq_true ω;clear hP C Pm F8 hcut Kb;cases k_
 all_goals
  go_wp2;go_ret;exact ⟨rfl,B⟩
end
section
open Go.ChangeShapes Go.WideShapes Go.ChangeAt Go.RowKit Go.Joins Go.Deep open Gr M
theorem open_bytes {H:Type} {enc:TypeId × Value->H} {P:Program} {w:World} {base b0:Nat} {held:Bool} {r:Reach} {t te:TypeId} {v:Value} {d:DataW H} {ps:List MemPlace}
  (ht:P.underlying t=some (.slice te)) (he:P.underlying te=some (.int .u8)) (hc:P.cellsOf te=1) (hv:Value.okWide P w r b0 t v) (h:DataW.Trod enc P w base (fun _=>true) held t v d ps) :
  ∃ n:Nat,ei w w v n:=by
 obtain ⟨a1,len,cap,rfl⟩:=okWide_slice ht hv;obtain ⟨fuel,hf⟩:=h
 rcases open_ints ht he hc hf with ⟨hcs,hx⟩ | ⟨a,len',cap',zs,hcs,_,hl,hm,hz,hx,hcell,hwz⟩
 ·simp [Value.cells] at hcs
  obtain ⟨rfl,rfl,rfl⟩:=hcs;exact ⟨0,none,0,rfl,ω,fun j hj=>absurd hj ω⟩
 simp [Value.cells] at hcs
 obtain ⟨rfl,rfl,rfl⟩:=hcs;simp only [if_true] at hz;refine ⟨len,some a,cap,rfl,by unfold maxLen at hm;omega,fun j hj=>?_⟩;obtain ⟨ab,ao,spot⟩:=a
 have hspot:spot=none:=by simpa [Addr.add] using World.cell?_spot (hcell 0 ω)
 subst hspot;have hcj:=hcell j ω;rw [Addr.add_lit] at hcj
 have hb:0<=zs.getD j 0/\zs.getD j 0<=255:=by
  have:=range_u8 hwz j;simp only [List.getD_eq_getElem?_getD] at this ⊢;omega
 exact ⟨ab,ao,zs.getD j 0,rfl,World.block_lt_of_cell? w _ hcj,hcj,hb.1,hb.2⟩
end
end Go.Proofs.YtlnjcilaflfnlaaGreatDoor
