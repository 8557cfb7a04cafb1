/-
  Joined texts: contracts and plain lemmas.
-/
import Derived.Test.YtkalaljcbmkbmaaGreatB1
import Derived.Test.YtkalaljcbmkbmaaGreatB17
import Derived.Test.YtkalaljcbmkbmaaGreatB19
import Derived.Test.YtkalaljcbmkbmaaGreatB13
import Derived.Deep.DeepCutAuto
import Derived.Test.YtkalaljcbmkbmaaGreatB16
import Derived.Test.YtkalaljcbmkbmaaGreatB2
set_option linter.unusedSimpArgs false
set_option linter.unusedVariables false
set_option maxRecDepth 100000
set_option maxHeartbeats 8000000
namespace Go.Proofs.YtkalaljcbmkbmaaGreat
open _root_.Go.Proofs.Tryz
section
open Go.RowKit open Gr M Rg Rw Wh
theorem Rg.nf {a b:Bool} (h:b=true->a=true) (ha:a=false):b=false:=by
 cases b
 ·rfl
 rw [h rfl] at ha;cases ha
theorem Rg.ff {a:Bool} {p:Prop} (h:a=false) (h':a=true):p:=by rw [h] at h';cases h'
structure Kf (W0:World) (xs:List Int) (n:Int) (rs:List Int) (l:Nat->Bool) (v:Nat->Value) (w:World):Prop where
 B:Below W0 W0 w
 c:l 3=true->l 6=false->aF w W0 (v 3) xs
 t:l 5=true->l 6=false->∃ H,v 5=.slice (some ⟨H,0,none⟩) 1 1/\H<w.heap.size/\Rw.From EI w (some ⟨H,0,none⟩) [n]
 a:l 6=true->aF w W0 (v 6) (xs ++ [n])
 r:l 8=true->ei w w (v 8) rs
 s:l 9=true->ei w w (v 9) rs
namespace Kf
variable {W0:World} {xs rs:List Int} {n:Int} {l l':Nat->Bool} {v v':Nat->Value} {w w':World}
theorem start:Kf W0 xs n rs (fun _=>false) v { W0 with drawn:=W0.drawn+1 }:=⟨(IX _ _).drew,σ,σ,σ,σ,σ⟩
theorem congr (h:∀ i ∈ [3,5,6,8,9],l i=l' i/\v i=v' i) (j:Kf W0 xs n rs l v w):Kf W0 xs n rs l' v' w:=by
 have h3:=h 3 σ;have h5:=h 5 σ;have h6:=h 6 σ;have h8:=h 8 σ;have h9:=h 9 σ;obtain ⟨jB,jc,jt,ja,jr,js⟩:=j;rw [h3.1,h3.2,h6.1] at jc;rw [h5.1,h5.2,h6.1] at jt;rw [h6.1,h6.2] at ja;rw [h8.1,h8.2] at jr;rw [h9.1,h9.2] at js;exact ⟨jB,jc,jt,ja,jr,js⟩
theorem keep (j:Kf W0 xs n rs l v w) (hb:Below w w w'):Kf W0 xs n rs l v w':=
 ⟨j.B.trans (hb.mono j.B.size),fun h1 h2=>(j.c h1 h2).below hb,fun h1 h2=>by
  obtain ⟨H,e,hH,hf⟩:=j.t h1 h2
  exact ⟨H,e,Nat.lt_of_lt_of_le hH hb.size,hf.keep hH hb⟩,fun h=>(j.a h).below hb,fun h=>((j.r h).below hb).mono hb.size,fun h=>((j.s h).below hb).mono hb.size⟩
theorem own {u:Value} (j:Kf W0 xs n rs l v w) (hb:Below w w w') (hu:aF w' w u xs):Kf W0 xs n rs (Rg.upd l 3) (cr v 3 u) w':=
 have k:=j.keep hb
 ⟨k.B,fun _ _=>hu.base j.B.size,k.t,k.a,k.r,k.s⟩
theorem lit (j:Kf W0 xs n rs l v w):Kf W0 xs n rs (Rg.upd l 5) (cr v 5 (.slice (some ⟨w,0,none⟩) 1 1)) (w.alloc (.cells #[n] 3)):=
 have k:=j.keep (bA w (.cells #[n] 3))
 ⟨k.B,k.c,fun _ _=>⟨w,rfl,σ,Rw.From.lit EI w n _ rfl⟩,k.a,k.r,k.s⟩
theorem app {u:Value} (j:Kf W0 xs n rs l v w) (h3:l 3=true) (h6:l 6=false) (h8:l 8=false) (h9:l 9=false) (hg:w.grownBy w' (v 3).ownBlock) (hu:aF w' W0 u (xs ++ [n])):Kf W0 xs n rs (Rg.upd l 6) (cr v 6 u) w':=
 ⟨j.B.grown hg j.B.size (fun k hk=>((j.c h3 h6).lt k hk).1),fun _ h=>(by cases h),fun _ h=>(by cases h),fun _=>hu,fun h=>Rg.ff h8 h,fun h=>Rg.ff h9 h⟩
theorem res {u:Value} (j:Kf W0 xs n rs l v w) (hb:Below w w w') (hu:ei w' w' u rs):Kf W0 xs n rs (Rg.upd l 8) (cr v 8 u) w':=
 have k:=j.keep hb
 ⟨k.B,k.c,k.t,k.a,fun _=>hu,k.s⟩
theorem take (j:Kf W0 xs n rs l v w) (h8:l 8=true):Kf W0 xs n rs (Rg.upd l 9) (cr v 9 (v 8)) w:=⟨j.B,j.c,j.t,j.a,j.r,fun _=>j.r h8⟩
end Kf
theorem BG (a b m:Int) (v:Value) (l:List Pt) (hn:l.length<=3) (hl1:1<=l.length) (hm1:1<=m) (hm2:m<=3):∀ (d:Nat) (xs:List Int) (nv:Value) (w:World) (base:Nat),xs.length+d=l.length->dj w v l->aF w base nv xs->
  Calls prog 36 #[.agg #[a,b],v,nv,m] w fun e w'=>∃ v',e=.returned v'/\ei w' w' v' ((M.LE a b l m d xs).getD [])/\Below w w w':=by
 intro d
 induction d with
 | zero=>
  intro xs nv w base hxl hx hns
  have PI:=fun W h1 h2=>kL a b v nv l xs W h1 h2 ω
  have hre:M.Jw a b l xs=(fK a b l xs).any fun s=>M.nz xs && dD a s:=rfl
  unfold M.LE;obtain ⟨sa,cap,rfl⟩:=OW hx;obtain ⟨na,JI,rfl,hnl,hnc⟩:=hns.seen;replace hx:=IU hx;replace hns:=IU hns.seen;obtain ⟨wc,hw3,C,B⟩:=cf w #[a,b] 25;have ⟨c0,c1,_,_,_⟩:=C.box;obtain hxl:xs.length=l.length:=hxl;rw [hxl] at PI hns ⊢
  cases hr:M.Jw a b l xs with
  | false=>
   rw [hr] at PI;generalize l.length=L,(fK a b l xs).isSome=o at *;replace PI:=IU PI;clear hr hre;go_enter func36,ntmps36
   go_wp2_with (go_at_call 44;(with_reducible refine (PI.out _ (hx.out.below B) (((hns.out.below B).mono B.size).ints (IY _))).mono ?_);rintro e w4 ⟨rfl,hb4⟩;replace B:=j_ B hb4)
   go_ret;exact ⟨_,rfl,(aF.nil _ w).seen,B⟩
  | true=>
  rw [hr] at PI hre
  obtain ⟨o,ho⟩:∃ o,(fK a b l xs).isSome=o:=⟨_,rfl⟩
  rw [ho] at PI
  obtain rfl:o=true:=by
   rw [←ho]
   cases h:fK a b l xs with
   | none=>rw [h] at hre;cases hre
   | some s=>rfl
  generalize l.length=L at *;replace PI:=IU PI;clear hr hre ho;go_enter func36,ntmps36
  go_wp2_with (go_at_call 44;(with_reducible refine (PI.out _ (hx.out.below B) (((hns.out.below B).mono B.size).ints (IY _))).mono ?_);rintro e w4 ⟨rfl,hb4⟩;replace B:=j_ B hb4)
  go_ret;exact ⟨_,rfl,(hns.out.below B).mono B.size,B⟩
 | succ d ih=>
 intro xs nv w base hxl hx hns
 have hln:∀ n r,M.LE a b l m d (xs ++ [n])=some r->r.length=l.length:=fun n r h=>by rw [qg d _ r h,List.length_append,List.length_singleton];omega
 obtain ⟨res,hres⟩:∃ r,M.LE a b l m (d+1) xs=r:=⟨_,rfl⟩
 rw [hres];unfold M.LE at hres
 have hnx:=fun n h=>Ao (F:=M.LE a b l m d) (xs:=xs) (m:=m) (n:=n) h
 rw [show (2*m+1).toNat=(m+1 - -m).toNat by omega] at hres
 have PF:=fun n v' W base h1 h2=>ih (xs ++ [n]) v' W base (by rw [List.length_append,List.length_singleton];omega) h1 h2
 generalize M.LE a b l m d=F at *
 have PO:=fun W h=>wg xs nv W base h ω
 obtain ⟨sa,cap,rfl⟩:=OW hx;obtain ⟨na,JI,rfl,-,-⟩:=hns.seen
 have hne:((xs.length:Int) == (l.length:Int))=false:=by rw [beq_eq_false_iff_ne];omega
 obtain ⟨wc,hw3,C,B⟩:=cf w #[a,b] 25;have ⟨c0,c1,_,_,_⟩:=C.box
 obtain ⟨L,hL⟩:∃ L,L=l.length:=⟨_,rfl⟩
 rw [←hL] at hx PF hln hne hl1 hn ⊢
 obtain ⟨K,hK⟩:∃ K,K=xs.length:=⟨_,rfl⟩
 have hxs:xs.length<=3:=ω
 rw [←hK] at PO hns hne ⊢;replace hx:=IU hx;replace hns:=IU hns;replace hres:=IU hres;replace hnx:=IU hnx;replace hln:=IU hln;replace PF:=IU PF;replace PO:=IU PO;clear ih hxl hL hK;go_enter func36,ntmps36
 go_wp2
 go_loopw [11] (fun vi wq=>∃ n:Int,-m<=n/\n<=m+1/\vi=.int .i64 n/\Hid (M.Nw F xs (m+1 - n).toNat n=res)/\aG wq w 25 #[a,b]/\Below w w wq) (fun vi _=>(m+1 - intOf vi).toNat)
 case atStart=>exact ⟨-m,ω,ω,rfl,hres,C,B⟩
 case round=>
 clear C B c0 c1 hres;obtain ⟨n,hn1,hn2,rfl,hs,C,B⟩:=hrel
 by_cases hlt:n<=m
 ·have hst:=(hnx.out n hlt).symm.trans hs.out
  have hlr:=hln.out n;replace PF:=PF.out n
  obtain ⟨r,hr⟩:∃ r,F (xs ++ [n])=r:=⟨_,rfl⟩
  rw [hr] at hst hlr PF;replace hst:=IU hst;replace hlr:=IU hlr;replace PF:=IU PF;clear hr hs
  go_upto_region 9 with fail
  refine FS (fun l_ v_ W=>Kf wr xs n (r.getD []) l_ v_ W) [3,5,6,8,9] [.agg #[a,b],.slice sa L cap,.slice na K JI,undef,.int .i64 n,undef,undef,.int .i64 m,undef,undef] κ κ δ (fun l1 l2 v1 v2 W h j=>Kf.congr h j) (fun _=>Kf.start) ⟨?_,?_,?_,?_,?_,?_,?_,?_,?_,?_,trivial⟩ ?_
  ·unfold fJ
   intro zZ w_ l_ d_ hJ JL JV I5 Iu hr;refine ⟨rfl,?_⟩;rw [if_neg δ];have e4:zZ.tmps[4]?=some (.pointer (some ⟨w,0,none⟩)):=hr 4 δ;have hs_:=C.keep hJ.B;have ⟨k0,k1,_,_,_⟩:=hs_.box
   (first | (go_simp;done) | (go_simp;omega) | (go_simp;rfl))
  ·unfold fJ
   intro zZ w_ l_ d_ hJ JL JV I5 Iu hr;refine ⟨rfl,?_⟩;rw [if_neg δ];have e1:zZ.tmps[1]?=some (.slice sa L cap):=hr 1 δ;go_simp
  ·unfold fJ
   intro zZ w_ l_ d_ hJ JL JV I5 Iu hr;refine ⟨rfl,?_⟩;rw [if_neg δ];have e2:zZ.tmps[2]?=some (.slice na K JI):=hr 2 δ;go_simp
  ·unfold fJ
   intro zZ w_ l_ d_ hJ JL JV I5 Iu hr;have e39:zZ.tmps[39]?=some (.slice na K JI):=hr 39 δ
   have ef:∀ f,zZ.eval (.func f)=.func (.func f) #[] #[]:=fun _=>rfl
   refine ⟨rfl,?_⟩;rw [if_pos δ];refine ll τ ?_;refine (PO.out _ (hns.out.below (B.trans (hJ.B.mono B.size)))).mono ?_;rintro e Q1 ⟨u_,rfl,Jv,In⟩;exact ⟨u_,rfl,hJ.own In Jv⟩
  ·unfold fJ
   intro zZ w_ l_ d_ hJ JL JV I5 Iu hr;refine ⟨rfl,?_⟩;rw [if_neg δ];have e11:zZ.tmps[11]?=some (.int .i64 n):=hr 11 δ;go_simp
  ·unfold fJ
   intro zZ w_ l_ d_ hJ JL JV I5 Iu hr;have e41:zZ.tmps[41]?=some (.int .i64 n):=hr 41 δ;refine ⟨rfl,?_⟩;rw [if_pos δ];refine ut (x:=.slice (some ⟨w_,0,none⟩) 1 1) (ob:=.cells #[n] 3) (by (first | (go_simp;done) | (go_simp;omega) | (go_simp;rfl))) ?_;exact hJ.lit
  ·unfold fJ
   intro zZ w_ l_ d_ hJ JL JV I5 Iu hr;have e40:zZ.tmps[40]?=some (d_ 3):=hr 40 δ;have e42:zZ.tmps[42]?=some (d_ 5):=hr 42 δ;refine ⟨rfl,?_⟩;rw [if_pos δ]
   have n8_:=(JV 8 κ)
   obtain ⟨H_,eH_,hH_,XH⟩:=hJ.t (I5 5 κ) JL;rw [eH_] at e42;obtain ⟨v_,Q1,OK,OL,OM,-⟩:=qE He 29 [n] ⟨H_,0,none⟩ 1 XH (tW.1 (hJ.c (I5 3 κ) JL)) hJ.B.size (by simp only [List.length_singleton];omega);refine gH (x:=v_) (w2:=Q1) (kD rfl (Rg.ev e40) (Rg.ev e42) OK) ?_;exact hJ.app (I5 3 κ) JL n8_ (Rg.nf (Iu 8 9 κ) n8_) OM (tW.2 OL)
  ·unfold fJ
   intro zZ w_ l_ d_ hJ JL JV I5 Iu hr;refine ⟨rfl,?_⟩;rw [if_neg δ];have e3:zZ.tmps[3]?=some (.int .i64 m):=hr 3 δ;go_simp
  ·unfold fJ
   intro zZ w_ l_ d_ hJ JL JV I5 Iu hr;have e37:zZ.tmps[37]?=some (.agg #[a,b]):=hr 37 δ;have e38:zZ.tmps[38]?=some (.slice sa L cap):=hr 38 δ;have e43:zZ.tmps[43]?=some (d_ 6):=hr 43 δ;have e44:zZ.tmps[44]?=some (.int .i64 m):=hr 44 δ
   have ef:∀ f,zZ.eval (.func f)=.func (.func f) #[] #[]:=fun _=>rfl
   refine ⟨rfl,?_⟩;rw [if_pos δ];refine ll τ ?_;refine (PF.out _ _ _ (hx.out.below (B.trans (hJ.B.mono B.size))) (hJ.a (I5 6 κ))).mono ?_;rintro e Q1 ⟨u_,rfl,Jv,In⟩;exact ⟨u_,rfl,hJ.res In Jv⟩
  ·unfold fJ
   intro zZ w_ l_ d_ hJ JL JV I5 Iu hr;have e45:zZ.tmps[45]?=some (d_ 8):=hr 45 δ;refine ⟨rfl,?_⟩;rw [if_pos δ];refine gH (x:=d_ 8) (w2:=w_) (by (first | (go_simp;done) | (go_simp;omega) | (go_simp;rfl))) ?_;exact hJ.take (I5 8 κ)
  intro vals wz hJ hv;simp only [bD,Rg.fill,Act.put,Nat.reduceAdd];clear hv;obtain ⟨a9,c9,e9,-,-⟩:=id (hJ.s rfl);have X6:=IU (hJ.s rfl);have Bz:=hJ.B;rw [e9] at X6 ⊢;replace ⟨C,B⟩:=Im Bz C B;clear hJ e9
  cases r with
  | none=>
   rw [show ((none:Option (List Int)).getD []).length=0 from rfl];go_wp2
   go_roundw
   case rel=>exact ⟨n+1,ω,ω,ν,hst,C,B⟩
   case measure=>simp [intOf];omega
  | some x=>
  obtain rfl:some x=res:=hst.out;rw [show ((some x:Option (List Int)).getD []).length=x.length from rfl,hlr.out x rfl];rw [show ((some x:Option (List Int)).getD []).length=x.length from rfl,hlr.out x rfl] at X6
  have hpos:0<(L:Int):=ω
  go_wp2;go_ret;exact ⟨_,rfl,X6.out,B⟩
 obtain rfl:n=m+1:=ω
 rw [show (m+1 - (m+1)).toNat=0 by omega] at hs;obtain rfl:none=res:=hs.out;go_wp2;go_ret;exact ⟨_,rfl,(aF.nil _ w).seen,B⟩
theorem j8 (a b m:Int) (v:Value) (l:List Pt) (w:World) (hx:dj w v l) (hn:l.length<=4000000) :
  Calls prog 8 #[.agg #[a,b],v,m] w fun e w'=>∃ v',e=.returned (.tuple #[v',.bool (M.MP a b l m).isSome])/\ei w' w' v' ((M.MP a b l m).getD [])/\Below w w w':=by
 have PL:=fun W h=>oH a b v l W h hn
 have PN:∀ W,cP 35 #[m,(1:Int),(3:Int)] W (M.ins m 1 3):=fun W=>dW m 1 3 W
 have PF:=fun h1 h2 h3 h4 W h=>BG a b m v l h1 h2 h3 h4 l.length [] (.slice none 0 0) W W (Nat.zero_add _) h (aF.nil _ _)
 have hpl:=fun h=>cZ (a:=a) (b:=b) (l:=l) h
 have hln:=fun r h=>qg (a:=a) (b:=b) (m:=m) (l:=l) l.length [] r h
 obtain ⟨sa,cap,rfl⟩:=OW hx
 obtain ⟨k,hk⟩:∃ k,k=l.length:=⟨_,rfl⟩
 rw [←hk] at hx PL PF hpl hln ⊢;obtain ⟨wc,hw3,C,B⟩:=cf w #[a,b] 25;have ⟨c0,c1,_,_,_⟩:=C.box;replace hx:=IU hx
 cases hi:M.ins m 1 3 <;> cases hp:bP a b l <;> by_cases h3:3<k
 iterate 7
  rw [hi] at PN;rw [hp] at PL;rw [show M.MP a b l m=none from if_neg (by rw [hp,hi,←hk];simp <;> omega)];replace PL:=IU PL;replace PN:=IU PN;clear PF hpl hln hi hp hk;go_enter func8,ntmps8
  go_wp2_with first | (go_at_call 34;with_reducible refine p_ (PL.out _ (hx.out.below B)) fun w4 hb4=>?_;replace ⟨B,C⟩:=Im hb4 B C;(have ⟨c0,c1,_,_,_⟩:=C.box)) | (go_at_call 35;with_reducible refine Id (PN.out _) ?_)
  go_ret2;exact ⟨_,rfl,(aF.nil _ w).seen,B⟩
 obtain ⟨hm1,hm2⟩:=bT.1 hi;obtain ⟨-,hl1,-,-⟩:=hpl hp;replace PF:=PF ω hl1 hm1 hm2;rw [show M.MP a b l m=M.LE a b l m l.length [] from (if_pos (by rw [hp,hi,←hk];simp;omega)).trans (Hi ω),←hk];rw [hi] at PN;rw [hp] at PL
 obtain ⟨r,hr⟩:∃ r,M.LE a b l m k []=r:=⟨_,rfl⟩
 rw [hr] at PF hln ⊢
 have hl2:(r.getD []).length=0/\r.isSome=false∨0<(r.getD []).length/\r.isSome=true:=by
  cases r with
  | none=>exact .inl ⟨rfl,rfl⟩
  | some x=>exact .inr ⟨by rw [show (some x).getD []=x from rfl,hln x rfl,List.length_nil];omega,rfl⟩
 generalize r.isSome=o,r.getD []=R at *;replace PL:=IU PL;replace PN:=IU PN;replace PF:=IU PF;clear hi hp hk hpl hln hr
 rcases hl2 with ⟨hl2,rfl⟩ | ⟨hl2,rfl⟩
 obtain rfl:R=[]:=List.eq_nil_of_length_eq_zero hl2
 all_goals
  go_enter func8,ntmps8
  go_wp2_with first | (go_at_call 34;with_reducible refine p_ (PL.out _ (hx.out.below B)) fun w4 hb4=>?_;replace ⟨B,C⟩:=Im hb4 B C;(have ⟨c0,c1,_,_,_⟩:=C.box)) | (go_at_call 35;with_reducible refine Id (PN.out _) ?_) | (go_at_call 36;(with_reducible refine (PF.out _ (hx.out.below B)).mono ?_);rintro e w6 ⟨v6,rfl,Kx,hb6⟩;replace B:=j_ B hb6;obtain ⟨a6,c6,rfl,-,-⟩:=id Kx;replace Kx:=IU Kx)
  go_ret2;exact ⟨_,rfl,Kx.out,B⟩
end
section
open Go Go.RowKit Go.Shelf open Dw Gr M Rg Rw Wh
namespace M
theorem xN {a b:Int} {l:List Pt} {n:List Int} (h:Jw a b l n=true):(fK a b l n).isSome=true:=by
 unfold Jw at h
 cases q:fK a b l n with
 | none=>rw [q] at h;cases h
 | some s=>rfl
theorem F6 {a b m:Int} {l:List Pt} {t:Bool} {r:List Int} (ht:(MP a b l m).isSome=t) (hr:(MP a b l m).getD []=r) (h:t=true) :
  Jw a b l r=true/\r.length=l.length/\(∀ y ∈ r,-m<=y/\y<=m)/\m<=3/\l.length<=3/\Jw a b l (r.map fun x=>-x)=true/\q7 a b l=false:=by
 subst h;obtain ⟨s,hs⟩:=Option.isSome_iff_exists.1 ht
 obtain rfl:s=r:=by rw [hs] at hr;exact hr
 exact F7 hs
theorem GH {a b m X Y E:Int} {l:List Ib} (h:(MR a b m (X,Y,E)).getD []=l):l.length<=4/\∀ q ∈ l,eI a b q.1 q.2.1 q.2.2=true/\bB a q.1 q.2.1 q.2.2 q.1 q.2.1 q.2.2=true/\cK a q.1 q.2.1 q.2.2 q.1 q.2.1 q.2.2=X/\dC a q.1 q.2.1 q.2.2 q.1 q.2.1 q.2.2=Y/\cJ a q.1 q.2.1 q.2.2 q.1 q.2.1 q.2.2=E:=by
 cases hs:MR a b m (X,Y,E) with
 | none=>rw [hs] at h;subst h;exact ⟨Nat.zero_le _,fun q h=>by cases h⟩
 | some s=>rw [hs] at h;subst h;exact Hm hs
end M
theorem yA {a b X Y E:Int} {q:Pt} (h:eI a b q.1 q.2.1 q.2.2=true/\bB a q.1 q.2.1 q.2.2 q.1 q.2.1 q.2.2=true/\cK a q.1 q.2.1 q.2.2 q.1 q.2.1 q.2.2=X/\dC a q.1 q.2.1 q.2.2 q.1 q.2.1 q.2.2=Y/\cJ a q.1 q.2.1 q.2.2 q.1 q.2.1 q.2.2=E) (w:World) :
  cB 20 #[.agg #[a,b],.agg #[q.1,q.2.1,q.2.2]] w (.tuple #[.agg #[X,Y,E],true]):=by
 have p:=kM a b q.1 q.2.1 q.2.2 w;rw [h.1,h.2.1,h.2.2.1,h.2.2.2.1,h.2.2.2.2] at p;exact p
theorem law_Relations (v u:Value) (n m:Nat) (w:World) (hv:dO w w v n) (hu:dO w w u m) :
  cB 3 #[v,u] w true:=by
 have Hv:=IU hv;have Hu:=IU hu;obtain ⟨Av,cv,rfl,-,-⟩:=hv;obtain ⟨Au,cu,rfl,-,-⟩:=hu;have P0:=HR _ _ n m w Hv.out Hu.out;have B:Below w w w:=IX _ _
 cases ht:C8 n m with
 | true=>
  rw [ht] at P0;go_enter func3,ntmps3
  go_wp2_with (refine P0.mono ?_;rintro e w0 ⟨rfl,rfl⟩)
  go_ret;exact ⟨rfl,B⟩
 | false=>
 rw [ht] at P0;replace P0:=IU P0;clear ht;go_enter func3,ntmps3
 go_wp2_with fail
 refine P0.out.mono ?_;rintro e w0 ⟨rfl,rfl⟩;clear P0
 go_wp2_with fail
 refine (jx _ n _ Hv.out).mono ?_;rintro e w1 ⟨x,rfl,⟨g_,z_,hx⟩,hb1⟩;obtain ⟨x1,x2,x3,rfl,h1,h2,k,rfl⟩:=hx;obtain ⟨a,b,rfl⟩:=l8 h1;obtain ⟨l,hP,hl⟩:=CB h2;obtain ⟨A,cap,rfl⟩:=OW hP;clear h1 h2 Hv;replace B:=B.trans hb1;have b_:=bA w1 (.cells #[a,b] 25);have C:=aG.new w1 #[a,b] 25;replace hP:=IU (hP.below b_);replace B:=j_ B b_;clear b_ hb1
 have E1:=fun W h=>jy a b k (.slice A l.length cap) l W h ω
 have E2:=fun W h=>j8 a b k (.slice A l.length cap) l W h ω
 have E3:=fun W r v h h2=>gc a b (.slice A l.length cap) v l r W h h2 ω
 have E4:=fun W h=>iv a b (.slice A l.length cap) l W h ω
 have E5:=fun W h=>jH a b (.slice A l.length cap) l W h ω
 obtain ⟨t,ht⟩:∃ t,(M.MP a b l k).isSome=t:=⟨_,rfl⟩
 obtain ⟨r,hr⟩:∃ r,(M.MP a b l k).getD []=r:=⟨_,rfl⟩
 have F:=fun h=>F6 ht hr h
 rw [ht,hr] at E1 E2;clear ht hr
 obtain ⟨L,hL⟩:∃ L,L=l.length:=⟨_,rfl⟩
 rw [←hL] at hP F E1 E2 E3 E4 E5 ⊢;replace hL:=IU hL;replace F:=IU F;replace E1:=IU E1;replace E2:=IU E2;replace E3:=IU E3;replace E4:=IU E4;replace E5:=IU E5;have ⟨c0,c1,_,_,_⟩:=C.box
 go_wp2_with fail
 (with_reducible refine (E1.out _ hP.out).mono ?_);rintro e w2 ⟨v2,rfl,ho2,In⟩
 obtain ⟨A2,cap2,rfl,-,-⟩:=id ho2.seen;clear E1 c0 c1;replace hP:=IU (hP.out.below In);replace ⟨C,B⟩:=Im In C B;replace ho2:=IU ho2;clear In;have ⟨c0,c1,_,_,_⟩:=C.box
 go_wp2_with fail
 (with_reducible refine (E2.out _ hP.out).mono ?_);rintro e w3 ⟨v3,rfl,ho3,In⟩
 obtain ⟨A3,Ry,rfl,hr9,-⟩:=id ho3;clear E2 c0 c1;replace hP:=IU (hP.out.below In);replace ho2:=IU (ho2.out.below In);replace ⟨C,B⟩:=Im In C B;replace ho3:=IU ho3;clear In;have ⟨c0,c1,_,_,_⟩:=C.box
 go_wp2_with fail
 (refine (vQ _ _ _ _ _ _ ho2.out.seen ho3.out).mono ?_);rintro e w4 ⟨rfl,In⟩
 clear c0 c1;replace hP:=IU (hP.out.below In);replace ho2:=IU (ho2.out.below In);replace ho3:=IU ((ho3.out.below In).mono In.size);replace ⟨C,B⟩:=Im In C B;clear In
 go_upto_if 73 with fail
 go_cut [12,13,14,15,16,17,18,19,20,21,22] from 74 to 150 (fun _ _ _ _ _ _ _ _ _ _ _ wx=>Below w4 w4 wx)
 case first=>as_aux_lemma=>
  clear Hu
  cases t with
  | false=>
   go_wp2
   go_meet
   exact IX _ _
  | true=>
  obtain ⟨f1,f2,f3,f4,f5,f6,f7⟩:=F.out rfl
  have E6:=fun W v=>E3.out W r v
  have E7:=fun W v=>E3.out W (r.map fun x=>-x) v
  rw [f1,xN f1] at E6;rw [f6,xN f6] at E7;rw [f7] at E4 E5;generalize (jb a b l).isSome=o at *;obtain rfl:=f2;clear hL E3 F f1 f6 f7;replace E6:=IU E6;replace E7:=IU E7;have ⟨c0,c1,_,_,_⟩:=C.box
  go_wp2_with fail
  with_reducible refine p_ (E6.out _ _ hP.out (ho2.out.seen.ints (IY _))) fun w5 hb5=>?_
  clear E6 c0 c1 ho2;replace hP:=IU (hP.out.below hb5);replace C:=C.keep hb5;have ⟨c0,c1,_,_,_⟩:=C.box
  go_wp2_with fail
  with_reducible refine p_ (E4.out _ hP.out) fun w6 hb6=>?_
  clear E4 c0 c1;replace hP:=IU (hP.out.below hb6);replace C:=C.keep hb6;have ⟨c0,c1,_,_,_⟩:=C.box
  go_wp2_with fail
  with_reducible refine p_ (E5.out _ hP.out) fun w7 Ig=>?_
  clear E5 c0 c1;replace hP:=IU (hP.out.below Ig);replace C:=C.keep Ig;replace hb6:=j_ hb5 hb6;replace Ig:=j_ hb6 Ig;obtain ⟨A9,Rz,e9,-,hs3⟩:=ho3.out.below Ig;cases e9
  clear hb5 hb6 ho3;replace hs3:=IU hs3;go_wp2
  all_goals
   go_loopw [18,124] (fun vs vi wq=>∃ i:Nat,i<=r.length/\vi=.int .i64 (i:Int)/\aF wq w7 vs ((r.take i).map fun x=>-x)/\Below w7 w7 wq) (fun _ vi _=>r.length - (intOf vi).toNat)
   case atStart=>exact ⟨0,Nat.zero_le _,rfl,aF.nil _ _,IX _ _⟩
   case round=>
   obtain ⟨i,hi,rfl,ho,hb⟩:=hrel
   by_cases hlt:i<r.length
   ·obtain ⟨g,x,rfl,hg,hx,hcell⟩:=hs3.out i hlt
    have hc:=aE hb hcell;have hb3:=f3 x (List.mem_of_getElem? hx.out);have hd:decide (k<(x.natAbs:Int))=false:=decide_eq_false ω;clear hcell
    go_wp2_with first | (go_at_call 13;(refine (GV x _ ω).mono ?_);rintro e w8 ⟨rfl,rfl⟩) | (at_builtin;refine dJ w7 (-x) _ _ rfl _ _ rfl rfl rfl ho hb hb.size (by rw [List.length_map,List.length_take];omega) ?_;rintro v9 w9 LL I2)
    go_roundw
    case rel=>exact ⟨i+1,ω,ν,by rw [List.take_add_one,hx.out];simpa using LL,I2⟩
    case measure=>simp [intOf];omega
   obtain rfl:i=r.length:=ω
   rw [List.take_length] at ho;obtain ⟨A9,Rz,rfl,-,-⟩:=id ho.seen;have hi9:=ho.seen.ints (IY _);rw [List.length_map] at hi9;have ⟨c0,c1,_,_,_⟩:=(C.keep hb).box
   go_wp2_with (with_reducible refine (E7.out _ _ (hP.out.below hb) hi9).mono ?_;rintro e w8 ⟨rfl,It⟩)
   go_meet
   replace hb:=j_ Ig hb;exact j_ hb It
 case rest=>as_aux_lemma=>
 replace B:=j_ B hcut;clear E3 E4 E5 F hP ho2 ho3 C hL hr9
 go_wp2_with fail
 refine (lE _ m _ ((Hu.out.keepW B).Bb B.size)).mono ?_;rintro e w5 ⟨x,rfl,⟨g_,z_,hx⟩,In⟩;obtain ⟨x1,x2,x3,rfl,h1,h2,h3⟩:=hx;obtain ⟨a,b,rfl⟩:=l8 h1;obtain ⟨l,hP,hl⟩:=CB h2;obtain ⟨A,cap,rfl⟩:=OW hP;obtain ⟨r,hI⟩:=Dc h3 δ;obtain ⟨A2,cap2,rfl,hr9,-⟩:=id hI;clear h1 h2 h3;replace B:=j_ B In;have b_:=bA w5 (.cells #[a,b] 25);have C:=aG.new w5 #[a,b] 25;replace hP:=IU (hP.below b_);replace hI:=IU (hI.keep b_);replace B:=j_ B b_;clear b_ In
 have E1:=fun W h h2=>gc a b (.slice A l.length cap) (.slice A2 r.length cap2) l r W h h2 ω
 have E2:=fun W h h2=>lW a b (.slice A l.length cap) (.slice A2 r.length cap2) l r W h h2 ω
 generalize (fK a b l r).isSome=t2,M.Jw a b l r=t1 at *
 obtain ⟨L,hL⟩:∃ L,L=l.length:=⟨_,rfl⟩
 rw [←hL] at hP E1 E2 ⊢;replace hL:=IU hL;replace E1:=IU E1;replace E2:=IU E2;have ⟨c0,c1,_,_,_⟩:=C.box
 go_wp2_with fail
 with_reducible refine p_ (E1.out _ hP.out hI.out) fun w6 In=>?_
 clear E1 c0 c1;replace hP:=IU (hP.out.below In);replace hI:=IU (hI.out.keep In);replace ⟨C,B⟩:=Im In C B;clear In;have ⟨c0,c1,_,_,_⟩:=C.box
 go_wp2_with fail
 with_reducible refine p_ (E2.out _ hP.out hI.out) fun w7 In=>?_
 clear E2 c0 c1 hP hI C hL;replace B:=j_ B In;clear In
 go_wp2_with fail
 refine (ng _ m _ ((Hu.out.keepW B).Bb B.size)).mono ?_;rintro e w8 ⟨x,rfl,⟨g_,z_,hx⟩,In⟩;obtain ⟨x1,x2,x3,rfl,h1,h2,k,rfl⟩:=hx;obtain ⟨a,b,rfl⟩:=l8 h1;obtain ⟨X,Y,E,rfl⟩:=Am h2;clear h1 h2 Hu;replace B:=j_ B In;have C:=aG.new w8 #[a,b] 25;have b_:=bA w8 (.cells #[a,b] 25);have Q:=aG.new (w8.alloc (.cells #[a,b] 25)) #[X,Y,E] 40;have RW:=bA (w8.alloc (.cells #[a,b] 25)) (.cells #[X,Y,E] 40);replace C:=C.keep RW;replace B:=j_ B b_;replace B:=j_ B RW;clear b_ RW In
 have E1:=fun W=>oI a b X Y E k W
 have E2:=fun W=>ow a b X Y E k W
 obtain ⟨t,ht⟩:∃ t,(M.MR a b k (X,Y,E)).isSome=t:=⟨_,rfl⟩
 obtain ⟨l,hl⟩:∃ l,(M.MR a b k (X,Y,E)).getD []=l:=⟨_,rfl⟩
 rw [ht,hl] at E1 E2;obtain ⟨hl4,F⟩:=GH hl;clear ht hl
 have D:=IU fun q h W=>yA (F q h) W
 replace E1:=IU E1;replace E2:=IU E2;clear F;have ⟨c0,c1,_,_,_⟩:=C.box;have ⟨q0,q1,q2⟩:=Q.aM;simp only [IV] at *
 go_wp2_with fail
 (with_reducible refine (E1.out _).mono ?_);rintro e w9 ⟨v1,rfl,hz1,In⟩
 obtain ⟨A1,cap1,rfl,-⟩:=id hz1;clear E1 c0 c1 q0 q1 q2;replace ⟨C,Q,B⟩:=I7 In C Q B;replace hz1:=IU hz1;clear In;have ⟨c0,c1,_,_,_⟩:=C.box;have ⟨q0,q1,q2⟩:=Q.aM
 go_wp2_with fail
 (with_reducible refine (E2.out _).mono ?_);rintro e TB ⟨v2,rfl,hz2,In⟩
 obtain ⟨A2,cap2,rfl,hv2⟩:=id hz2;clear E2 c0 c1 q0 q1 q2;replace ⟨C,Q,B⟩:=I7 In C Q B;replace hz1:=IU (hz1.out.below In);replace hz2:=IU hz2;clear In;have hd4:decide ((4:Int)<(l.length:Int))=false:=decide_eq_false ω
 go_wp2_with ((refine (pK _ _ _ _ hl4 hz1.out hz2.out).mono ?_);rintro e w11 ⟨rfl,In⟩)
 replace ⟨C,Q,B⟩:=I7 In C Q B;replace hz2:=IU (hz2.out.below In);replace hv2:=hz2.out;clear hz1 In
 go_loopw [215] (fun vi wq=>∃ i:Nat,i<=l.length/\vi=.int .i64 (i:Int)/\Below w11 w11 wq) (fun vi _=>l.length - (intOf vi).toNat)
 case atStart=>exact ⟨0,Nat.zero_le _,rfl,IX _ _⟩
 case round=>
 obtain ⟨i,hi,rfl,hb⟩:=hrel
 by_cases hlt:i<l.length
 ·have hq:l[i]?=some l[i]:=List.getElem?_eq_getElem hlt
  obtain ⟨A9,Rz,e9,hv2⟩:=hz2.out;cases e9
  obtain ⟨g,rfl,hg⟩:=hv2.resolve_left (fun h=>by rw [h] at hlt;cases hlt);obtain ⟨p0,p1,p2⟩:=(hg.below hb) i _ hq;have D:=IU (D.out _ (List.mem_of_getElem? hq));generalize l[i]=p at *;obtain ⟨x1,x2,x3⟩:=p
  dsimp only at *
  clear hq hg hv2;have X1:=aG.new wr #[x1,x2,x3] 40;have b_:=bA wr (.cells #[x1,x2,x3] 40);replace hb:=j_ hb b_;have ⟨c0,c1,_,_,_⟩:=(C.keep hb).box;have ⟨q0,q1,q2⟩:=(Q.keep hb).aM;have ⟨y0,y1,y2⟩:=X1.aM
  go_wp2_with (with_reducible refine p_ (D.out _) fun w12 W8=>?_;have X2:=aG.new w12 #[X,Y,E] 40;have RW:=bA w12 (.cells #[X,Y,E] 40);replace hb:=j_ hb W8;replace hb:=j_ hb RW;(have ⟨r0,r1,r2⟩:=(Q.keep hb).aM);(have ⟨z0,z1,z2⟩:=X2.aM))
  go_roundw
  case rel=>exact ⟨i+1,ω,ν,hb⟩
  case measure=>simp [intOf];omega
 obtain rfl:i=l.length:=ω
 go_wp2;go_ret;exact ⟨rfl,j_ B hb⟩
end
section
open Go.ChangeShapes Go.WideShapes Go.ChangeAt Go.RowKit Go.Joins Go.Deep open Gr M
theorem open_bytes {H:Type} {enc:TypeId × Value->H} {P:Program} {w:World} {base b0:Nat} {held:Bool} {r:Reach} {t te:TypeId} {v:Value} {d:DataW H} {ps:List MemPlace}
  (ht:P.underlying t=some (.slice te)) (he:P.underlying te=some (.int .u8)) (hc:P.cellsOf te=1) (hv:Value.okWide P w r b0 t v) (h:DataW.Trod enc P w base (fun _=>true) held t v d ps) :
  ∃ n:Nat,dO w w v n:=by
 obtain ⟨a1,len,cap,rfl⟩:=okWide_slice ht hv;obtain ⟨fuel,hf⟩:=h
 rcases open_ints ht he hc hf with ⟨hcs,hx⟩ | ⟨a,len',cap',zs,hcs,_,hl,hm,hz,hx,hcell,hwz⟩
 ·simp [Value.cells] at hcs
  obtain ⟨rfl,rfl,rfl⟩:=hcs;exact ⟨0,none,0,rfl,ω,fun j hj=>absurd hj ω⟩
 simp [Value.cells] at hcs
 obtain ⟨rfl,rfl,rfl⟩:=hcs;simp only [if_true] at hz;refine ⟨len,some a,cap,rfl,by unfold maxLen at hm;omega,fun j hj=>?_⟩;obtain ⟨ab,ao,spot⟩:=a
 have hspot:spot=none:=by simpa [Addr.add] using World.cell?_spot (hcell 0 ω)
 subst hspot;have hcj:=hcell j ω;rw [Addr.add_lit] at hcj
 have hb:0<=zs.getD j 0/\zs.getD j 0<=255:=by
  have:=range_u8 hwz j;simp only [List.getD_eq_getElem?_getD] at this ⊢;omega
 exact ⟨ab,ao,zs.getD j 0,rfl,World.block_lt_of_cell? w _ hcj,hcj,hb.1,hb.2⟩
end
end Go.Proofs.YtkalaljcbmkbmaaGreat
