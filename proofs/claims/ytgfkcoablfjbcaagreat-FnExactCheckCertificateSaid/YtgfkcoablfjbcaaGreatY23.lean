/-
  Joined texts: contracts and plain lemmas.
-/
import Derived.Test.YtgfkcoablfjbcaaGreatY1
import Derived.Test.YtgfkcoablfjbcaaGreatY22
import Derived.Test.YtgfkcoablfjbcaaGreatY2
import Derived.Test.YtgfkcoablfjbcaaGreatY16
import Derived.Test.YtgfkcoablfjbcaaGreatY6
set_option linter.unusedSimpArgs false
set_option linter.unusedVariables false
set_option maxRecDepth 100000
set_option maxHeartbeats 8000000
namespace Go.Proofs.YtgfkcoablfjbcaaGreat
section
open Go.RowKit
theorem fB.two {W:World} {g:Nat} {T:TypeId} {X1 Y1 E1 X2 Y2 E2:Int} (h:aH W g T #[.int .i64 X1,.int .i64 Y1,.int .i64 E1,.int .i64 X2,.int .i64 Y2,.int .i64 E2]):fB W g [(X1,Y1,E1),(X2,Y2,E2)]:=by
 intro k p hp
 match k,hp with
 | 0,hp=>injection hp with hp;subst hp;exact ⟨h.cell 0,h.cell 1,h.cell 2⟩
 | 1,hp=>injection hp with hp;subst hp;exact ⟨h.cell 3,h.cell 4,h.cell 5⟩
 | k+2,hp=>cases hp
theorem mR (a b X1 Y1 E1 X2 Y2 E2:Int) (w:World) (hg:M.good a b=true) (hp:M.bS a b X1 Y1 E1=true) (hq:M.bS a b X2 Y2 E2=true) :
  Calls Tryz.prog 66 #[.agg #[.int .i64 a,.int .i64 b],.agg #[.int .i64 X1,.int .i64 Y1,.int .i64 E1],.agg #[.int .i64 X2,.int .i64 Y2,.int .i64 E2]] w fun e w'=>e=.returned (.tuple #[.agg #[.int .i64 (M.in1 (M.dS a b X1 Y1 E1 X2 Y2 E2)),.int .i64 (M.in2 (M.dS a b X1 Y1 E1 X2 Y2 E2)),.int .i64 (M.in3 (M.dS a b X1 Y1 E1 X2 Y2 E2)),.int .i64 (M.in4 (M.dS a b X1 Y1 E1 X2 Y2 E2))],.bool (M.dS a b X1 Y1 E1 X2 Y2 E2).isSome])∧Below w.heap.size w w':=by
 have PA:=fun W=>uO a b X1 Y1 E1 X2 Y2 E2 W hg hp hq
 have hin:=M.bI hg
 have hs:=M.rE hin hp hq
 obtain ⟨p1,p2,p3,p4,-,-⟩:=M.d9 hin hp
 obtain ⟨r1,r2,r3,r4,-,-⟩:=M.d9 hin hq
 obtain ⟨s1,s2,s3,s4,-,-⟩:=M.d9 hin hs
 have hv:=ws (show (M.dS a b X1 Y1 E1 X2 Y2 E2)=if M.eJ a X1 Y1 E1 X2 Y2 E2=true then M.cy a b (M.bi a b (M.f9 a X1 Y1 E1 X2 Y2 E2) (M.f8 a X1 Y1 E1 X2 Y2 E2)) [(X1,Y1,E1),(X2,Y2,E2)] else none from rfl)
 rw [hv.out]
 clear hv hs hp hq
 generalize M.f9 a X1 Y1 E1 X2 Y2 E2=X3 at *
 generalize M.iM a X1 Y1 E1 X2 Y2 E2=Y3 at *
 generalize M.f8 a X1 Y1 E1 X2 Y2 E2=E3 at *
 generalize M.eJ a X1 Y1 E1 X2 Y2 E2=ok at *
 have PH:=fun W=>fO a b X3 Y3 E3 W hg s1 s2 s3 s4
 have hto:=M.d6 (a:=a) (b:=b) hin s1 s2 s3 s4
 have PL:=fun s g W h1 h2=>sK a b s [(X1,Y1,E1),(X2,Y2,E2)] g 2 W hg h1 h2 (by simp) (by
  intro p hp
  rcases List.mem_cons.1 hp with rfl | hp
  ·exact ⟨p1,p2,p3,p4⟩
  rcases List.mem_cons.1 hp with rfl | hp
  ·exact ⟨r1,r2,r3,r4⟩
  cases hp)
 generalize M.bi a b X3 E3=t at *
 clear hg hin s1 s2 s3 s4 p1 p2 p3 p4 r1 r2 r3 r4
 cases ok with
 | false=>
  have e1:=ws (show M.in1 none=0∧M.in2 none=0∧M.in3 none=0∧M.in4 none=0∧(none:M.Sp).isSome=false from ⟨rfl,rfl,rfl,rfl,rfl⟩)
  have e2:=ws (show (if (false=true) then M.cy a b t [(X1,Y1,E1),(X2,Y2,E2)] else none)=none from rfl)
  rw [e2.out,e1.out.1,e1.out.2.1,e1.out.2.2.1,e1.out.2.2.2.1,e1.out.2.2.2.2]
  clear e1 e2 PH PL hto
  replace PA:=ws PA
  obtain ⟨wc,hw3,C,Q,U,R,B⟩:=kZ w #[.int .i64 a,.int .i64 b] 29 #[.int .i64 X1,.int .i64 Y1,.int .i64 E1] 57 #[.int .i64 X2,.int .i64 Y2,.int .i64 E2] 57 #[.int .i64 0,.int .i64 0,.int .i64 0,.int .i64 0] 64
  have C_c0:=C.box.c0
  have C_c1:=C.box.c1
  have ⟨q0,q1,q2⟩:=Q.aQ
  have ⟨u0,u1,u2⟩:=U.aQ
  go_enter Tryz.func66,Tryz.ntmps66
  go_wp2_with (go_at_call 86;(with_reducible refine (PA.out _).mono ?_);rintro e w4 ⟨rfl,hb4⟩;(replace B:=B.trans (hb4.mono B.size));(replace C:=C.keep hb4);(replace Q:=Q.keep hb4);(replace U:=U.keep hb4);(replace R:=R.keep hb4);(replace B:=B.alloc B.size (.cells #[.int .i64 X3,.int .i64 Y3,.int .i64 E3] 57));(replace C:=C.alloc (.cells #[.int .i64 X3,.int .i64 Y3,.int .i64 E3] 57));(replace Q:=Q.alloc (.cells #[.int .i64 X3,.int .i64 Y3,.int .i64 E3] 57));(replace U:=U.alloc (.cells #[.int .i64 X3,.int .i64 Y3,.int .i64 E3] 57));(replace R:=R.alloc (.cells #[.int .i64 X3,.int .i64 Y3,.int .i64 E3] 57));(have S:=aH.new w4 #[.int .i64 X3,.int .i64 Y3,.int .i64 E3] 57);(have ⟨z0,z1,z2⟩:=S.aQ);(have C_c0:=C.box.c0);(have C_c1:=C.box.c1);(have ⟨q0,q1,q2⟩:=Q.aQ);(have ⟨u0,u1,u2⟩:=U.aQ);(have ⟨r0,r1,r2,r3,y0,y1,y2,y3,rl⟩:=R.aM))
  exact bodyPost_ret (v:=.tuple #[.agg #[.int .i64 0,.int .i64 0,.int .i64 0,.int .i64 0],.bool false]) (by simp [results,Tryz.results66,go_sem, *]) rfl (⟨rfl,wu (wu (wu (wu B (by simp;omega) _) (by simp;omega) _) (by simp;omega) _) (by simp;omega) _⟩)
 | true=>
 rw [if_pos rfl]
 replace PA:=ws PA
 cases t with
 | none=>
  have e1:=ws (show M.in1 none=0∧M.in2 none=0∧M.in3 none=0∧M.in4 none=0∧(none:M.Sp).isSome=false from ⟨rfl,rfl,rfl,rfl,rfl⟩)
  rw [M.gD,e1.out.1,e1.out.2.1,e1.out.2.2.1,e1.out.2.2.2.1,e1.out.2.2.2.2]
  rw [e1.out.1,e1.out.2.1,e1.out.2.2.1,e1.out.2.2.2.1,e1.out.2.2.2.2] at PH
  clear e1 PL hto
  replace PH:=ws PH
  obtain ⟨wc,hw3,C,Q,U,R,B⟩:=kZ w #[.int .i64 a,.int .i64 b] 29 #[.int .i64 X1,.int .i64 Y1,.int .i64 E1] 57 #[.int .i64 X2,.int .i64 Y2,.int .i64 E2] 57 #[.int .i64 0,.int .i64 0,.int .i64 0,.int .i64 0] 64
  have C_c0:=C.box.c0
  have C_c1:=C.box.c1
  have ⟨q0,q1,q2⟩:=Q.aQ
  have ⟨u0,u1,u2⟩:=U.aQ
  go_enter Tryz.func66,Tryz.ntmps66
  go_wp2_with first | (go_at_call 86;(with_reducible refine (PA.out _).mono ?_);rintro e w4 ⟨rfl,hb4⟩;(replace B:=B.trans (hb4.mono B.size));(replace C:=C.keep hb4);(replace Q:=Q.keep hb4);(replace U:=U.keep hb4);(replace R:=R.keep hb4);(replace B:=B.alloc B.size (.cells #[.int .i64 X3,.int .i64 Y3,.int .i64 E3] 57));(replace C:=C.alloc (.cells #[.int .i64 X3,.int .i64 Y3,.int .i64 E3] 57));(replace Q:=Q.alloc (.cells #[.int .i64 X3,.int .i64 Y3,.int .i64 E3] 57));(replace U:=U.alloc (.cells #[.int .i64 X3,.int .i64 Y3,.int .i64 E3] 57));(replace R:=R.alloc (.cells #[.int .i64 X3,.int .i64 Y3,.int .i64 E3] 57));(have S:=aH.new w4 #[.int .i64 X3,.int .i64 Y3,.int .i64 E3] 57);(have ⟨z0,z1,z2⟩:=S.aQ);(have C_c0:=C.box.c0);(have C_c1:=C.box.c1);(have ⟨q0,q1,q2⟩:=Q.aQ);(have ⟨u0,u1,u2⟩:=U.aQ);(have ⟨r0,r1,r2,r3,y0,y1,y2,y3,rl⟩:=R.aM)) | (go_at_call 87;(with_reducible refine (PH.out _).mono ?_);rintro e w5 ⟨rfl,hb5⟩;(replace B:=B.trans (hb5.mono B.size));(replace C:=C.keep hb5);(replace Q:=Q.keep hb5);(replace U:=U.keep hb5);(replace R:=R.keep hb5);(replace B:=B.alloc B.size (.cells #[.int .i64 0,.int .i64 0,.int .i64 0,.int .i64 0] 64));(replace C:=C.alloc (.cells #[.int .i64 0,.int .i64 0,.int .i64 0,.int .i64 0] 64));(replace Q:=Q.alloc (.cells #[.int .i64 0,.int .i64 0,.int .i64 0,.int .i64 0] 64));(replace U:=U.alloc (.cells #[.int .i64 0,.int .i64 0,.int .i64 0,.int .i64 0] 64));(replace R:=R.alloc (.cells #[.int .i64 0,.int .i64 0,.int .i64 0,.int .i64 0] 64));(have V:=aH.new w5 #[.int .i64 0,.int .i64 0,.int .i64 0,.int .i64 0] 64);(have ⟨v0,v1,v2,v3,_,_,_,_,vl⟩:=V.aM);(have C_c0:=C.box.c0);(have C_c1:=C.box.c1);(have ⟨q0,q1,q2⟩:=Q.aQ);(have ⟨u0,u1,u2⟩:=U.aQ);(have ⟨r0,r1,r2,r3,y0,y1,y2,y3,rl⟩:=R.aM))
  exact bodyPost_ret (v:=.tuple #[.agg #[.int .i64 0,.int .i64 0,.int .i64 0,.int .i64 0],.bool false]) (by simp [results,Tryz.results66,go_sem, *]) rfl (⟨rfl,wu (wu (wu (wu B (by simp;omega) _) (by simp;omega) _) (by simp;omega) _) (by simp;omega) _⟩)
 | some s=>
 replace PL:=fun g W h2=>PL s g W (hto s rfl) h2
 have e1:=ws (show (some s:M.Sp).isSome=true from rfl)
 rw [e1.out] at PH
 clear e1 hto
 have e2:=ws (show [(X1,Y1,E1),(X2,Y2,E2)].length=2 from rfl)
 rw [e2.out] at PL
 clear e2
 generalize M.cy a b (some s) [(X1,Y1,E1),(X2,Y2,E2)]=r at *
 generalize M.in1 (some s)=i1 at *
 generalize M.in2 (some s)=i2 at *
 generalize M.in3 (some s)=i3 at *
 generalize M.in4 (some s)=i4 at *
 generalize M.in1 r=k1 at *
 generalize M.in2 r=k2 at *
 generalize M.in3 r=k3 at *
 generalize M.in4 r=k4 at *
 generalize r.isSome=fr at *
 replace PH:=ws PH
 replace PL:=ws PL
 obtain ⟨wc,hw3,C,Q,U,R,B⟩:=kZ w #[.int .i64 a,.int .i64 b] 29 #[.int .i64 X1,.int .i64 Y1,.int .i64 E1] 57 #[.int .i64 X2,.int .i64 Y2,.int .i64 E2] 57 #[.int .i64 0,.int .i64 0,.int .i64 0,.int .i64 0] 64
 have C_c0:=C.box.c0
 have C_c1:=C.box.c1
 have ⟨q0,q1,q2⟩:=Q.aQ
 have ⟨u0,u1,u2⟩:=U.aQ
 go_enter Tryz.func66,Tryz.ntmps66
 go_wp2_with first | (go_at_call 86;(with_reducible refine (PA.out _).mono ?_);rintro e w4 ⟨rfl,hb4⟩;(replace B:=B.trans (hb4.mono B.size));(replace C:=C.keep hb4);(replace Q:=Q.keep hb4);(replace U:=U.keep hb4);(replace R:=R.keep hb4);(replace B:=B.alloc B.size (.cells #[.int .i64 X3,.int .i64 Y3,.int .i64 E3] 57));(replace C:=C.alloc (.cells #[.int .i64 X3,.int .i64 Y3,.int .i64 E3] 57));(replace Q:=Q.alloc (.cells #[.int .i64 X3,.int .i64 Y3,.int .i64 E3] 57));(replace U:=U.alloc (.cells #[.int .i64 X3,.int .i64 Y3,.int .i64 E3] 57));(replace R:=R.alloc (.cells #[.int .i64 X3,.int .i64 Y3,.int .i64 E3] 57));(have S:=aH.new w4 #[.int .i64 X3,.int .i64 Y3,.int .i64 E3] 57);(have ⟨z0,z1,z2⟩:=S.aQ);(have C_c0:=C.box.c0);(have C_c1:=C.box.c1);(have ⟨q0,q1,q2⟩:=Q.aQ);(have ⟨u0,u1,u2⟩:=U.aQ);(have ⟨r0,r1,r2,r3,y0,y1,y2,y3,rl⟩:=R.aM)) | (go_at_call 87;(with_reducible refine (PH.out _).mono ?_);rintro e w5 ⟨rfl,hb5⟩;(replace B:=B.trans (hb5.mono B.size));(replace C:=C.keep hb5);(replace Q:=Q.keep hb5);(replace U:=U.keep hb5);(replace R:=R.keep hb5);(replace B:=B.alloc B.size (.cells #[.int .i64 i1,.int .i64 i2,.int .i64 i3,.int .i64 i4] 64));(replace C:=C.alloc (.cells #[.int .i64 i1,.int .i64 i2,.int .i64 i3,.int .i64 i4] 64));(replace Q:=Q.alloc (.cells #[.int .i64 i1,.int .i64 i2,.int .i64 i3,.int .i64 i4] 64));(replace U:=U.alloc (.cells #[.int .i64 i1,.int .i64 i2,.int .i64 i3,.int .i64 i4] 64));(replace R:=R.alloc (.cells #[.int .i64 i1,.int .i64 i2,.int .i64 i3,.int .i64 i4] 64));(have V:=aH.new w5 #[.int .i64 i1,.int .i64 i2,.int .i64 i3,.int .i64 i4] 64);(have ⟨v0,v1,v2,v3,_,_,_,_,vl⟩:=V.aM);(have C_c0:=C.box.c0);(have C_c1:=C.box.c1);(have ⟨q0,q1,q2⟩:=Q.aQ);(have ⟨u0,u1,u2⟩:=U.aQ);(have ⟨r0,r1,r2,r3,y0,y1,y2,y3,rl⟩:=R.aM);(replace R:=R.alloc (.cells #[.int .i64 X1,.int .i64 Y1,.int .i64 E1,.int .i64 X2,.int .i64 Y2,.int .i64 E2] 57));(have L:=aH.new (w5.alloc (.cells #[.int .i64 i1,.int .i64 i2,.int .i64 i3,.int .i64 i4] 64)) #[.int .i64 X1,.int .i64 Y1,.int .i64 E1,.int .i64 X2,.int .i64 Y2,.int .i64 E2] 57);(rw [wt] at L);(replace L:=ws (fB.two L))) | (go_at_call 88;(with_reducible refine (PL.out _ _ L.out).mono ?_);rintro e w6 ⟨rfl,hb6⟩;(replace B:=(B.alloc B.size (.cells #[.int .i64 X1,.int .i64 Y1,.int .i64 E1,.int .i64 X2,.int .i64 Y2,.int .i64 E2] 57)).trans (hb6.mono (B.alloc B.size (.cells #[.int .i64 X1,.int .i64 Y1,.int .i64 E1,.int .i64 X2,.int .i64 Y2,.int .i64 E2] 57)).size));(replace R:=R.keep hb6);(have ⟨r0,r1,r2,r3,y0,y1,y2,y3,rl⟩:=R.aM))
 exact bodyPost_ret (v:=.tuple #[.agg #[.int .i64 k1,.int .i64 k2,.int .i64 k3,.int .i64 k4],.bool fr]) (by simp [results,Tryz.results66,go_sem, *]) rfl (⟨rfl,wu (wu (wu (wu B (by simp;omega) _) (by simp;omega) _) (by simp;omega) _) (by simp;omega) _⟩)
abbrev Pt:=Int × Int × Int
def eG (W:World) (v:Value) (l:List Pt):Prop:=∃ (a:Option Addr) (cap:Nat),v=.slice a l.length cap∧(l=[]∨∃ g,a=some ⟨g,0,none⟩∧fB W g l)
theorem eG.below {w w':World} {v:Value} {l:List Pt} (h:eG w v l) (hb:Below w.heap.size w w'):eG w' v l:=by
 obtain ⟨a,cap,e,h⟩:=h
 refine ⟨a,cap,e,?_⟩
 rcases h with h | ⟨g,e,h⟩
 ·exact Or.inl h
 exact Or.inr ⟨g,e,h.below hb⟩
def rC (g:Nat) (lb:Array Value) (p:Pt→Bool) (xs:List Pt) (w:World):Prop:=
 ∀ (x:Pt) (_:x ∈ xs) (W:World),Below w.heap.size w W→Calls Tryz.prog g (#[.agg #[.int .i64 x.1,.int .i64 x.2.1,.int .i64 x.2.2]] ++ lb) W fun e W'=>e=.returned (.bool (p x))∧Below W.heap.size W W'
theorem rI {p:Pt→Bool} {xs:List Pt} {k:Nat} {x:Pt} (hx:xs[k]?=some x) (h:(xs.take k).any p=false) (h':p x=false):(xs.take (k+1)).any p=false:=by
 rw [List.take_add_one,hx,List.any_append,h]
 simpa using h'
theorem vE {p:Pt→Bool} {xs:List Pt} {k:Nat} {x:Pt} (hx:xs[k]?=some x) (h':p x=true):xs.any p=true:=
 List.any_eq_true.2 ⟨x,List.mem_of_getElem? hx,h'⟩
theorem nt (g:Nat) (lb:Array Value) (eg:∀ args w,(callFunc g args).run Tryz.prog w=.ok (.enter g args) w) (p:Pt→Bool) (v:Value) (xs:List Pt) (w:World) (hx:eG w v xs) (hn:xs.length≤4) (hp:rC g lb p xs w) :
  Calls Tryz.prog 74 #[v,.func (.func g) #[] lb] w fun e w'=>∃ r:Int,e=.returned (.int .i64 r)∧(decide (0≤r)=xs.any p∧-1≤r∧r≤4)∧Below w.heap.size w w':=by
 obtain ⟨a,cap,rfl,hv⟩:=hx
 have hv:=ws hv
 have hp:=ws hp
 obtain ⟨N,hN⟩:∃ N,Hid (xs.length=N):=⟨_,ws rfl⟩
 rw [hN.out] at hn ⊢
 go_enter Tryz.func74,Tryz.ntmps74
 go_wp2
 go_loopw [5,8] (fun _ vi wr=>∃ k:Nat,k≤N∧vi=.int .i64 k∧Hid ((xs.take k).any p=false)∧Below w.heap.size w wr) (fun _ vi _=>N - (intOf vi).toNat)
 case atStart=>exact ⟨0,by omega,rfl,ws rfl,ww _ _⟩
 case round=>
 obtain ⟨k,hk,rfl,hall,hbr⟩:=hrel
 by_cases hlt:k<N
 ·obtain ⟨x,hx⟩:∃ x,xs[k]?=some x:=⟨_,List.getElem?_eq_getElem (by have:=hN.out;omega)⟩
  obtain ⟨b,rfl,hpt⟩:∃ b,a=some ⟨b,0,none⟩∧fB w b xs:=by
   rcases hv.out with h | h
   ·rw [h] at hx;cases hx
   exact h
  obtain ⟨d0,d1,d2⟩:=(hpt.below hbr) k x hx
  have hcall:=hp.out x (List.mem_of_getElem? hx) wr hbr
  cases hq:p x
  ·rw [hq] at hcall
   have hcall:=ws hcall
   have hnx:=ws (rI hx hall.out hq)
   clear hx hq hpt
   obtain ⟨x1,x2,x3⟩:=x
   simp only [] at d0 d1 d2 hcall
   go_wp2_with (go_at_fn g;refine (hcall.out).mono ?_;rintro e w2 ⟨rfl,hb2⟩)
   go_roundw
   case rel=>exact ⟨k+1,by omega,by go_num,hnx,aS hbr hb2⟩
   case measure=>simp [intOf];omega
  rw [hq] at hcall
  have hcall:=ws hcall
  have hf:=ws (vE hx hq)
  clear hx hq hpt
  obtain ⟨x1,x2,x3⟩:=x
  simp only [] at d0 d1 d2 hcall
  go_wp2_with (go_at_fn g;refine (hcall.out).mono ?_;rintro e w2 ⟨rfl,hb2⟩)
  go_ret
  exact ⟨_,rfl,⟨by rw [hf.out];exact decide_eq_true (by omega),by omega,by omega⟩,aS hbr hb2⟩
 obtain rfl:k=N:=by omega
 have hall2:=hall
 rw [←hN.out,List.take_length] at hall2
 go_wp2
 go_ret
 exact ⟨_,rfl,⟨by rw [hall2.out];rfl,by omega,by omega⟩,hbr⟩
theorem ju (g:Nat) (lb:Array Value) (eg:∀ args w,(callFunc g args).run Tryz.prog w=.ok (.enter g args) w) (p:Pt→Bool) (v:Value) (xs:List Pt) (w:World) (hx:eG w v xs) (hn:xs.length≤4) (hp:rC g lb p xs w) :
  Calls Tryz.prog 55 #[v,.func (.func g) #[] lb] w fun e w'=>e=.returned (.bool (xs.any p))∧Below w.heap.size w w':=by
 have P:=ws (nt g lb eg p v xs w hx hn hp)
 generalize xs.any p=t at *
 clear hx hp
 go_enter Tryz.func55,Tryz.ntmps55
 go_wp2_with (go_at_call 74;refine P.out.mono ?_;rintro e w2 ⟨r,rfl,⟨h1,h2,h3⟩,hb2⟩)
 go_ret
 exact ⟨by rw [←h1];simp,hb2⟩
theorem nc (a b X Y E:Int) (cb:Nat) (w:World) (C:aH w cb 29 #[.int .i64 a,.int .i64 b]) :
  Calls Tryz.prog 56 #[.agg #[.int .i64 X,.int .i64 Y,.int .i64 E],.pointer (some ⟨cb,0,none⟩)] w fun e w'=>e=.returned (.bool (!(M.good a b && M.bS a b X Y E)))∧Below w.heap.size w w':=by
 have PP:=ws fun W=>qH a b X Y E W
 generalize (M.good a b && M.bS a b X Y E)=t at *
 have B:=(ww w.heap.size w).alloc (xA _) (.cells #[.int .i64 X,.int .i64 Y,.int .i64 E] 57)
 have C2:=C.alloc (.cells #[.int .i64 X,.int .i64 Y,.int .i64 E] 57)
 have Q:=aH.new w #[.int .i64 X,.int .i64 Y,.int .i64 E] 57
 generalize hw3:w.alloc (.cells #[.int .i64 X,.int .i64 Y,.int .i64 E] 57)=wc at *
 have C_c0:=C2.box.c0
 have C_c1:=C2.box.c1
 have ⟨q0,q1,q2⟩:=Q.aQ
 go_enter Tryz.func56,Tryz.ntmps56
 go_wp2_with (go_at_call 57;(with_reducible refine (PP.out _).mono ?_);rintro e w4 ⟨rfl,hb4⟩)
 go_ret
 exact ⟨rfl,B.trans (hb4.mono B.size)⟩
namespace M
noncomputable def cR (a b:Int) (l:List Pt):Bool:=good a b && ins l.length 1 4 && l.all (fun p=>bS a b p.1 p.2.1 p.2.2)
theorem qV {a b:Int} {l:List Pt} (h:good a b=false):cR a b l=false:=by unfold cR;rw [h];rfl
theorem qU {a b:Int} {l:List Pt} (hg:good a b=true):(!l.any (fun x=>!(good a b && bS a b x.1 x.2.1 x.2.2)))=l.all (fun p=>bS a b p.1 p.2.1 p.2.2):=by
 rw [hg,List.not_any_eq_all_not]
 congr 1
 funext x
 simp
end M
theorem mc (a b:Int) (v:Value) (l:List Pt) (w:World) (hx:eG w v l) (hn:l.length≤4000000) :
  Calls Tryz.prog 34 #[.agg #[.int .i64 a,.int .i64 b],v] w fun e w'=>e=.returned (.bool (M.cR a b l))∧Below w.heap.size w w':=by
 have PC:=ws fun W=>kG a b W
 obtain ⟨sa,cap,rfl,hv⟩:=hx
 have hx:=ws (show eG w (.slice sa l.length cap) l from ⟨sa,cap,rfl,hv⟩)
 clear hv
 have PF:=ws fun W (h:eG W (.slice sa l.length cap) l) (hn:l.length≤4) (C:aH W w.heap.size 29 #[.int .i64 a,.int .i64 b])=>ju 56 #[.pointer (some ⟨w.heap.size,0,none⟩)] (fun _ _=>rfl) (fun x=>!(M.good a b && M.bS a b x.1 x.2.1 x.2.2)) (.slice sa l.length cap) l W h hn (fun x _ W' hb=>nc a b x.1 x.2.1 x.2.2 w.heap.size W' (C.keep hb))
 have PI:=ws fun W=>cw l.length 1 4 W
 have hpl:=ws (show M.cR a b l=(M.good a b && M.ins l.length 1 4 && l.all (fun p=>M.bS a b p.1 p.2.1 p.2.2)) from rfl)
 have han:=ws fun h=>M.qU (a:=a) (b:=b) (l:=l) h
 have hbd:M.ins l.length 1 4=true→l.length≤4:=fun h=>by
  unfold M.ins at h
  simp only [Bool.and_eq_true,decide_eq_true_eq] at h
  omega
 have hbd:=ws hbd
 have B:=(ww w.heap.size w).alloc (xA _) (.cells #[.int .i64 a,.int .i64 b] 29)
 have C:=aH.new w #[.int .i64 a,.int .i64 b] 29
 replace hx:=ws (hx.out.below B)
 generalize hw3:w.alloc (.cells #[.int .i64 a,.int .i64 b] 29)=wc at *
 have C_c0:=C.box.c0
 have C_c1:=C.box.c1
 cases hg:M.good a b
 ·have hfin:=ws (M.qV (l:=l) hg)
  rw [hg] at PC
  clear hpl han hg
  generalize M.cR a b l=pl at *
  generalize l.length=N at *
  go_enter Tryz.func34,Tryz.ntmps34
  go_wp2_with (go_at_call 54;(with_reducible refine (PC.out _).mono ?_);rintro e w4 ⟨rfl,hb4⟩;(replace B:=B.trans (hb4.mono B.size)))
  go_ret
  exact ⟨by rw [hfin.out];rfl,B⟩
 cases hi:M.ins l.length 1 4
 ·have hfin:=ws (show M.cR a b l=false by rw [hpl.out,hi,Bool.and_false];rfl)
  rw [hg] at PC
  rw [hi] at PI
  clear hpl han hg hi hbd PF hx
  generalize M.cR a b l=pl at *
  generalize l.length=N at *
  go_enter Tryz.func34,Tryz.ntmps34
  go_wp2_with first | (go_at_call 54;(with_reducible refine (PC.out _).mono ?_);rintro e w4 ⟨rfl,hb4⟩;(replace B:=B.trans (hb4.mono B.size))) | (go_at_call 48;(with_reducible refine (PI.out _).mono ?_);rintro e w5 ⟨rfl,rfl⟩)
  go_ret
  exact ⟨by rw [hfin.out];rfl,B⟩
 have hfin:=ws (show M.cR a b l=!l.any (fun x=>!(M.good a b && M.bS a b x.1 x.2.1 x.2.2)) by rw [han.out hg,hpl.out,hi,hg];rfl)
 have hn4:=ws (hbd.out hi)
 rw [hg] at PC
 rw [hi] at PI
 replace PF:=ws fun W h=>PF.out W h hn4.out
 clear hpl han hg hi hbd
 generalize l.any (fun x=>!(M.good a b && M.bS a b x.1 x.2.1 x.2.2))=t at *
 generalize M.cR a b l=pl at *
 generalize l.length=N at *
 go_enter Tryz.func34,Tryz.ntmps34
 go_wp2_with first | (go_at_call 54;(with_reducible refine (PC.out _).mono ?_);rintro e w4 ⟨rfl,hb4⟩;(replace B:=B.trans (hb4.mono B.size));(replace C:=C.keep hb4);(replace hx:=ws (hx.out.below hb4))) | (go_at_call 48;(with_reducible refine (PI.out _).mono ?_);rintro e w5 ⟨rfl,rfl⟩) | (go_at_call 55;(refine (PF.out _ hx.out C).mono ?_);rintro e w6 ⟨rfl,hb6⟩;(replace B:=B.trans (hb6.mono B.size)))
 go_ret
 exact ⟨by rw [hfin.out];rfl,B⟩
theorem sL (a b:Int) (v:Value) (l:List Pt) (w:World) (hx:eG w v l) (hn:l.length≤4000000) :
  Calls Tryz.prog 32 #[.agg #[.int .i64 a,.int .i64 b],v] w fun e w'=>e=.returned (.bool (M.cR a b l))∧Below w.heap.size w w':=by
 have PC:=ws fun W=>mG a b W
 obtain ⟨sa,cap,rfl,hv⟩:=hx
 have hv:=ws hv
 have PI:=ws fun W=>dU l.length 1 4 W
 have hpl:=ws (show M.cR a b l=(M.good a b && M.ins l.length 1 4 && l.all (fun p=>M.bS a b p.1 p.2.1 p.2.2)) from rfl)
 have B:=(ww w.heap.size w).alloc (xA _) (.cells #[.int .i64 a,.int .i64 b] 29)
 have C:=aH.new w #[.int .i64 a,.int .i64 b] 29
 generalize hw3:w.alloc (.cells #[.int .i64 a,.int .i64 b] 29)=wc at *
 obtain ⟨N,hN⟩:∃ N,Hid (l.length=N):=⟨_,ws rfl⟩
 rw [hN.out] at hn PI hpl ⊢
 go_enter Tryz.func32,Tryz.ntmps32
 go_wp2
 go_loopw [9] (fun vi wr=>∃ k:Nat,k≤N∧vi=.int .i64 k∧Hid ((l.take k).all (fun p=>M.good a b && M.bS a b p.1 p.2.1 p.2.2)=true)∧aH wr w.heap.size 29 #[.int .i64 a,.int .i64 b]∧Below w.heap.size w wr) (fun vi _=>N - (intOf vi).toNat)
 case atStart=>exact ⟨0,Nat.zero_le _,rfl,ws rfl,C,B⟩
 case round=>
 clear C B hw3
 obtain ⟨k,hk,rfl,hall,C,B⟩:=hrel
 by_cases hlt:k<N
 ·obtain ⟨x,hx⟩:∃ x,l[k]?=some x:=⟨_,List.getElem?_eq_getElem (by have:=hN.out;omega)⟩
  obtain ⟨g,rfl,hpt⟩:∃ g,sa=some ⟨g,0,none⟩∧fB w g l:=by
   rcases hv.out with h | h
   ·rw [h] at hx;cases hx
   exact h
  obtain ⟨d0,d1,d2⟩:=(hpt.below B) k x hx
  have PP:=fun W=>li a b x.1 x.2.1 x.2.2 W
  have hmem:=List.mem_of_getElem? hx
  have hnx:(M.good a b && M.bS a b x.1 x.2.1 x.2.2)=true→(l.take (k+1)).all (fun p=>M.good a b && M.bS a b p.1 p.2.1 p.2.2)=true:=fun h=>by
   rw [List.take_add_one,hx,List.all_append,hall.out]
   simpa using h
  have hbad:(M.good a b && M.bS a b x.1 x.2.1 x.2.2)=false→M.cR a b l=false:=fun h=>by
   cases hp:M.cR a b l
   ·rfl
   rw [hpl.out] at hp
   simp only [Bool.and_eq_true,List.all_eq_true] at hp
   have:=hp.2 x hmem
   rw [hp.1.1,this] at h
   cases h
  generalize (M.good a b && M.bS a b x.1 x.2.1 x.2.2)=t at *
  obtain ⟨x1,x2,x3⟩:=x
  simp only [] at d0 d1 d2 PP
  clear hx hmem hpt
  replace PP:=ws PP
  replace hnx:=ws hnx
  replace hbad:=ws hbad
  replace B:=B.alloc B.size (.cells #[.int .i64 x1,.int .i64 x2,.int .i64 x3] 57)
  have Z:=aH.new wr #[.int .i64 x1,.int .i64 x2,.int .i64 x3] 57
  replace C:=C.alloc (.cells #[.int .i64 x1,.int .i64 x2,.int .i64 x3] 57)
  have C_c0:=C.box.c0
  have C_c1:=C.box.c1
  have ⟨z0,z1,z2⟩:=Z.aQ
  cases t
  ·have hfin:=ws (hbad.out rfl)
   go_wp2_with (go_at_call 50;(with_reducible refine (PP.out _).mono ?_);rintro e w4 ⟨rfl,hb4⟩;(replace B:=B.trans (hb4.mono B.size)))
   go_ret
   exact ⟨by rw [hfin.out];rfl,B⟩
  have hny:=ws (hnx.out rfl)
  clear hnx
  go_wp2_with (go_at_call 50;(with_reducible refine (PP.out _).mono ?_);rintro e w4 ⟨rfl,hb4⟩;(replace B:=B.trans (hb4.mono B.size));(replace C:=C.keep hb4))
  go_roundw
  case rel=>exact ⟨k+1,by omega,by simp,hny,C,B⟩
  case measure=>simp [intOf] <;> omega
 obtain rfl:k=N:=by omega
 have e0:l.take k=l:=by rw [←hN.out];exact List.take_length
 rw [e0] at hall
 have hfin:M.cR a b l=(M.good a b && M.ins (k:Int) 1 4):=by
  rw [hpl.out]
  cases hg:M.good a b
  ·rfl
  have:=hall.out
  rw [hg] at this
  simp only [Bool.true_and] at this
  rw [this,Bool.and_true]
 have hfin:=ws hfin
 clear hpl hall
 have C_c0:=C.box.c0
 have C_c1:=C.box.c1
 generalize M.good a b=gd at *
 generalize M.ins (k:Int) 1 4=ii at *
 cases gd
 all_goals
  go_wp2_with first | (go_at_call 51;(with_reducible refine (PC.out _).mono ?_);rintro e w4 ⟨rfl,hb4⟩;(replace B:=B.trans (hb4.mono B.size))) | (go_at_call 47;(with_reducible refine (PI.out _).mono ?_);rintro e w5 ⟨rfl,rfl⟩)
  go_ret
  exact ⟨by rw [hfin.out];rfl,B⟩
theorem Rw.lJ {α:Type} {E:Rw.Enc α} {v:Value} {w:World} {base:Nat} {xs:List α} (h:Rw.Own E w base v xs):v.oneCell'=true:=by
 rcases h.2 with ⟨rfl,-⟩ | ⟨g,cap,cur,rfl,-⟩ <;> rfl
def EN:Rw.Enc (Int × Int × Int × Int) where
 t:=64
 k:=4
 cells:=fun q=>[.int .i64 q.1,.int .i64 q.2.1,.int .i64 q.2.2.1,.int .i64 q.2.2.2]
 len:=fun _=>rfl
 one:=fun x u hu=>by simp only [List.mem_cons,List.not_mem_nil,or_false] at hu;rcases hu with rfl | rfl | rfl | rfl <;> rfl
 pos:=by decide
theorem wT:(Tryz.prog.info? 64).map (fun i=>(i.zero,i.size,i.bytes))=some (some (.agg #[.int .i64 0,.int .i64 0,.int .i64 0,.int .i64 0]),4,32):=by kernel_rfl
theorem mK:Rw.Fits Tryz.prog EN 100:=⟨Tryz.underlying100,by
 obtain ⟨i0,hi,hz0,hz1,hz2⟩:=info_parts wT
 exact ⟨i0,_,hi,hz0,hz1,by omega,rfl⟩⟩
theorem sQ:(Tryz.prog.info? 100).map (fun i=>(i.zero,i.size,i.bytes))=some (some (.slice none 0 0),1,24):=by kernel_rfl
theorem neN:(100:TypeId)≠64:=by decide
def bp (w:World) (base:Nat) (v:Value) (vs:List Value) (rows:List (List (Int × Int × Int × Int))):Prop:=
 w.ownsRow base 100 1 v rows.length vs∧vs.length=rows.length∧(∀ (i:Nat) (u:Value) (r:List (Int × Int × Int × Int)),vs[i]?=some u→rows[i]?=some r→Rw.Own EN w base u r)∧
  vs.Pairwise (fun u u'=>∀ g,u.ownBlock=some g→u'.ownBlock≠some g)
theorem bp.nil (w:World) (base:Nat):bp w base (.slice none 0 0) [] []:=⟨World.ownsRow_nil w base _ 1,rfl,fun i u r h=>by simp at h,List.Pairwise.nil⟩
theorem bp.base {w:World} {base base':Nat} {v:Value} {vs:List Value} {rows:List (List (Int × Int × Int × Int))} (h:bp w base v vs rows) (hb:base'≤base):bp w base' v vs rows:=by
 obtain ⟨h1,h2,h3,h4⟩:=h
 refine ⟨?_,h2,fun i u r hu hr=>(h3 i u r hu hr).down hb,h4⟩
 obtain ⟨a1,a2⟩:=h1
 refine ⟨a1,?_⟩
 rcases a2 with a2 | ⟨g,cap,cur,hv,hg,hh,r⟩
 ·exact Or.inl a2
 exact Or.inr ⟨g,cap,cur,hv,Nat.le_trans hb hg,hh,r⟩
theorem bp.below {w w':World} {base:Nat} {v:Value} {vs:List Value} {rows:List (List (Int × Int × Int × Int))} (h:bp w base v vs rows) (hb:Below w.heap.size w w'):bp w' base v vs rows:=by
 obtain ⟨h1,h2,h3,h4⟩:=h
 exact ⟨World.ownsRow.kept h1 (cH hb none) (by cases v.ownBlock <;> simp),h2,fun i u r hu hr=>(h3 i u r hu hr).below hb,h4⟩
theorem bp.alloc {w:World} {base:Nat} {v:Value} {vs:List Value} {rows:List (List (Int × Int × Int × Int))} (h:bp w base v vs rows) (o:Obj):bp (w.alloc o) base v vs rows:=
 h.below ((ww _ _).alloc (xA _) _)
theorem bp.lt {w:World} {base:Nat} {v:Value} {vs:List Value} {rows:List (List (Int × Int × Int × Int))} (h:bp w base v vs rows):∀ z ∈ vs,∀ g,z.ownBlock=some g→base≤g∧g<w.heap.size:=by
 obtain ⟨h1,h2,h3,h4⟩:=h
 intro z hz g hg
 obtain ⟨i,hi⟩:=List.getElem?_of_mem hz
 have hil:=(List.getElem?_eq_some_iff.1 hi).1
 exact World.ownsRow.lt (h3 i z _ hi (List.getElem?_eq_getElem (by omega))) g hg
theorem qc {ops:Array Oper} {rest:List Oper} {o:Oper} {a:Act} {Q:Exit→Act→World→Prop} {w W:World} (base:Nat) (u:Value) (r:List (Int × Int × Int × Int)) (vs:List Value) (rows:List (List (Int × Int × Int × Int))) (v:Value) (H:Nat) (hH:w.heap.size=H) (hgd:o.guard=none) (s x:Operand)
  (ho:o.op=.call { callee:=.builtin .append,args:=#[s,x],argTypes:=#[83,83] }) (hs:a.eval s=v) (hx:a.eval x=.slice (some ⟨H,0,none⟩) 1 1)
  (hown:bp w base v vs rows) (hu:Rw.Own EN w base u r) (hnew:∀ g,u.ownBlock=some g→∀ z ∈ vs,z.ownBlock≠some g)
  (hW:Below base W w) (hB:base≤w.heap.size) (hl:rows.length≤1000000000)
  (h:∀ v' w',bp w' base v' (vs ++ [u]) (rows ++ [r])→Below base W w'→wpList Tryz.prog ops Q rest (a.put o.dst v') w') :
  wpList Tryz.prog ops Q (o :: rest) a (w.alloc (.cells #[u] 100)):=by
 subst hH
 obtain ⟨i0,hi,hz0,hz1,hz2⟩:=info_parts sQ
 obtain ⟨h1,h2,h3,h4⟩:=hown
 refine wpList_append_own _ hgd s x 83 ho base 100 i0 (.slice none 0 0) 1 24 Tryz.underlying83 hi hz0 hz1 hz2 rfl (by decide) v rows.length vs hs (h1.alloc _) ⟨w.heap.size,0,none⟩ 1 1 [u] hx rfl (fun j z hz=>by
  have hadd:(⟨w.heap.size,0,none⟩:Addr).add j=⟨w.heap.size,j,none⟩:=by unfold Addr.add;split <;> simp_all
  rw [hadd,World.cell?_alloc_at _ _ _ _ rfl]
  simpa using hz) (fun z hz=>by simp only [List.mem_singleton] at hz;subst hz;exact Rw.lJ hu) ?_ ?_ ?_ ?_
 ·unfold maxLen;omega
 ·omega
 ·simp;omega
 intro v' w' k1 k2 _
 refine h v' w' ⟨by rw [List.length_append];exact k1,by rw [List.length_append,List.length_append,h2];rfl,?_,?_⟩ ((hW.alloc hB _).grown k2 (by simp;omega) fun k hk=>(h1.lt k hk).1)
 ·have hal:∀ {z:Value} {q:List (Int × Int × Int × Int)},Rw.Own EN w base z q→Rw.Own EN w' base z q:=by
   intro z q hz
   have hz':Rw.Own EN (w.alloc (.cells #[u] 100)) base z q:=World.ownsRow.alloc hz _
   refine hz'.kept k2 fun g hg=>?_
   exact fi (t1:=64) (t2:=100) hz' (World.ownsRow.alloc h1 _) (Ne.symm neN) g hg
  intro i z q hz hq
  by_cases hlt:i<vs.length
  ·rw [List.getElem?_append_left hlt] at hz
   rw [List.getElem?_append_left (by omega)] at hq
   exact hal (h3 i z q hz hq)
  rw [List.getElem?_append_right (by omega)] at hz
  rw [List.getElem?_append_right (by omega),←h2] at hq
  have hi0:i - vs.length=0:=by
   rcases Nat.eq_zero_or_pos (i - vs.length) with e | e
   ·exact e
   rw [List.getElem?_eq_none (by simp;omega)] at hz;cases hz
  rw [hi0] at hz hq
  simp only [List.getElem?_cons_zero,Option.some.injEq] at hz hq
  subst hz hq
  exact hal hu
 rw [List.pairwise_append]
 refine ⟨h4,by simp,fun z hz z' hz' g hg hg'=>?_⟩
 simp only [List.mem_singleton] at hz'
 subst hz'
 exact hnew g hg' z hz hg
theorem bp.view {w:World} {base:Nat} {v:Value} {vs:List Value} {rows:List (List (Int × Int × Int × Int))} (h:bp w base v vs rows):∃ (a:Option Addr) (cap:Nat),v=.slice a rows.length cap∧(rows.length:Int)≤9223372036854775807∧
  ∀ k,k<rows.length→∃ g u r,a=some ⟨g,0,none⟩∧g<w.heap.size∧Hid (rows[k]?=some r)∧Hid (vs[k]?=some u)∧w.cell? ⟨g,k,none⟩=some u∧Rw.Own EN w base u r:=by
 obtain ⟨⟨h1,h2⟩,h3,h4,h5⟩:=h
 rcases h2 with ⟨rfl,hn⟩ | ⟨g,cap,cur,rfl,hg,hh,hc,hm,hs,ht⟩
 ·exact ⟨none,0,by rw [hn],by omega,fun k hk=>by omega⟩
 refine ⟨some ⟨g,0,none⟩,cap,rfl,by unfold maxLen at hm;omega,fun k hk=>⟨g,vs[k]'(by omega),rows[k],rfl,(Array.getElem?_eq_some_iff.1 hh).1,List.getElem?_eq_getElem hk,List.getElem?_eq_getElem (by omega),?_,h4 k _ _ (List.getElem?_eq_getElem (by omega)) (List.getElem?_eq_getElem hk)⟩⟩
 rw [cell_of_row w g k cur _ (0,0) hh]
 have e:vs[k]?=some (vs[k]'(by omega)):=List.getElem?_eq_getElem (by omega)
 generalize vs[k]'(by omega)=q at e ⊢
 rw [←ht,List.getElem?_take] at e
 split at e
 ·simpa using e
 cases e
def EP:Rw.Enc (Int × Int) where
 t:=68
 k:=2
 cells:=fun q=>[.int .i64 q.1,.int .i64 q.2]
 len:=fun _=>rfl
 one:=fun x u hu=>by simp only [List.mem_cons,List.not_mem_nil,or_false] at hu;rcases hu with rfl | rfl <;> rfl
 pos:=by decide
theorem sR:(Tryz.prog.info? 68).map (fun i=>(i.zero,i.size,i.bytes))=some (some (.agg #[.int .i64 0,.int .i64 0]),2,16):=by kernel_rfl
theorem uk:Rw.Fits Tryz.prog EP 110:=⟨Tryz.underlying110,by
 obtain ⟨i0,hi,hz0,hz1,hz2⟩:=info_parts sR
 exact ⟨i0,_,hi,hz0,hz1,by omega,rfl⟩⟩
theorem sS:(Tryz.prog.info? 110).map (fun i=>(i.zero,i.size,i.bytes))=some (some (.slice none 0 0),1,24):=by kernel_rfl
theorem neP:(110:TypeId)≠68:=by decide
def bV (w:World) (base:Nat) (v:Value) (vs:List Value) (rows:List (List (Int × Int))):Prop:=
 w.ownsRow base 110 1 v rows.length vs∧vs.length=rows.length∧(∀ (i:Nat) (u:Value) (r:List (Int × Int)),vs[i]?=some u→rows[i]?=some r→Rw.Own EP w base u r)∧
  vs.Pairwise (fun u u'=>∀ g,u.ownBlock=some g→u'.ownBlock≠some g)
theorem bV.nil (w:World) (base:Nat):bV w base (.slice none 0 0) [] []:=⟨World.ownsRow_nil w base _ 1,rfl,fun i u r h=>by simp at h,List.Pairwise.nil⟩
theorem bV.base {w:World} {base base':Nat} {v:Value} {vs:List Value} {rows:List (List (Int × Int))} (h:bV w base v vs rows) (hb:base'≤base):bV w base' v vs rows:=by
 obtain ⟨h1,h2,h3,h4⟩:=h
 refine ⟨?_,h2,fun i u r hu hr=>(h3 i u r hu hr).down hb,h4⟩
 obtain ⟨a1,a2⟩:=h1
 refine ⟨a1,?_⟩
 rcases a2 with a2 | ⟨g,cap,cur,hv,hg,hh,r⟩
 ·exact Or.inl a2
 exact Or.inr ⟨g,cap,cur,hv,Nat.le_trans hb hg,hh,r⟩
theorem bV.below {w w':World} {base:Nat} {v:Value} {vs:List Value} {rows:List (List (Int × Int))} (h:bV w base v vs rows) (hb:Below w.heap.size w w'):bV w' base v vs rows:=by
 obtain ⟨h1,h2,h3,h4⟩:=h
 exact ⟨World.ownsRow.kept h1 (cH hb none) (by cases v.ownBlock <;> simp),h2,fun i u r hu hr=>(h3 i u r hu hr).below hb,h4⟩
theorem bV.alloc {w:World} {base:Nat} {v:Value} {vs:List Value} {rows:List (List (Int × Int))} (h:bV w base v vs rows) (o:Obj):bV (w.alloc o) base v vs rows:=
 h.below ((ww _ _).alloc (xA _) _)
theorem bV.lt {w:World} {base:Nat} {v:Value} {vs:List Value} {rows:List (List (Int × Int))} (h:bV w base v vs rows):∀ z ∈ vs,∀ g,z.ownBlock=some g→base≤g∧g<w.heap.size:=by
 obtain ⟨h1,h2,h3,h4⟩:=h
 intro z hz g hg
 obtain ⟨i,hi⟩:=List.getElem?_of_mem hz
 have hil:=(List.getElem?_eq_some_iff.1 hi).1
 exact World.ownsRow.lt (h3 i z _ hi (List.getElem?_eq_getElem (by omega))) g hg
theorem bV.view {w:World} {base:Nat} {v:Value} {vs:List Value} {rows:List (List (Int × Int))} (h:bV w base v vs rows):∃ (a:Option Addr) (cap:Nat),v=.slice a rows.length cap∧(rows.length:Int)≤9223372036854775807∧
  ∀ k,k<rows.length→∃ g u r,a=some ⟨g,0,none⟩∧g<w.heap.size∧Hid (rows[k]?=some r)∧Hid (vs[k]?=some u)∧w.cell? ⟨g,k,none⟩=some u∧Rw.Own EP w base u r:=by
 obtain ⟨⟨h1,h2⟩,h3,h4,h5⟩:=h
 rcases h2 with ⟨rfl,hn⟩ | ⟨g,cap,cur,rfl,hg,hh,hc,hm,hs,ht⟩
 ·exact ⟨none,0,by rw [hn],by omega,fun k hk=>by omega⟩
 refine ⟨some ⟨g,0,none⟩,cap,rfl,by unfold maxLen at hm;omega,fun k hk=>⟨g,vs[k]'(by omega),rows[k],rfl,(Array.getElem?_eq_some_iff.1 hh).1,List.getElem?_eq_getElem hk,List.getElem?_eq_getElem (by omega),?_,h4 k _ _ (List.getElem?_eq_getElem (by omega)) (List.getElem?_eq_getElem hk)⟩⟩
 rw [cell_of_row w g k cur _ (0,0) hh]
 have e:vs[k]?=some (vs[k]'(by omega)):=List.getElem?_eq_getElem (by omega)
 generalize vs[k]'(by omega)=q at e ⊢
 rw [←ht,List.getElem?_take] at e
 split at e
 ·simpa using e
 cases e
namespace M
noncomputable def ent (a b:Int) (l:List Pt) (i j:Nat):Sp:=match l[i]?,l[j]? with
 | some p,some q=>if i=j then eB a b p.1 p.2.2 else if i<j then dS a b p.1 p.2.1 p.2.2 q.1 q.2.1 q.2.2 else dS a b q.1 q.2.1 q.2.2 p.1 p.2.1 p.2.2
 | _,_=>none
noncomputable def ivc (s:Sp):Int × Int × Int × Int:=(in1 s,in2 s,in3 s,in4 s)
noncomputable def mOk (a b:Int) (l:List Pt):Bool:=(List.range l.length).all fun i=>(List.range l.length).all fun j=>(ent a b l i j).isSome
noncomputable def iQ (a b:Int) (l:List Pt) (i:Nat):List (Int × Int × Int × Int):=(List.range l.length).map fun j=>ivc (ent a b l i j)
noncomputable def kM (a b:Int) (l:List Pt):List (List (Int × Int × Int × Int)):=if mOk a b l=true then (List.range l.length).map (iQ a b l) else []
theorem iY (a b:Int) (l:List Pt) (i j:Nat):ent a b l i j=ent a b l j i:=by
 by_cases h:i=j
 ·subst h;rfl
 unfold ent
 cases l[i]? with
 | none=>cases l[j]? <;> rfl
 | some p=>cases l[j]? with
  | none=>rfl
  | some q=>
  simp only []
  have h':¬ j=i:=fun e=>h e.symm
  simp only [h,h',if_false]
  rcases Nat.lt_or_ge i j with q1 | q1
  ·rw [if_pos q1,if_neg (by omega)]
  rw [if_neg (by omega),if_pos (by omega)]
theorem mI {a b:Int} {l:List Pt} {i:Nat} {p:Pt} (h:l[i]?=some p):ent a b l i i=eB a b p.1 p.2.2:=by
 unfold ent
 rw [h]
 simp
theorem mH {a b:Int} {l:List Pt} {i j:Nat} {p q:Pt} (h1:l[i]?=some p) (h2:l[j]?=some q) (h:i<j):ent a b l i j=dS a b p.1 p.2.1 p.2.2 q.1 q.2.1 q.2.2:=by
 unfold ent
 rw [h1,h2]
 simp only []
 rw [if_neg (by omega),if_pos h]
theorem sd {a b:Int} {l:List Pt} {i j:Nat} (hi:i<l.length) (hj:j<l.length) (h:ent a b l i j=none):mOk a b l=false:=by
 cases hm:mOk a b l
 ·rfl
 unfold mOk at hm
 simp only [List.all_eq_true,List.mem_range] at hm
 have:=hm i hi j hj
 rw [h] at this
 cases this
theorem pP {a b:Int} {l:List Pt} (h:∀ i,i<l.length→∀ j,j<l.length→(ent a b l i j).isSome=true):mOk a b l=true:=by
 unfold mOk
 simp only [List.all_eq_true,List.mem_range]
 exact h
theorem sf {a b:Int} {l:List Pt} (h:mOk a b l=false):kM a b l=[]:=by
 unfold kM
 rw [h]
 rfl
theorem kN {a b:Int} {l:List Pt} (h:mOk a b l=true):kM a b l=(List.range l.length).map (iQ a b l):=by
 unfold kM
 rw [h]
 rfl
end M
def dQ (w:World) (base:Nat) (v:Value) (rows:List (List (Int × Int × Int × Int))):Prop:=∃ vs,bp w base v vs rows
theorem dQ.below {w w':World} {base:Nat} {v:Value} {rows:List (List (Int × Int × Int × Int))} (h:dQ w base v rows) (hb:Below w.heap.size w w'):dQ w' base v rows:=h.elim fun vs k=>⟨vs,k.below hb⟩
theorem dQ.base {w:World} {base base':Nat} {v:Value} {rows:List (List (Int × Int × Int × Int))} (h:dQ w base v rows) (hb:base'≤base):dQ w base' v rows:=h.elim fun vs k=>⟨vs,k.base hb⟩
theorem dQ.nil (w:World) (base:Nat):dQ w base (.slice none 0 0) []:=⟨[],bp.nil w base⟩
theorem dQ.at {w:World} {base:Nat} {v:Value} {rows:List (List (Int × Int × Int × Int))} (h:dQ w base v rows) {i j:Nat} {r:List (Int × Int × Int × Int)} {q:Int × Int × Int × Int} (hr:rows[i]?=some r) (hq:r[j]?=some q) :
  ∃ (g cap g2 cap2:Nat),v=.slice (some ⟨g,0,none⟩) rows.length cap∧w.cell? ⟨g,i,none⟩=some (.slice (some ⟨g2,0,none⟩) r.length cap2)∧w.cell? ⟨g2,j*4,none⟩=some (.int .i64 q.1)∧w.cell? ⟨g2,j*4+1,none⟩=some (.int .i64 q.2.1)∧w.cell? ⟨g2,j*4+2,none⟩=some (.int .i64 q.2.2.1)∧w.cell? ⟨g2,j*4+3,none⟩=some (.int .i64 q.2.2.2):=by
 obtain ⟨vs,h⟩:=h
 obtain ⟨a,cap,rfl,-,hv⟩:=h.view
 obtain ⟨g,u,r',rfl,-,h1,-,h2,h3⟩:=hv i (List.getElem?_eq_some_iff.1 hr).1
 have e:r'=r:=by
  have:=h1.out
  rw [hr] at this
  exact (Option.some.inj this).symm
 subst e
 rcases h3.forms with ⟨-,h4⟩ | ⟨g2,cap2,rfl,-,-,-,-⟩
 ·rw [h4] at hq;cases hq
 have hc:=fun t (ht:t<4)=>(h3.cellAt rfl (j*4+t) _ ((Rw.flat_get EN r' j t q hq ht).trans (List.getElem?_eq_getElem (by rw [EN.len];exact ht)))).1
 exact ⟨g,cap,g2,cap2,rfl,h2,hc 0 (by decide),hc 1 (by decide),hc 2 (by decide),hc 3 (by decide)⟩
theorem er {α:Type} (f:Nat→α) (k:Nat):(List.range (k+1)).map f=(List.range k).map f ++ [f k]:=by
 rw [List.range_succ,List.map_append]
 rfl
theorem mg {α:Type} (f:Nat→α) {k n:Nat} (h:k<n):((List.range n).map f)[k]?=some (f k):=by
 rw [List.getElem?_map,List.getElem?_range h]
 rfl
theorem np (a b:Int) (v:Value) (l:List Pt) (w:World) (hx:eG w v l) (hg:M.good a b=true) (hn:l.length≤4) (hp:∀ p ∈ l,M.bS a b p.1 p.2.1 p.2.2=true) :
  Calls Tryz.prog 52 #[.agg #[.int .i64 a,.int .i64 b],v] w fun e w'=>∃ mv,e=.returned (.tuple #[mv,.bool (M.mOk a b l)])∧dQ w' w.heap.size mv (M.kM a b l)∧Below w.heap.size w w':=by
 have hin:=M.bI hg
 obtain ⟨sa,cap,rfl,hv⟩:=hx
 have hv:=ws hv
 have hp:=ws hp
 obtain ⟨N,hN⟩:∃ N,Hid (l.length=N):=⟨_,ws rfl⟩
 rw [hN.out] at hn ⊢
 have hno:=ws fun i j h1 h2 h=>M.sd (a:=a) (b:=b) (l:=l) (i:=i) (j:=j) h1 h2 h
 have hrn:=ws fun h=>M.sf (a:=a) (b:=b) (l:=l) h
 have B:=(ww w.heap.size w).alloc (xA _) (.cells #[.int .i64 a,.int .i64 b] 29)
 have C:=aH.new w #[.int .i64 a,.int .i64 b] 29
 generalize hw3:w.alloc (.cells #[.int .i64 a,.int .i64 b] 29)=wc at *
 go_enter Tryz.func52,Tryz.ntmps52
 go_wp2
 go_loopw [6,16] (fun vo vi wr=>∃ i:Nat,i≤N∧vi=.int .i64 i∧Hid (∀ i',i'<i→∀ j,j<l.length→(M.ent a b l i' j).isSome=true)∧Hid (dQ wr wc.heap.size vo ((List.range i).map (M.iQ a b l)))∧Below wc.heap.size wc wr) (fun _ vi _=>N - (intOf vi).toNat)
 case atStart=>exact ⟨0,Nat.zero_le _,rfl,ws (fun i' h=>absurd h (by omega)),ws (dQ.nil _ _),ww _ _⟩
 case round=>
 obtain ⟨i,hi,rfl,hall,hmat,Bc⟩:=hrel
 have hB0:=B.size
 replace B:=B.trans (Bc.mono B.size)
 replace C:=C.keep Bc
 by_cases hlt:i<N
 ·obtain ⟨x,hx⟩:∃ x,l[i]?=some x:=⟨_,List.getElem?_eq_getElem (by have:=hN.out;omega)⟩
  obtain ⟨g,rfl,hpt⟩:∃ g,sa=some ⟨g,0,none⟩∧fB w g l:=by
   rcases hv.out with h | h
   ·rw [h] at hx;cases hx
   exact h
  have hpt:=ws hpt
  obtain ⟨d0,d1,d2⟩:=(hpt.out.below B) i x hx
  have hpx:=hp.out x (List.mem_of_getElem? hx)
  have hx:=ws hx
  obtain ⟨x1,x2,x3⟩:=x
  simp only [] at d0 d1 d2 hpx
  have hb1:=M.d9 hin hpx
  have PS:=ws fun W=>sM a b x1 x2 x3 W hg hb1.1 hb1.2.1 hb1.2.2.1 hb1.2.2.2.1
  clear hb1
  have B1:=B.alloc B.size (.cells #[.int .i64 x1,.int .i64 x2,.int .i64 x3] 57)
  have B1c:=Bc.alloc Bc.size (.cells #[.int .i64 x1,.int .i64 x2,.int .i64 x3] 57)
  have Z:=aH.new wr #[.int .i64 x1,.int .i64 x2,.int .i64 x3] 57
  have C1:=C.alloc (.cells #[.int .i64 x1,.int .i64 x2,.int .i64 x3] 57)
  have hwi:=wt wr (.cells #[.int .i64 x1,.int .i64 x2,.int .i64 x3] 57)
  have hm1:=ws (hmat.out.below ((ww _ wr).alloc (xA _) (.cells #[.int .i64 x1,.int .i64 x2,.int .i64 x3] 57)))
  generalize hw1:wr.alloc (.cells #[.int .i64 x1,.int .i64 x2,.int .i64 x3] 57)=wi at *
  go_wp2
  go_loopw [9,23] (fun vr vk wq=>∃ k:Nat,k≤N∧vk=.int .i64 k∧Hid (∀ j,j<k→(M.ent a b l i j).isSome=true)∧Hid (Rw.Own EN wq wi.heap.size vr ((List.range k).map fun j=>M.ivc (M.ent a b l i j)))∧Below wi.heap.size wi wq) (fun _ vk _=>N - (intOf vk).toNat)
  case atStart=>exact ⟨0,Nat.zero_le _,rfl,ws (fun j h=>absurd h (by omega)),ws (Rw.Own.nil EN _ _),ww _ _⟩
  case round=>
  clear d0 d1 d2
  obtain ⟨k,hk,rfl,hall2,hrow,Bq⟩:=hrel
  have hsz:=B.size
  have hsq:=Bq.size
  by_cases hlt2:k<N
  ·obtain ⟨y,hy⟩:∃ y,l[k]?=some y:=⟨_,List.getElem?_eq_getElem (by have:=hN.out;omega)⟩
   obtain ⟨d0,d1,d2⟩:=((hpt.out.below B1).below Bq) k y hy
   have hpy:=hp.out y (List.mem_of_getElem? hy)
   obtain ⟨y1,y2,y3⟩:=y
   simp only [] at d0 d1 d2 hpy
   have hy:=ws hy
   have hmq:=ws (hm1.out.below Bq)
   have B2:=Bq.alloc Bq.size (.cells #[.int .i64 y1,.int .i64 y2,.int .i64 y3] 57)
   have ZY:=aH.new wr #[.int .i64 y1,.int .i64 y2,.int .i64 y3] 57
   have Z2:=(Z.keep Bq).alloc (.cells #[.int .i64 y1,.int .i64 y2,.int .i64 y3] 57)
   have C2:=(C1.keep Bq).alloc (.cells #[.int .i64 y1,.int .i64 y2,.int .i64 y3] 57)
   have hrow2:=ws (Rw.Own.alloc hrow.out (.cells #[.int .i64 y1,.int .i64 y2,.int .i64 y3] 57))
   have C_c0:=C2.box.c0
   have C_c1:=C2.box.c1
   have ⟨z0,z1,z2⟩:=Z2.aQ
   have ⟨t0,t1,t2⟩:=ZY.aQ
   have hle:((List.range k).map fun j=>M.ivc (M.ent a b l i j)).length≤4:=by rw [List.length_map,List.length_range];omega
   have hle:=ws hle
   have hnxt:(M.ent a b l i k).isSome=true→(∀ j,j<k+1→(M.ent a b l i j).isSome=true):=fun h j hj=>by
    rcases Nat.lt_or_ge j k with q | q
    ·exact hall2.out j q
    obtain rfl:j=k:=by omega
    exact h
   have hnxt:=ws hnxt
   rcases Nat.lt_trichotomy k i with hc | hc | hc
   ·have hent:=hall.out k hc i (by have:=hN.out;omega)
    rw [M.iY] at hent
    have hnx:=ws (hnxt.out hent)
    obtain ⟨gm,cm,g2,c2,rfl,m0,m1,m2,m3,m4⟩:=(hmq.out.below ((ww _ wr).alloc (xA _) (.cells #[.int .i64 y1,.int .i64 y2,.int .i64 y3] 57))).at (mg (M.iQ a b l) hc) (show (M.iQ a b l k)[i]?=some _ from mg _ (by have:=hN.out;omega))
    rw [M.iY] at m1 m2 m3 m4
    have hrl:(M.iQ a b l k).length=N:=by unfold M.iQ;rw [List.length_map,List.length_range];exact hN.out
    rw [hrl] at m0
    have hrm:((List.range i).map (M.iQ a b l)).length=i:=by rw [List.length_map,List.length_range]
    simp only [hrm]
    clear hnxt hent hrl hrm
    obtain ⟨q,hq⟩:∃ q,Hid (M.ivc (M.ent a b l i k)=q):=⟨_,ws rfl⟩
    rw [hq.out] at m1 m2 m3 m4
    obtain ⟨q1,q2,q3,q4⟩:=q
    simp only [] at m1 m2 m3 m4
    have hii:((i:Nat):Int)≤4:=by omega
    go_wp2_with (at_builtin;refine Rw.push mK (W:=wi) wi.heap.size [(q1,q2,q3,q4)] _ _ (some ⟨wr.heap.size+1,0,none⟩) 1 1 rfl rfl (.tmp 31) (.tmp 39) rfl rfl rfl (Rw.From.lit EN _ (q1,q2,q3,q4) (wr.heap.size+1) (wt _ _)) (Rw.Own.alloc hrow2.out _) (B2.alloc B2.size _) (by rw [wt];have:=B2.size;omega) (by have:=hle.out;simp only [List.length_cons,List.length_nil];omega) ?_;intro v6 w6 hown6 hb6)
    go_roundw
    case rel=>exact ⟨k+1,by omega,by go_num,hnx,by rw [er,hq.out];exact ws hown6,hb6⟩
    case measure=>simp [intOf] <;> omega
   ·subst hc
    have hxy:=Option.some.inj (hx.out.symm.trans hy.out)
    injection hxy with e1 e2
    injection e2 with e2 e3
    subst e1 e2 e3
    have he:=M.mI (a:=a) (b:=b) hx.out
    have PP:=fun W=>mR a b x1 x2 x3 x1 x2 x3 W hg hpx hpx
    generalize M.dS a b x1 x2 x3 x1 x2 x3=ps at *
    generalize M.in1 ps=u1 at *
    generalize M.in2 ps=u2 at *
    generalize M.in3 ps=u3 at *
    generalize M.in4 ps=u4 at *
    generalize ps.isSome=fu at *
    simp only [] at he
    replace PS:=PS.out
    generalize M.eB a b x1 x3=ss at *
    have hni:=hno.out k k (by have:=hN.out;omega) (by have:=hN.out;omega)
    rw [he] at hni hnxt
    have Bv:=(ww wr.heap.size wr).alloc (xA _) (.cells #[.int .i64 x1,.int .i64 x2,.int .i64 x3] 57)
    cases ss with
    | none=>
     have hfin:=ws (hni rfl)
     have hfr:=ws (hrn.out hfin.out)
     have e9:=ws (show M.in1 none=0∧M.in2 none=0∧M.in3 none=0∧M.in4 none=0∧(none:M.Sp).isSome=false from ⟨rfl,rfl,rfl,rfl,rfl⟩)
     rw [e9.out.1,e9.out.2.1,e9.out.2.2.1,e9.out.2.2.2.1,e9.out.2.2.2.2] at PS
     clear hni hnxt hno hrn e9 he
     replace PP:=ws PP
     replace PS:=ws PS
     go_wp2_with first | (go_at_call 66;(with_reducible refine (PP.out _).mono ?_);rintro e w4 ⟨rfl,hb4⟩;(have hz40:=Nat.le_trans Bv.size hb4.size);(replace Bv:=(Bv.trans (hb4.mono Bv.size)).alloc (Nat.le_trans Bv.size hb4.size) (.cells #[.int .i64 u1,.int .i64 u2,.int .i64 u3,.int .i64 u4] 64));(replace C2:=(C2.keep hb4).alloc (.cells #[.int .i64 u1,.int .i64 u2,.int .i64 u3,.int .i64 u4] 64));(replace Z2:=(Z2.keep hb4).alloc (.cells #[.int .i64 u1,.int .i64 u2,.int .i64 u3,.int .i64 u4] 64));(have V:=aH.new w4 #[.int .i64 u1,.int .i64 u2,.int .i64 u3,.int .i64 u4] 64);(have C_c0:=C2.box.c0);(have C_c1:=C2.box.c1);(have ⟨z0,z1,z2⟩:=Z2.aQ);(have ⟨v0,v1,v2,v3,f0,f1,f2,f3,vl⟩:=V.aM)) | (go_at_call 67;(with_reducible refine (PS.out _).mono ?_);rintro e w5 ⟨rfl,hb5⟩;(replace Bv:=Bv.trans (hb5.mono Bv.size));(replace V:=V.keep hb5);(have ⟨v0,v1,v2,v3,f0,f1,f2,f3,vl⟩:=V.aM);(have Bv2:=wu (wu (wu (wu (Bv) (p:=⟨w4.heap.size,0,none⟩) hz40 (.int .i64 0)) (p:=⟨w4.heap.size,1,none⟩) hz40 (.int .i64 0)) (p:=⟨w4.heap.size,2,none⟩) hz40 (.int .i64 0)) (p:=⟨w4.heap.size,3,none⟩) hz40 (.int .i64 0));(have V9:=V.j8 (.int .i64 0) (.int .i64 0) (.int .i64 0) (.int .i64 0));(have ⟨v0_,v1_,v2_,v3_,_,_,_,_,_⟩:=V9.aM))
     go_ret2
     exact ⟨_,by rw [hfin.out];rfl,by rw [hfr.out];exact dQ.nil _ _,(B1.trans (Bq.mono B1.size)).trans (Bv2.mono (Nat.le_trans B1.size hsq))⟩
    | some q_=>
    have hnx:=ws (hnxt.out rfl)
    obtain ⟨q,hq⟩:∃ q,Hid (M.ivc (some q_)=q):=⟨_,ws rfl⟩
    obtain ⟨q1,q2,q3,q4⟩:=q
    have e1:M.in1 (some q_)=q1:=congrArg (fun z=>z.1) hq.out
    have e2:M.in2 (some q_)=q2:=congrArg (fun z=>z.2.1) hq.out
    have e3:M.in3 (some q_)=q3:=congrArg (fun z=>z.2.2.1) hq.out
    have e4:M.in4 (some q_)=q4:=congrArg (fun z=>z.2.2.2) hq.out
    have e5:=ws (show (some q_:M.Sp).isSome=true from rfl)
    rw [e1,e2,e3,e4,e5.out] at PS
    have he:=ws (he.trans rfl)
    clear hni hnxt hno hrn e1 e2 e3 e4 e5
    replace PP:=ws PP
    replace PS:=ws PS
    go_wp2_with first | (go_at_call 66;(with_reducible refine (PP.out _).mono ?_);rintro e w4 ⟨rfl,hb4⟩;(have hz40:=Nat.le_trans Bv.size hb4.size);(replace Bv:=(Bv.trans (hb4.mono Bv.size)).alloc (Nat.le_trans Bv.size hb4.size) (.cells #[.int .i64 u1,.int .i64 u2,.int .i64 u3,.int .i64 u4] 64));(replace C2:=(C2.keep hb4).alloc (.cells #[.int .i64 u1,.int .i64 u2,.int .i64 u3,.int .i64 u4] 64));(replace Z2:=(Z2.keep hb4).alloc (.cells #[.int .i64 u1,.int .i64 u2,.int .i64 u3,.int .i64 u4] 64));(have V:=aH.new w4 #[.int .i64 u1,.int .i64 u2,.int .i64 u3,.int .i64 u4] 64);(have C_c0:=C2.box.c0);(have C_c1:=C2.box.c1);(have ⟨z0,z1,z2⟩:=Z2.aQ);(have ⟨v0,v1,v2,v3,f0,f1,f2,f3,vl⟩:=V.aM)) | (go_at_call 67;(with_reducible refine (PS.out _).mono ?_);rintro e w5 ⟨rfl,hb5⟩;(replace Bv:=Bv.trans (hb5.mono Bv.size));(replace V:=V.keep hb5);(have ⟨v0,v1,v2,v3,f0,f1,f2,f3,vl⟩:=V.aM);(have Bv2:=wu (wu (wu (wu (Bv) (p:=⟨w4.heap.size,0,none⟩) hz40 (.int .i64 q1)) (p:=⟨w4.heap.size,1,none⟩) hz40 (.int .i64 q2)) (p:=⟨w4.heap.size,2,none⟩) hz40 (.int .i64 q3)) (p:=⟨w4.heap.size,3,none⟩) hz40 (.int .i64 q4));(have V9:=V.j8 (.int .i64 q1) (.int .i64 q2) (.int .i64 q3) (.int .i64 q4));(have ⟨v0_,v1_,v2_,v3_,_,_,_,_,_⟩:=V9.aM)) | (at_builtin;refine Rw.push mK (W:=wi) wi.heap.size [(q1,q2,q3,q4)] _ _ (some ⟨w5.heap.size,0,none⟩) 1 1 rfl rfl (.tmp 59) (.tmp 61) rfl rfl rfl (Rw.From.lit EN _ (q1,q2,q3,q4) (w5.heap.size) (by simp [World.setCell])) (Rw.Own.alloc (hrow.out.below Bv2) _) ((Bq.trans (Bv2.mono Bq.size)).alloc (Nat.le_trans hsq Bv2.size) _) (by rw [wt];exact Nat.le_succ_of_le (Nat.le_trans hsq Bv2.size)) (by have:=hle.out;simp only [List.length_cons,List.length_nil];omega) ?_;intro v6 w6 hown6 hb6)
    go_roundw
    case rel=>exact ⟨k+1,by omega,by go_num,hnx,by rw [er,he.out,hq.out];exact ws hown6,hb6⟩
    case measure=>simp [intOf] <;> omega
   have he:=M.mH (a:=a) (b:=b) hx.out hy.out hc
   have PP:=fun W=>mR a b x1 x2 x3 y1 y2 y3 W hg hpx hpy
   simp only [] at he
   generalize M.dS a b x1 x2 x3 y1 y2 y3=ss at *
   have hne:((k:Int) == (i:Int))=false:=by rw [beq_eq_false_iff_ne];omega
   clear PS
   have hni:=hno.out i k (by have:=hN.out;omega) (by have:=hN.out;omega)
   rw [he] at hni hnxt
   have Bv:=(ww wr.heap.size wr).alloc (xA _) (.cells #[.int .i64 y1,.int .i64 y2,.int .i64 y3] 57)
   cases ss with
   | none=>
    have hfin:=ws (hni rfl)
    have hfr:=ws (hrn.out hfin.out)
    have e9:=ws (show M.in1 none=0∧M.in2 none=0∧M.in3 none=0∧M.in4 none=0∧(none:M.Sp).isSome=false from ⟨rfl,rfl,rfl,rfl,rfl⟩)
    rw [e9.out.1,e9.out.2.1,e9.out.2.2.1,e9.out.2.2.2.1,e9.out.2.2.2.2] at PP
    clear hni hnxt hno hrn e9 he
    replace PP:=ws PP
    go_wp2_with first | (go_at_call 66;(with_reducible refine (PP.out _).mono ?_);rintro e w4 ⟨rfl,hb4⟩;(have hz40:=Nat.le_trans Bv.size hb4.size);(replace Bv:=(Bv.trans (hb4.mono Bv.size)).alloc (Nat.le_trans Bv.size hb4.size) (.cells #[.int .i64 0,.int .i64 0,.int .i64 0,.int .i64 0] 64));(replace C2:=(C2.keep hb4).alloc (.cells #[.int .i64 0,.int .i64 0,.int .i64 0,.int .i64 0] 64));(replace Z2:=(Z2.keep hb4).alloc (.cells #[.int .i64 0,.int .i64 0,.int .i64 0,.int .i64 0] 64));(have V:=aH.new w4 #[.int .i64 0,.int .i64 0,.int .i64 0,.int .i64 0] 64);(have C_c0:=C2.box.c0);(have C_c1:=C2.box.c1);(have ⟨z0,z1,z2⟩:=Z2.aQ);(have ⟨v0,v1,v2,v3,f0,f1,f2,f3,vl⟩:=V.aM))
    go_ret2
    exact ⟨_,by rw [hfin.out];rfl,by rw [hfr.out];exact dQ.nil _ _,(B1.trans (Bq.mono B1.size)).trans (Bv.mono (Nat.le_trans B1.size hsq))⟩
   | some q_=>
   have hnx:=ws (hnxt.out rfl)
   obtain ⟨q,hq⟩:∃ q,Hid (M.ivc (some q_)=q):=⟨_,ws rfl⟩
   obtain ⟨q1,q2,q3,q4⟩:=q
   have e1:M.in1 (some q_)=q1:=congrArg (fun z=>z.1) hq.out
   have e2:M.in2 (some q_)=q2:=congrArg (fun z=>z.2.1) hq.out
   have e3:M.in3 (some q_)=q3:=congrArg (fun z=>z.2.2.1) hq.out
   have e4:M.in4 (some q_)=q4:=congrArg (fun z=>z.2.2.2) hq.out
   have e5:=ws (show (some q_:M.Sp).isSome=true from rfl)
   rw [e1,e2,e3,e4,e5.out] at PP
   have he:=ws (he.trans rfl)
   clear hni hnxt hno hrn e1 e2 e3 e4 e5
   replace PP:=ws PP
   go_wp2_with first | (go_at_call 66;(with_reducible refine (PP.out _).mono ?_);rintro e w4 ⟨rfl,hb4⟩;(have hz40:=Nat.le_trans Bv.size hb4.size);(replace Bv:=(Bv.trans (hb4.mono Bv.size)).alloc (Nat.le_trans Bv.size hb4.size) (.cells #[.int .i64 q1,.int .i64 q2,.int .i64 q3,.int .i64 q4] 64));(replace C2:=(C2.keep hb4).alloc (.cells #[.int .i64 q1,.int .i64 q2,.int .i64 q3,.int .i64 q4] 64));(replace Z2:=(Z2.keep hb4).alloc (.cells #[.int .i64 q1,.int .i64 q2,.int .i64 q3,.int .i64 q4] 64));(have V:=aH.new w4 #[.int .i64 q1,.int .i64 q2,.int .i64 q3,.int .i64 q4] 64);(have C_c0:=C2.box.c0);(have C_c1:=C2.box.c1);(have ⟨z0,z1,z2⟩:=Z2.aQ);(have ⟨v0,v1,v2,v3,f0,f1,f2,f3,vl⟩:=V.aM)) | (at_builtin;refine Rw.push mK (W:=wi) wi.heap.size [(q1,q2,q3,q4)] _ _ (some ⟨w4.heap.size+1,0,none⟩) 1 1 rfl rfl (.tmp 59) (.tmp 61) rfl rfl rfl (Rw.From.lit EN _ (q1,q2,q3,q4) (w4.heap.size+1) (by simp [World.setCell])) (Rw.Own.alloc (hrow.out.below Bv) _) ((Bq.trans (Bv.mono Bq.size)).alloc (Nat.le_trans hsq Bv.size) _) (by rw [wt];exact Nat.le_succ_of_le (Nat.le_trans hsq Bv.size)) (by have:=hle.out;simp only [List.length_cons,List.length_nil];omega) ?_;intro v6 w6 hown6 hb6)
   go_roundw
   case rel=>exact ⟨k+1,by omega,by go_num,hnx,by rw [er,he.out,hq.out];exact ws hown6,hb6⟩
   case measure=>simp [intOf] <;> omega
  obtain rfl:k=N:=by omega
  have hkl:((List.range k).map fun j=>M.ivc (M.ent a b l i j)).length=k:=by rw [List.length_map,List.length_range]
  obtain ⟨g4,c4,hvr⟩:∃ g4 c4,_=Value.slice (some ⟨g4,0,none⟩) k c4:=by
   rcases hrow.out.forms with ⟨-,h4⟩ | ⟨g4,c4,h4,-⟩
   ·rw [h4] at hkl;simp only [List.length_nil] at hkl;omega
   rw [hkl] at h4;exact ⟨g4,c4,h4⟩
  subst hvr
  clear hkl
  obtain ⟨vs,hvs⟩:=hm1.out
  have hvq:=hvs.below Bq
  have hrw:=hrow.out.down (show wc.heap.size≤wi.heap.size from B1c.size)
  have hlt3:=fun g h=>hrow.out.lt g h
  have hmr:(List.range k).map (fun j=>M.ivc (M.ent a b l i j))=M.iQ a b l i:=by unfold M.iQ;rw [hN.out]
  rw [hmr] at hrw
  have hnewr:=fun g hg z hz (e:Value.ownBlock z=some g)=>(absurd (hlt3 g hg).1 (Nat.not_le.2 (hvs.lt z hz g e).2):False)
  have hrm:((List.range i).map (M.iQ a b l)).length=i:=by rw [List.length_map,List.length_range]
  have hal:∀ i',i'<i+1→∀ j,j<l.length→(M.ent a b l i' j).isSome=true:=fun i' h j hj=>by
   rcases Nat.lt_or_ge i' i with q | q
   ·exact hall.out i' q j hj
   obtain rfl:i'=i:=by omega
   exact hall2.out j (by have:=hN.out;omega)
  have hal:=ws hal
  have Bw:=B1c.trans (Bq.mono B1c.size)
  go_wp2_with (at_builtin;refine qc (W:=wc) wc.heap.size _ _ vs _ _ wr.heap.size rfl rfl (.tmp 64) (.tmp 66) rfl rfl rfl hvq hrw hnewr Bw Bw.size (by rw [hrm];omega) ?_;intro v7 w7 hown7 hb7)
  go_roundw
  case rel=>exact ⟨i+1,by omega,by go_num,hal,ws ⟨_,by rw [er];exact hown7⟩,hb7⟩
  case measure=>simp [intOf] <;> omega
 obtain rfl:i=N:=by omega
 have hyes:=ws (M.pP (a:=a) (b:=b) (l:=l) (fun i' h=>hall.out i' (by have:=hN.out;omega)))
 have hrows:=ws (M.kN hyes.out)
 go_wp2
 go_ret2
 exact ⟨_,by rw [hyes.out];rfl,by rw [hrows.out,hN.out];exact hmat.out.base hB0,B⟩
end
section
namespace M
abbrev Mat:=List (List (Int × Int))
def cG (m:Mat) (c:Nat):Mat:=m.tail.map fun r=>r.take c ++ r.drop (c+1)
def dh (s part:Sp) (c:Nat):Sp:=if c % 2=0 then eK s part else cP s part
def cV:Nat→Mat→Sp
 | 0,_=>none
 | 1,m=>(m.headD []).head?
 | n+2,m=>(List.range (m.headD []).length).foldl (fun s c=>dh s (eS ((m.headD [])[c]?) (cV (n+1) (cG m c))) c) (some (0,0))
def dX (n:Nat) (m:Mat) (k:Nat):Sp:=(List.range k).foldl (fun s c=>dh s (eS ((m.headD [])[c]?) (cV (n+1) (cG m c))) c) (some (0,0))
theorem iX (n:Nat) (m:Mat):cV (n+2) m=dX n m (m.headD []).length:=rfl
theorem fo (n:Nat) (m:Mat) (k:Nat):dX n m (k+1)=dh (dX n m k) (eS ((m.headD [])[k]?) (cV (n+1) (cG m k))) k:=by
 unfold dX
 rw [List.range_succ,List.foldl_append]
 rfl
theorem jh (p:Sp) (c:Nat):dh none p c=none:=by
 unfold dh
 split <;> rfl
theorem eC (s:Sp) (c:Nat):dh s none c=none:=by
 unfold dh
 cases s <;> split <;> rfl
theorem kV {n:Nat} {m:Mat} {k:Nat} (h:dX n m k=none):∀ j,k≤j→dX n m j=none
 | 0,hj=>by
  obtain rfl:k=0:=by omega
  exact h
 | j+1,hj=>by
  rcases Nat.lt_or_ge j k with q | q
  ·obtain rfl:k=j+1:=by omega
   exact h
  rw [fo,kV h j q,jh]
def okM (m:Mat):Prop:=∀ r ∈ m,∀ q ∈ r,aN q.1 q.2=true
theorem kQ {m:Mat} {c:Nat} (h:okM m):okM (cG m c):=by
 intro r hr q hq
 obtain ⟨s,hs,rfl⟩:=List.mem_map.1 hr
 rcases List.mem_append.1 hq with h1 | h1
 ·exact h s (List.mem_of_mem_tail hs) q (List.mem_of_mem_take h1)
 exact h s (List.mem_of_mem_tail hs) q (List.mem_of_mem_drop h1)
theorem so {s p:Sp} {c:Nat}:okS (dh s p c):=by
 unfold dh
 split
 ·exact pR
 exact ik
theorem lG {n:Nat} {m:Mat}:∀ k,okS (dX n m k)
 | 0=>fun p hp=>by
  have:(0,0)=p:=Option.some.inj hp
  subst this
  decide
 | k+1=>by
  rw [fo]
  exact so
theorem ij {m:Mat} (h:okM m):∀ n,okS (cV n m)
 | 0=>d7
 | 1=>fun p hp=>by
  cases m with
  | nil=>cases hp
  | cons r m=>
  cases r with
  | nil=>cases hp
  | cons q r=>
  have:q=p:=Option.some.inj hp
  subst this
  exact h _ (List.mem_cons_self ..) _ (List.mem_cons_self ..)
 | n+2=>by
  rw [iX]
  exact lG _
def square (n:Nat) (m:Mat):Prop:=m.length=n∧∀ r ∈ m,r.length=n
theorem gU {n:Nat} {m:Mat} {c:Nat} (h:square (n+1) m) (hc:c<n+1):square n (cG m c):=by
 refine ⟨by unfold cG;rw [List.length_map,List.length_tail,h.1];rfl,fun r hr=>?_⟩
 obtain ⟨s,hs,rfl⟩:=List.mem_map.1 hr
 rw [List.length_append,List.length_take,List.length_drop,h.2 s (List.mem_of_mem_tail hs)]
 omega
end M
end
section
open Go.RowKit
namespace M
theorem sr {n:Int} (h1:-144≤n) (h2:n≤144):pn (n*4096)=n∧pd (n*4096)=1:=by
 have hg:M.gcd (n*4096) 4096=4096:=by
  unfold M.gcd Int.gcd
  rw [Int.natAbs_mul]
  show ((Nat.gcd (n.natAbs*4096) 4096:Nat):Int)=4096
  rw [Nat.gcd_mul_left_left]
  rfl
 have hf:=kp (a:=n*4096) (g:=4096) (q:=1) (n:=n) hg (by decide) (by decide) rfl
 have ho:dy n 1=true:=by
  unfold dy
  simp [M.ins,M.gcd]
  omega
 rw [ho,if_pos rfl] at hf
 unfold pn pd
 rw [hf]
 exact ⟨rfl,rfl⟩
end M
end
end Go.Proofs.YtgfkcoablfjbcaaGreat
