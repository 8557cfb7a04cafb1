/-
  Joined texts: contracts and plain lemmas.
-/
import Derived.Test.YthfjndmdalfloaaGreatV23
import Derived.Test.YthfjndmdalfloaaGreatV2
import Derived.Test.YthfjndmdalfloaaGreatV17
import Derived.Test.YthfjndmdalfloaaGreatV6
set_option linter.unusedSimpArgs false
set_option linter.unusedVariables false
set_option maxRecDepth 100000
set_option maxHeartbeats 8000000
namespace Go.Proofs.YthfjndmdalfloaaGreat
section
open Go.RowKit
theorem cr.two {W:World} {g:Nat} {T:TypeId} {X1 Y1 E1 X2 Y2 E2:Int} (h:aG W g T #[.int .i64 X1,.int .i64 Y1,.int .i64 E1,.int .i64 X2,.int .i64 Y2,.int .i64 E2]):cr W g [(X1,Y1,E1),(X2,Y2,E2)]:=by
 intro k p hp
 match k,hp with
 | 0,hp=>injection hp with hp;subst hp;exact ⟨h.cell 0,h.cell 1,h.cell 2⟩
 | 1,hp=>injection hp with hp;subst hp;exact ⟨h.cell 3,h.cell 4,h.cell 5⟩
 | k+2,hp=>cases hp
theorem g5 (a b X1 Y1 E1 X2 Y2 E2:Int) (w:World) (hg:M.good a b=true) (hp:M.ptOk a b X1 Y1 E1=true) (hq:M.ptOk a b X2 Y2 E2=true) :
  Calls Tryz.prog 58 #[.agg #[.int .i64 a,.int .i64 b],.agg #[.int .i64 X1,.int .i64 Y1,.int .i64 E1],.agg #[.int .i64 X2,.int .i64 Y2,.int .i64 E2]] w fun e w'=>e=.returned (.tuple #[.agg #[.int .i64 (M.in1 (M.pairS a b X1 Y1 E1 X2 Y2 E2)),.int .i64 (M.in2 (M.pairS a b X1 Y1 E1 X2 Y2 E2)),.int .i64 (M.in3 (M.pairS a b X1 Y1 E1 X2 Y2 E2)),.int .i64 (M.in4 (M.pairS a b X1 Y1 E1 X2 Y2 E2))],.bool (M.pairS a b X1 Y1 E1 X2 Y2 E2).isSome])∧Below w.heap.size w w':=by
 have PA:=fun W=>lU a b X1 Y1 E1 X2 Y2 E2 W hg hp hq
 have hin:=M.good_in hg
 have hs:=M.adP_ok hin hp hq
 obtain ⟨p1,p2,p3,p4,-,-⟩:=M.ptOk_bd hin hp
 obtain ⟨r1,r2,r3,r4,-,-⟩:=M.ptOk_bd hin hq
 obtain ⟨s1,s2,s3,s4,-,-⟩:=M.ptOk_bd hin hs
 have hv:=Lib.hid (show (M.pairS a b X1 Y1 E1 X2 Y2 E2)=if M.adPOk a X1 Y1 E1 X2 Y2 E2=true then M.lessS a b (M.bestS a b (M.adPX a X1 Y1 E1 X2 Y2 E2) (M.adPE a X1 Y1 E1 X2 Y2 E2)) [(X1,Y1,E1),(X2,Y2,E2)] else none from rfl)
 rw [hv.out]
 clear hv hs hp hq
 generalize M.adPX a X1 Y1 E1 X2 Y2 E2=X3 at *
 generalize M.adPY a X1 Y1 E1 X2 Y2 E2=Y3 at *
 generalize M.adPE a X1 Y1 E1 X2 Y2 E2=E3 at *
 generalize M.adPOk a X1 Y1 E1 X2 Y2 E2=ok at *
 have PH:=fun W=>dD a b X3 Y3 E3 W hg s1 s2 s3 s4
 have hto:=M.okS_best (a:=a) (b:=b) hin s1 s2 s3 s4
 have PL:=fun s g W h1 h2=>jx a b s [(X1,Y1,E1),(X2,Y2,E2)] g 2 W hg h1 h2 (by simp) (by
  intro p hp
  rcases List.mem_cons.1 hp with rfl | hp
  ·exact ⟨p1,p2,p3,p4⟩
  ·rcases List.mem_cons.1 hp with rfl | hp
   ·exact ⟨r1,r2,r3,r4⟩
   ·cases hp)
 generalize M.bestS a b X3 E3=t at *
 clear hg hin s1 s2 s3 s4 p1 p2 p3 p4 r1 r2 r3 r4
 cases ok with
 | false=>
  have e1:=Lib.hid (show M.in1 none=0∧M.in2 none=0∧M.in3 none=0∧M.in4 none=0∧(none:M.Sp).isSome=false from ⟨rfl,rfl,rfl,rfl,rfl⟩)
  have e2:=Lib.hid (show (if (false=true) then M.lessS a b t [(X1,Y1,E1),(X2,Y2,E2)] else none)=none from rfl)
  rw [e2.out,e1.out.1,e1.out.2.1,e1.out.2.2.1,e1.out.2.2.2.1,e1.out.2.2.2.2]
  clear e1 e2 PH PL hto
  replace PA:=Lib.hid PA
  obtain ⟨wc,hw3,C,Q,U,R,B⟩:=fZ w #[.int .i64 a,.int .i64 b] 28 #[.int .i64 X1,.int .i64 Y1,.int .i64 E1] 54 #[.int .i64 X2,.int .i64 Y2,.int .i64 E2] 54 #[.int .i64 0,.int .i64 0,.int .i64 0,.int .i64 0] 38
  have C_c0:=C.box.c0
  have C_c1:=C.box.c1
  have ⟨q0,q1,q2⟩:=Q.box3
  have ⟨u0,u1,u2⟩:=U.box3
  go_enter Tryz.func58,Tryz.ntmps58
  go_wp2_with (go_at_call 85;(with_reducible refine (PA.out _).mono ?_);rintro e w4 ⟨rfl,hb4⟩;(replace B:=B.trans (hb4.mono B.size));(replace C:=C.keep hb4);(replace Q:=Q.keep hb4);(replace U:=U.keep hb4);(replace R:=R.keep hb4);(replace B:=B.alloc B.size (.cells #[.int .i64 X3,.int .i64 Y3,.int .i64 E3] 54));(replace C:=C.alloc (.cells #[.int .i64 X3,.int .i64 Y3,.int .i64 E3] 54));(replace Q:=Q.alloc (.cells #[.int .i64 X3,.int .i64 Y3,.int .i64 E3] 54));(replace U:=U.alloc (.cells #[.int .i64 X3,.int .i64 Y3,.int .i64 E3] 54));(replace R:=R.alloc (.cells #[.int .i64 X3,.int .i64 Y3,.int .i64 E3] 54));(have S:=aG.new w4 #[.int .i64 X3,.int .i64 Y3,.int .i64 E3] 54);(have ⟨z0,z1,z2⟩:=S.box3);(have C_c0:=C.box.c0);(have C_c1:=C.box.c1);(have ⟨q0,q1,q2⟩:=Q.box3);(have ⟨u0,u1,u2⟩:=U.box3);(have ⟨r0,r1,r2,r3,y0,y1,y2,y3,rl⟩:=R.boxQ))
  exact bodyPost_ret (v:=.tuple #[.agg #[.int .i64 0,.int .i64 0,.int .i64 0,.int .i64 0],.bool false]) (by simp [results,Tryz.results58,go_sem, *]) rfl (⟨rfl,Below.setCell (Below.setCell (Below.setCell (Below.setCell B (by simp;omega) _) (by simp;omega) _) (by simp;omega) _) (by simp;omega) _⟩)
 | true=>
  rw [if_pos rfl]
  replace PA:=Lib.hid PA
  cases t with
  | none=>
   have e1:=Lib.hid (show M.in1 none=0∧M.in2 none=0∧M.in3 none=0∧M.in4 none=0∧(none:M.Sp).isSome=false from ⟨rfl,rfl,rfl,rfl,rfl⟩)
   rw [M.lessS_none,e1.out.1,e1.out.2.1,e1.out.2.2.1,e1.out.2.2.2.1,e1.out.2.2.2.2]
   rw [e1.out.1,e1.out.2.1,e1.out.2.2.1,e1.out.2.2.2.1,e1.out.2.2.2.2] at PH
   clear e1 PL hto
   replace PH:=Lib.hid PH
   obtain ⟨wc,hw3,C,Q,U,R,B⟩:=fZ w #[.int .i64 a,.int .i64 b] 28 #[.int .i64 X1,.int .i64 Y1,.int .i64 E1] 54 #[.int .i64 X2,.int .i64 Y2,.int .i64 E2] 54 #[.int .i64 0,.int .i64 0,.int .i64 0,.int .i64 0] 38
   have C_c0:=C.box.c0
   have C_c1:=C.box.c1
   have ⟨q0,q1,q2⟩:=Q.box3
   have ⟨u0,u1,u2⟩:=U.box3
   go_enter Tryz.func58,Tryz.ntmps58
   go_wp2_with first | (go_at_call 85;(with_reducible refine (PA.out _).mono ?_);rintro e w4 ⟨rfl,hb4⟩;(replace B:=B.trans (hb4.mono B.size));(replace C:=C.keep hb4);(replace Q:=Q.keep hb4);(replace U:=U.keep hb4);(replace R:=R.keep hb4);(replace B:=B.alloc B.size (.cells #[.int .i64 X3,.int .i64 Y3,.int .i64 E3] 54));(replace C:=C.alloc (.cells #[.int .i64 X3,.int .i64 Y3,.int .i64 E3] 54));(replace Q:=Q.alloc (.cells #[.int .i64 X3,.int .i64 Y3,.int .i64 E3] 54));(replace U:=U.alloc (.cells #[.int .i64 X3,.int .i64 Y3,.int .i64 E3] 54));(replace R:=R.alloc (.cells #[.int .i64 X3,.int .i64 Y3,.int .i64 E3] 54));(have S:=aG.new w4 #[.int .i64 X3,.int .i64 Y3,.int .i64 E3] 54);(have ⟨z0,z1,z2⟩:=S.box3);(have C_c0:=C.box.c0);(have C_c1:=C.box.c1);(have ⟨q0,q1,q2⟩:=Q.box3);(have ⟨u0,u1,u2⟩:=U.box3);(have ⟨r0,r1,r2,r3,y0,y1,y2,y3,rl⟩:=R.boxQ)) | (go_at_call 86;(with_reducible refine (PH.out _).mono ?_);rintro e w5 ⟨rfl,hb5⟩;(replace B:=B.trans (hb5.mono B.size));(replace C:=C.keep hb5);(replace Q:=Q.keep hb5);(replace U:=U.keep hb5);(replace R:=R.keep hb5);(replace B:=B.alloc B.size (.cells #[.int .i64 0,.int .i64 0,.int .i64 0,.int .i64 0] 38));(replace C:=C.alloc (.cells #[.int .i64 0,.int .i64 0,.int .i64 0,.int .i64 0] 38));(replace Q:=Q.alloc (.cells #[.int .i64 0,.int .i64 0,.int .i64 0,.int .i64 0] 38));(replace U:=U.alloc (.cells #[.int .i64 0,.int .i64 0,.int .i64 0,.int .i64 0] 38));(replace R:=R.alloc (.cells #[.int .i64 0,.int .i64 0,.int .i64 0,.int .i64 0] 38));(have V:=aG.new w5 #[.int .i64 0,.int .i64 0,.int .i64 0,.int .i64 0] 38);(have ⟨v0,v1,v2,v3,_,_,_,_,vl⟩:=V.boxQ);(have C_c0:=C.box.c0);(have C_c1:=C.box.c1);(have ⟨q0,q1,q2⟩:=Q.box3);(have ⟨u0,u1,u2⟩:=U.box3);(have ⟨r0,r1,r2,r3,y0,y1,y2,y3,rl⟩:=R.boxQ))
   exact bodyPost_ret (v:=.tuple #[.agg #[.int .i64 0,.int .i64 0,.int .i64 0,.int .i64 0],.bool false]) (by simp [results,Tryz.results58,go_sem, *]) rfl (⟨rfl,Below.setCell (Below.setCell (Below.setCell (Below.setCell B (by simp;omega) _) (by simp;omega) _) (by simp;omega) _) (by simp;omega) _⟩)
  | some s=>
   replace PL:=fun g W h2=>PL s g W (hto s rfl) h2
   have e1:=Lib.hid (show (some s:M.Sp).isSome=true from rfl)
   rw [e1.out] at PH
   clear e1 hto
   have e2:=Lib.hid (show [(X1,Y1,E1),(X2,Y2,E2)].length=2 from rfl)
   rw [e2.out] at PL
   clear e2
   generalize M.lessS a b (some s) [(X1,Y1,E1),(X2,Y2,E2)]=r at *
   generalize M.in1 (some s)=i1 at *
   generalize M.in2 (some s)=i2 at *
   generalize M.in3 (some s)=i3 at *
   generalize M.in4 (some s)=i4 at *
   generalize M.in1 r=k1 at *
   generalize M.in2 r=k2 at *
   generalize M.in3 r=k3 at *
   generalize M.in4 r=k4 at *
   generalize r.isSome=fr at *
   replace PH:=Lib.hid PH
   replace PL:=Lib.hid PL
   obtain ⟨wc,hw3,C,Q,U,R,B⟩:=fZ w #[.int .i64 a,.int .i64 b] 28 #[.int .i64 X1,.int .i64 Y1,.int .i64 E1] 54 #[.int .i64 X2,.int .i64 Y2,.int .i64 E2] 54 #[.int .i64 0,.int .i64 0,.int .i64 0,.int .i64 0] 38
   have C_c0:=C.box.c0
   have C_c1:=C.box.c1
   have ⟨q0,q1,q2⟩:=Q.box3
   have ⟨u0,u1,u2⟩:=U.box3
   go_enter Tryz.func58,Tryz.ntmps58
   go_wp2_with first | (go_at_call 85;(with_reducible refine (PA.out _).mono ?_);rintro e w4 ⟨rfl,hb4⟩;(replace B:=B.trans (hb4.mono B.size));(replace C:=C.keep hb4);(replace Q:=Q.keep hb4);(replace U:=U.keep hb4);(replace R:=R.keep hb4);(replace B:=B.alloc B.size (.cells #[.int .i64 X3,.int .i64 Y3,.int .i64 E3] 54));(replace C:=C.alloc (.cells #[.int .i64 X3,.int .i64 Y3,.int .i64 E3] 54));(replace Q:=Q.alloc (.cells #[.int .i64 X3,.int .i64 Y3,.int .i64 E3] 54));(replace U:=U.alloc (.cells #[.int .i64 X3,.int .i64 Y3,.int .i64 E3] 54));(replace R:=R.alloc (.cells #[.int .i64 X3,.int .i64 Y3,.int .i64 E3] 54));(have S:=aG.new w4 #[.int .i64 X3,.int .i64 Y3,.int .i64 E3] 54);(have ⟨z0,z1,z2⟩:=S.box3);(have C_c0:=C.box.c0);(have C_c1:=C.box.c1);(have ⟨q0,q1,q2⟩:=Q.box3);(have ⟨u0,u1,u2⟩:=U.box3);(have ⟨r0,r1,r2,r3,y0,y1,y2,y3,rl⟩:=R.boxQ)) | (go_at_call 86;(with_reducible refine (PH.out _).mono ?_);rintro e w5 ⟨rfl,hb5⟩;(replace B:=B.trans (hb5.mono B.size));(replace C:=C.keep hb5);(replace Q:=Q.keep hb5);(replace U:=U.keep hb5);(replace R:=R.keep hb5);(replace B:=B.alloc B.size (.cells #[.int .i64 i1,.int .i64 i2,.int .i64 i3,.int .i64 i4] 38));(replace C:=C.alloc (.cells #[.int .i64 i1,.int .i64 i2,.int .i64 i3,.int .i64 i4] 38));(replace Q:=Q.alloc (.cells #[.int .i64 i1,.int .i64 i2,.int .i64 i3,.int .i64 i4] 38));(replace U:=U.alloc (.cells #[.int .i64 i1,.int .i64 i2,.int .i64 i3,.int .i64 i4] 38));(replace R:=R.alloc (.cells #[.int .i64 i1,.int .i64 i2,.int .i64 i3,.int .i64 i4] 38));(have V:=aG.new w5 #[.int .i64 i1,.int .i64 i2,.int .i64 i3,.int .i64 i4] 38);(have ⟨v0,v1,v2,v3,_,_,_,_,vl⟩:=V.boxQ);(have C_c0:=C.box.c0);(have C_c1:=C.box.c1);(have ⟨q0,q1,q2⟩:=Q.box3);(have ⟨u0,u1,u2⟩:=U.box3);(have ⟨r0,r1,r2,r3,y0,y1,y2,y3,rl⟩:=R.boxQ);(replace R:=R.alloc (.cells #[.int .i64 X1,.int .i64 Y1,.int .i64 E1,.int .i64 X2,.int .i64 Y2,.int .i64 E2] 54));(have L:=aG.new (w5.alloc (.cells #[.int .i64 i1,.int .i64 i2,.int .i64 i3,.int .i64 i4] 38)) #[.int .i64 X1,.int .i64 Y1,.int .i64 E1,.int .i64 X2,.int .i64 Y2,.int .i64 E2] 54);(rw [World.size_alloc] at L);(replace L:=Lib.hid (cr.two L))) | (go_at_call 87;(with_reducible refine (PL.out _ _ L.out).mono ?_);rintro e w6 ⟨rfl,hb6⟩;(replace B:=(B.alloc B.size (.cells #[.int .i64 X1,.int .i64 Y1,.int .i64 E1,.int .i64 X2,.int .i64 Y2,.int .i64 E2] 54)).trans (hb6.mono (B.alloc B.size (.cells #[.int .i64 X1,.int .i64 Y1,.int .i64 E1,.int .i64 X2,.int .i64 Y2,.int .i64 E2] 54)).size));(replace R:=R.keep hb6);(have ⟨r0,r1,r2,r3,y0,y1,y2,y3,rl⟩:=R.boxQ))
   exact bodyPost_ret (v:=.tuple #[.agg #[.int .i64 k1,.int .i64 k2,.int .i64 k3,.int .i64 k4],.bool fr]) (by simp [results,Tryz.results58,go_sem, *]) rfl (⟨rfl,Below.setCell (Below.setCell (Below.setCell (Below.setCell B (by simp;omega) _) (by simp;omega) _) (by simp;omega) _) (by simp;omega) _⟩)
abbrev Pt:=Int × Int × Int
def dk (W:World) (v:Value) (l:List Pt):Prop:=∃ (a:Option Addr) (cap:Nat),v=.slice a l.length cap∧(l=[]∨∃ g,a=some ⟨g,0,none⟩∧cr W g l)
theorem dk.below {w w':World} {v:Value} {l:List Pt} (h:dk w v l) (hb:Below w.heap.size w w'):dk w' v l:=by
 obtain ⟨a,cap,e,h⟩:=h
 refine ⟨a,cap,e,?_⟩
 rcases h with h | ⟨g,e,h⟩
 ·exact Or.inl h
 ·exact Or.inr ⟨g,e,h.below hb⟩
def j0 (g:Nat) (lb:Array Value) (p:Pt→Bool) (xs:List Pt) (w:World):Prop:=
 ∀ (x:Pt) (_:x ∈ xs) (W:World),Below w.heap.size w W→Calls Tryz.prog g (#[.agg #[.int .i64 x.1,.int .i64 x.2.1,.int .i64 x.2.2]] ++ lb) W fun e W'=>e=.returned (.bool (p x))∧Below W.heap.size W W'
theorem ki {p:Pt→Bool} {xs:List Pt} {k:Nat} {x:Pt} (hx:xs[k]?=some x) (h:(xs.take k).any p=false) (h':p x=false):(xs.take (k+1)).any p=false:=by
 rw [List.take_add_one,hx,List.any_append,h]
 simpa using h'
theorem mc {p:Pt→Bool} {xs:List Pt} {k:Nat} {x:Pt} (hx:xs[k]?=some x) (h':p x=true):xs.any p=true:=
 List.any_eq_true.2 ⟨x,List.mem_of_getElem? hx,h'⟩
theorem io (g:Nat) (lb:Array Value) (eg:∀ args w,(callFunc g args).run Tryz.prog w=.ok (.enter g args) w) (p:Pt→Bool) (v:Value) (xs:List Pt) (w:World) (hx:dk w v xs) (hn:xs.length≤4) (hp:j0 g lb p xs w) :
  Calls Tryz.prog 80 #[v,.func (.func g) #[] lb] w fun e w'=>∃ r:Int,e=.returned (.int .i64 r)∧(decide (0≤r)=xs.any p∧-1≤r∧r≤4)∧Below w.heap.size w w':=by
 obtain ⟨a,cap,rfl,hv⟩:=hx
 have hv:=Lib.hid hv
 have hp:=Lib.hid hp
 obtain ⟨N,hN⟩:∃ N,Hid (xs.length=N):=⟨_,Lib.hid rfl⟩
 rw [hN.out] at hn ⊢
 go_enter Tryz.func80,Tryz.ntmps80
 go_wp2
 go_loopw [5,8] (fun _ vi wr=>∃ k:Nat,k≤N∧vi=.int .i64 k∧Hid ((xs.take k).any p=false)∧Below w.heap.size w wr) (fun _ vi _=>N - (intOf vi).toNat)
 case atStart=>exact ⟨0,by omega,rfl,Lib.hid rfl,Below.refl _ _⟩
 case round=>
  obtain ⟨k,hk,rfl,hall,hbr⟩:=hrel
  by_cases hlt:k<N
  ·obtain ⟨x,hx⟩:∃ x,xs[k]?=some x:=⟨_,List.getElem?_eq_getElem (by have:=hN.out;omega)⟩
   obtain ⟨b,rfl,hpt⟩:∃ b,a=some ⟨b,0,none⟩∧cr w b xs:=by
    rcases hv.out with h | h
    ·rw [h] at hx;cases hx
    ·exact h
   obtain ⟨d0,d1,d2⟩:=(hpt.below hbr) k x hx
   have hcall:=hp.out x (List.mem_of_getElem? hx) wr hbr
   cases hq:p x
   ·rw [hq] at hcall
    have hcall:=Lib.hid hcall
    have hnx:=Lib.hid (ki hx hall.out hq)
    clear hx hq hpt
    obtain ⟨x1,x2,x3⟩:=x
    simp only [] at d0 d1 d2 hcall
    go_wp2_with (go_at_fn g;refine (hcall.out).mono ?_;rintro e w2 ⟨rfl,hb2⟩)
    go_roundw
    case rel=>exact ⟨k+1,by omega,by go_num,hnx,aM hbr hb2⟩
    case measure=>simp [intOf];omega
   ·rw [hq] at hcall
    have hcall:=Lib.hid hcall
    have hf:=Lib.hid (mc hx hq)
    clear hx hq hpt
    obtain ⟨x1,x2,x3⟩:=x
    simp only [] at d0 d1 d2 hcall
    go_wp2_with (go_at_fn g;refine (hcall.out).mono ?_;rintro e w2 ⟨rfl,hb2⟩)
    go_ret
    exact ⟨_,rfl,⟨by rw [hf.out];exact decide_eq_true (by omega),by omega,by omega⟩,aM hbr hb2⟩
  ·obtain rfl:k=N:=by omega
   have hall2:=hall
   rw [←hN.out,List.take_length] at hall2
   go_wp2
   go_ret
   exact ⟨_,rfl,⟨by rw [hall2.out];rfl,by omega,by omega⟩,hbr⟩
theorem fS (g:Nat) (lb:Array Value) (eg:∀ args w,(callFunc g args).run Tryz.prog w=.ok (.enter g args) w) (p:Pt→Bool) (v:Value) (xs:List Pt) (w:World) (hx:dk w v xs) (hn:xs.length≤4) (hp:j0 g lb p xs w) :
  Calls Tryz.prog 53 #[v,.func (.func g) #[] lb] w fun e w'=>e=.returned (.bool (xs.any p))∧Below w.heap.size w w':=by
 have P:=Lib.hid (io g lb eg p v xs w hx hn hp)
 generalize xs.any p=t at *
 clear hx hp
 go_enter Tryz.func53,Tryz.ntmps53
 go_wp2_with (go_at_call 80;refine P.out.mono ?_;rintro e w2 ⟨r,rfl,⟨h1,h2,h3⟩,hb2⟩)
 go_ret
 exact ⟨by rw [←h1];simp,hb2⟩
theorem ig (a b X Y E:Int) (cb:Nat) (w:World) (C:aG w cb 28 #[.int .i64 a,.int .i64 b]) :
  Calls Tryz.prog 54 #[.agg #[.int .i64 X,.int .i64 Y,.int .i64 E],.pointer (some ⟨cb,0,none⟩)] w fun e w'=>e=.returned (.bool (!(M.good a b && M.ptOk a b X Y E)))∧Below w.heap.size w w':=by
 have PP:=Lib.hid fun W=>je a b X Y E W
 generalize (M.good a b && M.ptOk a b X Y E)=t at *
 have B:=(Below.refl w.heap.size w).alloc (Nat.le_refl _) (.cells #[.int .i64 X,.int .i64 Y,.int .i64 E] 54)
 have C2:=C.alloc (.cells #[.int .i64 X,.int .i64 Y,.int .i64 E] 54)
 have Q:=aG.new w #[.int .i64 X,.int .i64 Y,.int .i64 E] 54
 generalize hw3:w.alloc (.cells #[.int .i64 X,.int .i64 Y,.int .i64 E] 54)=wc at *
 have C_c0:=C2.box.c0
 have C_c1:=C2.box.c1
 have ⟨q0,q1,q2⟩:=Q.box3
 go_enter Tryz.func54,Tryz.ntmps54
 go_wp2_with (go_at_call 55;(with_reducible refine (PP.out _).mono ?_);rintro e w4 ⟨rfl,hb4⟩)
 go_ret
 exact ⟨rfl,B.trans (hb4.mono B.size)⟩
namespace M
noncomputable def plist (a b:Int) (l:List Pt):Bool:=good a b && ins l.length 1 4 && l.all (fun p=>ptOk a b p.1 p.2.1 p.2.2)
theorem plist_bad {a b:Int} {l:List Pt} (h:good a b=false):plist a b l=false:=by unfold plist;rw [h];rfl
theorem plist_any {a b:Int} {l:List Pt} (hg:good a b=true):(!l.any (fun x=>!(good a b && ptOk a b x.1 x.2.1 x.2.2)))=l.all (fun p=>ptOk a b p.1 p.2.1 p.2.2):=by
 rw [hg,List.not_any_eq_all_not]
 congr 1
 funext x
 simp
end M
theorem gq (a b:Int) (v:Value) (l:List Pt) (w:World) (hx:dk w v l) (hn:l.length≤4000000) :
  Calls Tryz.prog 29 #[.agg #[.int .i64 a,.int .i64 b],v] w fun e w'=>e=.returned (.bool (M.plist a b l))∧Below w.heap.size w w':=by
 have PC:=Lib.hid fun W=>fc a b W
 obtain ⟨sa,cap,rfl,hv⟩:=hx
 have hx:=Lib.hid (show dk w (.slice sa l.length cap) l from ⟨sa,cap,rfl,hv⟩)
 clear hv
 have PF:=Lib.hid fun W (h:dk W (.slice sa l.length cap) l) (hn:l.length≤4) (C:aG W w.heap.size 28 #[.int .i64 a,.int .i64 b])=>fS 54 #[.pointer (some ⟨w.heap.size,0,none⟩)] (fun _ _=>rfl) (fun x=>!(M.good a b && M.ptOk a b x.1 x.2.1 x.2.2)) (.slice sa l.length cap) l W h hn (fun x _ W' hb=>ig a b x.1 x.2.1 x.2.2 w.heap.size W' (C.keep hb))
 have PI:=Lib.hid fun W=>bG l.length 1 4 W
 have hpl:=Lib.hid (show M.plist a b l=(M.good a b && M.ins l.length 1 4 && l.all (fun p=>M.ptOk a b p.1 p.2.1 p.2.2)) from rfl)
 have han:=Lib.hid fun h=>M.plist_any (a:=a) (b:=b) (l:=l) h
 have hbd:M.ins l.length 1 4=true→l.length≤4:=fun h=>by
  unfold M.ins at h
  simp only [Bool.and_eq_true,decide_eq_true_eq] at h
  omega
 have hbd:=Lib.hid hbd
 have B:=(Below.refl w.heap.size w).alloc (Nat.le_refl _) (.cells #[.int .i64 a,.int .i64 b] 28)
 have C:=aG.new w #[.int .i64 a,.int .i64 b] 28
 replace hx:=Lib.hid (hx.out.below B)
 generalize hw3:w.alloc (.cells #[.int .i64 a,.int .i64 b] 28)=wc at *
 have C_c0:=C.box.c0
 have C_c1:=C.box.c1
 cases hg:M.good a b
 ·have hfin:=Lib.hid (M.plist_bad (l:=l) hg)
  rw [hg] at PC
  clear hpl han hg
  generalize M.plist a b l=pl at *
  generalize l.length=N at *
  go_enter Tryz.func29,Tryz.ntmps29
  go_wp2_with (go_at_call 51;(with_reducible refine (PC.out _).mono ?_);rintro e w4 ⟨rfl,hb4⟩;(replace B:=B.trans (hb4.mono B.size)))
  go_ret
  exact ⟨by rw [hfin.out];rfl,B⟩
 ·cases hi:M.ins l.length 1 4
  ·have hfin:=Lib.hid (show M.plist a b l=false by rw [hpl.out,hi,Bool.and_false];rfl)
   rw [hg] at PC
   rw [hi] at PI
   clear hpl han hg hi hbd PF hx
   generalize M.plist a b l=pl at *
   generalize l.length=N at *
   go_enter Tryz.func29,Tryz.ntmps29
   go_wp2_with first | (go_at_call 51;(with_reducible refine (PC.out _).mono ?_);rintro e w4 ⟨rfl,hb4⟩;(replace B:=B.trans (hb4.mono B.size))) | (go_at_call 52;(with_reducible refine (PI.out _).mono ?_);rintro e w5 ⟨rfl,rfl⟩)
   go_ret
   exact ⟨by rw [hfin.out];rfl,B⟩
  ·have hfin:=Lib.hid (show M.plist a b l=!l.any (fun x=>!(M.good a b && M.ptOk a b x.1 x.2.1 x.2.2)) by rw [han.out hg,hpl.out,hi,hg];rfl)
   have hn4:=Lib.hid (hbd.out hi)
   rw [hg] at PC
   rw [hi] at PI
   replace PF:=Lib.hid fun W h=>PF.out W h hn4.out
   clear hpl han hg hi hbd
   generalize l.any (fun x=>!(M.good a b && M.ptOk a b x.1 x.2.1 x.2.2))=t at *
   generalize M.plist a b l=pl at *
   generalize l.length=N at *
   go_enter Tryz.func29,Tryz.ntmps29
   go_wp2_with first | (go_at_call 51;(with_reducible refine (PC.out _).mono ?_);rintro e w4 ⟨rfl,hb4⟩;(replace B:=B.trans (hb4.mono B.size));(replace C:=C.keep hb4);(replace hx:=Lib.hid (hx.out.below hb4))) | (go_at_call 52;(with_reducible refine (PI.out _).mono ?_);rintro e w5 ⟨rfl,rfl⟩) | (go_at_call 53;(refine (PF.out _ hx.out C).mono ?_);rintro e w6 ⟨rfl,hb6⟩;(replace B:=B.trans (hb6.mono B.size)))
   go_ret
   exact ⟨by rw [hfin.out];rfl,B⟩
theorem kF (a b:Int) (v:Value) (l:List Pt) (w:World) (hx:dk w v l) (hn:l.length≤4000000) :
  Calls Tryz.prog 26 #[.agg #[.int .i64 a,.int .i64 b],v] w fun e w'=>e=.returned (.bool (M.plist a b l))∧Below w.heap.size w w':=by
 have PC:=Lib.hid fun W=>iE a b W
 obtain ⟨sa,cap,rfl,hv⟩:=hx
 have hv:=Lib.hid hv
 have PI:=Lib.hid fun W=>bW l.length 1 4 W
 have hpl:=Lib.hid (show M.plist a b l=(M.good a b && M.ins l.length 1 4 && l.all (fun p=>M.ptOk a b p.1 p.2.1 p.2.2)) from rfl)
 have B:=(Below.refl w.heap.size w).alloc (Nat.le_refl _) (.cells #[.int .i64 a,.int .i64 b] 28)
 have C:=aG.new w #[.int .i64 a,.int .i64 b] 28
 generalize hw3:w.alloc (.cells #[.int .i64 a,.int .i64 b] 28)=wc at *
 obtain ⟨N,hN⟩:∃ N,Hid (l.length=N):=⟨_,Lib.hid rfl⟩
 rw [hN.out] at hn PI hpl ⊢
 go_enter Tryz.func26,Tryz.ntmps26
 go_wp2
 go_loopw [9] (fun vi wr=>∃ k:Nat,k≤N∧vi=.int .i64 k∧Hid ((l.take k).all (fun p=>M.good a b && M.ptOk a b p.1 p.2.1 p.2.2)=true)∧aG wr w.heap.size 28 #[.int .i64 a,.int .i64 b]∧Below w.heap.size w wr) (fun vi _=>N - (intOf vi).toNat)
 case atStart=>exact ⟨0,Nat.zero_le _,rfl,Lib.hid rfl,C,B⟩
 case round=>
  clear C B hw3
  obtain ⟨k,hk,rfl,hall,C,B⟩:=hrel
  by_cases hlt:k<N
  ·obtain ⟨x,hx⟩:∃ x,l[k]?=some x:=⟨_,List.getElem?_eq_getElem (by have:=hN.out;omega)⟩
   obtain ⟨g,rfl,hpt⟩:∃ g,sa=some ⟨g,0,none⟩∧cr w g l:=by
    rcases hv.out with h | h
    ·rw [h] at hx;cases hx
    ·exact h
   obtain ⟨d0,d1,d2⟩:=(hpt.below B) k x hx
   have PP:=fun W=>gj a b x.1 x.2.1 x.2.2 W
   have hmem:=List.mem_of_getElem? hx
   have hnx:(M.good a b && M.ptOk a b x.1 x.2.1 x.2.2)=true→(l.take (k+1)).all (fun p=>M.good a b && M.ptOk a b p.1 p.2.1 p.2.2)=true:=fun h=>by
    rw [List.take_add_one,hx,List.all_append,hall.out]
    simpa using h
   have hbad:(M.good a b && M.ptOk a b x.1 x.2.1 x.2.2)=false→M.plist a b l=false:=fun h=>by
    cases hp:M.plist a b l
    ·rfl
    ·rw [hpl.out] at hp
     simp only [Bool.and_eq_true,List.all_eq_true] at hp
     have:=hp.2 x hmem
     rw [hp.1.1,this] at h
     cases h
   generalize (M.good a b && M.ptOk a b x.1 x.2.1 x.2.2)=t at *
   obtain ⟨x1,x2,x3⟩:=x
   simp only [] at d0 d1 d2 PP
   clear hx hmem hpt
   replace PP:=Lib.hid PP
   replace hnx:=Lib.hid hnx
   replace hbad:=Lib.hid hbad
   replace B:=B.alloc B.size (.cells #[.int .i64 x1,.int .i64 x2,.int .i64 x3] 54)
   have Z:=aG.new wr #[.int .i64 x1,.int .i64 x2,.int .i64 x3] 54
   replace C:=C.alloc (.cells #[.int .i64 x1,.int .i64 x2,.int .i64 x3] 54)
   have C_c0:=C.box.c0
   have C_c1:=C.box.c1
   have ⟨z0,z1,z2⟩:=Z.box3
   cases t
   ·have hfin:=Lib.hid (hbad.out rfl)
    go_wp2_with (go_at_call 47;(with_reducible refine (PP.out _).mono ?_);rintro e w4 ⟨rfl,hb4⟩;(replace B:=B.trans (hb4.mono B.size)))
    go_ret
    exact ⟨by rw [hfin.out];rfl,B⟩
   ·have hny:=Lib.hid (hnx.out rfl)
    clear hnx
    go_wp2_with (go_at_call 47;(with_reducible refine (PP.out _).mono ?_);rintro e w4 ⟨rfl,hb4⟩;(replace B:=B.trans (hb4.mono B.size));(replace C:=C.keep hb4))
    go_roundw
    case rel=>exact ⟨k+1,by omega,by simp,hny,C,B⟩
    case measure=>simp [intOf] <;> omega
  ·obtain rfl:k=N:=by omega
   have e0:l.take k=l:=by rw [←hN.out];exact List.take_length
   rw [e0] at hall
   have hfin:M.plist a b l=(M.good a b && M.ins (k:Int) 1 4):=by
    rw [hpl.out]
    cases hg:M.good a b
    ·rfl
    ·have:=hall.out
     rw [hg] at this
     simp only [Bool.true_and] at this
     rw [this,Bool.and_true]
   have hfin:=Lib.hid hfin
   clear hpl hall
   have C_c0:=C.box.c0
   have C_c1:=C.box.c1
   generalize M.good a b=gd at *
   generalize M.ins (k:Int) 1 4=ii at *
   cases gd
   all_goals
    go_wp2_with first | (go_at_call 48;(with_reducible refine (PC.out _).mono ?_);rintro e w4 ⟨rfl,hb4⟩;(replace B:=B.trans (hb4.mono B.size))) | (go_at_call 49;(with_reducible refine (PI.out _).mono ?_);rintro e w5 ⟨rfl,rfl⟩)
    go_ret
    exact ⟨by rw [hfin.out];rfl,B⟩
theorem Rw.own_one {α:Type} {E:Rw.Enc α} {v:Value} {w:World} {base:Nat} {xs:List α} (h:Rw.Own E w base v xs):v.oneCell'=true:=by
 rcases h.2 with ⟨rfl,-⟩ | ⟨g,cap,cur,rfl,-⟩ <;> rfl
def EN:Rw.Enc (Int × Int × Int × Int) where
 t:=38
 k:=4
 cells:=fun q=>[.int .i64 q.1,.int .i64 q.2.1,.int .i64 q.2.2.1,.int .i64 q.2.2.2]
 len:=fun _=>rfl
 one:=fun x u hu=>by simp only [List.mem_cons,List.not_mem_nil,or_false] at hu;rcases hu with rfl | rfl | rfl | rfl <;> rfl
 pos:=by decide
theorem nP:(Tryz.prog.info? 38).map (fun i=>(i.zero,i.size,i.bytes))=some (some (.agg #[.int .i64 0,.int .i64 0,.int .i64 0,.int .i64 0]),4,32):=by kernel_rfl
theorem kc:Rw.Fits Tryz.prog EN 64:=⟨Tryz.underlying64,by
 obtain ⟨i0,hi,hz0,hz1,hz2⟩:=info_parts nP
 exact ⟨i0,_,hi,hz0,hz1,by omega,rfl⟩⟩
theorem mX:(Tryz.prog.info? 64).map (fun i=>(i.zero,i.size,i.bytes))=some (some (.slice none 0 0),1,24):=by kernel_rfl
theorem neN:(64:TypeId)≠38:=by decide
def al (w:World) (base:Nat) (v:Value) (vs:List Value) (rows:List (List (Int × Int × Int × Int))):Prop:=
 w.ownsRow base 64 1 v rows.length vs∧vs.length=rows.length∧(∀ (i:Nat) (u:Value) (r:List (Int × Int × Int × Int)),vs[i]?=some u→rows[i]?=some r→Rw.Own EN w base u r)∧
  vs.Pairwise (fun u u'=>∀ g,u.ownBlock=some g→u'.ownBlock≠some g)
theorem al.nil (w:World) (base:Nat):al w base (.slice none 0 0) [] []:=⟨World.ownsRow_nil w base _ 1,rfl,fun i u r h=>by simp at h,List.Pairwise.nil⟩
theorem al.base {w:World} {base base':Nat} {v:Value} {vs:List Value} {rows:List (List (Int × Int × Int × Int))} (h:al w base v vs rows) (hb:base'≤base):al w base' v vs rows:=by
 obtain ⟨h1,h2,h3,h4⟩:=h
 refine ⟨?_,h2,fun i u r hu hr=>(h3 i u r hu hr).down hb,h4⟩
 obtain ⟨a1,a2⟩:=h1
 refine ⟨a1,?_⟩
 rcases a2 with a2 | ⟨g,cap,cur,hv,hg,hh,r⟩
 ·exact Or.inl a2
 ·exact Or.inr ⟨g,cap,cur,hv,Nat.le_trans hb hg,hh,r⟩
theorem al.below {w w':World} {base:Nat} {v:Value} {vs:List Value} {rows:List (List (Int × Int × Int × Int))} (h:al w base v vs rows) (hb:Below w.heap.size w w'):al w' base v vs rows:=by
 obtain ⟨h1,h2,h3,h4⟩:=h
 exact ⟨World.ownsRow.kept h1 (an hb none) (by cases v.ownBlock <;> simp),h2,fun i u r hu hr=>(h3 i u r hu hr).below hb,h4⟩
theorem al.alloc {w:World} {base:Nat} {v:Value} {vs:List Value} {rows:List (List (Int × Int × Int × Int))} (h:al w base v vs rows) (o:Obj):al (w.alloc o) base v vs rows:=
 h.below ((Below.refl _ _).alloc (Nat.le_refl _) _)
theorem al.lt {w:World} {base:Nat} {v:Value} {vs:List Value} {rows:List (List (Int × Int × Int × Int))} (h:al w base v vs rows):∀ z ∈ vs,∀ g,z.ownBlock=some g→base≤g∧g<w.heap.size:=by
 obtain ⟨h1,h2,h3,h4⟩:=h
 intro z hz g hg
 obtain ⟨i,hi⟩:=List.getElem?_of_mem hz
 have hil:=(List.getElem?_eq_some_iff.1 hi).1
 exact World.ownsRow.lt (h3 i z _ hi (List.getElem?_eq_getElem (by omega))) g hg
theorem jQ {ops:Array Oper} {rest:List Oper} {o:Oper} {a:Act} {Q:Exit→Act→World→Prop} {w W:World} (base:Nat) (u:Value) (r:List (Int × Int × Int × Int)) (vs:List Value) (rows:List (List (Int × Int × Int × Int))) (v:Value) (H:Nat) (hH:w.heap.size=H) (hgd:o.guard=none) (s x:Operand)
  (ho:o.op=.call { callee:=.builtin .append,args:=#[s,x],argTypes:=#[45,45] }) (hs:a.eval s=v) (hx:a.eval x=.slice (some ⟨H,0,none⟩) 1 1)
  (hown:al w base v vs rows) (hu:Rw.Own EN w base u r) (hnew:∀ g,u.ownBlock=some g→∀ z ∈ vs,z.ownBlock≠some g)
  (hW:Below base W w) (hB:base≤w.heap.size) (hl:rows.length≤1000000000)
  (h:∀ v' w',al w' base v' (vs ++ [u]) (rows ++ [r])→Below base W w'→wpList Tryz.prog ops Q rest (a.put o.dst v') w') :
  wpList Tryz.prog ops Q (o :: rest) a (w.alloc (.cells #[u] 64)):=by
 subst hH
 obtain ⟨i0,hi,hz0,hz1,hz2⟩:=info_parts mX
 obtain ⟨h1,h2,h3,h4⟩:=hown
 refine wpList_append_own _ hgd s x 45 ho base 64 i0 (.slice none 0 0) 1 24 Tryz.underlying45 hi hz0 hz1 hz2 rfl (by decide) v rows.length vs hs (h1.alloc _) ⟨w.heap.size,0,none⟩ 1 1 [u] hx rfl (fun j z hz=>by
  have hadd:(⟨w.heap.size,0,none⟩:Addr).add j=⟨w.heap.size,j,none⟩:=by unfold Addr.add;split <;> simp_all
  rw [hadd,World.cell?_alloc_at _ _ _ _ rfl]
  simpa using hz) (fun z hz=>by simp only [List.mem_singleton] at hz;subst hz;exact Rw.own_one hu) ?_ ?_ ?_ ?_
 ·unfold maxLen;omega
 ·omega
 ·simp;omega
 ·intro v' w' k1 k2 _
  refine h v' w' ⟨by rw [List.length_append];exact k1,by rw [List.length_append,List.length_append,h2];rfl,?_,?_⟩ ((hW.alloc hB _).grown k2 (by simp;omega) fun k hk=>(h1.lt k hk).1)
  ·have hal:∀ {z:Value} {q:List (Int × Int × Int × Int)},Rw.Own EN w base z q→Rw.Own EN w' base z q:=by
    intro z q hz
    have hz':Rw.Own EN (w.alloc (.cells #[u] 64)) base z q:=World.ownsRow.alloc hz _
    refine hz'.kept k2 fun g hg=>?_
    exact fl (t1:=38) (t2:=64) hz' (World.ownsRow.alloc h1 _) (Ne.symm neN) g hg
   intro i z q hz hq
   by_cases hlt:i<vs.length
   ·rw [List.getElem?_append_left hlt] at hz
    rw [List.getElem?_append_left (by omega)] at hq
    exact hal (h3 i z q hz hq)
   ·rw [List.getElem?_append_right (by omega)] at hz
    rw [List.getElem?_append_right (by omega),←h2] at hq
    have hi0:i - vs.length=0:=by
     rcases Nat.eq_zero_or_pos (i - vs.length) with e | e
     ·exact e
     ·rw [List.getElem?_eq_none (by simp;omega)] at hz;cases hz
    rw [hi0] at hz hq
    simp only [List.getElem?_cons_zero,Option.some.injEq] at hz hq
    subst hz hq
    exact hal hu
  ·rw [List.pairwise_append]
   refine ⟨h4,by simp,fun z hz z' hz' g hg hg'=>?_⟩
   simp only [List.mem_singleton] at hz'
   subst hz'
   exact hnew g hg' z hz hg
theorem al.view {w:World} {base:Nat} {v:Value} {vs:List Value} {rows:List (List (Int × Int × Int × Int))} (h:al w base v vs rows):∃ (a:Option Addr) (cap:Nat),v=.slice a rows.length cap∧(rows.length:Int)≤9223372036854775807∧
  ∀ k,k<rows.length→∃ g u r,a=some ⟨g,0,none⟩∧g<w.heap.size∧Hid (rows[k]?=some r)∧Hid (vs[k]?=some u)∧w.cell? ⟨g,k,none⟩=some u∧Rw.Own EN w base u r:=by
 obtain ⟨⟨h1,h2⟩,h3,h4,h5⟩:=h
 rcases h2 with ⟨rfl,hn⟩ | ⟨g,cap,cur,rfl,hg,hh,hc,hm,hs,ht⟩
 ·exact ⟨none,0,by rw [hn],by omega,fun k hk=>by omega⟩
 ·refine ⟨some ⟨g,0,none⟩,cap,rfl,by unfold maxLen at hm;omega,fun k hk=>⟨g,vs[k]'(by omega),rows[k],rfl,(Array.getElem?_eq_some_iff.1 hh).1,List.getElem?_eq_getElem hk,List.getElem?_eq_getElem (by omega),?_,h4 k _ _ (List.getElem?_eq_getElem (by omega)) (List.getElem?_eq_getElem hk)⟩⟩
  rw [cell_of_row w g k cur _ (0,0) hh]
  have e:vs[k]?=some (vs[k]'(by omega)):=List.getElem?_eq_getElem (by omega)
  generalize vs[k]'(by omega)=q at e ⊢
  rw [←ht,List.getElem?_take] at e
  split at e
  ·simpa using e
  ·cases e
def EP:Rw.Enc (Int × Int) where
 t:=58
 k:=2
 cells:=fun q=>[.int .i64 q.1,.int .i64 q.2]
 len:=fun _=>rfl
 one:=fun x u hu=>by simp only [List.mem_cons,List.not_mem_nil,or_false] at hu;rcases hu with rfl | rfl <;> rfl
 pos:=by decide
theorem nL:(Tryz.prog.info? 58).map (fun i=>(i.zero,i.size,i.bytes))=some (some (.agg #[.int .i64 0,.int .i64 0]),2,16):=by kernel_rfl
theorem mL:(Tryz.prog.info? 73).map (fun i=>(i.zero,i.size,i.bytes))=some (some (.slice none 0 0),1,24):=by kernel_rfl
def ai (w:World) (base:Nat) (v:Value) (vs:List Value) (rows:List (List (Int × Int))):Prop:=
 w.ownsRow base 73 1 v rows.length vs∧vs.length=rows.length∧(∀ (i:Nat) (u:Value) (r:List (Int × Int)),vs[i]?=some u→rows[i]?=some r→Rw.Own EP w base u r)∧
  vs.Pairwise (fun u u'=>∀ g,u.ownBlock=some g→u'.ownBlock≠some g)
theorem ai.nil (w:World) (base:Nat):ai w base (.slice none 0 0) [] []:=⟨World.ownsRow_nil w base _ 1,rfl,fun i u r h=>by simp at h,List.Pairwise.nil⟩
theorem ai.base {w:World} {base base':Nat} {v:Value} {vs:List Value} {rows:List (List (Int × Int))} (h:ai w base v vs rows) (hb:base'≤base):ai w base' v vs rows:=by
 obtain ⟨h1,h2,h3,h4⟩:=h
 refine ⟨?_,h2,fun i u r hu hr=>(h3 i u r hu hr).down hb,h4⟩
 obtain ⟨a1,a2⟩:=h1
 refine ⟨a1,?_⟩
 rcases a2 with a2 | ⟨g,cap,cur,hv,hg,hh,r⟩
 ·exact Or.inl a2
 ·exact Or.inr ⟨g,cap,cur,hv,Nat.le_trans hb hg,hh,r⟩
theorem ai.below {w w':World} {base:Nat} {v:Value} {vs:List Value} {rows:List (List (Int × Int))} (h:ai w base v vs rows) (hb:Below w.heap.size w w'):ai w' base v vs rows:=by
 obtain ⟨h1,h2,h3,h4⟩:=h
 exact ⟨World.ownsRow.kept h1 (an hb none) (by cases v.ownBlock <;> simp),h2,fun i u r hu hr=>(h3 i u r hu hr).below hb,h4⟩
theorem ai.alloc {w:World} {base:Nat} {v:Value} {vs:List Value} {rows:List (List (Int × Int))} (h:ai w base v vs rows) (o:Obj):ai (w.alloc o) base v vs rows:=
 h.below ((Below.refl _ _).alloc (Nat.le_refl _) _)
theorem ai.lt {w:World} {base:Nat} {v:Value} {vs:List Value} {rows:List (List (Int × Int))} (h:ai w base v vs rows):∀ z ∈ vs,∀ g,z.ownBlock=some g→base≤g∧g<w.heap.size:=by
 obtain ⟨h1,h2,h3,h4⟩:=h
 intro z hz g hg
 obtain ⟨i,hi⟩:=List.getElem?_of_mem hz
 have hil:=(List.getElem?_eq_some_iff.1 hi).1
 exact World.ownsRow.lt (h3 i z _ hi (List.getElem?_eq_getElem (by omega))) g hg
theorem ai.view {w:World} {base:Nat} {v:Value} {vs:List Value} {rows:List (List (Int × Int))} (h:ai w base v vs rows):∃ (a:Option Addr) (cap:Nat),v=.slice a rows.length cap∧(rows.length:Int)≤9223372036854775807∧
  ∀ k,k<rows.length→∃ g u r,a=some ⟨g,0,none⟩∧g<w.heap.size∧Hid (rows[k]?=some r)∧Hid (vs[k]?=some u)∧w.cell? ⟨g,k,none⟩=some u∧Rw.Own EP w base u r:=by
 obtain ⟨⟨h1,h2⟩,h3,h4,h5⟩:=h
 rcases h2 with ⟨rfl,hn⟩ | ⟨g,cap,cur,rfl,hg,hh,hc,hm,hs,ht⟩
 ·exact ⟨none,0,by rw [hn],by omega,fun k hk=>by omega⟩
 ·refine ⟨some ⟨g,0,none⟩,cap,rfl,by unfold maxLen at hm;omega,fun k hk=>⟨g,vs[k]'(by omega),rows[k],rfl,(Array.getElem?_eq_some_iff.1 hh).1,List.getElem?_eq_getElem hk,List.getElem?_eq_getElem (by omega),?_,h4 k _ _ (List.getElem?_eq_getElem (by omega)) (List.getElem?_eq_getElem hk)⟩⟩
  rw [cell_of_row w g k cur _ (0,0) hh]
  have e:vs[k]?=some (vs[k]'(by omega)):=List.getElem?_eq_getElem (by omega)
  generalize vs[k]'(by omega)=q at e ⊢
  rw [←ht,List.getElem?_take] at e
  split at e
  ·simpa using e
  ·cases e
namespace M
noncomputable def ent (a b:Int) (l:List Pt) (i j:Nat):Sp:=match l[i]?,l[j]? with
 | some p,some q=>if i=j then selfS a b p.1 p.2.2 else if i<j then pairS a b p.1 p.2.1 p.2.2 q.1 q.2.1 q.2.2 else pairS a b q.1 q.2.1 q.2.2 p.1 p.2.1 p.2.2
 | _,_=>none
noncomputable def ivc (s:Sp):Int × Int × Int × Int:=(in1 s,in2 s,in3 s,in4 s)
noncomputable def mOk (a b:Int) (l:List Pt):Bool:=(List.range l.length).all fun i=>(List.range l.length).all fun j=>(ent a b l i j).isSome
noncomputable def mRow (a b:Int) (l:List Pt) (i:Nat):List (Int × Int × Int × Int):=(List.range l.length).map fun j=>ivc (ent a b l i j)
noncomputable def mRows (a b:Int) (l:List Pt):List (List (Int × Int × Int × Int)):=if mOk a b l=true then (List.range l.length).map (mRow a b l) else []
theorem ent_sym (a b:Int) (l:List Pt) (i j:Nat):ent a b l i j=ent a b l j i:=by
 by_cases h:i=j
 ·subst h;rfl
 ·unfold ent
  cases l[i]? with
  | none=>cases l[j]? <;> rfl
  | some p=>cases l[j]? with
   | none=>rfl
   | some q=>
    simp only []
    have h':¬ j=i:=fun e=>h e.symm
    simp only [h,h',if_false]
    rcases Nat.lt_or_ge i j with q1 | q1
    ·rw [if_pos q1,if_neg (by omega)]
    ·rw [if_neg (by omega),if_pos (by omega)]
theorem ent_self {a b:Int} {l:List Pt} {i:Nat} {p:Pt} (h:l[i]?=some p):ent a b l i i=selfS a b p.1 p.2.2:=by
 unfold ent
 rw [h]
 simp
theorem ent_pair {a b:Int} {l:List Pt} {i j:Nat} {p q:Pt} (h1:l[i]?=some p) (h2:l[j]?=some q) (h:i<j):ent a b l i j=pairS a b p.1 p.2.1 p.2.2 q.1 q.2.1 q.2.2:=by
 unfold ent
 rw [h1,h2]
 simp only []
 rw [if_neg (by omega),if_pos h]
theorem mOk_no {a b:Int} {l:List Pt} {i j:Nat} (hi:i<l.length) (hj:j<l.length) (h:ent a b l i j=none):mOk a b l=false:=by
 cases hm:mOk a b l
 ·rfl
 ·unfold mOk at hm
  simp only [List.all_eq_true,List.mem_range] at hm
  have:=hm i hi j hj
  rw [h] at this
  cases this
theorem mOk_yes {a b:Int} {l:List Pt} (h:∀ i,i<l.length→∀ j,j<l.length→(ent a b l i j).isSome=true):mOk a b l=true:=by
 unfold mOk
 simp only [List.all_eq_true,List.mem_range]
 exact h
theorem mRows_no {a b:Int} {l:List Pt} (h:mOk a b l=false):mRows a b l=[]:=by
 unfold mRows
 rw [h]
 rfl
theorem mRows_yes {a b:Int} {l:List Pt} (h:mOk a b l=true):mRows a b l=(List.range l.length).map (mRow a b l):=by
 unfold mRows
 rw [h]
 rfl
end M
def cw (w:World) (base:Nat) (v:Value) (rows:List (List (Int × Int × Int × Int))):Prop:=∃ vs,al w base v vs rows
theorem cw.below {w w':World} {base:Nat} {v:Value} {rows:List (List (Int × Int × Int × Int))} (h:cw w base v rows) (hb:Below w.heap.size w w'):cw w' base v rows:=h.elim fun vs k=>⟨vs,k.below hb⟩
theorem cw.base {w:World} {base base':Nat} {v:Value} {rows:List (List (Int × Int × Int × Int))} (h:cw w base v rows) (hb:base'≤base):cw w base' v rows:=h.elim fun vs k=>⟨vs,k.base hb⟩
theorem cw.nil (w:World) (base:Nat):cw w base (.slice none 0 0) []:=⟨[],al.nil w base⟩
theorem cw.at {w:World} {base:Nat} {v:Value} {rows:List (List (Int × Int × Int × Int))} (h:cw w base v rows) {i j:Nat} {r:List (Int × Int × Int × Int)} {q:Int × Int × Int × Int} (hr:rows[i]?=some r) (hq:r[j]?=some q) :
  ∃ (g cap g2 cap2:Nat),v=.slice (some ⟨g,0,none⟩) rows.length cap∧w.cell? ⟨g,i,none⟩=some (.slice (some ⟨g2,0,none⟩) r.length cap2)∧w.cell? ⟨g2,j*4,none⟩=some (.int .i64 q.1)∧w.cell? ⟨g2,j*4+1,none⟩=some (.int .i64 q.2.1)∧w.cell? ⟨g2,j*4+2,none⟩=some (.int .i64 q.2.2.1)∧w.cell? ⟨g2,j*4+3,none⟩=some (.int .i64 q.2.2.2):=by
 obtain ⟨vs,h⟩:=h
 obtain ⟨a,cap,rfl,-,hv⟩:=h.view
 obtain ⟨g,u,r',rfl,-,h1,-,h2,h3⟩:=hv i (List.getElem?_eq_some_iff.1 hr).1
 have e:r'=r:=by
  have:=h1.out
  rw [hr] at this
  exact (Option.some.inj this).symm
 subst e
 rcases h3.forms with ⟨-,h4⟩ | ⟨g2,cap2,rfl,-,-,-,-⟩
 ·rw [h4] at hq;cases hq
 ·have hc:=fun t (ht:t<4)=>(h3.cellAt rfl (j*4+t) _ ((Rw.flat_get EN r' j t q hq ht).trans (List.getElem?_eq_getElem (by rw [EN.len];exact ht)))).1
  exact ⟨g,cap,g2,cap2,rfl,h2,hc 0 (by decide),hc 1 (by decide),hc 2 (by decide),hc 3 (by decide)⟩
theorem cZ {α:Type} (f:Nat→α) (k:Nat):(List.range (k+1)).map f=(List.range k).map f ++ [f k]:=by
 rw [List.range_succ,List.map_append]
 rfl
theorem gt {α:Type} (f:Nat→α) {k n:Nat} (h:k<n):((List.range n).map f)[k]?=some (f k):=by
 rw [List.getElem?_map,List.getElem?_range h]
 rfl
theorem iq (a b:Int) (v:Value) (l:List Pt) (w:World) (hx:dk w v l) (hg:M.good a b=true) (hn:l.length≤4) (hp:∀ p ∈ l,M.ptOk a b p.1 p.2.1 p.2.2=true) :
  Calls Tryz.prog 33 #[.agg #[.int .i64 a,.int .i64 b],v] w fun e w'=>∃ mv,e=.returned (.tuple #[mv,.bool (M.mOk a b l)])∧cw w' w.heap.size mv (M.mRows a b l)∧Below w.heap.size w w':=by
 have hin:=M.good_in hg
 obtain ⟨sa,cap,rfl,hv⟩:=hx
 have hv:=Lib.hid hv
 have hp:=Lib.hid hp
 obtain ⟨N,hN⟩:∃ N,Hid (l.length=N):=⟨_,Lib.hid rfl⟩
 rw [hN.out] at hn ⊢
 have hno:=Lib.hid fun i j h1 h2 h=>M.mOk_no (a:=a) (b:=b) (l:=l) (i:=i) (j:=j) h1 h2 h
 have hrn:=Lib.hid fun h=>M.mRows_no (a:=a) (b:=b) (l:=l) h
 have B:=(Below.refl w.heap.size w).alloc (Nat.le_refl _) (.cells #[.int .i64 a,.int .i64 b] 28)
 have C:=aG.new w #[.int .i64 a,.int .i64 b] 28
 generalize hw3:w.alloc (.cells #[.int .i64 a,.int .i64 b] 28)=wc at *
 go_enter Tryz.func33,Tryz.ntmps33
 go_wp2
 go_loopw [6,16] (fun vo vi wr=>∃ i:Nat,i≤N∧vi=.int .i64 i∧Hid (∀ i',i'<i→∀ j,j<l.length→(M.ent a b l i' j).isSome=true)∧Hid (cw wr wc.heap.size vo ((List.range i).map (M.mRow a b l)))∧Below wc.heap.size wc wr) (fun _ vi _=>N - (intOf vi).toNat)
 case atStart=>exact ⟨0,Nat.zero_le _,rfl,Lib.hid (fun i' h=>absurd h (by omega)),Lib.hid (cw.nil _ _),Below.refl _ _⟩
 case round=>
  obtain ⟨i,hi,rfl,hall,hmat,Bc⟩:=hrel
  have hB0:=B.size
  replace B:=B.trans (Bc.mono B.size)
  replace C:=C.keep Bc
  by_cases hlt:i<N
  ·obtain ⟨x,hx⟩:∃ x,l[i]?=some x:=⟨_,List.getElem?_eq_getElem (by have:=hN.out;omega)⟩
   obtain ⟨g,rfl,hpt⟩:∃ g,sa=some ⟨g,0,none⟩∧cr w g l:=by
    rcases hv.out with h | h
    ·rw [h] at hx;cases hx
    ·exact h
   have hpt:=Lib.hid hpt
   obtain ⟨d0,d1,d2⟩:=(hpt.out.below B) i x hx
   have hpx:=hp.out x (List.mem_of_getElem? hx)
   have hx:=Lib.hid hx
   obtain ⟨x1,x2,x3⟩:=x
   simp only [] at d0 d1 d2 hpx
   have hb1:=M.ptOk_bd hin hpx
   have PS:=Lib.hid fun W=>kk a b x1 x2 x3 W hg hb1.1 hb1.2.1 hb1.2.2.1 hb1.2.2.2.1
   clear hb1
   have B1:=B.alloc B.size (.cells #[.int .i64 x1,.int .i64 x2,.int .i64 x3] 54)
   have B1c:=Bc.alloc Bc.size (.cells #[.int .i64 x1,.int .i64 x2,.int .i64 x3] 54)
   have Z:=aG.new wr #[.int .i64 x1,.int .i64 x2,.int .i64 x3] 54
   have C1:=C.alloc (.cells #[.int .i64 x1,.int .i64 x2,.int .i64 x3] 54)
   have hwi:=World.size_alloc wr (.cells #[.int .i64 x1,.int .i64 x2,.int .i64 x3] 54)
   have hm1:=Lib.hid (hmat.out.below ((Below.refl _ wr).alloc (Nat.le_refl _) (.cells #[.int .i64 x1,.int .i64 x2,.int .i64 x3] 54)))
   generalize hw1:wr.alloc (.cells #[.int .i64 x1,.int .i64 x2,.int .i64 x3] 54)=wi at *
   go_wp2
   go_loopw [9,23] (fun vr vk wq=>∃ k:Nat,k≤N∧vk=.int .i64 k∧Hid (∀ j,j<k→(M.ent a b l i j).isSome=true)∧Hid (Rw.Own EN wq wi.heap.size vr ((List.range k).map fun j=>M.ivc (M.ent a b l i j)))∧Below wi.heap.size wi wq) (fun _ vk _=>N - (intOf vk).toNat)
   case atStart=>exact ⟨0,Nat.zero_le _,rfl,Lib.hid (fun j h=>absurd h (by omega)),Lib.hid (Rw.Own.nil EN _ _),Below.refl _ _⟩
   case round=>
    clear d0 d1 d2
    obtain ⟨k,hk,rfl,hall2,hrow,Bq⟩:=hrel
    have hsz:=B.size
    have hsq:=Bq.size
    by_cases hlt2:k<N
    ·obtain ⟨y,hy⟩:∃ y,l[k]?=some y:=⟨_,List.getElem?_eq_getElem (by have:=hN.out;omega)⟩
     obtain ⟨d0,d1,d2⟩:=((hpt.out.below B1).below Bq) k y hy
     have hpy:=hp.out y (List.mem_of_getElem? hy)
     obtain ⟨y1,y2,y3⟩:=y
     simp only [] at d0 d1 d2 hpy
     have hy:=Lib.hid hy
     have hmq:=Lib.hid (hm1.out.below Bq)
     have B2:=Bq.alloc Bq.size (.cells #[.int .i64 y1,.int .i64 y2,.int .i64 y3] 54)
     have ZY:=aG.new wr #[.int .i64 y1,.int .i64 y2,.int .i64 y3] 54
     have Z2:=(Z.keep Bq).alloc (.cells #[.int .i64 y1,.int .i64 y2,.int .i64 y3] 54)
     have C2:=(C1.keep Bq).alloc (.cells #[.int .i64 y1,.int .i64 y2,.int .i64 y3] 54)
     have hrow2:=Lib.hid (Rw.Own.alloc hrow.out (.cells #[.int .i64 y1,.int .i64 y2,.int .i64 y3] 54))
     have C_c0:=C2.box.c0
     have C_c1:=C2.box.c1
     have ⟨z0,z1,z2⟩:=Z2.box3
     have ⟨t0,t1,t2⟩:=ZY.box3
     have hle:((List.range k).map fun j=>M.ivc (M.ent a b l i j)).length≤4:=by rw [List.length_map,List.length_range];omega
     have hle:=Lib.hid hle
     have hnxt:(M.ent a b l i k).isSome=true→(∀ j,j<k+1→(M.ent a b l i j).isSome=true):=fun h j hj=>by
      rcases Nat.lt_or_ge j k with q | q
      ·exact hall2.out j q
      ·obtain rfl:j=k:=by omega
       exact h
     have hnxt:=Lib.hid hnxt
     rcases Nat.lt_trichotomy k i with hc | hc | hc
     ·have hent:=hall.out k hc i (by have:=hN.out;omega)
      rw [M.ent_sym] at hent
      have hnx:=Lib.hid (hnxt.out hent)
      obtain ⟨gm,cm,g2,c2,rfl,m0,m1,m2,m3,m4⟩:=(hmq.out.below ((Below.refl _ wr).alloc (Nat.le_refl _) (.cells #[.int .i64 y1,.int .i64 y2,.int .i64 y3] 54))).at (gt (M.mRow a b l) hc) (show (M.mRow a b l k)[i]?=some _ from gt _ (by have:=hN.out;omega))
      rw [M.ent_sym] at m1 m2 m3 m4
      have hrl:(M.mRow a b l k).length=N:=by unfold M.mRow;rw [List.length_map,List.length_range];exact hN.out
      rw [hrl] at m0
      have hrm:((List.range i).map (M.mRow a b l)).length=i:=by rw [List.length_map,List.length_range]
      simp only [hrm]
      clear hnxt hent hrl hrm
      obtain ⟨q,hq⟩:∃ q,Hid (M.ivc (M.ent a b l i k)=q):=⟨_,Lib.hid rfl⟩
      rw [hq.out] at m1 m2 m3 m4
      obtain ⟨q1,q2,q3,q4⟩:=q
      simp only [] at m1 m2 m3 m4
      have hii:((i:Nat):Int)≤4:=by omega
      go_wp2_with (at_builtin;refine Rw.push kc (W:=wi) wi.heap.size [(q1,q2,q3,q4)] _ _ (some ⟨wr.heap.size+1,0,none⟩) 1 1 rfl rfl (.tmp 31) (.tmp 39) rfl rfl rfl (Rw.From.lit EN _ (q1,q2,q3,q4) (wr.heap.size+1) (World.size_alloc _ _)) (Rw.Own.alloc hrow2.out _) (B2.alloc B2.size _) (by rw [World.size_alloc];have:=B2.size;omega) (by have:=hle.out;simp only [List.length_cons,List.length_nil];omega) ?_;intro v6 w6 hown6 hb6)
      go_roundw
      case rel=>exact ⟨k+1,by omega,by go_num,hnx,by rw [cZ,hq.out];exact Lib.hid hown6,hb6⟩
      case measure=>simp [intOf] <;> omega
     ·subst hc
      have hxy:=Option.some.inj (hx.out.symm.trans hy.out)
      injection hxy with e1 e2
      injection e2 with e2 e3
      subst e1 e2 e3
      have he:=M.ent_self (a:=a) (b:=b) hx.out
      have PP:=fun W=>g5 a b x1 x2 x3 x1 x2 x3 W hg hpx hpx
      generalize M.pairS a b x1 x2 x3 x1 x2 x3=ps at *
      generalize M.in1 ps=u1 at *
      generalize M.in2 ps=u2 at *
      generalize M.in3 ps=u3 at *
      generalize M.in4 ps=u4 at *
      generalize ps.isSome=fu at *
      simp only [] at he
      replace PS:=PS.out
      generalize M.selfS a b x1 x3=ss at *
      have hni:=hno.out k k (by have:=hN.out;omega) (by have:=hN.out;omega)
      rw [he] at hni hnxt
      have Bv:=(Below.refl wr.heap.size wr).alloc (Nat.le_refl _) (.cells #[.int .i64 x1,.int .i64 x2,.int .i64 x3] 54)
      cases ss with
      | none=>
       have hfin:=Lib.hid (hni rfl)
       have hfr:=Lib.hid (hrn.out hfin.out)
       have e9:=Lib.hid (show M.in1 none=0∧M.in2 none=0∧M.in3 none=0∧M.in4 none=0∧(none:M.Sp).isSome=false from ⟨rfl,rfl,rfl,rfl,rfl⟩)
       rw [e9.out.1,e9.out.2.1,e9.out.2.2.1,e9.out.2.2.2.1,e9.out.2.2.2.2] at PS
       clear hni hnxt hno hrn e9 he
       replace PP:=Lib.hid PP
       replace PS:=Lib.hid PS
       go_wp2_with first | (go_at_call 58;(with_reducible refine (PP.out _).mono ?_);rintro e w4 ⟨rfl,hb4⟩;(have hz40:=Nat.le_trans Bv.size hb4.size);(replace Bv:=(Bv.trans (hb4.mono Bv.size)).alloc (Nat.le_trans Bv.size hb4.size) (.cells #[.int .i64 u1,.int .i64 u2,.int .i64 u3,.int .i64 u4] 38));(replace C2:=(C2.keep hb4).alloc (.cells #[.int .i64 u1,.int .i64 u2,.int .i64 u3,.int .i64 u4] 38));(replace Z2:=(Z2.keep hb4).alloc (.cells #[.int .i64 u1,.int .i64 u2,.int .i64 u3,.int .i64 u4] 38));(have V:=aG.new w4 #[.int .i64 u1,.int .i64 u2,.int .i64 u3,.int .i64 u4] 38);(have C_c0:=C2.box.c0);(have C_c1:=C2.box.c1);(have ⟨z0,z1,z2⟩:=Z2.box3);(have ⟨v0,v1,v2,v3,f0,f1,f2,f3,vl⟩:=V.boxQ)) | (go_at_call 59;(with_reducible refine (PS.out _).mono ?_);rintro e w5 ⟨rfl,hb5⟩;(replace Bv:=Bv.trans (hb5.mono Bv.size));(replace V:=V.keep hb5);(have ⟨v0,v1,v2,v3,f0,f1,f2,f3,vl⟩:=V.boxQ);(have Bv2:=Below.setCell (Below.setCell (Below.setCell (Below.setCell (Bv) (p:=⟨w4.heap.size,0,none⟩) hz40 (.int .i64 0)) (p:=⟨w4.heap.size,1,none⟩) hz40 (.int .i64 0)) (p:=⟨w4.heap.size,2,none⟩) hz40 (.int .i64 0)) (p:=⟨w4.heap.size,3,none⟩) hz40 (.int .i64 0));(have V9:=V.set4 (.int .i64 0) (.int .i64 0) (.int .i64 0) (.int .i64 0));(have ⟨v0_,v1_,v2_,v3_,_,_,_,_,_⟩:=V9.boxQ))
       go_ret2
       exact ⟨_,by rw [hfin.out];rfl,by rw [hfr.out];exact cw.nil _ _,(B1.trans (Bq.mono B1.size)).trans (Bv2.mono (Nat.le_trans B1.size hsq))⟩
      | some q_=>
       have hnx:=Lib.hid (hnxt.out rfl)
       obtain ⟨q,hq⟩:∃ q,Hid (M.ivc (some q_)=q):=⟨_,Lib.hid rfl⟩
       obtain ⟨q1,q2,q3,q4⟩:=q
       have e1:M.in1 (some q_)=q1:=congrArg (fun z=>z.1) hq.out
       have e2:M.in2 (some q_)=q2:=congrArg (fun z=>z.2.1) hq.out
       have e3:M.in3 (some q_)=q3:=congrArg (fun z=>z.2.2.1) hq.out
       have e4:M.in4 (some q_)=q4:=congrArg (fun z=>z.2.2.2) hq.out
       have e5:=Lib.hid (show (some q_:M.Sp).isSome=true from rfl)
       rw [e1,e2,e3,e4,e5.out] at PS
       have he:=Lib.hid (he.trans rfl)
       clear hni hnxt hno hrn e1 e2 e3 e4 e5
       replace PP:=Lib.hid PP
       replace PS:=Lib.hid PS
       go_wp2_with first | (go_at_call 58;(with_reducible refine (PP.out _).mono ?_);rintro e w4 ⟨rfl,hb4⟩;(have hz40:=Nat.le_trans Bv.size hb4.size);(replace Bv:=(Bv.trans (hb4.mono Bv.size)).alloc (Nat.le_trans Bv.size hb4.size) (.cells #[.int .i64 u1,.int .i64 u2,.int .i64 u3,.int .i64 u4] 38));(replace C2:=(C2.keep hb4).alloc (.cells #[.int .i64 u1,.int .i64 u2,.int .i64 u3,.int .i64 u4] 38));(replace Z2:=(Z2.keep hb4).alloc (.cells #[.int .i64 u1,.int .i64 u2,.int .i64 u3,.int .i64 u4] 38));(have V:=aG.new w4 #[.int .i64 u1,.int .i64 u2,.int .i64 u3,.int .i64 u4] 38);(have C_c0:=C2.box.c0);(have C_c1:=C2.box.c1);(have ⟨z0,z1,z2⟩:=Z2.box3);(have ⟨v0,v1,v2,v3,f0,f1,f2,f3,vl⟩:=V.boxQ)) | (go_at_call 59;(with_reducible refine (PS.out _).mono ?_);rintro e w5 ⟨rfl,hb5⟩;(replace Bv:=Bv.trans (hb5.mono Bv.size));(replace V:=V.keep hb5);(have ⟨v0,v1,v2,v3,f0,f1,f2,f3,vl⟩:=V.boxQ);(have Bv2:=Below.setCell (Below.setCell (Below.setCell (Below.setCell (Bv) (p:=⟨w4.heap.size,0,none⟩) hz40 (.int .i64 q1)) (p:=⟨w4.heap.size,1,none⟩) hz40 (.int .i64 q2)) (p:=⟨w4.heap.size,2,none⟩) hz40 (.int .i64 q3)) (p:=⟨w4.heap.size,3,none⟩) hz40 (.int .i64 q4));(have V9:=V.set4 (.int .i64 q1) (.int .i64 q2) (.int .i64 q3) (.int .i64 q4));(have ⟨v0_,v1_,v2_,v3_,_,_,_,_,_⟩:=V9.boxQ)) | (at_builtin;refine Rw.push kc (W:=wi) wi.heap.size [(q1,q2,q3,q4)] _ _ (some ⟨w5.heap.size,0,none⟩) 1 1 rfl rfl (.tmp 59) (.tmp 61) rfl rfl rfl (Rw.From.lit EN _ (q1,q2,q3,q4) (w5.heap.size) (by simp [World.setCell])) (Rw.Own.alloc (hrow.out.below Bv2) _) ((Bq.trans (Bv2.mono Bq.size)).alloc (Nat.le_trans hsq Bv2.size) _) (by rw [World.size_alloc];exact Nat.le_succ_of_le (Nat.le_trans hsq Bv2.size)) (by have:=hle.out;simp only [List.length_cons,List.length_nil];omega) ?_;intro v6 w6 hown6 hb6)
       go_roundw
       case rel=>exact ⟨k+1,by omega,by go_num,hnx,by rw [cZ,he.out,hq.out];exact Lib.hid hown6,hb6⟩
       case measure=>simp [intOf] <;> omega
     ·have he:=M.ent_pair (a:=a) (b:=b) hx.out hy.out hc
      have PP:=fun W=>g5 a b x1 x2 x3 y1 y2 y3 W hg hpx hpy
      simp only [] at he
      generalize M.pairS a b x1 x2 x3 y1 y2 y3=ss at *
      have hne:((k:Int) == (i:Int))=false:=by rw [beq_eq_false_iff_ne];omega
      clear PS
      have hni:=hno.out i k (by have:=hN.out;omega) (by have:=hN.out;omega)
      rw [he] at hni hnxt
      have Bv:=(Below.refl wr.heap.size wr).alloc (Nat.le_refl _) (.cells #[.int .i64 y1,.int .i64 y2,.int .i64 y3] 54)
      cases ss with
      | none=>
       have hfin:=Lib.hid (hni rfl)
       have hfr:=Lib.hid (hrn.out hfin.out)
       have e9:=Lib.hid (show M.in1 none=0∧M.in2 none=0∧M.in3 none=0∧M.in4 none=0∧(none:M.Sp).isSome=false from ⟨rfl,rfl,rfl,rfl,rfl⟩)
       rw [e9.out.1,e9.out.2.1,e9.out.2.2.1,e9.out.2.2.2.1,e9.out.2.2.2.2] at PP
       clear hni hnxt hno hrn e9 he
       replace PP:=Lib.hid PP
       go_wp2_with first | (go_at_call 58;(with_reducible refine (PP.out _).mono ?_);rintro e w4 ⟨rfl,hb4⟩;(have hz40:=Nat.le_trans Bv.size hb4.size);(replace Bv:=(Bv.trans (hb4.mono Bv.size)).alloc (Nat.le_trans Bv.size hb4.size) (.cells #[.int .i64 0,.int .i64 0,.int .i64 0,.int .i64 0] 38));(replace C2:=(C2.keep hb4).alloc (.cells #[.int .i64 0,.int .i64 0,.int .i64 0,.int .i64 0] 38));(replace Z2:=(Z2.keep hb4).alloc (.cells #[.int .i64 0,.int .i64 0,.int .i64 0,.int .i64 0] 38));(have V:=aG.new w4 #[.int .i64 0,.int .i64 0,.int .i64 0,.int .i64 0] 38);(have C_c0:=C2.box.c0);(have C_c1:=C2.box.c1);(have ⟨z0,z1,z2⟩:=Z2.box3);(have ⟨v0,v1,v2,v3,f0,f1,f2,f3,vl⟩:=V.boxQ))
       go_ret2
       exact ⟨_,by rw [hfin.out];rfl,by rw [hfr.out];exact cw.nil _ _,(B1.trans (Bq.mono B1.size)).trans (Bv.mono (Nat.le_trans B1.size hsq))⟩
      | some q_=>
       have hnx:=Lib.hid (hnxt.out rfl)
       obtain ⟨q,hq⟩:∃ q,Hid (M.ivc (some q_)=q):=⟨_,Lib.hid rfl⟩
       obtain ⟨q1,q2,q3,q4⟩:=q
       have e1:M.in1 (some q_)=q1:=congrArg (fun z=>z.1) hq.out
       have e2:M.in2 (some q_)=q2:=congrArg (fun z=>z.2.1) hq.out
       have e3:M.in3 (some q_)=q3:=congrArg (fun z=>z.2.2.1) hq.out
       have e4:M.in4 (some q_)=q4:=congrArg (fun z=>z.2.2.2) hq.out
       have e5:=Lib.hid (show (some q_:M.Sp).isSome=true from rfl)
       rw [e1,e2,e3,e4,e5.out] at PP
       have he:=Lib.hid (he.trans rfl)
       clear hni hnxt hno hrn e1 e2 e3 e4 e5
       replace PP:=Lib.hid PP
       go_wp2_with first | (go_at_call 58;(with_reducible refine (PP.out _).mono ?_);rintro e w4 ⟨rfl,hb4⟩;(have hz40:=Nat.le_trans Bv.size hb4.size);(replace Bv:=(Bv.trans (hb4.mono Bv.size)).alloc (Nat.le_trans Bv.size hb4.size) (.cells #[.int .i64 q1,.int .i64 q2,.int .i64 q3,.int .i64 q4] 38));(replace C2:=(C2.keep hb4).alloc (.cells #[.int .i64 q1,.int .i64 q2,.int .i64 q3,.int .i64 q4] 38));(replace Z2:=(Z2.keep hb4).alloc (.cells #[.int .i64 q1,.int .i64 q2,.int .i64 q3,.int .i64 q4] 38));(have V:=aG.new w4 #[.int .i64 q1,.int .i64 q2,.int .i64 q3,.int .i64 q4] 38);(have C_c0:=C2.box.c0);(have C_c1:=C2.box.c1);(have ⟨z0,z1,z2⟩:=Z2.box3);(have ⟨v0,v1,v2,v3,f0,f1,f2,f3,vl⟩:=V.boxQ)) | (at_builtin;refine Rw.push kc (W:=wi) wi.heap.size [(q1,q2,q3,q4)] _ _ (some ⟨w4.heap.size+1,0,none⟩) 1 1 rfl rfl (.tmp 59) (.tmp 61) rfl rfl rfl (Rw.From.lit EN _ (q1,q2,q3,q4) (w4.heap.size+1) (by simp [World.setCell])) (Rw.Own.alloc (hrow.out.below Bv) _) ((Bq.trans (Bv.mono Bq.size)).alloc (Nat.le_trans hsq Bv.size) _) (by rw [World.size_alloc];exact Nat.le_succ_of_le (Nat.le_trans hsq Bv.size)) (by have:=hle.out;simp only [List.length_cons,List.length_nil];omega) ?_;intro v6 w6 hown6 hb6)
       go_roundw
       case rel=>exact ⟨k+1,by omega,by go_num,hnx,by rw [cZ,he.out,hq.out];exact Lib.hid hown6,hb6⟩
       case measure=>simp [intOf] <;> omega
    ·obtain rfl:k=N:=by omega
     have hkl:((List.range k).map fun j=>M.ivc (M.ent a b l i j)).length=k:=by rw [List.length_map,List.length_range]
     obtain ⟨g4,c4,hvr⟩:∃ g4 c4,_=Value.slice (some ⟨g4,0,none⟩) k c4:=by
      rcases hrow.out.forms with ⟨-,h4⟩ | ⟨g4,c4,h4,-⟩
      ·rw [h4] at hkl;simp only [List.length_nil] at hkl;omega
      ·rw [hkl] at h4;exact ⟨g4,c4,h4⟩
     subst hvr
     clear hkl
     obtain ⟨vs,hvs⟩:=hm1.out
     have hvq:=hvs.below Bq
     have hrw:=hrow.out.down (show wc.heap.size≤wi.heap.size from B1c.size)
     have hlt3:=fun g h=>hrow.out.lt g h
     have hmr:(List.range k).map (fun j=>M.ivc (M.ent a b l i j))=M.mRow a b l i:=by unfold M.mRow;rw [hN.out]
     rw [hmr] at hrw
     have hnewr:=fun g hg z hz (e:Value.ownBlock z=some g)=>(absurd (hlt3 g hg).1 (Nat.not_le.2 (hvs.lt z hz g e).2):False)
     have hrm:((List.range i).map (M.mRow a b l)).length=i:=by rw [List.length_map,List.length_range]
     have hal:∀ i',i'<i+1→∀ j,j<l.length→(M.ent a b l i' j).isSome=true:=fun i' h j hj=>by
      rcases Nat.lt_or_ge i' i with q | q
      ·exact hall.out i' q j hj
      ·obtain rfl:i'=i:=by omega
       exact hall2.out j (by have:=hN.out;omega)
     have hal:=Lib.hid hal
     have Bw:=B1c.trans (Bq.mono B1c.size)
     go_wp2_with (at_builtin;refine jQ (W:=wc) wc.heap.size _ _ vs _ _ wr.heap.size rfl rfl (.tmp 64) (.tmp 66) rfl rfl rfl hvq hrw hnewr Bw Bw.size (by rw [hrm];omega) ?_;intro v7 w7 hown7 hb7)
     go_roundw
     case rel=>exact ⟨i+1,by omega,by go_num,hal,Lib.hid ⟨_,by rw [cZ];exact hown7⟩,hb7⟩
     case measure=>simp [intOf] <;> omega
  ·obtain rfl:i=N:=by omega
   have hyes:=Lib.hid (M.mOk_yes (a:=a) (b:=b) (l:=l) (fun i' h=>hall.out i' (by have:=hN.out;omega)))
   have hrows:=Lib.hid (M.mRows_yes hyes.out)
   go_wp2
   go_ret2
   exact ⟨_,by rw [hyes.out];rfl,by rw [hrows.out,hN.out];exact hmat.out.base hB0,B⟩
theorem M.first_any {p:Int→Bool} {xs:List Int} {r:Int} (h:M.First p xs r):decide (0≤r)=xs.any p:=by
 rcases h with ⟨rfl,h⟩ | ⟨k,rfl,hk,h1,-⟩
 ·have:xs.any p=false:=by
   cases q:xs.any p
   ·rfl
   ·obtain ⟨x,hx,hpx⟩:=List.any_eq_true.1 q
    rw [h x hx] at hpx;cases hpx
  rw [this];rfl
 ·have hx:xs[k]?=some xs[k]:=List.getElem?_eq_getElem hk
  rw [List.any_eq_true.2 ⟨_,List.mem_of_getElem? hx,h1 _ hx⟩]
  exact decide_eq_true (by omega)
theorem fU (g:Nat) (lb:Array Value) (eg:∀ args w,(callFunc g args).run Tryz.prog w=.ok (.enter g args) w) (p:Int→Bool) (v:Value) (xs:List Int) (w:World) (base hi:Nat) (hx:bC w hi v xs) (hhi:hi≤w.heap.size) (hb0:base≤w.heap.size) (hp:mJ g lb p xs base w) :
  Calls Tryz.prog 66 #[v,.func (.func g) #[] lb] w fun e w'=>e=.returned (.bool (xs.any p))∧Below w.heap.size w w':=by
 have P:=gM g lb eg p v xs w base hi hx hhi hb0 hp
 have P:=Lib.hid (P.mono (fun e w' ⟨r,h1,h2,h3⟩=>(⟨r,h1,M.first_any h2,h3⟩:∃ r:Int,e=Ending.returned (.int .i64 r)∧decide (0≤r)=xs.any p∧Below w.heap.size w w')))
 generalize xs.any p=t at *
 clear hx hp
 go_enter Tryz.func66,Tryz.ntmps66
 go_wp2_with (go_at_call 91;refine P.out.mono ?_;rintro e w2 ⟨r,rfl,h1,hb2⟩)
 go_ret
 exact ⟨by rw [←h1];simp,hb2⟩
theorem gL (x:Int) (w:World) :
  Calls Tryz.prog 67 #[.int .i64 x] w fun e w'=>e=.returned (.bool (!(M.ins x (-12) 12)))∧Below w.heap.size w w':=by
 have PP:=Lib.hid fun W=>bG x (-12) 12 W
 generalize M.ins x (-12) 12=t at *
 go_enter Tryz.func67,Tryz.ntmps67
 go_wp2_with (go_at_call 52;(with_reducible refine (PP.out _).mono ?_);rintro e w4 ⟨rfl,rfl⟩)
 go_ret
 exact ⟨rfl,Below.refl _ _⟩
namespace M
def fits (n:List Int) (m:Nat):Bool:=((n.length:Int) == (m:Int)) && n.all (fun x=>ins x (-12) 12)
theorem fits_any {n:List Int}:(!n.any (fun x=>!(ins x (-12) 12)))=n.all (fun x=>ins x (-12) 12):=by
 rw [List.not_any_eq_all_not]
 congr 1
 funext x
 simp
end M
theorem gD (a:Option Addr) (m cap:Nat) (v:Value) (n:List Int) (w:World) (hx:bC w w.heap.size v n) :
  Calls Tryz.prog 38 #[.slice a m cap,v] w fun e w'=>e=.returned (.bool (M.fits n m))∧Below w.heap.size w w':=by
 have PF:=fU 67 #[] (fun _ _=>rfl) (fun x=>!(M.ins x (-12) 12)) v n w w.heap.size w.heap.size hx (Nat.le_refl _) (Nat.le_refl _) (fun x _ W _=>gL x W)
 have hfit:M.fits n m=(((n.length:Int) == (m:Int)) && !n.any (fun x=>!(M.ins x (-12) 12))):=by rw [M.fits_any];rfl
 obtain ⟨sa,cp,rfl,-,-⟩:=hx
 have PF:=Lib.hid PF
 rw [hfit]
 generalize n.any (fun x=>!(M.ins x (-12) 12))=t at *
 clear hfit
 generalize n.length=N at *
 cases hc:((N:Int) == (m:Int))
 ·clear PF
  go_enter Tryz.func38,Tryz.ntmps38
  go_wp2
  go_ret
  exact ⟨rfl,Below.refl _ _⟩
 ·go_enter Tryz.func38,Tryz.ntmps38
  go_wp2_with (go_at_call 66;(refine PF.out.mono ?_);rintro e w4 ⟨rfl,hb4⟩)
  go_ret
  exact ⟨rfl,hb4⟩
theorem lh (l:List Int) (v:Value) (lo hi:Int) (w:World) (hx:bC w w.heap.size v l) :
  Calls Tryz.prog 57 #[v,.int .i64 lo,.int .i64 hi] w fun e w'=>e=.returned (.bool (l.all (fun x=>M.ins x lo hi)))∧Below w.heap.size w w':=by
 obtain ⟨a,cap,rfl,hm,hv⟩:=hx
 have hv:=Lib.hid hv
 obtain ⟨N,hN⟩:∃ N,Hid (l.length=N):=⟨_,Lib.hid rfl⟩
 rw [hN.out] at hv hm ⊢
 go_enter Tryz.func57,Tryz.ntmps57
 go_wp2
 go_loopw [8,11] (fun _ vi wr=>∃ k:Nat,k≤N∧vi=.int .i64 k∧Hid ((l.take k).all (fun x=>M.ins x lo hi)=true)∧Below w.heap.size w wr) (fun _ vi _=>N - (intOf vi).toNat)
 case atStart=>exact ⟨0,Nat.zero_le _,rfl,Lib.hid rfl,Below.refl _ _⟩
 case round=>
  obtain ⟨k,hk,rfl,hall,hbr⟩:=hrel
  by_cases hlt:k<N
  ·obtain ⟨g,y,rfl,hg,hy,hcell⟩:=hv.out k hlt
   have hc:=aE hbr hcell
   have PI:=fun W=>bW y lo hi W
   have hno:M.ins y lo hi=false→l.all (fun x=>M.ins x lo hi)=false:=fun h=>by
    cases q:l.all (fun x=>M.ins x lo hi)
    ·rfl
    ·rw [List.all_eq_true] at q
     rw [q y (List.mem_of_getElem? hy.out)] at h;cases h
   have hnx:M.ins y lo hi=true→(l.take (k+1)).all (fun x=>M.ins x lo hi)=true:=fun h=>by
    rw [List.take_add_one,hy.out,List.all_append,hall.out]
    simpa using h
   generalize M.ins y lo hi=t at *
   cases t
   ·replace PI:=Lib.hid PI
    have hfin:=Lib.hid (hno rfl)
    clear hcell hy hno hnx
    go_wp2_with (go_at_call 49;(with_reducible refine (PI.out _).mono ?_);rintro e w5 ⟨rfl,rfl⟩)
    go_ret
    exact ⟨by rw [hfin.out];rfl,hbr⟩
   ·replace PI:=Lib.hid PI
    have hfin:=Lib.hid (hnx rfl)
    clear hcell hy hno hnx
    go_wp2_with (go_at_call 49;(with_reducible refine (PI.out _).mono ?_);rintro e w5 ⟨rfl,rfl⟩)
    go_roundw
    case rel=>exact ⟨k+1,by omega,by go_num,hfin,hbr⟩
    case measure=>simp [intOf];omega
  ·obtain rfl:k=N:=by omega
   have hfin:=hall
   rw [←hN.out,List.take_length] at hfin
   go_wp2
   go_ret
   exact ⟨by rw [hfin.out];rfl,hbr⟩
theorem gO (a:Option Addr) (m cap:Nat) (v:Value) (n:List Int) (w:World) (hx:bC w w.heap.size v n) :
  Calls Tryz.prog 32 #[.slice a m cap,v] w fun e w'=>e=.returned (.bool (M.fits n m))∧Below w.heap.size w w':=by
 have PF:=lh n v (-12) 12 w hx
 have hfit:M.fits n m=(((n.length:Int) == (m:Int)) && n.all (fun x=>M.ins x (-12) 12)):=rfl
 obtain ⟨sa,cp,rfl,-,-⟩:=hx
 have PF:=Lib.hid PF
 rw [hfit]
 generalize n.all (fun x=>M.ins x (-12) 12)=t at *
 clear hfit
 generalize n.length=N at *
 cases hc:((N:Int) == (m:Int))
 ·clear PF
  go_enter Tryz.func32,Tryz.ntmps32
  go_wp2
  go_ret
  exact ⟨rfl,Below.refl _ _⟩
 ·go_enter Tryz.func32,Tryz.ntmps32
  go_wp2_with (go_at_call 57;(refine PF.out.mono ?_);rintro e w4 ⟨rfl,hb4⟩)
  go_ret
  exact ⟨rfl,hb4⟩
end
section
namespace M
abbrev Mat:=List (List (Int × Int))
def okM (m:Mat):Prop:=∀ r ∈ m,∀ q ∈ r,spanOk q.1 q.2=true
def mR (n:Nat) (m:Mat):Prop:=m.length=n∧∀ r ∈ m,r.length=n
end M
end
end Go.Proofs.YthfjndmdalfloaaGreat
