/-
  Joined texts: contracts and plain lemmas.
-/
import Derived.Test.YtggekfbfechonaaGreatV1
import Derived.Test.YtggekfbfechonaaGreatV13
import Derived.Test.YtggekfbfechonaaGreatV2
import Derived.Test.YtggekfbfechonaaGreatV6
set_option linter.unusedSimpArgs false
set_option linter.unusedVariables false
set_option maxRecDepth 100000
set_option maxHeartbeats 8000000
namespace Go.Proofs.YtggekfbfechonaaGreat
section
open Go.RowKit
namespace M
abbrev Sp:=Option (Int × Int)
def yT (s:Sp):Int:=(s.getD (0,0)).1
def yS (s:Sp):Int:=(s.getD (0,0)).2
def mkS (l h:Int):Sp:=if aM l h=true then some (l,h) else none
def fQ (s t:Sp):Sp:=s.bind fun p=>t.bind fun q=>mkS (p.1+q.1) (p.2+q.2)
def cy (s t:Sp):Sp:=s.bind fun p=>t.bind fun q=>mkS (p.1 - q.2) (p.2 - q.1)
noncomputable def bR (a b X E:Int):Sp:=if zR a b X E=true then some (bL a b X E (bN a b X E),bH a b X E (bN a b X E)) else none
def gd (f:Bool) (s:Sp):Sp:=if f=true then s else none
def AP (s:Sp):Prop:=∀ p,s=some p→aM p.1 p.2=true
theorem di:AP none:=fun _ h=>by cases h
theorem vJ (l h:Int):AP (mkS l h):=by
 intro p hp;unfold mkS at hp
 split at hp
 ·injection hp with hp;subst hp;assumption
 cases hp
theorem nw {f:Bool} {s:Sp} (h:AP s):AP (gd f s):=by
 unfold gd;split
 ·exact h
 exact di
theorem kM {s t:Sp} {F G:Int × Int→Int × Int→Int}:AP (s.bind fun p=>t.bind fun q=>mkS (F p q) (G p q)):=by
 cases s
 ·exact di
 cases t
 ·exact di
 exact vJ _ _
theorem tq {s t:Sp}:AP (fQ s t):=kM
theorem lM {s t:Sp}:AP (cy s t):=kM
theorem lL {s:Sp} (h:AP s):yT s≤yS s∧-409600000≤yT s∧yS s≤409600000:=by
 cases s with
 | none=>exact ⟨Int.le_refl _,by decide,by decide⟩
 | some p=>exact bQ (h p rfl)
theorem oc {a b X E:Int} (hin:M.bM a b=true) (hX1:-10000≤X) (hX2:X≤10000) (hE1:0≤E) (hE2:E≤20) (h:zR a b X E=true):aM (bL a b X E (bN a b X E)) (bH a b X E (bN a b X E))=true:=by
 cases hs:aM (bL a b X E (bN a b X E)) (bH a b X E (bN a b X E))
 ·rw [wI hin hX1 hX2 hE1 hE2 (xP _) hs] at h;cases h
 rfl
theorem dh {a b X E:Int} (hin:M.bM a b=true) (hX1:-10000≤X) (hX2:X≤10000) (hE1:0≤E) (hE2:E≤20):AP (bR a b X E):=by
 intro p hp;unfold bR at hp
 split at hp
 ·rename_i h
  injection hp with hp;subst hp;exact oc hin hX1 hX2 hE1 hE2 h
 cases hp
theorem step2 {ok:Bool} {s t:Sp} {F G:Int→Int→Int→Int→Int} (h1:ok=true→s.isSome=true) (h2:ok=true→t.isSome=true):(ok && aM (F (yT s) (yS s) (yT t) (yS t)) (G (yT s) (yS s) (yT t) (yS t)))=(gd ok (s.bind fun p=>t.bind fun q=>mkS (F p.1 p.2 q.1 q.2) (G p.1 p.2 q.1 q.2))).isSome∧pick (ok && aM (F (yT s) (yS s) (yT t) (yS t)) (G (yT s) (yS s) (yT t) (yS t))) (F (yT s) (yS s) (yT t) (yS t))=yT (gd ok (s.bind fun p=>t.bind fun q=>mkS (F p.1 p.2 q.1 q.2) (G p.1 p.2 q.1 q.2)))∧pick (ok && aM (F (yT s) (yS s) (yT t) (yS t)) (G (yT s) (yS s) (yT t) (yS t))) (G (yT s) (yS s) (yT t) (yS t))=yS (gd ok (s.bind fun p=>t.bind fun q=>mkS (F p.1 p.2 q.1 q.2) (G p.1 p.2 q.1 q.2))):=by
 cases ok with
 | false=>exact ⟨rfl,rfl,rfl⟩
 | true=>
 obtain ⟨p,rfl⟩:=Option.isSome_iff_exists.1 (h1 rfl);obtain ⟨q,rfl⟩:=Option.isSome_iff_exists.1 (h2 rfl)
 show (true && aM (F p.1 p.2 q.1 q.2) (G p.1 p.2 q.1 q.2))=(mkS (F p.1 p.2 q.1 q.2) (G p.1 p.2 q.1 q.2)).isSome∧pick (true && aM (F p.1 p.2 q.1 q.2) (G p.1 p.2 q.1 q.2)) (F p.1 p.2 q.1 q.2)=yT (mkS (F p.1 p.2 q.1 q.2) (G p.1 p.2 q.1 q.2))∧pick (true && aM (F p.1 p.2 q.1 q.2) (G p.1 p.2 q.1 q.2)) (G p.1 p.2 q.1 q.2)=yS (mkS (F p.1 p.2 q.1 q.2) (G p.1 p.2 q.1 q.2))
 unfold mkS
 cases aM (F p.1 p.2 q.1 q.2) (G p.1 p.2 q.1 q.2) <;> exact ⟨rfl,rfl,rfl⟩
end M
theorem mb (g:Nat) (ok:Bool) (a b c d:Int) (w:World) (K:aH w g 106 #[.bool ok]) (h1:-4000000000000000000≤a) (h2:a≤4000000000000000000) (h3:-4000000000000000000≤b) (h4:b≤4000000000000000000) (h5:-4000000000000000000≤c) (h6:c≤4000000000000000000) (h7:-4000000000000000000≤d) (h8:d≤4000000000000000000) :
  Calls Tryz.prog 90 #[.pointer (some ⟨g,0,none⟩),.agg #[.int .i64 a,.int .i64 b],.agg #[.int .i64 c,.int .i64 d]] w fun e w'=>e=.returned (.agg #[.int .i64 (M.pick (ok && M.aM (a+c) (b+d)) (a+c)),.int .i64 (M.pick (ok && M.aM (a+c) (b+d)) (b+d))])∧Below w.heap.size (w.setCell ⟨g,0,none⟩ (.bool (ok && M.aM (a+c) (b+d)))) w':=by
 have PP:=fun W=>vL a b c d W h1 h2 h3 h4 h5 h6 h7 h8
 have PK:=fun W (k:aH W g 106 #[.bool ok])=>nv g ok (a+c) (b+d) W k
 generalize (b+d)=hi,(a+c)=lo at *;generalize (ok && M.aM lo hi)=f at *;replace PP:=xL PP;replace PK:=xL PK;have hgl:=K.lt;have B:=(((xO w.heap.size w).alloc (xP _) (.cells #[.int .i64 a,.int .i64 b] 74)).alloc (by rw [xM];omega) (.cells #[.int .i64 c,.int .i64 d] 74)).alloc (by rw [xM,xM];omega) (.cells #[.int .i64 0,.int .i64 0] 74);have S:=((aH.new w #[.int .i64 a,.int .i64 b] 74).alloc (.cells #[.int .i64 c,.int .i64 d] 74)).alloc (.cells #[.int .i64 0,.int .i64 0] 74);have T:=(aH.new (w.alloc (.cells #[.int .i64 a,.int .i64 b] 74)) #[.int .i64 c,.int .i64 d] 74).alloc (.cells #[.int .i64 0,.int .i64 0] 74);rw [xM] at T;have R:=aH.new ((w.alloc (.cells #[.int .i64 a,.int .i64 b] 74)).alloc (.cells #[.int .i64 c,.int .i64 d] 74)) #[.int .i64 0,.int .i64 0] 74;rw [xM,xM] at R;have K2:=((K.alloc (.cells #[.int .i64 a,.int .i64 b] 74)).alloc (.cells #[.int .i64 c,.int .i64 d] 74)).alloc (.cells #[.int .i64 0,.int .i64 0] 74);generalize hw3:((w.alloc (.cells #[.int .i64 a,.int .i64 b] 74)).alloc (.cells #[.int .i64 c,.int .i64 d] 74)).alloc (.cells #[.int .i64 0,.int .i64 0] 74)=wc at *
 have n1:w.heap.size+1+1≠g:=by omega
 have ⟨s0,s1,_,_,_⟩:=S.box;have ⟨t0,t1,_,_,_⟩:=T.box;go_enter Tryz.func90,Tryz.ntmps90
 go_wp2_with first | (go_at_call 146;(with_reducible refine (PP.out _).mono ?_);rintro e w4 ⟨rfl,hb4⟩;replace B:=d_ B hb4;replace R:=R.keep hb4;replace K2:=K2.keep hb4) | (go_at_call 145;(with_reducible refine (PK.out _ K2).mono ?_);rintro e w5 ⟨rfl,hb5⟩;have hz:=B.size;replace B:=(eB B ⟨g,0,none⟩ (.bool f)).trans (hb5.mono hz);replace R:=(R.other n1 (.bool f)).keep (cE hb5);(obtain ⟨r0,r1,r2,r3,r4⟩:=R.box))
 exact bodyPost_ret (v:=.agg #[.int .i64 (M.pick f lo),.int .i64 (M.pick f hi)]) (by simp [results,Tryz.results90,go_sem, *]) rfl (⟨rfl,xN (xN B (by simp;omega) _) (by simp;omega) _⟩)
theorem tl (g:Nat) (ok:Bool) (s t:M.Sp) (w:World) (K:aH w g 106 #[.bool ok]) (hs:M.AP s) (ht:M.AP t) (h1:ok=true→s.isSome=true) (h2:ok=true→t.isSome=true) :
  Calls Tryz.prog 90 #[.pointer (some ⟨g,0,none⟩),.agg #[.int .i64 (M.yT s),.int .i64 (M.yS s)],.agg #[.int .i64 (M.yT t),.int .i64 (M.yS t)]] w fun e w'=>e=.returned (.agg #[.int .i64 (M.yT (M.gd ok (M.fQ s t))),.int .i64 (M.yS (M.gd ok (M.fQ s t)))])∧Below w.heap.size (w.setCell ⟨g,0,none⟩ (.bool (M.gd ok (M.fQ s t)).isSome)) w':=by
 obtain ⟨e1,e2,e3⟩:=M.step2 (F:=fun a _ c _=>a+c) (G:=fun _ b _ d=>b+d) h1 h2;have b1:=M.lL hs;have b2:=M.lL ht;have h:=mb g ok (M.yT s) (M.yS s) (M.yT t) (M.yS t) w K (by omega) (by omega) (by omega) (by omega) (by omega) (by omega) (by omega) (by omega);rw [e2,e3,e1] at h;exact h
theorem kH (g:Nat) (ok:Bool) (a b c d:Int) (w:World) (K:aH w g 106 #[.bool ok]) (h1:-4000000000000000000≤a) (h2:a≤4000000000000000000) (h3:-4000000000000000000≤b) (h4:b≤4000000000000000000) (h5:-4000000000000000000≤c) (h6:c≤4000000000000000000) (h7:-4000000000000000000≤d) (h8:d≤4000000000000000000) :
  Calls Tryz.prog 91 #[.pointer (some ⟨g,0,none⟩),.agg #[.int .i64 a,.int .i64 b],.agg #[.int .i64 c,.int .i64 d]] w fun e w'=>e=.returned (.agg #[.int .i64 (M.pick (ok && M.aM (a - d) (b - c)) (a - d)),.int .i64 (M.pick (ok && M.aM (a - d) (b - c)) (b - c))])∧Below w.heap.size (w.setCell ⟨g,0,none⟩ (.bool (ok && M.aM (a - d) (b - c)))) w':=by
 have PP:=fun W=>tn a b c d W h1 h2 h3 h4 h5 h6 h7 h8
 have PK:=fun W (k:aH W g 106 #[.bool ok])=>nv g ok (a - d) (b - c) W k
 generalize (b - c)=hi,(a - d)=lo at *;generalize (ok && M.aM lo hi)=f at *;replace PP:=xL PP;replace PK:=xL PK;have hgl:=K.lt;have B:=(((xO w.heap.size w).alloc (xP _) (.cells #[.int .i64 a,.int .i64 b] 74)).alloc (by rw [xM];omega) (.cells #[.int .i64 c,.int .i64 d] 74)).alloc (by rw [xM,xM];omega) (.cells #[.int .i64 0,.int .i64 0] 74);have S:=((aH.new w #[.int .i64 a,.int .i64 b] 74).alloc (.cells #[.int .i64 c,.int .i64 d] 74)).alloc (.cells #[.int .i64 0,.int .i64 0] 74);have T:=(aH.new (w.alloc (.cells #[.int .i64 a,.int .i64 b] 74)) #[.int .i64 c,.int .i64 d] 74).alloc (.cells #[.int .i64 0,.int .i64 0] 74);rw [xM] at T;have R:=aH.new ((w.alloc (.cells #[.int .i64 a,.int .i64 b] 74)).alloc (.cells #[.int .i64 c,.int .i64 d] 74)) #[.int .i64 0,.int .i64 0] 74;rw [xM,xM] at R;have K2:=((K.alloc (.cells #[.int .i64 a,.int .i64 b] 74)).alloc (.cells #[.int .i64 c,.int .i64 d] 74)).alloc (.cells #[.int .i64 0,.int .i64 0] 74);generalize hw3:((w.alloc (.cells #[.int .i64 a,.int .i64 b] 74)).alloc (.cells #[.int .i64 c,.int .i64 d] 74)).alloc (.cells #[.int .i64 0,.int .i64 0] 74)=wc at *
 have n1:w.heap.size+1+1≠g:=by omega
 have ⟨s0,s1,_,_,_⟩:=S.box;have ⟨t0,t1,_,_,_⟩:=T.box;go_enter Tryz.func91,Tryz.ntmps91
 go_wp2_with first | (go_at_call 147;(with_reducible refine (PP.out _).mono ?_);rintro e w4 ⟨rfl,hb4⟩;replace B:=d_ B hb4;replace R:=R.keep hb4;replace K2:=K2.keep hb4) | (go_at_call 145;(with_reducible refine (PK.out _ K2).mono ?_);rintro e w5 ⟨rfl,hb5⟩;have hz:=B.size;replace B:=(eB B ⟨g,0,none⟩ (.bool f)).trans (hb5.mono hz);replace R:=(R.other n1 (.bool f)).keep (cE hb5);(obtain ⟨r0,r1,r2,r3,r4⟩:=R.box))
 exact bodyPost_ret (v:=.agg #[.int .i64 (M.pick f lo),.int .i64 (M.pick f hi)]) (by simp [results,Tryz.results91,go_sem, *]) rfl (⟨rfl,xN (xN B (by simp;omega) _) (by simp;omega) _⟩)
theorem ma (g:Nat) (ok:Bool) (s t:M.Sp) (w:World) (K:aH w g 106 #[.bool ok]) (hs:M.AP s) (ht:M.AP t) (h1:ok=true→s.isSome=true) (h2:ok=true→t.isSome=true) :
  Calls Tryz.prog 91 #[.pointer (some ⟨g,0,none⟩),.agg #[.int .i64 (M.yT s),.int .i64 (M.yS s)],.agg #[.int .i64 (M.yT t),.int .i64 (M.yS t)]] w fun e w'=>e=.returned (.agg #[.int .i64 (M.yT (M.gd ok (M.cy s t))),.int .i64 (M.yS (M.gd ok (M.cy s t)))])∧Below w.heap.size (w.setCell ⟨g,0,none⟩ (.bool (M.gd ok (M.cy s t)).isSome)) w':=by
 obtain ⟨e1,e2,e3⟩:=M.step2 (F:=fun a _ _ d=>a - d) (G:=fun _ b c _=>b - c) h1 h2;have b1:=M.lL hs;have b2:=M.lL ht;have h:=kH g ok (M.yT s) (M.yS s) (M.yT t) (M.yS t) w K (by omega) (by omega) (by omega) (by omega) (by omega) (by omega) (by omega) (by omega);rw [e2,e3,e1] at h;exact h
theorem jK {B g:Nat} {w W:World} {T:TypeId} {u v x y:Value} (h:Below B w W) (K:aH w g T #[u]) (K2:aH W g T #[v]):Below B (w.setCell ⟨g,0,none⟩ y) ((W.setCell ⟨g,0,none⟩ x).setCell ⟨g,0,none⟩ y):=
 ⟨h.os,h.tape,h.output,by rw [bP,bP,bP];exact h.size,fun k hk=>by
  by_cases hg:k=g
  ·subst hg
   exact ((K2.one x).one y).trans (K.one y).symm
  rw [Below.heap_setCell _ _ _ _ hg,Below.heap_setCell _ _ _ _ hg,Below.heap_setCell _ _ _ _ hg]
  exact h.block k hk⟩
theorem gu (g:Nat) (ok:Bool) (a b X Y E:Int) (w:World) (K:aH w g 106 #[.bool ok]) (hg:M.good a b=true) (hX1:-10000≤X) (hX2:X≤10000) (hE1:0≤E) (hE2:E≤20) :
  Calls Tryz.prog 89 #[.pointer (some ⟨g,0,none⟩),.agg #[.int .i64 a,.int .i64 b],.agg #[.int .i64 X,.int .i64 Y,.int .i64 E]] w fun e w'=>e=.returned (.agg #[.int .i64 (M.yT (M.gd ok (M.bR a b X E))),.int .i64 (M.yS (M.gd ok (M.bR a b X E)))])∧Below w.heap.size (w.setCell ⟨g,0,none⟩ (.bool (M.gd ok (M.bR a b X E)).isSome)) w':=by
 have PB:=fun W=>gV a b X Y E W hg hX1 hX2 hE1 hE2
 have Jg:=fun h=>M.oc (a:=a) (b:=b) (X:=X) (E:=E) (M.am hg) hX1 hX2 hE1 hE2 h
 have hv:Hid (M.bR a b X E=if M.zR a b X E=true then some (M.bL a b X E (M.bN a b X E),M.bH a b X E (M.bN a b X E)) else none):=xL rfl;rw [hv.out];clear hv;generalize M.zR a b X E=bo,M.bH a b X E (M.bN a b X E)=hi,M.bL a b X E (M.bN a b X E)=lo at *;generalize ((M.bN a b X E:Nat):Int)=bn at *
 have PK:=fun W (k:aH W g 106 #[.bool (ok && bo)])=>nv g (ok && bo) lo hi W k
 have e1:(ok && bo && M.aM lo hi)=(M.gd ok (if bo=true then some (lo,hi) else none)).isSome:=by
  cases ok <;> cases bo <;> first | rfl | (rw [Jg rfl];rfl)
 have e2:M.pick (ok && bo && M.aM lo hi) lo=M.yT (M.gd ok (if bo=true then some (lo,hi) else none)):=by
  cases ok <;> cases bo <;> first | rfl | (rw [Jg rfl];rfl)
 have e3:M.pick (ok && bo && M.aM lo hi) hi=M.yS (M.gd ok (if bo=true then some (lo,hi) else none)):=by
  cases ok <;> cases bo <;> first | rfl | (rw [Jg rfl];rfl)
 rw [e2,e3,e1] at PK;clear e1 e2 e3 Jg;generalize M.gd ok (if bo=true then some (lo,hi) else none)=r at *;replace PB:=xL PB;have hgl:=K.lt;have B:=(((xO w.heap.size w).alloc (xP _) (.cells #[.int .i64 a,.int .i64 b] 25)).alloc (by rw [xM];omega) (.cells #[.int .i64 X,.int .i64 Y,.int .i64 E] 27)).alloc (by rw [xM,xM];omega) (.cells #[.int .i64 0,.int .i64 0] 74);have C:=((aH.new w #[.int .i64 a,.int .i64 b] 25).alloc (.cells #[.int .i64 X,.int .i64 Y,.int .i64 E] 27)).alloc (.cells #[.int .i64 0,.int .i64 0] 74);have Q:=(aH.new (w.alloc (.cells #[.int .i64 a,.int .i64 b] 25)) #[.int .i64 X,.int .i64 Y,.int .i64 E] 27).alloc (.cells #[.int .i64 0,.int .i64 0] 74);rw [xM] at Q;have R:=aH.new ((w.alloc (.cells #[.int .i64 a,.int .i64 b] 25)).alloc (.cells #[.int .i64 X,.int .i64 Y,.int .i64 E] 27)) #[.int .i64 0,.int .i64 0] 74;rw [xM,xM] at R;have K2:=((K.alloc (.cells #[.int .i64 a,.int .i64 b] 25)).alloc (.cells #[.int .i64 X,.int .i64 Y,.int .i64 E] 27)).alloc (.cells #[.int .i64 0,.int .i64 0] 74);generalize hw3:((w.alloc (.cells #[.int .i64 a,.int .i64 b] 25)).alloc (.cells #[.int .i64 X,.int .i64 Y,.int .i64 E] 27)).alloc (.cells #[.int .i64 0,.int .i64 0] 74)=wc at *
 have n1:w.heap.size+1+1≠g:=by omega
 have f_:=C.box.c0;have i_:=C.box.c1;have ⟨q0,q1,q2⟩:=Q.aK
 have hgm:g≠w.heap.size+1+1:=fun e=>n1 e.symm
 cases ok
 ·replace PK:=xL (show ∀ W,aH W g 106 #[(.bool false)]→_ from PK)
  go_enter Tryz.func89,Tryz.ntmps89
  go_wp2_with first | (go_at_call 61;(with_reducible refine (PB.out _).mono ?_);rintro e w4 ⟨rfl,hb4⟩;replace B:=(d_ B hb4).alloc (Nat.le_trans B.size hb4.size) (.cells #[.int .i64 lo,.int .i64 hi] 74);replace R:=(R.keep hb4).alloc (.cells #[.int .i64 lo,.int .i64 hi] 74);replace K2:=K2.keep hb4;(have n3:w4.heap.size≠g:=by have:=K2.lt;omega);(have n4:g≠w4.heap.size:=fun e=>n3 e.symm);replace K2:=K2.alloc (.cells #[.int .i64 lo,.int .i64 hi] 74);have k0:=K2.cell 0;have kf:=K2.xl 0;have kl:=K2.lt;have V:=aH.new w4 #[.int .i64 lo,.int .i64 hi] 74;have v0:=V.cell 0;have v1:=V.cell 1;have V2:=V.other (i:=0) n3 (.bool false);have v2:=V2.cell 0;have v3:=V2.cell 1) | (go_at_call 145;(with_reducible refine (PK.out _ (K2.one (.bool false))).mono ?_);rintro e w5 ⟨rfl,hb5⟩;have hz:=B.size;replace R:=((R.other n1 (.bool false)).other n1 (.bool r.isSome)).keep (cE hb5);replace B:=(jK (x:=(.bool false)) (y:=.bool r.isSome) B K K2).trans (hb5.mono (by rw [bP];exact hz));(obtain ⟨r0,r1,r2,r3,r4⟩:=R.box))
  exact bodyPost_ret (v:=.agg #[.int .i64 (M.yT r),.int .i64 (M.yS r)]) (by simp [results,Tryz.results89,go_sem, *]) rfl (⟨rfl,xN (xN B (by simp;omega) _) (by simp;omega) _⟩)
 replace PK:=xL (show ∀ W,aH W g 106 #[(.bool bo)]→_ from PK);go_enter Tryz.func89,Tryz.ntmps89
 go_wp2_with first | (go_at_call 61;(with_reducible refine (PB.out _).mono ?_);rintro e w4 ⟨rfl,hb4⟩;replace B:=(d_ B hb4).alloc (Nat.le_trans B.size hb4.size) (.cells #[.int .i64 lo,.int .i64 hi] 74);replace R:=(R.keep hb4).alloc (.cells #[.int .i64 lo,.int .i64 hi] 74);replace K2:=K2.keep hb4;(have n3:w4.heap.size≠g:=by have:=K2.lt;omega);(have n4:g≠w4.heap.size:=fun e=>n3 e.symm);replace K2:=K2.alloc (.cells #[.int .i64 lo,.int .i64 hi] 74);have k0:=K2.cell 0;have kf:=K2.xl 0;have kl:=K2.lt;have V:=aH.new w4 #[.int .i64 lo,.int .i64 hi] 74;have v0:=V.cell 0;have v1:=V.cell 1;have V2:=V.other (i:=0) n3 (.bool bo);have v2:=V2.cell 0;have v3:=V2.cell 1) | (go_at_call 145;(with_reducible refine (PK.out _ (K2.one (.bool bo))).mono ?_);rintro e w5 ⟨rfl,hb5⟩;have hz:=B.size;replace R:=((R.other n1 (.bool bo)).other n1 (.bool r.isSome)).keep (cE hb5);replace B:=(jK (x:=(.bool bo)) (y:=.bool r.isSome) B K K2).trans (hb5.mono (by rw [bP];exact hz));(obtain ⟨r0,r1,r2,r3,r4⟩:=R.box))
 exact bodyPost_ret (v:=.agg #[.int .i64 (M.yT r),.int .i64 (M.yS r)]) (by simp [results,Tryz.results89,go_sem, *]) rfl (⟨rfl,xN (xN B (by simp;omega) _) (by simp;omega) _⟩)
namespace M
noncomputable def dZ (a b X E:Int):Sp:=fQ (bR a b X E) (bR a b X E)
noncomputable def dA (a b X1 Y1 E1 X2 Y2 E2:Int):Sp:=if bk a X1 Y1 E1 X2 Y2 E2=true then cy (cy (bR a b (dC a X1 Y1 E1 X2 Y2 E2) (dB a X1 Y1 E1 X2 Y2 E2)) (bR a b X1 E1)) (bR a b X2 E2) else none
theorem j9 {f:Bool} {s:Sp} (h:(gd f s).isSome=true):f=true∧s.isSome=true∧gd f s=s:=by
 cases f
 ·cases h
 exact ⟨rfl,h,rfl⟩
theorem co (s:Sp):gd true s=s:=rfl
theorem tf (s t:Sp):gd s.isSome (fQ s t)=fQ s t:=by cases s <;> rfl
end M
theorem jw (a b X Y E:Int) (w:World) (hg:M.good a b=true) (hX1:-10000≤X) (hX2:X≤10000) (hE1:0≤E) (hE2:E≤20) :
  Calls Tryz.prog 97 #[.agg #[.int .i64 a,.int .i64 b],.agg #[.int .i64 X,.int .i64 Y,.int .i64 E]] w fun e w'=>e=.returned (.tuple #[.agg #[.int .i64 (M.yT (M.dZ a b X E)),.int .i64 (M.yS (M.dZ a b X E))],.bool (M.dZ a b X E).isSome])∧Below w.heap.size w w':=by
 have PB:=fun W K=>gu (w.heap.size+1+1+1) true a b X Y E W K hg hX1 hX2 hE1 hE2
 have hr:=M.dh (a:=a) (b:=b) (M.am hg) hX1 hX2 hE1 hE2;have hv:M.dZ a b X E=M.gd (M.bR a b X E).isSome (M.fQ (M.bR a b X E) (M.bR a b X E)):=(M.tf _ _).symm;rw [hv];clear hv;rw [M.co] at PB;generalize M.bR a b X E=r at *
 have PP:=fun W K=>tl (w.heap.size+1+1+1) r.isSome r r W K hr hr (fun h=>h) (fun h=>h)
 generalize r.isSome=f,M.gd r.isSome (M.fQ r r)=q at *;generalize M.yS q=qh,M.yT q=ql,q.isSome=fq at *;have PB:=xL PB;have PP:=xL PP;obtain ⟨wc,hw3,C,Q,R,K,B⟩:=fO w #[.int .i64 a,.int .i64 b] 25 #[.int .i64 X,.int .i64 Y,.int .i64 E] 27 #[.int .i64 0,.int .i64 0] 74 #[.bool true] 106;have f_:=C.box.c0;have i_:=C.box.c1;have ⟨q0,q1,q2⟩:=Q.aK;go_enter Tryz.func97,Tryz.ntmps97
 go_wp2_with first | (go_at_call 89;(with_reducible refine (PB.out _ K).mono ?_);rintro e w4 ⟨rfl,hb4⟩;have hb:=cE hb4;replace R:=(R.other (i:=0) (by omega) (.bool f)).keep hb;replace K:=(K.one (.bool f)).keep hb;replace B:=(xN B (by simp;omega) _).trans (hb4.mono B.size);clear hb hb4 f_ i_ q0 q1 q2 C Q;have V:=aH.new w4 #[.int .i64 (M.yT r),.int .i64 (M.yS r)] 74;have rl:=R.lt;have kl:=K.lt;(have n1:w.heap.size+1+1≠w4.heap.size:=by omega);(have n2:w.heap.size+1+1+1≠w4.heap.size:=by omega);have n3:=n1.symm;have n4:=n2.symm;replace B:=B.alloc B.size (.cells #[.int .i64 (M.yT r),.int .i64 (M.yS r)] 74);replace R:=R.alloc (.cells #[.int .i64 (M.yT r),.int .i64 (M.yS r)] 74);replace K:=K.alloc (.cells #[.int .i64 (M.yT r),.int .i64 (M.yS r)] 74);have v0:=V.cell 0;have v1:=V.cell 1) | (go_at_call 90;(with_reducible refine (PP.out _ K).mono ?_);rintro e w5 ⟨rfl,hb5⟩;have hb:=cE hb5;replace R:=(R.other (i:=0) (by omega) (.bool fq)).keep hb;replace V:=(V.other (i:=0) n4 (.bool fq)).keep hb;replace K:=(K.one (.bool fq)).keep hb;replace B:=(xN B (by simp;omega) _).trans (hb5.mono B.size);clear hb hb5 v0 v1;(have ⟨v0,v1,v2,v3,v4⟩:=V.box);have V5:=V.set2 (.int .i64 ql) (.int .i64 qh);have R5:=R.bI n1 (.int .i64 ql) (.int .i64 qh);have K5:=K.bI n2 (.int .i64 ql) (.int .i64 qh);have B5:=dI B (k:=w4.heap.size) (by omega) (.int .i64 ql) (.int .i64 qh);(have ⟨z0,z1,_,_,_⟩:=V5.box);(have ⟨r0,r1,r2,r3,r4⟩:=R5.box);have k0:=K5.cell 0)
 go_region
 all_goals
  go_wp2;exact bodyPost_ret (v:=.tuple #[.agg #[.int .i64 ql,.int .i64 qh],.bool fq]) (by simp [results,Tryz.results97,go_sem, *]) rfl (⟨rfl,Below.drew (xN (xN B5 (by simp;omega) _) (by simp;omega) _)⟩)
end
section
open Go Go.RowKit
namespace Rg
variable {P:Program} {Q:Exit→Act→World→Prop}
theorem ni {g:Nat} {w1 w w':World} {Tb:TypeId} {x u v y:Value} (h:Below w1.heap.size (w1.setCell ⟨g,0,none⟩ x) w) (K1:aH w1 g Tb #[u]) (K:aH w g Tb #[v]) (hb:Below w.heap.size (w.setCell ⟨g,0,none⟩ y) w'):Below w1.heap.size (w1.setCell ⟨g,0,none⟩ y) w':=by
 have hs:w1.heap.size≤w.heap.size:=by have:=h.size;rw [bP] at this;exact this
 refine ⟨hb.os.trans h.os,hb.tape.trans h.tape,hb.output.trans h.output,?_,fun k hk=>?_⟩
 ·rw [bP]
  have:=hb.size;rw [bP] at this;omega
 rw [hb.block k (by omega)]
 by_cases hg:k=g
 ·subst hg
  exact (K.one y).trans (K1.one y).symm
 rw [Below.heap_setCell _ _ _ _ hg,h.block k hk,Below.heap_setCell _ _ _ _ hg,Below.heap_setCell _ _ _ _ hg]
theorem gF {g:Nat} {w w':World} {Tb:TypeId} {v:Value} (K:aH w g Tb #[v]) (hb:Below w.heap.size w w'):Below w.heap.size (w.setCell ⟨g,0,none⟩ v) w':=by
 refine ⟨hb.os,hb.tape,hb.output,by rw [bP];exact hb.size,fun k hk=>?_⟩;rw [hb.block k hk]
 by_cases hg:k=g
 ·subst hg;exact K.trans (K.one v).symm
 rw [Below.heap_setCell _ _ _ _ hg]
section
variable (P) (Q) (ops:Array Oper) (a0:Act) (T:List Val) (w1:World) (g:Nat) (Tb:TypeId) (F:Nat→Value) (C:List Nat) (ka ks:Nat) (Tn:TypeId) (xs ys:Array Value)
def ua (w:World):Prop:=w1.heap.size≤w.heap.size∧∀ (b:Nat) (U:TypeId) (zs:Array Value),b≠g→aH w1 b U zs→aH w b U zs
def oR (h:Nat) (o:Oper) (a:Act) (w:World) (t:Nat):Prop:=
 match o.after.toList.find? (fun e=>Region.binds .any e && ((ops[e.on]?).bind (·.dst)) == some t) with
 | some e=>if e.on=ka then a.tmps[t]?=some (.pointer (some ⟨h,0,none⟩)) else if e.on=ks then True else ∃ v,a.tmps[t]?=some v∧(zT T e.on).ok v w
 | none=>a.tmps[t]?=a0.tmps[t]?
def jF (o:Oper) (a:Act) (w:World) (t:Nat):Prop:=
 match o.after.toList.find? (fun e=>Region.binds .any e && ((ops[e.on]?).bind (·.dst)) == some t) with
 | some e=>if e.on=ka then True else if e.on=ks then True else ∃ v,a.tmps[t]?=some v∧(zT T e.on).ok v w
 | none=>a.tmps[t]?=a0.tmps[t]?
def cP (k:Nat) (o:Oper):Prop:=
 if k=ka then ∀ (a:Act) (w:World),Region.wanted o (yielded ops a.tmps)=true∧o.wp P a w (fun a' w'=>a'=a.put o.dst (.pointer (some ⟨w.heap.size,0,none⟩))∧w'=w.alloc (.cells xs Tn)) Q
 else if k=ks then ∀ (a:Act) (w:World) (h:Nat),w1.heap.size≤h→aH w h Tn xs→(∀ t ∈ o.looksAt ops,oR ops a0 T ka ks h o a w t)→Region.wanted o (yielded ops a.tmps)=true∧o.wp P a w (fun a' w'=>(∃ v,a'=a.put o.dst v)∧aH w' h Tn ys∧Below w1.heap.size w w') Q
 else if k ∈ C then ∀ (a:Act) (w:World),aH w g Tb #[F (C.idxOf k)]→ua w1 g w→(∀ t ∈ o.looksAt ops,jF ops a0 T ka ks o a w t)→Region.wanted o (yielded ops a.tmps)=true∧o.wp P a w (fun a' w'=>∃ v,a'=a.put o.dst v∧(zT T k).ok v w'∧Below w.heap.size (w.setCell ⟨g,0,none⟩ (F (C.idxOf k+1))) w') Q
 else ∀ (a:Act) (w:World),ua w1 g w→(∀ t ∈ o.looksAt ops,jF ops a0 T ka ks o a w t)→Does P ops Q (zT T k) o a w
def qs:List Oper→Nat→Prop
 | [],_=>True
 | o :: os,k=>cP P Q ops a0 T w1 g Tb F C ka ks Tn xs ys k o∧qs os (k+1)
def uc (l:Nat→Bool) (vals:Nat→Value) (w:World):Prop:=
 Below w1.heap.size (w1.setCell ⟨g,0,none⟩ (F (cnt l C))) w∧(∀ i,i≠ka→i≠ks→l i=true→(zT T i).ok (vals i) w)∧(l ka=true→∃ h,w1.heap.size≤h∧vals ka=.pointer (some ⟨h,0,none⟩)∧aH w h Tn (if l ks=true then ys else xs))
end
theorem si {ops:Array Oper} {a0:Act} {T:List Val} {w1:World} {g:Nat} {Tb:TypeId} {F:Nat→Value} {C:List Nat} {ka ks:Nat} {Tn:TypeId} {xs ys:Array Value}
  (K1:aH w1 g Tb #[F 0]) (hp:∀ j,j≠ka→j≠ks→(zT T j).pure=true) (hC:gY ops C=true) (hka:ka ∉ C) (hks:ks ∉ C) (hne:ka≠ks) (hE:fV ops ka ks=true) :
  ∀ (os:List Oper) (k:Nat),(∀ i,os[i]?=ops[k+i]?)→qs P Q ops a0 T w1 g Tb F C ka ks Tn xs ys os k→gQ P Q .any ops (uc T w1 g F C ka ks Tn xs ys) a0 os k
 | [],_,_,_=>trivial
 | o :: os,k,hos,h=>by
  refine ⟨fun a w l vals hI hl hc AB hr=>?_,si K1 hp hC hka hks hne hE os (k+1) (fun i=>by rw [show k+1+i=k+(i+1) by omega,←hos (i+1)];rfl) h.2⟩;obtain ⟨hB,hv,hn⟩:=hI;have ho:ops[k]?=some o:=(hos 0).symm;have hgl:g<w1.heap.size:=K1.lt
  have hsz:w1.heap.size≤w.heap.size:=by have:=hB.size;rw [bP] at this;exact this
  have K:aH w g Tb #[F (cnt l C)]:=(K1.one (F (cnt l C))).keep (cE hB)
  have hH:ua w1 g w:=⟨hsz,fun b U zs hb hz=>(hz.other hb _).keep (cE hB)⟩
  have hQ:∀ t ∈ o.looksAt ops,jF ops a0 T ka ks o a w t:=fun t ht=>by
   have:=hr t ht;unfold rd at this;unfold jF
   split
   ·rename_i e he
    rw [he] at this;have h2:=List.find?_some he;rw [Bool.and_eq_true] at h2
    split
    ·trivial
    split
    ·trivial
    rename_i n1 n2
    exact ⟨_,this,hv _ n1 n2 (AB e (Array.mem_toList_iff.1 (List.mem_of_find?_eq_some he)) h2.1)⟩
   rename_i he
   rw [he] at this;exact this
  have hko:∀ j,j≠k→upd l k j=l j:=fun j hj=>if_neg hj
  have hkk:upd l k k=true:=if_pos rfl;have h1:=h.1;unfold cP at h1;unfold ly
  by_cases e1:k=ka
  ·rw [if_pos e1] at h1
   obtain ⟨hw,hwp⟩:=h1 a w;rw [if_pos hw];refine Oper.wp_mono ?_ hwp;rintro a' w' ⟨rfl,rfl⟩;subst e1
   have hls:l ks=false:=by
    cases q:l ks
    ·rfl
    rw [dL hc hE q] at hl;cases hl
   refine ⟨_,rfl,?_,?_,fun _=>⟨w.heap.size,hsz,if_pos rfl,?_⟩⟩
   ·rw [gZ C hka]
    exact hB.alloc hsz _
   ·intro i n1 n2 hi
    rw [hko i n1] at hi;have:dy vals k (.pointer (some ⟨w.heap.size,0,none⟩)) i=vals i:=if_neg n1;rw [this];exact Val.da (hp i n1 n2) (hv i n1 n2 hi)
   rw [hko ks (fun e=>hne e.symm),hls];exact aH.new w xs Tn
  rw [if_neg e1] at h1
  by_cases e2:k=ks
  ·rw [if_pos e2] at h1
   subst e2;obtain ⟨hh,Dt,DA,hh3⟩:=hn (gh ho AB hE);rw [hl] at hh3
   obtain ⟨hw,hwp⟩:=h1 a w hh Dt hh3 (fun t ht=>by
    have:=hr t ht;unfold rd at this;unfold oR
    split
    ·rename_i e he
     rw [he] at this;have h2:=List.find?_some he;rw [Bool.and_eq_true] at h2
     split
     ·rename_i q
      replace this:a.tmps[t]?=some (vals e.on):=this;rw [q,DA] at this;exact this
     split
     ·trivial
     rename_i n1 n2
     exact ⟨_,this,hv _ n1 n2 (AB e (Array.mem_toList_iff.1 (List.mem_of_find?_eq_some he)) h2.1)⟩
    rename_i he
    rw [he] at this
    exact this)
   rw [if_pos hw];refine Oper.wp_mono ?_ hwp;rintro a' w' ⟨⟨v,e⟩,h2,h3⟩;refine ⟨v,e,?_,?_,fun _=>⟨hh,Dt,?_,?_⟩⟩
   ·rw [gZ C hks]
    exact hB.trans h3
   ·intro i n1 n2 hi
    rw [hko i n2] at hi;have:dy vals k v i=vals i:=if_neg n2;rw [this];exact Val.da (hp i n1 n2) (hv i n1 n2 hi)
   ·have:dy vals k v ka=vals ka:=if_neg hne
    rw [this];exact DA
   rw [hkk];exact h2
  rw [if_neg e2] at h1
  have rest:∀ (v:Value) (w':World) (y:Value),y=F (cnt (upd l k) C)→(zT T k).ok v w'→Below w.heap.size (w.setCell ⟨g,0,none⟩ y) w'→uc T w1 g F C ka ks Tn xs ys (upd l k) (dy vals k v) w':=by
   intro v w' y hy h2 h3;subst hy;refine ⟨ni hB K1 K h3,?_,?_⟩
   ·intro i n1 n2 hi
    by_cases hik:i=k
    ·subst hik
     have:dy vals i v i=v:=if_pos rfl;rw [this];exact h2
    rw [hko i hik] at hi;have:dy vals k v i=vals i:=if_neg hik;rw [this];exact Val.da (hp i n1 n2) (hv i n1 n2 hi)
   intro hi;rw [hko ka (fun e=>e1 e.symm)] at hi;obtain ⟨hh,Dt,DA,hh3⟩:=hn hi;refine ⟨hh,Dt,?_,?_⟩
   ·have:dy vals k v ka=vals ka:=if_neg (fun e=>e1 e.symm)
    rw [this];exact DA
   rw [hko ks (fun e=>e2 e.symm)];exact (hh3.other (by omega) _).keep (cE h3)
  by_cases e3:k ∈ C
  ·rw [if_pos e3] at h1
   obtain ⟨q1,q2⟩:=mK hc hl (fun c hcd=>gh ho AB hcd) C hC e3;rw [q1] at K;obtain ⟨hw,hwp⟩:=h1 a w K hH hQ;rw [if_pos hw];refine Oper.wp_mono ?_ hwp;rintro a' w' ⟨v,e,h2,h3⟩;exact ⟨v,e,rest v w' _ (by rw [q2]) h2 h3⟩
  rw [if_neg e3] at h1;have hd:=h1 a w hH hQ;unfold Does at hd
  split
  ·rename_i hw
   rw [if_pos hw] at hd;refine Oper.wp_mono ?_ hd;rintro a' w' ⟨v,e,h2,h3⟩;exact ⟨v,e,rest v w' _ (by rw [gZ C e3]) h2 (gF K h3)⟩
  rename_i hw
  rw [if_neg hw] at hd;exact rest undef w _ (by rw [gZ C e3]) hd (gF K (xO _ _))
theorem xK {id:Nat} {ops:Array Oper} {a0:Act} {w:World} (g:Nat) (Tb:TypeId) (F:Nat→Value) (C:List Nat) (ka ks:Nat) (Tn:TypeId) (xs ys:Array Value) (T:List Val)
  (hm:P.follows .mixedOrders=true) (hok:eP .any ops a0.tmps.size=true) (hC:(gY ops C && fV ops ka ks && decide (ka<ops.size) && decide (ks<ops.size))=true)
  (hp:∀ j,j≠ka→j≠ks→(zT T j).pure=true) (hka:ka ∉ C) (hks:ks ∉ C) (hne:ka≠ks) (hcl:∀ c ∈ C,c<ops.size) (K1:aH w g Tb #[F 0])
  (hR:qs P Q ops a0 T w g Tb F C ka ks Tn xs ys ops.toList 0)
  (hF:∀ (vals:Nat→Value) (w':World) (h:Nat),w.heap.size≤h→aH w' h Tn ys→vals ka=.pointer (some ⟨h,0,none⟩)→Below w.heap.size (w.setCell ⟨g,0,none⟩ (F C.length)) w'→(∀ i,i<ops.size→i≠ka→i≠ks→(zT T i).ok (vals i) w')→Q .normal (fill (fun _=>true) vals ops.toList 0 a0) w'):(Code.region id ops true).wp P Q a0 w:=by
 rw [Bool.and_eq_true,Bool.and_eq_true,Bool.and_eq_true,decide_eq_true_eq,decide_eq_true_eq] at hC;obtain ⟨⟨⟨hC,hE⟩,ha⟩,hs⟩:=hC
 have c0:∀ C:List Nat,cnt (fun _=>false) C=0:=fun C=>by cases C <;> rfl
 have cl:∀ (l:Nat→Bool) (C:List Nat),(∀ c ∈ C,l c=true)→cnt l C=C.length:=fun l C=>by
  induction C with
  | nil=>intro _;rfl
  | cons c cs ih=>
  intro h;unfold cnt;rw [if_pos (h c (List.mem_cons_self ..)),ih (fun x hx=>h x (List.mem_cons_of_mem _ hx))];rfl
 refine lS (uc T w g F C ka ks Tn xs ys) hm hok (fun vals=>⟨?_,(fun _ _ _ h=>absurd h (by simp)),(fun h=>absurd h (by simp))⟩) (si K1 hp hC hka hks hne hE ops.toList 0 (fun i=>by rw [Nat.zero_add];exact Array.getElem?_toList) hR) ?_
 ·rw [c0]
  exact gF K1 ((xO _ w).drew)
 intro l vals w' hl hI;obtain ⟨h1,h2,h3⟩:=hI;obtain ⟨h,q1,q2,q3⟩:=h3 (hl ka ha);rw [hl ks hs,if_pos rfl] at q3;rw [cl l C (fun c hc=>hl c (hcl c hc))] at h1;exact hF vals w' h q1 q3 q2 h1 (fun i hi n1 n2=>h2 i n1 n2 (hl i hi))
theorem wJ {ops:Array Oper} {o:Oper} {a:Act} {w:World} {V:Val} {f:FuncId} {args:Array Value} {g:Nat} {y:Value} (hw:Region.wanted o (yielded ops a.tmps)=true) (h:(execOp a.eval o).run P w=.ok (.enter f args) w)
  (hc:Calls P f args w fun e w'=>∃ v,e=.returned v∧V.ok v w'∧Below w.heap.size (w.setCell ⟨g,0,none⟩ y) w'):Region.wanted o (yielded ops a.tmps)=true∧o.wp P a w (fun a' w'=>∃ v,a'=a.put o.dst v∧V.ok v w'∧Below w.heap.size (w.setCell ⟨g,0,none⟩ y) w') Q:=by
 refine ⟨hw,?_⟩;unfold Oper.wp;rw [h];refine Calls.mono hc ?_;rintro e w' ⟨v,rfl,h1,h2⟩;exact ⟨v,rfl,h1,h2⟩
theorem gX {ops:Array Oper} {o:Oper} {a:Act} {w:World} {v:Value} {f:FuncId} {args:Array Value} {g:Nat} {y:Value} (hw:Region.wanted o (yielded ops a.tmps)=true) (h:(execOp a.eval o).run P w=.ok (.enter f args) w)
  (hc:Calls P f args w fun e w'=>e=.returned v∧Below w.heap.size (w.setCell ⟨g,0,none⟩ y) w'):Region.wanted o (yielded ops a.tmps)=true∧o.wp P a w (fun a' w'=>∃ u,a'=a.put o.dst u∧(Val.is v).ok u w'∧Below w.heap.size (w.setCell ⟨g,0,none⟩ y) w') Q:=
 wJ hw h (hc.mono fun _ _ ⟨e,b⟩=>⟨v,e,rfl,b⟩)
theorem nd {ops:Array Oper} {o:Oper} {a:Act} {w:World} {ob:Obj} (hw:Region.wanted o (yielded ops a.tmps)=true) (h:(execOp a.eval o).run P w=.ok (.value (.pointer (some ⟨w.heap.size,0,none⟩))) (w.alloc ob)):Region.wanted o (yielded ops a.tmps)=true∧o.wp P a w (fun a' w'=>a'=a.put o.dst (.pointer (some ⟨w.heap.size,0,none⟩))∧w'=w.alloc ob) Q:=by
 refine ⟨hw,?_⟩;unfold Oper.wp;rw [h];exact ⟨rfl,rfl⟩
end Rg
end
section
open Go.RowKit
namespace M
theorem ny (s1 s2 s3:Sp):cy (cy s1 s2) s3=gd (gd (gd (gd s1.isSome s2).isSome (cy s1 (gd s1.isSome s2))).isSome s3).isSome (cy (gd (gd s1.isSome s2).isSome (cy s1 (gd s1.isSome s2))) (gd (gd (gd s1.isSome s2).isSome (cy s1 (gd s1.isSome s2))).isSome s3)):=by
 cases s1 with
 | none=>rfl
 | some p=>cases s2 with
  | none=>rfl
  | some q=>
  show cy (cy (some p) (some q)) s3=gd (gd (gd true (cy (some p) (some q))).isSome s3).isSome (cy (gd true (cy (some p) (some q))) (gd (gd true (cy (some p) (some q))).isSome s3))
  rw [co]
  cases cy (some p) (some q) with
  | none=>rfl
  | some u=>cases s3 <;> rfl
end M
theorem kP (a b X1 Y1 E1 X2 Y2 E2:Int) (w:World) (hg:M.good a b=true) (hp:M.bB a b X1 Y1 E1=true) (hq:M.bB a b X2 Y2 E2=true) :
  Calls Tryz.prog 83 #[.agg #[.int .i64 a,.int .i64 b],.agg #[.int .i64 X1,.int .i64 Y1,.int .i64 E1],.agg #[.int .i64 X2,.int .i64 Y2,.int .i64 E2]] w fun e w'=>e=.returned (.tuple #[.agg #[.int .i64 (M.yT (M.dA a b X1 Y1 E1 X2 Y2 E2)),.int .i64 (M.yS (M.dA a b X1 Y1 E1 X2 Y2 E2))],.bool (M.dA a b X1 Y1 E1 X2 Y2 E2).isSome])∧Below w.heap.size w w':=by
 have PA:=fun W=>fS a b X1 Y1 E1 X2 Y2 E2 W hg hp hq
 have hin:=M.am hg;have hs:=M.dk hin hp hq;obtain ⟨p1,p2,p3,p4,-,-⟩:=M.b6 hin hp;obtain ⟨r1,r2,r3,r4,-,-⟩:=M.b6 hin hq;obtain ⟨s1,s2,s3,s4,-,-⟩:=M.b6 hin hs;have hv:=xL (show M.dA a b X1 Y1 E1 X2 Y2 E2=if M.bk a X1 Y1 E1 X2 Y2 E2=true then M.cy (M.cy (M.bR a b (M.dC a X1 Y1 E1 X2 Y2 E2) (M.dB a X1 Y1 E1 X2 Y2 E2)) (M.bR a b X1 E1)) (M.bR a b X2 E2) else none from rfl);rw [hv.out];clear hv hs hp hq;generalize M.bk a X1 Y1 E1 X2 Y2 E2=ok,M.dB a X1 Y1 E1 X2 Y2 E2=E3,M.dO a X1 Y1 E1 X2 Y2 E2=Y3,M.dC a X1 Y1 E1 X2 Y2 E2=X3 at *
 cases ok with
 | false=>
  replace PA:=xL PA;have hn:=xL (show (if (false=true) then M.cy (M.cy (M.bR a b X3 E3) (M.bR a b X1 E1)) (M.bR a b X2 E2) else none)=none from rfl);rw [hn.out];clear hn;obtain ⟨wc,hw3,C,Q,U,R,B⟩:=fO w #[.int .i64 a,.int .i64 b] 25 #[.int .i64 X1,.int .i64 Y1,.int .i64 E1] 27 #[.int .i64 X2,.int .i64 Y2,.int .i64 E2] 27 #[.int .i64 0,.int .i64 0] 74;have f_:=C.box.c0;have i_:=C.box.c1;have ⟨q0,q1,q2⟩:=Q.aK;have ⟨u0,u1,u2⟩:=U.aK;go_enter Tryz.func83,Tryz.ntmps83
  go_wp2_with (go_at_call 87;(with_reducible refine (PA.out _).mono ?_);rintro e w4 ⟨rfl,hb4⟩;have Cb:=Nat.lt_of_lt_of_le R.lt hb4.size;replace B:=((d_ B hb4).alloc (Nat.le_trans B.size hb4.size) (.cells #[.int .i64 X3,.int .i64 Y3,.int .i64 E3] 27)).alloc (by rw [xM];exact Nat.le_succ_of_le (Nat.le_trans B.size hb4.size)) (.cells #[.bool false] 106);replace C:=((C.keep hb4).alloc (.cells #[.int .i64 X3,.int .i64 Y3,.int .i64 E3] 27)).alloc (.cells #[.bool false] 106);replace Q:=((Q.keep hb4).alloc (.cells #[.int .i64 X3,.int .i64 Y3,.int .i64 E3] 27)).alloc (.cells #[.bool false] 106);replace U:=((U.keep hb4).alloc (.cells #[.int .i64 X3,.int .i64 Y3,.int .i64 E3] 27)).alloc (.cells #[.bool false] 106);replace R:=((R.keep hb4).alloc (.cells #[.int .i64 X3,.int .i64 Y3,.int .i64 E3] 27)).alloc (.cells #[.bool false] 106);have S:=(aH.new w4 #[.int .i64 X3,.int .i64 Y3,.int .i64 E3] 27).alloc (.cells #[.bool false] 106);have K:=aH.new (w4.alloc (.cells #[.int .i64 X3,.int .i64 Y3,.int .i64 E3] 27)) #[.bool false] 106;(rw [xM] at K);(have ⟨r0,r1,Ah,Ai,rl⟩:=R.box))
  exact bodyPost_ret (v:=.tuple #[.agg #[.int .i64 0,.int .i64 0],.bool false]) (by simp [results,Tryz.results83,go_sem, *]) rfl (⟨rfl,xN (xN B (by simp;omega) _) (by simp;omega) _⟩)
 | true=>
 rw [if_pos rfl,M.ny];have o1:=M.dh (a:=a) (b:=b) hin s1 s2 s3 s4
 have FO:=fun g_ W K=>gu g_ true a b X3 Y3 E3 W K hg s1 s2 s3 s4
 have EP:=fun g_ ok W K=>gu g_ ok a b X1 Y1 E1 W K hg p1 p2 p3 p4
 have CB:=fun g_ ok W K=>gu g_ ok a b X2 Y2 E2 W K hg r1 r2 r3 r4
 have o2:=M.dh (a:=a) (b:=b) hin p1 p2 p3 p4;have o3:=M.dh (a:=a) (b:=b) hin r1 r2 r3 r4;simp only [M.co] at FO;generalize M.bR a b X3 E3=t1 at *
 replace EP:=fun g_=>EP g_ t1.isSome
 generalize M.bR a b X1 E1=t2 at *
 obtain ⟨t3,ht3⟩:∃ t,t=M.gd t1.isSome t2:=⟨_,rfl⟩
 have o4:M.AP t3:=by rw [ht3];exact M.nw o2
 have i3:t3.isSome=true→t1.isSome=true:=fun h=>by rw [ht3] at h;exact (M.j9 h).1
 rw [←ht3] at EP ⊢
 have FR:=fun g_ W K=>ma g_ t3.isSome t1 t3 W K o1 o4 i3 (fun h=>h)
 obtain ⟨t4,NZ⟩:∃ t,t=M.gd t3.isSome (M.cy t1 t3):=⟨_,rfl⟩
 have o5:M.AP t4:=by rw [NZ];exact M.nw M.lM
 rw [←NZ] at FR ⊢
 replace CB:=fun g_=>CB g_ t4.isSome
 generalize M.bR a b X2 E2=t5 at *
 obtain ⟨t6,Jo⟩:∃ t,t=M.gd t4.isSome t5:=⟨_,rfl⟩
 have o6:M.AP t6:=by rw [Jo];exact M.nw o3
 have i6:t6.isSome=true→t4.isSome=true:=fun h=>by rw [Jo] at h;exact (M.j9 h).1
 rw [←Jo] at CB ⊢
 have Fq:=fun g_ W K=>ma g_ t6.isSome t4 t6 W K o5 o6 i6 (fun h=>h)
 generalize M.gd t6.isSome (M.cy t4 t6)=t7 at *;clear ht3 NZ Jo o1 o2 o3 o4 o5 o6 i3 i6 t5 t2 hg hin;generalize M.yS t7=h7,M.yT t7=l7,t7.isSome=f7,M.yS t6=h6,M.yT t6=l6,t6.isSome=f6,M.yS t4=h4,M.yT t4=l4,t4.isSome=f4,M.yS t3=h3,M.yT t3=l3,t3.isSome=f3,M.yS t1=h1,M.yT t1=l1,t1.isSome=f1 at *;replace PA:=xL PA;replace FO:=xL FO;replace EP:=xL EP;replace CB:=xL CB;replace FR:=xL FR;replace Fq:=xL Fq;obtain ⟨wc,hw3,C,Q,U,R,B⟩:=fO w #[.int .i64 a,.int .i64 b] 25 #[.int .i64 X1,.int .i64 Y1,.int .i64 E1] 27 #[.int .i64 X2,.int .i64 Y2,.int .i64 E2] 27 #[.int .i64 0,.int .i64 0] 74;have f_:=C.box.c0;have i_:=C.box.c1;have ⟨q0,q1,q2⟩:=Q.aK;have ⟨u0,u1,u2⟩:=U.aK;go_enter Tryz.func83,Tryz.ntmps83
 go_upto_region 5 with (go_at_call 87;(with_reducible refine (PA.out _).mono ?_);rintro e w4 ⟨rfl,hb4⟩;have Cb:=Nat.lt_of_lt_of_le R.lt hb4.size;replace B:=((d_ B hb4).alloc (Nat.le_trans B.size hb4.size) (.cells #[.int .i64 X3,.int .i64 Y3,.int .i64 E3] 27)).alloc (by rw [xM];exact Nat.le_succ_of_le (Nat.le_trans B.size hb4.size)) (.cells #[.bool true] 106);replace C:=((C.keep hb4).alloc (.cells #[.int .i64 X3,.int .i64 Y3,.int .i64 E3] 27)).alloc (.cells #[.bool true] 106);replace Q:=((Q.keep hb4).alloc (.cells #[.int .i64 X3,.int .i64 Y3,.int .i64 E3] 27)).alloc (.cells #[.bool true] 106);replace U:=((U.keep hb4).alloc (.cells #[.int .i64 X3,.int .i64 Y3,.int .i64 E3] 27)).alloc (.cells #[.bool true] 106);replace R:=((R.keep hb4).alloc (.cells #[.int .i64 X3,.int .i64 Y3,.int .i64 E3] 27)).alloc (.cells #[.bool true] 106);have S:=(aH.new w4 #[.int .i64 X3,.int .i64 Y3,.int .i64 E3] 27).alloc (.cells #[.bool true] 106);have K:=aH.new (w4.alloc (.cells #[.int .i64 X3,.int .i64 Y3,.int .i64 E3] 27)) #[.bool true] 106;(rw [xM] at K);(have ⟨r0,r1,Ah,Ai,rl⟩:=R.box))
 generalize (w4.alloc (.cells #[.int .i64 X3,.int .i64 Y3,.int .i64 E3] 27)).alloc (.cells #[.bool true] 106)=wd at *;have hsl:=S.lt;have rl2:=R.lt
 have hw4:w.heap.size+4≤w4.heap.size:=by omega
 have nC:w.heap.size≠w4.heap.size+1:=by omega
 have nQ:w.heap.size+1≠w4.heap.size+1:=by omega
 have nU:w.heap.size+1+1≠w4.heap.size+1:=by omega
 have nR:w.heap.size+1+1+1≠w4.heap.size+1:=by omega
 have nS:w4.heap.size≠w4.heap.size+1:=by omega
 have nB:w.heap.size≤w4.heap.size+1:=by omega
 refine Rg.xK (w4.heap.size+1) 106 (fun n=>match n with | 0=>.bool true | 1=>.bool f1 | 2=>.bool f3 | 3=>.bool f4 | 4=>.bool f6 | _=>.bool f7) [5,9,10,14,15] 16 17 74 #[.int .i64 0,.int .i64 0] #[.int .i64 l7,.int .i64 h7] [.is (.pointer (some ⟨w4.heap.size+1,0,none⟩)),.is (.pointer (some ⟨w4.heap.size+1,0,none⟩)),.is (.pointer (some ⟨w4.heap.size+1,0,none⟩)),.is (.agg #[.int .i64 a,.int .i64 b]),.is (.agg #[.int .i64 X3,.int .i64 Y3,.int .i64 E3]),.is (.agg #[.int .i64 l1,.int .i64 h1]),.is (.pointer (some ⟨w4.heap.size+1,0,none⟩)),.is (.agg #[.int .i64 a,.int .i64 b]),.is (.agg #[.int .i64 X1,.int .i64 Y1,.int .i64 E1]),.is (.agg #[.int .i64 l3,.int .i64 h3]),.is (.agg #[.int .i64 l4,.int .i64 h4]),.is (.pointer (some ⟨w4.heap.size+1,0,none⟩)),.is (.agg #[.int .i64 a,.int .i64 b]),.is (.agg #[.int .i64 X2,.int .i64 Y2,.int .i64 E2]),.is (.agg #[.int .i64 l6,.int .i64 h6]),.is (.agg #[.int .i64 l7,.int .i64 h7]),.is (undef),.is (undef)] (by kernel_rfl) (by kernel_rfl) (by kernel_rfl) (fun j h1 h2=>match j,h1,h2 with | 0,h1,h2=>rfl | 1,h1,h2=>rfl | 2,h1,h2=>rfl | 3,h1,h2=>rfl | 4,h1,h2=>rfl | 5,h1,h2=>rfl | 6,h1,h2=>rfl | 7,h1,h2=>rfl | 8,h1,h2=>rfl | 9,h1,h2=>rfl | 10,h1,h2=>rfl | 11,h1,h2=>rfl | 12,h1,h2=>rfl | 13,h1,h2=>rfl | 14,h1,h2=>rfl | 15,h1,h2=>rfl | 16,h1,h2=>absurd rfl h1 | 17,h1,h2=>absurd rfl h2 | n+18,_,_=>rfl) (by decide) (by decide) (by decide) (by decide) K ⟨?_,?_,?_,?_,?_,?_,?_,?_,?_,?_,?_,?_,?_,?_,?_,?_,?_,?_,trivial⟩ ?_
 ·unfold Rg.cP
  rw [if_neg (by decide),if_neg (by decide),if_neg (by decide)];intro zZ w_ hH hr;have e10:zZ.tmps[10]?=some (.pointer (some ⟨w4.heap.size+1,0,none⟩)):=hr 10 (by decide);exact Rg.aG rfl (by go_simp)
 ·unfold Rg.cP
  rw [if_neg (by decide),if_neg (by decide),if_neg (by decide)];intro zZ w_ hH hr;have e10:zZ.tmps[10]?=some (.pointer (some ⟨w4.heap.size+1,0,none⟩)):=hr 10 (by decide);exact Rg.aG rfl (by go_simp)
 ·unfold Rg.cP
  rw [if_neg (by decide),if_neg (by decide),if_neg (by decide)];intro zZ w_ hH hr;have e10:zZ.tmps[10]?=some (.pointer (some ⟨w4.heap.size+1,0,none⟩)):=hr 10 (by decide);exact Rg.aG rfl (by go_simp)
 ·unfold Rg.cP
  rw [if_neg (by decide),if_neg (by decide),if_neg (by decide)];intro zZ w_ hH hr;have e3:zZ.tmps[3]?=some (.pointer (some ⟨w.heap.size,0,none⟩)):=hr 3 (by decide);have k0:=(hH.2 _ _ _ nC C).box.c0;have k1:=(hH.2 _ _ _ nC C).box.c1;exact Rg.aG rfl (by go_simp)
 ·unfold Rg.cP
  rw [if_neg (by decide),if_neg (by decide),if_neg (by decide)];intro zZ w_ hH hr;have e8:zZ.tmps[8]?=some (.pointer (some ⟨w4.heap.size,0,none⟩)):=hr 8 (by decide);have k0:=(hH.2 _ _ _ nS S).aK.1;have k1:=(hH.2 _ _ _ nS S).aK.2.1;have k2:=(hH.2 _ _ _ nS S).aK.2.2;exact Rg.aG rfl (by go_simp)
 ·unfold Rg.cP
  rw [if_neg (by decide),if_neg (by decide),if_pos (by decide)];intro zZ w_ K_ hH hr;replace K_:aH w_ (w4.heap.size+1) 106 #[.bool true]:=K_;have e27:=Rg.c_ (hr 27 (by decide));have e28:=Rg.c_ (hr 28 (by decide));have e29:=Rg.c_ (hr 29 (by decide));have ef:=Rg.ef zZ;exact Rg.gX rfl (by go_simp) (FO.out _ _ K_)
 ·unfold Rg.cP
  rw [if_neg (by decide),if_neg (by decide),if_neg (by decide)];intro zZ w_ hH hr;have e10:zZ.tmps[10]?=some (.pointer (some ⟨w4.heap.size+1,0,none⟩)):=hr 10 (by decide);exact Rg.aG rfl (by go_simp)
 ·unfold Rg.cP
  rw [if_neg (by decide),if_neg (by decide),if_neg (by decide)];intro zZ w_ hH hr;have e3:zZ.tmps[3]?=some (.pointer (some ⟨w.heap.size,0,none⟩)):=hr 3 (by decide);have k0:=(hH.2 _ _ _ nC C).box.c0;have k1:=(hH.2 _ _ _ nC C).box.c1;exact Rg.aG rfl (by go_simp)
 ·unfold Rg.cP
  rw [if_neg (by decide),if_neg (by decide),if_neg (by decide)];intro zZ w_ hH hr;have e4:zZ.tmps[4]?=some (.pointer (some ⟨w.heap.size+1,0,none⟩)):=hr 4 (by decide);have k0:=(hH.2 _ _ _ nQ Q).aK.1;have k1:=(hH.2 _ _ _ nQ Q).aK.2.1;have k2:=(hH.2 _ _ _ nQ Q).aK.2.2;exact Rg.aG rfl (by go_simp)
 ·unfold Rg.cP
  rw [if_neg (by decide),if_neg (by decide),if_pos (by decide)];intro zZ w_ K_ hH hr;replace K_:aH w_ (w4.heap.size+1) 106 #[.bool f1]:=K_;have e31:=Rg.c_ (hr 31 (by decide));have e32:=Rg.c_ (hr 32 (by decide));have e33:=Rg.c_ (hr 33 (by decide));have ef:=Rg.ef zZ;exact Rg.gX rfl (by go_simp) (EP.out _ _ K_)
 ·unfold Rg.cP
  rw [if_neg (by decide),if_neg (by decide),if_pos (by decide)];intro zZ w_ K_ hH hr;replace K_:aH w_ (w4.heap.size+1) 106 #[.bool f3]:=K_;have e26:=Rg.c_ (hr 26 (by decide));have e30:=Rg.c_ (hr 30 (by decide));have e34:=Rg.c_ (hr 34 (by decide));have ef:=Rg.ef zZ;exact Rg.gX rfl (by go_simp) (FR.out _ _ K_)
 ·unfold Rg.cP
  rw [if_neg (by decide),if_neg (by decide),if_neg (by decide)];intro zZ w_ hH hr;have e10:zZ.tmps[10]?=some (.pointer (some ⟨w4.heap.size+1,0,none⟩)):=hr 10 (by decide);exact Rg.aG rfl (by go_simp)
 ·unfold Rg.cP
  rw [if_neg (by decide),if_neg (by decide),if_neg (by decide)];intro zZ w_ hH hr;have e3:zZ.tmps[3]?=some (.pointer (some ⟨w.heap.size,0,none⟩)):=hr 3 (by decide);have k0:=(hH.2 _ _ _ nC C).box.c0;have k1:=(hH.2 _ _ _ nC C).box.c1;exact Rg.aG rfl (by go_simp)
 ·unfold Rg.cP
  rw [if_neg (by decide),if_neg (by decide),if_neg (by decide)];intro zZ w_ hH hr;have e5:zZ.tmps[5]?=some (.pointer (some ⟨w.heap.size+1+1,0,none⟩)):=hr 5 (by decide);have k0:=(hH.2 _ _ _ nU U).aK.1;have k1:=(hH.2 _ _ _ nU U).aK.2.1;have k2:=(hH.2 _ _ _ nU U).aK.2.2;exact Rg.aG rfl (by go_simp)
 ·unfold Rg.cP
  rw [if_neg (by decide),if_neg (by decide),if_pos (by decide)];intro zZ w_ K_ hH hr;replace K_:aH w_ (w4.heap.size+1) 106 #[.bool f4]:=K_;have e36:=Rg.c_ (hr 36 (by decide));have e37:=Rg.c_ (hr 37 (by decide));have e38:=Rg.c_ (hr 38 (by decide));have ef:=Rg.ef zZ;exact Rg.gX rfl (by go_simp) (CB.out _ _ K_)
 ·unfold Rg.cP
  rw [if_neg (by decide),if_neg (by decide),if_pos (by decide)];intro zZ w_ K_ hH hr;replace K_:aH w_ (w4.heap.size+1) 106 #[.bool f6]:=K_;have e25:=Rg.c_ (hr 25 (by decide));have e35:=Rg.c_ (hr 35 (by decide));have e39:=Rg.c_ (hr 39 (by decide));have ef:=Rg.ef zZ;exact Rg.gX rfl (by go_simp) (Fq.out _ _ K_)
 ·unfold Rg.cP
  rw [if_pos rfl];intro zZ w_;exact Rg.nd rfl (by first | (go_simp;done) | (go_simp;rfl))
 ·unfold Rg.cP
  rw [if_neg (by decide),if_pos rfl];intro zZ w_ h_ hh hn hr;have e11:zZ.tmps[11]?=some (.pointer (some ⟨h_,0,none⟩)):=hr 11 (by decide);have e40:=Rg.c_ (hr 40 (by decide));have ⟨y0,y1,x0,x1,_⟩:=hn.box;refine ⟨rfl,?_⟩;unfold Oper.wp
  go_simp
  exact ⟨aH.set2 hn _ _,xN (xN (xO _ _) hh _) hh _⟩
 intro vals wz h_ hh hn EK hB hv;replace hB:Below wd.heap.size (wd.setCell ⟨w4.heap.size+1,0,none⟩ (.bool f7)) wz:=hB;simp only [Rg.ay,Rg.fill,Act.put,Nat.reduceAdd];clear hv;simp only [EK];clear EK;have hB2:=cE hB;replace B:=(xN B nB (.bool f7)).trans (hB.mono B.size);replace R:=(R.other (i:=0) nR (.bool f7)).keep hB2;replace K:=(K.one (.bool f7)).keep hB2;have k0:=K.cell 0;have ⟨r0,r1,Ah,Ai,rl⟩:=R.box;have ⟨z0,z1,_,_,_⟩:=hn.box;clear hB hB2 f_ i_ q0 q1 q2 u0 u1 u2
 go_upto_region 6 with fail
 go_region
 all_goals
  go_wp2;exact bodyPost_ret (v:=.tuple #[.agg #[.int .i64 l7,.int .i64 h7],.bool f7]) (by simp [results,Tryz.results83,go_sem, *]) rfl (⟨rfl,Below.drew (xN (xN B (by simp;omega) _) (by simp;omega) _)⟩)
namespace M
noncomputable def xp (s:Sp):Int:=match s with | some p=>pn p.1 | none=>0
noncomputable def xr (s:Sp):Int:=match s with | some p=>pd p.1 | none=>0
noncomputable def xu (s:Sp):Int:=match s with | some p=>pn p.2 | none=>0
noncomputable def xv (s:Sp):Int:=match s with | some p=>pd p.2 | none=>0
theorem kK (l h:Int):(mkS l h).isSome=aM l h:=by
 unfold mkS
 cases aM l h <;> rfl
theorem r9 (l h:Int):pick (aM l h) (pn l)=xp (mkS l h):=by
 unfold mkS
 cases aM l h <;> rfl
theorem sH (l h:Int):pick (aM l h) (pd l)=xr (mkS l h):=by
 unfold mkS
 cases aM l h <;> rfl
theorem sI (l h:Int):pick (aM l h) (pn h)=xu (mkS l h):=by
 unfold mkS
 cases aM l h <;> rfl
theorem sJ (l h:Int):pick (aM l h) (pd h)=xv (mkS l h):=by
 unfold mkS
 cases aM l h <;> rfl
end M
theorem dg (a b X Y E:Int) (w:World) (hg:M.good a b=true) (hX1:-10000≤X) (hX2:X≤10000) (hE1:0≤E) (hE2:E≤20) :
  Calls Tryz.prog 94 #[.agg #[.int .i64 a,.int .i64 b],.agg #[.int .i64 X,.int .i64 Y,.int .i64 E]] w fun e w'=>e=.returned (.tuple #[.agg #[.int .i64 (M.xp (M.bR a b X E)),.int .i64 (M.xr (M.bR a b X E)),.int .i64 (M.xu (M.bR a b X E)),.int .i64 (M.xv (M.bR a b X E))],.bool (M.bR a b X E).isSome])∧Below w.heap.size w w':=by
 have h:=nu a b X Y E w hg hX1 hX2 hE1 hE2;unfold M.bR
 cases hb:M.zR a b X E
 ·rw [hb] at h;exact h
 rw [hb] at h;exact h
theorem mZ (p q:Int × Int) (w:World) (hp:M.aM p.1 p.2=true) (hq:M.aM q.1 q.2=true) :
  Calls Tryz.prog 95 #[.agg #[.int .i64 (M.xp (some p)),.int .i64 (M.xr (some p)),.int .i64 (M.xu (some p)),.int .i64 (M.xv (some p))],.agg #[.int .i64 (M.xp (some q)),.int .i64 (M.xr (some q)),.int .i64 (M.xu (some q)),.int .i64 (M.xv (some q))]] w fun e w'=>e=.returned (.tuple #[.agg #[.int .i64 (M.xp (M.fQ (some p) (some q))),.int .i64 (M.xr (M.fQ (some p) (some q))),.int .i64 (M.xu (M.fQ (some p) (some q))),.int .i64 (M.xv (M.fQ (some p) (some q)))],.bool (M.fQ (some p) (some q)).isSome])∧Below w.heap.size w w':=by
 have h:=th p.1 p.2 q.1 q.2 w hp hq;rw [M.r9,M.sH,M.sI,M.sJ,←M.kK] at h;exact h
theorem rq (p q:Int × Int) (w:World) (hp:M.aM p.1 p.2=true) (hq:M.aM q.1 q.2=true) :
  Calls Tryz.prog 151 #[.agg #[.int .i64 (M.xp (some p)),.int .i64 (M.xr (some p)),.int .i64 (M.xu (some p)),.int .i64 (M.xv (some p))],.agg #[.int .i64 (M.xp (some q)),.int .i64 (M.xr (some q)),.int .i64 (M.xu (some q)),.int .i64 (M.xv (some q))]] w fun e w'=>e=.returned (.tuple #[.agg #[.int .i64 (M.xp (M.cy (some p) (some q))),.int .i64 (M.xr (M.cy (some p) (some q))),.int .i64 (M.xu (M.cy (some p) (some q))),.int .i64 (M.xv (M.cy (some p) (some q)))],.bool (M.cy (some p) (some q)).isSome])∧Below w.heap.size w w':=by
 have h:=ti p.1 p.2 q.1 q.2 w hp hq;rw [M.r9,M.sH,M.sI,M.sJ,←M.kK] at h;exact h
theorem rj (a b X Y E:Int) (w:World) (hg:M.good a b=true) (hX1:-10000≤X) (hX2:X≤10000) (hE1:0≤E) (hE2:E≤20) :
  Calls Tryz.prog 98 #[.agg #[.int .i64 a,.int .i64 b],.agg #[.int .i64 X,.int .i64 Y,.int .i64 E]] w fun e w'=>e=.returned (.tuple #[.agg #[.int .i64 (M.xp (M.dZ a b X E)),.int .i64 (M.xr (M.dZ a b X E)),.int .i64 (M.xu (M.dZ a b X E)),.int .i64 (M.xv (M.dZ a b X E))],.bool (M.dZ a b X E).isSome])∧Below w.heap.size w w':=by
 have PH:=fun W=>dg a b X Y E W hg hX1 hX2 hE1 hE2
 have hr:=M.dh (a:=a) (b:=b) (M.am hg) hX1 hX2 hE1 hE2;unfold M.dZ;generalize M.bR a b X E=r at *;clear hg hX1 hX2 hE1 hE2
 cases r with
 | none=>
  have e1:=xL (show M.xp none=0∧M.xr none=0∧M.xu none=0∧M.xv none=0∧(none:M.Sp).isSome=false from ⟨rfl,rfl,rfl,rfl,rfl⟩);have e2:=xL (show M.fQ none none=none from rfl);rw [e2.out,e1.out.1,e1.out.2.1,e1.out.2.2.1,e1.out.2.2.2.1,e1.out.2.2.2.2];rw [e1.out.1,e1.out.2.1,e1.out.2.2.1,e1.out.2.2.2.1,e1.out.2.2.2.2] at PH;clear e1 e2;replace PH:=xL PH;obtain ⟨wc,hw3,C,Q,R,B⟩:=fM w #[.int .i64 a,.int .i64 b] 25 #[.int .i64 X,.int .i64 Y,.int .i64 E] 27 #[.int .i64 0,.int .i64 0,.int .i64 0,.int .i64 0] 33;have f_:=C.box.c0;have i_:=C.box.c1;have ⟨q0,q1,q2⟩:=Q.aK;go_enter Tryz.func98,Tryz.ntmps98
  go_wp2_with (go_at_call 94;(with_reducible refine (PH.out _).mono ?_);rintro e w4 ⟨rfl,hb4⟩;replace R:=(R.keep hb4).alloc (.cells #[.int .i64 0,.int .i64 0,.int .i64 0,.int .i64 0] 33);replace B:=(d_ B hb4).alloc (Nat.le_trans B.size hb4.size) (.cells #[.int .i64 0,.int .i64 0,.int .i64 0,.int .i64 0] 33);have V:=aH.new w4 #[.int .i64 0,.int .i64 0,.int .i64 0,.int .i64 0] 33;have n1:=R.lt;(have ⟨r0,r1,r2,r3,z0,z1,z2,z3,rl⟩:=R.aN);(have ⟨v0,v1,v2,v3,y0,y1,y2,y3,vl⟩:=V.aN))
  exact bodyPost_ret (v:=.tuple #[.agg #[.int .i64 0,.int .i64 0,.int .i64 0,.int .i64 0],.bool false]) (by simp [results,Tryz.results98,go_sem, *]) rfl (⟨rfl,xN (xN (xN (xN B (by simp;omega) _) (by simp;omega) _) (by simp;omega) _) (by simp;omega) _⟩)
 | some p=>
 have hp:=hr p rfl
 have PI:=fun W=>mZ p p W hp hp
 have e1:=xL (show (some p:M.Sp).isSome=true from rfl);rw [e1.out] at PH;clear e1 hr hp;generalize M.fQ (some p) (some p)=q,M.xv (some p)=i4,M.xu (some p)=i3,M.xr (some p)=i2,M.xp (some p)=i1 at *;generalize q.isSome=f,M.xv q=k4,M.xu q=k3,M.xr q=k2,M.xp q=k1 at *;replace PH:=xL PH;replace PI:=xL PI;obtain ⟨wc,hw3,C,Q,R,B⟩:=fM w #[.int .i64 a,.int .i64 b] 25 #[.int .i64 X,.int .i64 Y,.int .i64 E] 27 #[.int .i64 0,.int .i64 0,.int .i64 0,.int .i64 0] 33;have f_:=C.box.c0;have i_:=C.box.c1;have ⟨q0,q1,q2⟩:=Q.aK;go_enter Tryz.func98,Tryz.ntmps98
 go_wp2_with first | (go_at_call 94;(with_reducible refine (PH.out _).mono ?_);rintro e w4 ⟨rfl,hb4⟩;replace R:=(R.keep hb4).alloc (.cells #[.int .i64 i1,.int .i64 i2,.int .i64 i3,.int .i64 i4] 33);replace B:=(d_ B hb4).alloc (Nat.le_trans B.size hb4.size) (.cells #[.int .i64 i1,.int .i64 i2,.int .i64 i3,.int .i64 i4] 33);have V:=aH.new w4 #[.int .i64 i1,.int .i64 i2,.int .i64 i3,.int .i64 i4] 33;have n1:=R.lt;(have ⟨r0,r1,r2,r3,z0,z1,z2,z3,rl⟩:=R.aN);(have ⟨v0,v1,v2,v3,y0,y1,y2,y3,vl⟩:=V.aN)) | (go_at_call 95;(with_reducible refine (PI.out _).mono ?_);rintro e w5 ⟨rfl,hb5⟩;replace R:=R.keep hb5;replace B:=d_ B hb5;(have ⟨r0,r1,r2,r3,z0,z1,z2,z3,rl⟩:=R.aN))
 exact bodyPost_ret (v:=.tuple #[.agg #[.int .i64 k1,.int .i64 k2,.int .i64 k3,.int .i64 k4],.bool f]) (by simp [results,Tryz.results98,go_sem, *]) rfl (⟨rfl,xN (xN (xN (xN B (by simp;omega) _) (by simp;omega) _) (by simp;omega) _) (by simp;omega) _⟩)
def iX (w:World) (g:Nat) (l:List (Int × Int × Int)):Prop:=
 ∀ (k:Nat) (p:Int × Int × Int),l[k]?=some p→w.cell? ⟨g,k*3,none⟩=some (.int .i64 p.1)∧w.cell? ⟨g,k*3+1,none⟩=some (.int .i64 p.2.1)∧w.cell? ⟨g,k*3+2,none⟩=some (.int .i64 p.2.2)
theorem iX.below {w w':World} {g:Nat} {l:List (Int × Int × Int)} (h:iX w g l) (hb:Below w.heap.size w w'):iX w' g l:=fun k p hp=>by
 obtain ⟨h1,h2,h3⟩:=h k p hp;exact ⟨aE hb h1,aE hb h2,aE hb h3⟩
namespace M
noncomputable def cf (a b:Int) (s:Sp) (l:List (Int × Int × Int)):Sp:=l.foldl (fun s p=>cy s (bR a b p.1 p.2.2)) s
theorem gM (a b:Int):∀ l,cf a b none l=none
 | []=>rfl
 | _ :: l=>gM a b l
theorem jc {a b:Int} {s:Sp} {l:List (Int × Int × Int)} {k:Nat} {p:Int × Int × Int} (h:l[k]?=some p):cf a b s (l.take (k+1))=cy (cf a b s (l.take k)) (bR a b p.1 p.2.2):=by
 unfold cf;rw [List.take_add_one,h,List.foldl_append];rfl
theorem jd {a b:Int} {s:Sp} {l:List (Int × Int × Int)} {k:Nat} (h:cf a b s (l.take k)=none):cf a b s l=none:=by
 have e:cf a b s l=cf a b (cf a b s (l.take k)) (l.drop k):=by
  unfold cf;rw [←List.foldl_append,List.take_append_drop]
 rw [e,h,gM]
end M
theorem aH.sL {W:World} {g k:Nat} {T:TypeId} {xs:Array Value} (h:aH W g T xs) (hk:g≠k) (x y z t:Value):aH ((((W.setCell ⟨k,0,none⟩ x).setCell ⟨k,1,none⟩ y).setCell ⟨k,2,none⟩ z).setCell ⟨k,3,none⟩ t) g T xs:=(((h.other hk x).other hk y).other hk z).other hk t
theorem mV (a b:Int) (s:Int × Int) (l:List (Int × Int × Int)) (g cap:Nat) (w:World) (hg:M.good a b=true) (hs:M.aM s.1 s.2=true) (hl:iX w g l) (hn:l.length≤100) (hp:∀ p ∈ l,-10000≤p.1∧p.1≤10000∧0≤p.2.2∧p.2.2≤20) :
  Calls Tryz.prog 96 #[.agg #[.int .i64 a,.int .i64 b],.agg #[.int .i64 (M.xp (some s)),.int .i64 (M.xr (some s)),.int .i64 (M.xu (some s)),.int .i64 (M.xv (some s))],.slice (some ⟨g,0,none⟩) l.length cap] w fun e w'=>e=.returned (.tuple #[.agg #[.int .i64 (M.xp (M.cf a b (some s) l)),.int .i64 (M.xr (M.cf a b (some s) l)),.int .i64 (M.xu (M.cf a b (some s) l)),.int .i64 (M.xv (M.cf a b (some s) l))],.bool (M.cf a b (some s) l).isSome])∧Below w.heap.size w w':=by
 have hin:=M.am hg;have hl:=xL hl;have hp:=xL hp;obtain ⟨wc,hw3,C,I,R,B⟩:=fM w #[.int .i64 a,.int .i64 b] 25 #[.int .i64 (M.xp (some s)),.int .i64 (M.xr (some s)),.int .i64 (M.xu (some s)),.int .i64 (M.xv (some s))] 33 #[.int .i64 0,.int .i64 0,.int .i64 0,.int .i64 0] 33
 obtain ⟨N,hN⟩:∃ N,Hid (l.length=N):=⟨_,xL rfl⟩
 rw [hN.out] at hn ⊢;go_enter Tryz.func96,Tryz.ntmps96
 go_wp2
 go_loopw [16] (fun vi wr=>∃ (k:Nat) (p:Int × Int),k≤N∧vi=.int .i64 k∧Hid (M.cf a b (some s) (l.take k)=some p)∧aH wr w.heap.size 25 #[.int .i64 a,.int .i64 b]∧aH wr (w.heap.size+1) 33 #[.int .i64 (M.xp (some p)),.int .i64 (M.xr (some p)),.int .i64 (M.xu (some p)),.int .i64 (M.xv (some p))]∧aH wr (w.heap.size+1+1) 33 #[.int .i64 0,.int .i64 0,.int .i64 0,.int .i64 0]∧Below w.heap.size w wr) (fun vi _=>N - (intOf vi).toNat)
 case atStart=>exact ⟨0,s,Nat.zero_le _,rfl,xL rfl,C,I,R,B⟩
 case round=>
 clear C I R B hw3;obtain ⟨k,p,hk,rfl,hcur,C,I,R,B⟩:=hrel
 have hpo:M.AP (some p):=by
  rw [←hcur.out]
  cases k with
  | zero=>intro q hq;injection hq with hq;subst hq;exact hs
  | succ k=>
  obtain ⟨z,hz⟩:∃ z,l[k]?=some z:=⟨_,List.getElem?_eq_getElem (by have:=hN.out;omega)⟩
  rw [M.jc hz];exact M.lM
 have hps:=hpo p rfl;have f_:=C.box.c0;have i_:=C.box.c1
 by_cases hlt:k<N
 ·obtain ⟨z,hz⟩:∃ z,l[k]?=some z:=⟨_,List.getElem?_eq_getElem (by have:=hN.out;omega)⟩
  obtain ⟨d0,d1,d2⟩:=(hl.out.below B) k z hz;obtain ⟨b1,b2,b3,b4⟩:=hp.out z (List.mem_of_getElem? hz);have hnx:=M.jc (a:=a) (b:=b) (s:=some s) hz;rw [hcur.out] at hnx;obtain ⟨X,Y,E⟩:=z;simp only [] at d0 d1 d2 b1 b2 b3 b4 hnx
  have PH:=fun W=>dg a b X Y E W hg b1 b2 b3 b4
  have hto:=M.dh (a:=a) (b:=b) hin b1 b2 b3 b4;generalize M.bR a b X E=t at *;clear b1 b2 b3 b4 hz hcur;replace B:=B.alloc B.size (.cells #[.int .i64 X,.int .i64 Y,.int .i64 E] 27);have Z:=aH.new wr #[.int .i64 X,.int .i64 Y,.int .i64 E] 27;replace C:=C.alloc (.cells #[.int .i64 X,.int .i64 Y,.int .i64 E] 27);replace I:=I.alloc (.cells #[.int .i64 X,.int .i64 Y,.int .i64 E] 27);replace R:=R.alloc (.cells #[.int .i64 X,.int .i64 Y,.int .i64 E] 27);have f_:=C.box.c0;have i_:=C.box.c1;have ⟨z0,z1,z2⟩:=Z.aK
  cases t with
  | none=>
   have hfin:M.cf a b (some s) l=none:=M.jd (k:=k+1) (by rw [hnx];rfl);have e1:=xL (show M.xp none=0∧M.xr none=0∧M.xu none=0∧M.xv none=0∧(none:M.Sp).isSome=false from ⟨rfl,rfl,rfl,rfl,rfl⟩);rw [e1.out.1,e1.out.2.1,e1.out.2.2.1,e1.out.2.2.2.1,e1.out.2.2.2.2] at PH;have hfin:=xL hfin;clear hnx hpo hps hto;replace PH:=xL PH;generalize M.xv (some p)=i4_,M.xu (some p)=i3_,M.xr (some p)=i2_,M.xp (some p)=i1_ at *
   go_wp2_with (go_at_call 94;(with_reducible refine (PH.out _).mono ?_);rintro e w4 ⟨rfl,hb4⟩;replace B:=d_ B hb4;replace C:=C.keep hb4;replace I:=I.keep hb4;replace R:=R.keep hb4;replace R:=R.alloc (.cells #[.int .i64 0,.int .i64 0,.int .i64 0,.int .i64 0] 33);replace C:=C.alloc (.cells #[.int .i64 0,.int .i64 0,.int .i64 0,.int .i64 0] 33);replace I:=I.alloc (.cells #[.int .i64 0,.int .i64 0,.int .i64 0,.int .i64 0] 33);replace B:=B.alloc B.size (.cells #[.int .i64 0,.int .i64 0,.int .i64 0,.int .i64 0] 33);have V:=aH.new w4 #[.int .i64 0,.int .i64 0,.int .i64 0,.int .i64 0] 33;(have ⟨r0,r1,r2,r3,y0,y1,y2,y3,rl⟩:=R.aN);(have ⟨i0,i1,i2,i3,s0,s1,s2,s3,il⟩:=I.aN);(have ⟨v0,v1,v2,v3,_,_,_,_,vl⟩:=V.aN))
   exact bodyPost_ret (v:=.tuple #[.agg #[.int .i64 0,.int .i64 0,.int .i64 0,.int .i64 0],.bool false]) (by simp [results,Tryz.results96,go_sem, *]) rfl (⟨by rw [hfin.out,e1.out.1,e1.out.2.1,e1.out.2.2.1,e1.out.2.2.2.1,e1.out.2.2.2.2],xN (xN (xN (xN B (by simp;omega) _) (by simp;omega) _) (by simp;omega) _) (by simp;omega) _⟩)
  | some q=>
  have PI:=fun W=>rq p q W hps (hto q rfl)
  have e2:=xL (show (some q:M.Sp).isSome=true from rfl);rw [e2.out] at PH;clear e2;generalize M.cy (some p) (some q)=u at *;have hnx:=xL hnx;generalize M.xv (some q)=k4,M.xu (some q)=k3,M.xr (some q)=k2,M.xp (some q)=k1 at *;replace PH:=xL PH;clear hto hps hpo
  cases u with
  | none=>
   have hfin:=xL (show M.cf a b (some s) l=none from M.jd (k:=k+1) hnx.out);have e1:=xL (show M.xp none=0∧M.xr none=0∧M.xu none=0∧M.xv none=0∧(none:M.Sp).isSome=false from ⟨rfl,rfl,rfl,rfl,rfl⟩);rw [e1.out.1,e1.out.2.1,e1.out.2.2.1,e1.out.2.2.2.1,e1.out.2.2.2.2] at PI;replace PI:=xL PI;clear hnx;generalize M.xv (some p)=i4_,M.xu (some p)=i3_,M.xr (some p)=i2_,M.xp (some p)=i1_ at *
   go_wp2_with first | (go_at_call 94;(with_reducible refine (PH.out _).mono ?_);rintro e w4 ⟨rfl,hb4⟩;replace B:=d_ B hb4;replace C:=C.keep hb4;replace I:=I.keep hb4;replace R:=R.keep hb4;replace R:=R.alloc (.cells #[.int .i64 k1,.int .i64 k2,.int .i64 k3,.int .i64 k4] 33);replace C:=C.alloc (.cells #[.int .i64 k1,.int .i64 k2,.int .i64 k3,.int .i64 k4] 33);replace I:=I.alloc (.cells #[.int .i64 k1,.int .i64 k2,.int .i64 k3,.int .i64 k4] 33);replace B:=B.alloc B.size (.cells #[.int .i64 k1,.int .i64 k2,.int .i64 k3,.int .i64 k4] 33);have V:=aH.new w4 #[.int .i64 k1,.int .i64 k2,.int .i64 k3,.int .i64 k4] 33;(have ⟨r0,r1,r2,r3,y0,y1,y2,y3,rl⟩:=R.aN);(have ⟨i0,i1,i2,i3,s0,s1,s2,s3,il⟩:=I.aN);(have ⟨v0,v1,v2,v3,_,_,_,_,vl⟩:=V.aN)) | (go_at_call 151;(with_reducible refine (PI.out _).mono ?_);rintro e w5 ⟨rfl,hb5⟩;replace B:=d_ B hb5;replace C:=C.keep hb5;replace I:=I.keep hb5;replace R:=R.keep hb5;replace R:=R.alloc (.cells #[.int .i64 0,.int .i64 0,.int .i64 0,.int .i64 0] 33);replace C:=C.alloc (.cells #[.int .i64 0,.int .i64 0,.int .i64 0,.int .i64 0] 33);replace I:=I.alloc (.cells #[.int .i64 0,.int .i64 0,.int .i64 0,.int .i64 0] 33);replace B:=B.alloc B.size (.cells #[.int .i64 0,.int .i64 0,.int .i64 0,.int .i64 0] 33);have V:=aH.new w5 #[.int .i64 0,.int .i64 0,.int .i64 0,.int .i64 0] 33;(have ⟨r0,r1,r2,r3,y0,y1,y2,y3,rl⟩:=R.aN);(have ⟨i0,i1,i2,i3,s0,s1,s2,s3,il⟩:=I.aN);(have ⟨v0,v1,v2,v3,_,_,_,_,vl⟩:=V.aN))
   exact bodyPost_ret (v:=.tuple #[.agg #[.int .i64 0,.int .i64 0,.int .i64 0,.int .i64 0],.bool false]) (by simp [results,Tryz.results96,go_sem, *]) rfl (⟨by rw [hfin.out,e1.out.1,e1.out.2.1,e1.out.2.2.1,e1.out.2.2.2.1,e1.out.2.2.2.2],xN (xN (xN (xN B (by simp;omega) _) (by simp;omega) _) (by simp;omega) _) (by simp;omega) _⟩)
  | some r=>
  have e2:=xL (show (some r:M.Sp).isSome=true from rfl);rw [e2.out] at PI;clear e2
  obtain ⟨m1,hm1⟩:∃ m,Hid (M.xp (some r)=m):=⟨_,xL rfl⟩
  rw [hm1.out] at PI
  obtain ⟨m2,hm2⟩:∃ m,Hid (M.xr (some r)=m):=⟨_,xL rfl⟩
  rw [hm2.out] at PI
  obtain ⟨m3,Jk⟩:∃ m,Hid (M.xu (some r)=m):=⟨_,xL rfl⟩
  rw [Jk.out] at PI
  obtain ⟨m4,Hd⟩:∃ m,Hid (M.xv (some r)=m):=⟨_,xL rfl⟩
  rw [Hd.out] at PI;replace PI:=xL PI;generalize M.xv (some p)=i4_,M.xu (some p)=i3_,M.xr (some p)=i2_,M.xp (some p)=i1_ at *
  go_wp2_with first | (go_at_call 94;(with_reducible refine (PH.out _).mono ?_);rintro e w4 ⟨rfl,hb4⟩;replace B:=d_ B hb4;replace C:=C.keep hb4;replace I:=I.keep hb4;replace R:=R.keep hb4;replace R:=R.alloc (.cells #[.int .i64 k1,.int .i64 k2,.int .i64 k3,.int .i64 k4] 33);replace C:=C.alloc (.cells #[.int .i64 k1,.int .i64 k2,.int .i64 k3,.int .i64 k4] 33);replace I:=I.alloc (.cells #[.int .i64 k1,.int .i64 k2,.int .i64 k3,.int .i64 k4] 33);replace B:=B.alloc B.size (.cells #[.int .i64 k1,.int .i64 k2,.int .i64 k3,.int .i64 k4] 33);have V:=aH.new w4 #[.int .i64 k1,.int .i64 k2,.int .i64 k3,.int .i64 k4] 33;(have ⟨r0,r1,r2,r3,y0,y1,y2,y3,rl⟩:=R.aN);(have ⟨i0,i1,i2,i3,s0,s1,s2,s3,il⟩:=I.aN);(have ⟨v0,v1,v2,v3,_,_,_,_,vl⟩:=V.aN)) | (go_at_call 151;(with_reducible refine (PI.out _).mono ?_);rintro e w5 ⟨rfl,hb5⟩;replace B:=d_ B hb5;replace C:=C.keep hb5;replace I:=I.keep hb5;replace R:=R.keep hb5;replace R:=R.alloc (.cells #[.int .i64 m1,.int .i64 m2,.int .i64 m3,.int .i64 m4] 33);replace C:=C.alloc (.cells #[.int .i64 m1,.int .i64 m2,.int .i64 m3,.int .i64 m4] 33);replace I:=I.alloc (.cells #[.int .i64 m1,.int .i64 m2,.int .i64 m3,.int .i64 m4] 33);replace B:=B.alloc B.size (.cells #[.int .i64 m1,.int .i64 m2,.int .i64 m3,.int .i64 m4] 33);have V:=aH.new w5 #[.int .i64 m1,.int .i64 m2,.int .i64 m3,.int .i64 m4] 33;(have ⟨r0,r1,r2,r3,y0,y1,y2,y3,rl⟩:=R.aN);(have ⟨i0,i1,i2,i3,s0,s1,s2,s3,il⟩:=I.aN);(have ⟨v0,v1,v2,v3,_,_,_,_,vl⟩:=V.aN))
  go_roundw
  case rel=>exact ⟨k+1,r,by omega,by simp,hnx,C.sL (by omega) _ _ _ _,by rw [hm1.out,hm2.out,Jk.out,Hd.out];exact I.uG _ _ _ _,R.sL (by omega) _ _ _ _,xN (xN (xN (xN B (by simp) _) (by simp) _) (by simp) _) (by simp) _⟩
  case measure=>simp [intOf] <;> omega
 obtain rfl:k=N:=by omega
 have hfin:=hcur
 have e0:l.take k=l:=by rw [←hN.out];exact List.take_length
 rw [e0] at hfin;have ⟨i0,i1,i2,i3,s0,s1,s2,s3,il⟩:=I.aN;have ⟨r0,r1,r2,r3,y0,y1,y2,y3,rl⟩:=R.aN;go_wp2;exact bodyPost_ret (v:=.tuple #[.agg #[.int .i64 (M.xp (some p)),.int .i64 (M.xr (some p)),.int .i64 (M.xu (some p)),.int .i64 (M.xv (some p))],.bool true]) (by simp [results,Tryz.results96,go_sem, *]) rfl (⟨by rw [hfin.out];rfl,xN (xN (xN (xN B (by simp;omega) _) (by simp;omega) _) (by simp;omega) _) (by simp;omega) _⟩)
theorem iX.two {W:World} {g:Nat} {T:TypeId} {X1 Y1 E1 X2 Y2 E2:Int} (h:aH W g T #[.int .i64 X1,.int .i64 Y1,.int .i64 E1,.int .i64 X2,.int .i64 Y2,.int .i64 E2]):iX W g [(X1,Y1,E1),(X2,Y2,E2)]:=by
 intro k p hp
 match k,hp with
 | 0,hp=>injection hp with hp;subst hp;exact ⟨h.cell 0,h.cell 1,h.cell 2⟩
 | 1,hp=>injection hp with hp;subst hp;exact ⟨h.cell 3,h.cell 4,h.cell 5⟩
 | k+2,hp=>cases hp
theorem ri (a b X1 Y1 E1 X2 Y2 E2:Int) (w:World) (hg:M.good a b=true) (hp:M.bB a b X1 Y1 E1=true) (hq:M.bB a b X2 Y2 E2=true) :
  Calls Tryz.prog 85 #[.agg #[.int .i64 a,.int .i64 b],.agg #[.int .i64 X1,.int .i64 Y1,.int .i64 E1],.agg #[.int .i64 X2,.int .i64 Y2,.int .i64 E2]] w fun e w'=>e=.returned (.tuple #[.agg #[.int .i64 (M.xp (M.dA a b X1 Y1 E1 X2 Y2 E2)),.int .i64 (M.xr (M.dA a b X1 Y1 E1 X2 Y2 E2)),.int .i64 (M.xu (M.dA a b X1 Y1 E1 X2 Y2 E2)),.int .i64 (M.xv (M.dA a b X1 Y1 E1 X2 Y2 E2))],.bool (M.dA a b X1 Y1 E1 X2 Y2 E2).isSome])∧Below w.heap.size w w':=by
 have PA:=fun W=>i8 a b X1 Y1 E1 X2 Y2 E2 W hg hp hq
 have hin:=M.am hg;have hs:=M.dk hin hp hq;obtain ⟨p1,p2,p3,p4,-,-⟩:=M.b6 hin hp;obtain ⟨r1,r2,r3,r4,-,-⟩:=M.b6 hin hq;obtain ⟨s1,s2,s3,s4,-,-⟩:=M.b6 hin hs;have hv:=xL (show (M.dA a b X1 Y1 E1 X2 Y2 E2)=if M.bk a X1 Y1 E1 X2 Y2 E2=true then M.cf a b (M.bR a b (M.dC a X1 Y1 E1 X2 Y2 E2) (M.dB a X1 Y1 E1 X2 Y2 E2)) [(X1,Y1,E1),(X2,Y2,E2)] else none from rfl);rw [hv.out];clear hv hs hp hq;generalize M.bk a X1 Y1 E1 X2 Y2 E2=ok,M.dB a X1 Y1 E1 X2 Y2 E2=E3,M.dO a X1 Y1 E1 X2 Y2 E2=Y3,M.dC a X1 Y1 E1 X2 Y2 E2=X3 at *
 have PH:=fun W=>dg a b X3 Y3 E3 W hg s1 s2 s3 s4
 have hto:=M.dh (a:=a) (b:=b) hin s1 s2 s3 s4
 have PL:=fun s g W h1 h2=>mV a b s [(X1,Y1,E1),(X2,Y2,E2)] g 2 W hg h1 h2 (by simp) (by
  intro p hp
  rcases List.mem_cons.1 hp with rfl | hp
  ·exact ⟨p1,p2,p3,p4⟩
  rcases List.mem_cons.1 hp with rfl | hp
  ·exact ⟨r1,r2,r3,r4⟩
  cases hp)
 generalize M.bR a b X3 E3=t at *;clear hg hin s1 s2 s3 s4 p1 p2 p3 p4 r1 r2 r3 r4
 cases ok with
 | false=>
  have e1:=xL (show M.xp none=0∧M.xr none=0∧M.xu none=0∧M.xv none=0∧(none:M.Sp).isSome=false from ⟨rfl,rfl,rfl,rfl,rfl⟩);have e2:=xL (show (if (false=true) then M.cf a b t [(X1,Y1,E1),(X2,Y2,E2)] else none)=none from rfl);rw [e2.out,e1.out.1,e1.out.2.1,e1.out.2.2.1,e1.out.2.2.2.1,e1.out.2.2.2.2];clear e1 e2 PH PL hto;replace PA:=xL PA;obtain ⟨wc,hw3,C,Q,U,R,B⟩:=fO w #[.int .i64 a,.int .i64 b] 25 #[.int .i64 X1,.int .i64 Y1,.int .i64 E1] 27 #[.int .i64 X2,.int .i64 Y2,.int .i64 E2] 27 #[.int .i64 0,.int .i64 0,.int .i64 0,.int .i64 0] 33;have f_:=C.box.c0;have i_:=C.box.c1;have ⟨q0,q1,q2⟩:=Q.aK;have ⟨u0,u1,u2⟩:=U.aK;go_enter Tryz.func85,Tryz.ntmps85
  go_wp2_with (go_at_call 92;(with_reducible refine (PA.out _).mono ?_);rintro e w4 ⟨rfl,hb4⟩;replace B:=d_ B hb4;replace C:=C.keep hb4;replace Q:=Q.keep hb4;replace U:=U.keep hb4;replace R:=R.keep hb4;replace B:=B.alloc B.size (.cells #[.int .i64 X3,.int .i64 Y3,.int .i64 E3] 27);replace C:=C.alloc (.cells #[.int .i64 X3,.int .i64 Y3,.int .i64 E3] 27);replace Q:=Q.alloc (.cells #[.int .i64 X3,.int .i64 Y3,.int .i64 E3] 27);replace U:=U.alloc (.cells #[.int .i64 X3,.int .i64 Y3,.int .i64 E3] 27);replace R:=R.alloc (.cells #[.int .i64 X3,.int .i64 Y3,.int .i64 E3] 27);have S:=aH.new w4 #[.int .i64 X3,.int .i64 Y3,.int .i64 E3] 27;(have ⟨z0,z1,z2⟩:=S.aK);have f_:=C.box.c0;have i_:=C.box.c1;(have ⟨q0,q1,q2⟩:=Q.aK);(have ⟨u0,u1,u2⟩:=U.aK);(have ⟨r0,r1,r2,r3,y0,y1,y2,y3,rl⟩:=R.aN))
  exact bodyPost_ret (v:=.tuple #[.agg #[.int .i64 0,.int .i64 0,.int .i64 0,.int .i64 0],.bool false]) (by simp [results,Tryz.results85,go_sem, *]) rfl (⟨rfl,xN (xN (xN (xN B (by simp;omega) _) (by simp;omega) _) (by simp;omega) _) (by simp;omega) _⟩)
 | true=>
 rw [if_pos rfl];replace PA:=xL PA
 cases t with
 | none=>
  have e1:=xL (show M.xp none=0∧M.xr none=0∧M.xu none=0∧M.xv none=0∧(none:M.Sp).isSome=false from ⟨rfl,rfl,rfl,rfl,rfl⟩);rw [M.gM,e1.out.1,e1.out.2.1,e1.out.2.2.1,e1.out.2.2.2.1,e1.out.2.2.2.2];rw [e1.out.1,e1.out.2.1,e1.out.2.2.1,e1.out.2.2.2.1,e1.out.2.2.2.2] at PH;clear e1 PL hto;replace PH:=xL PH;obtain ⟨wc,hw3,C,Q,U,R,B⟩:=fO w #[.int .i64 a,.int .i64 b] 25 #[.int .i64 X1,.int .i64 Y1,.int .i64 E1] 27 #[.int .i64 X2,.int .i64 Y2,.int .i64 E2] 27 #[.int .i64 0,.int .i64 0,.int .i64 0,.int .i64 0] 33;have f_:=C.box.c0;have i_:=C.box.c1;have ⟨q0,q1,q2⟩:=Q.aK;have ⟨u0,u1,u2⟩:=U.aK;go_enter Tryz.func85,Tryz.ntmps85
  go_wp2_with first | (go_at_call 92;(with_reducible refine (PA.out _).mono ?_);rintro e w4 ⟨rfl,hb4⟩;replace B:=d_ B hb4;replace C:=C.keep hb4;replace Q:=Q.keep hb4;replace U:=U.keep hb4;replace R:=R.keep hb4;replace B:=B.alloc B.size (.cells #[.int .i64 X3,.int .i64 Y3,.int .i64 E3] 27);replace C:=C.alloc (.cells #[.int .i64 X3,.int .i64 Y3,.int .i64 E3] 27);replace Q:=Q.alloc (.cells #[.int .i64 X3,.int .i64 Y3,.int .i64 E3] 27);replace U:=U.alloc (.cells #[.int .i64 X3,.int .i64 Y3,.int .i64 E3] 27);replace R:=R.alloc (.cells #[.int .i64 X3,.int .i64 Y3,.int .i64 E3] 27);have S:=aH.new w4 #[.int .i64 X3,.int .i64 Y3,.int .i64 E3] 27;(have ⟨z0,z1,z2⟩:=S.aK);have f_:=C.box.c0;have i_:=C.box.c1;(have ⟨q0,q1,q2⟩:=Q.aK);(have ⟨u0,u1,u2⟩:=U.aK);(have ⟨r0,r1,r2,r3,y0,y1,y2,y3,rl⟩:=R.aN)) | (go_at_call 94;(with_reducible refine (PH.out _).mono ?_);rintro e w5 ⟨rfl,hb5⟩;replace B:=d_ B hb5;replace C:=C.keep hb5;replace Q:=Q.keep hb5;replace U:=U.keep hb5;replace R:=R.keep hb5;replace B:=B.alloc B.size (.cells #[.int .i64 0,.int .i64 0,.int .i64 0,.int .i64 0] 33);replace C:=C.alloc (.cells #[.int .i64 0,.int .i64 0,.int .i64 0,.int .i64 0] 33);replace Q:=Q.alloc (.cells #[.int .i64 0,.int .i64 0,.int .i64 0,.int .i64 0] 33);replace U:=U.alloc (.cells #[.int .i64 0,.int .i64 0,.int .i64 0,.int .i64 0] 33);replace R:=R.alloc (.cells #[.int .i64 0,.int .i64 0,.int .i64 0,.int .i64 0] 33);have V:=aH.new w5 #[.int .i64 0,.int .i64 0,.int .i64 0,.int .i64 0] 33;(have ⟨v0,v1,v2,v3,_,_,_,_,vl⟩:=V.aN);have f_:=C.box.c0;have i_:=C.box.c1;(have ⟨q0,q1,q2⟩:=Q.aK);(have ⟨u0,u1,u2⟩:=U.aK);(have ⟨r0,r1,r2,r3,y0,y1,y2,y3,rl⟩:=R.aN))
  exact bodyPost_ret (v:=.tuple #[.agg #[.int .i64 0,.int .i64 0,.int .i64 0,.int .i64 0],.bool false]) (by simp [results,Tryz.results85,go_sem, *]) rfl (⟨rfl,xN (xN (xN (xN B (by simp;omega) _) (by simp;omega) _) (by simp;omega) _) (by simp;omega) _⟩)
 | some s=>
 replace PL:=fun g W h2=>PL s g W (hto s rfl) h2
 have e1:=xL (show (some s:M.Sp).isSome=true from rfl);rw [e1.out] at PH;clear e1 hto;have e2:=xL (show [(X1,Y1,E1),(X2,Y2,E2)].length=2 from rfl);rw [e2.out] at PL;clear e2;generalize M.xv (some s)=i4,M.xu (some s)=i3,M.xr (some s)=i2,M.xp (some s)=i1,M.cf a b (some s) [(X1,Y1,E1),(X2,Y2,E2)]=r at *;generalize r.isSome=fr,M.xv r=k4,M.xu r=k3,M.xr r=k2,M.xp r=k1 at *;replace PH:=xL PH;replace PL:=xL PL;obtain ⟨wc,hw3,C,Q,U,R,B⟩:=fO w #[.int .i64 a,.int .i64 b] 25 #[.int .i64 X1,.int .i64 Y1,.int .i64 E1] 27 #[.int .i64 X2,.int .i64 Y2,.int .i64 E2] 27 #[.int .i64 0,.int .i64 0,.int .i64 0,.int .i64 0] 33;have f_:=C.box.c0;have i_:=C.box.c1;have ⟨q0,q1,q2⟩:=Q.aK;have ⟨u0,u1,u2⟩:=U.aK;go_enter Tryz.func85,Tryz.ntmps85
 go_wp2_with first | (go_at_call 92;(with_reducible refine (PA.out _).mono ?_);rintro e w4 ⟨rfl,hb4⟩;replace B:=d_ B hb4;replace C:=C.keep hb4;replace Q:=Q.keep hb4;replace U:=U.keep hb4;replace R:=R.keep hb4;replace B:=B.alloc B.size (.cells #[.int .i64 X3,.int .i64 Y3,.int .i64 E3] 27);replace C:=C.alloc (.cells #[.int .i64 X3,.int .i64 Y3,.int .i64 E3] 27);replace Q:=Q.alloc (.cells #[.int .i64 X3,.int .i64 Y3,.int .i64 E3] 27);replace U:=U.alloc (.cells #[.int .i64 X3,.int .i64 Y3,.int .i64 E3] 27);replace R:=R.alloc (.cells #[.int .i64 X3,.int .i64 Y3,.int .i64 E3] 27);have S:=aH.new w4 #[.int .i64 X3,.int .i64 Y3,.int .i64 E3] 27;(have ⟨z0,z1,z2⟩:=S.aK);have f_:=C.box.c0;have i_:=C.box.c1;(have ⟨q0,q1,q2⟩:=Q.aK);(have ⟨u0,u1,u2⟩:=U.aK);(have ⟨r0,r1,r2,r3,y0,y1,y2,y3,rl⟩:=R.aN)) | (go_at_call 94;(with_reducible refine (PH.out _).mono ?_);rintro e w5 ⟨rfl,hb5⟩;replace B:=d_ B hb5;replace C:=C.keep hb5;replace Q:=Q.keep hb5;replace U:=U.keep hb5;replace R:=R.keep hb5;replace B:=B.alloc B.size (.cells #[.int .i64 i1,.int .i64 i2,.int .i64 i3,.int .i64 i4] 33);replace C:=C.alloc (.cells #[.int .i64 i1,.int .i64 i2,.int .i64 i3,.int .i64 i4] 33);replace Q:=Q.alloc (.cells #[.int .i64 i1,.int .i64 i2,.int .i64 i3,.int .i64 i4] 33);replace U:=U.alloc (.cells #[.int .i64 i1,.int .i64 i2,.int .i64 i3,.int .i64 i4] 33);replace R:=R.alloc (.cells #[.int .i64 i1,.int .i64 i2,.int .i64 i3,.int .i64 i4] 33);have V:=aH.new w5 #[.int .i64 i1,.int .i64 i2,.int .i64 i3,.int .i64 i4] 33;(have ⟨v0,v1,v2,v3,_,_,_,_,vl⟩:=V.aN);have f_:=C.box.c0;have i_:=C.box.c1;(have ⟨q0,q1,q2⟩:=Q.aK);(have ⟨u0,u1,u2⟩:=U.aK);(have ⟨r0,r1,r2,r3,y0,y1,y2,y3,rl⟩:=R.aN);replace R:=R.alloc (.cells #[.int .i64 X1,.int .i64 Y1,.int .i64 E1,.int .i64 X2,.int .i64 Y2,.int .i64 E2] 27);have L:=aH.new (w5.alloc (.cells #[.int .i64 i1,.int .i64 i2,.int .i64 i3,.int .i64 i4] 33)) #[.int .i64 X1,.int .i64 Y1,.int .i64 E1,.int .i64 X2,.int .i64 Y2,.int .i64 E2] 27;(rw [xM] at L);replace L:=xL (iX.two L)) | (go_at_call 96;(with_reducible refine (PL.out _ _ L.out).mono ?_);rintro e w6 ⟨rfl,hb6⟩;replace B:=(B.alloc B.size (.cells #[.int .i64 X1,.int .i64 Y1,.int .i64 E1,.int .i64 X2,.int .i64 Y2,.int .i64 E2] 27)).trans (hb6.mono (B.alloc B.size (.cells #[.int .i64 X1,.int .i64 Y1,.int .i64 E1,.int .i64 X2,.int .i64 Y2,.int .i64 E2] 27)).size);replace R:=R.keep hb6;(have ⟨r0,r1,r2,r3,y0,y1,y2,y3,rl⟩:=R.aN))
 exact bodyPost_ret (v:=.tuple #[.agg #[.int .i64 k1,.int .i64 k2,.int .i64 k3,.int .i64 k4],.bool fr]) (by simp [results,Tryz.results85,go_sem, *]) rfl (⟨rfl,xN (xN (xN (xN B (by simp;omega) _) (by simp;omega) _) (by simp;omega) _) (by simp;omega) _⟩)
end
end Go.Proofs.YtggekfbfechonaaGreat
