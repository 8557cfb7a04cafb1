/-
  Joined texts: contracts and plain lemmas.
-/
import Derived.Test.YtgfkcoablfjbcaaGreatU1
import Derived.Test.YtgfkcoablfjbcaaGreatU12
import Derived.Test.YtgfkcoablfjbcaaGreatU9
import Derived.Test.YtgfkcoablfjbcaaGreatU5
set_option linter.unusedSimpArgs false
set_option linter.unusedVariables false
set_option maxRecDepth 100000
set_option maxHeartbeats 8000000
namespace Go.Proofs.YtgfkcoablfjbcaaGreat
section
open Go.RowKit
namespace M
abbrev Sp:=Option (Int × Int)
def yu (s:Sp):Int:=(s.getD (0,0)).1
def yx (s:Sp):Int:=(s.getD (0,0)).2
def mkS (l h:Int):Sp:=if aN l h=true then some (l,h) else none
def es (s t:Sp):Sp:=s.bind fun p=>t.bind fun q=>mkS (p.1+q.1) (p.2+q.2)
def cY (s t:Sp):Sp:=s.bind fun p=>t.bind fun q=>mkS (p.1 - q.2) (p.2 - q.1)
def fF (s t:Sp):Sp:=s.bind fun p=>t.bind fun q=>mkS (ch p.1 p.2 q.1 q.2 / 4096) (-(-cZ p.1 p.2 q.1 q.2 / 4096))
noncomputable def bj (a b X E:Int):Sp:=if AJ a b X E=true then some (bL a b X E (bN a b X E),bH a b X E (bN a b X E)) else none
def gd (f:Bool) (s:Sp):Sp:=if f=true then s else none
def AP (s:Sp):Prop:=∀ p,s=some p→aN p.1 p.2=true
theorem eP:AP none:=fun _ h=>by cases h
theorem ww (l h:Int):AP (mkS l h):=by
 intro p hp;unfold mkS at hp
 split at hp
 ·injection hp with hp;subst hp;assumption
 cases hp
theorem ie {f:Bool} {s:Sp} (h:AP s):AP (gd f s):=by
 unfold gd;split
 ·exact h
 exact eP
theorem ic {s t:Sp} {F G:Int × Int→Int × Int→Int}:AP (s.bind fun p=>t.bind fun q=>mkS (F p q) (G p q)):=by
 cases s
 ·exact eP
 cases t
 ·exact eP
 exact ww _ _
theorem qT {s t:Sp}:AP (es s t):=ic
theorem jT {s t:Sp}:AP (cY s t):=ic
theorem qU {s t:Sp}:AP (fF s t):=ic
theorem fP {s:Sp} (h:AP s):yu s≤yx s∧-409600000≤yu s∧yx s≤409600000:=by
 cases s with
 | none=>exact ⟨Int.le_refl _,by decide,by decide⟩
 | some p=>exact bw (h p rfl)
theorem qA {a b X E:Int} (hin:M.bD a b=true) (hX1:-10000≤X) (hX2:X≤10000) (hE1:0≤E) (hE2:E≤20) (h:AJ a b X E=true):aN (bL a b X E (bN a b X E)) (bH a b X E (bN a b X E))=true:=by
 cases hs:aN (bL a b X E (bN a b X E)) (bH a b X E (bN a b X E))
 ·rw [xX hin hX1 hX2 hE1 hE2 (yM _) hs] at h;cases h
 rfl
theorem eO {a b X E:Int} (hin:M.bD a b=true) (hX1:-10000≤X) (hX2:X≤10000) (hE1:0≤E) (hE2:E≤20):AP (bj a b X E):=by
 intro p hp;unfold bj at hp
 split at hp
 ·rename_i h
  injection hp with hp;subst hp;exact qA hin hX1 hX2 hE1 hE2 h
 cases hp
theorem step2 {ok:Bool} {s t:Sp} {F G:Int→Int→Int→Int→Int} (h1:ok=true→s.isSome=true) (h2:ok=true→t.isSome=true):(ok && aN (F (yu s) (yx s) (yu t) (yx t)) (G (yu s) (yx s) (yu t) (yx t)))=(gd ok (s.bind fun p=>t.bind fun q=>mkS (F p.1 p.2 q.1 q.2) (G p.1 p.2 q.1 q.2))).isSome∧pick (ok && aN (F (yu s) (yx s) (yu t) (yx t)) (G (yu s) (yx s) (yu t) (yx t))) (F (yu s) (yx s) (yu t) (yx t))=yu (gd ok (s.bind fun p=>t.bind fun q=>mkS (F p.1 p.2 q.1 q.2) (G p.1 p.2 q.1 q.2)))∧pick (ok && aN (F (yu s) (yx s) (yu t) (yx t)) (G (yu s) (yx s) (yu t) (yx t))) (G (yu s) (yx s) (yu t) (yx t))=yx (gd ok (s.bind fun p=>t.bind fun q=>mkS (F p.1 p.2 q.1 q.2) (G p.1 p.2 q.1 q.2))):=by
 cases ok with
 | false=>exact ⟨rfl,rfl,rfl⟩
 | true=>
 obtain ⟨p,rfl⟩:=Option.isSome_iff_exists.1 (h1 rfl);obtain ⟨q,rfl⟩:=Option.isSome_iff_exists.1 (h2 rfl)
 show (true && aN (F p.1 p.2 q.1 q.2) (G p.1 p.2 q.1 q.2))=(mkS (F p.1 p.2 q.1 q.2) (G p.1 p.2 q.1 q.2)).isSome∧pick (true && aN (F p.1 p.2 q.1 q.2) (G p.1 p.2 q.1 q.2)) (F p.1 p.2 q.1 q.2)=yu (mkS (F p.1 p.2 q.1 q.2) (G p.1 p.2 q.1 q.2))∧pick (true && aN (F p.1 p.2 q.1 q.2) (G p.1 p.2 q.1 q.2)) (G p.1 p.2 q.1 q.2)=yx (mkS (F p.1 p.2 q.1 q.2) (G p.1 p.2 q.1 q.2))
 unfold mkS
 cases aN (F p.1 p.2 q.1 q.2) (G p.1 p.2 q.1 q.2) <;> exact ⟨rfl,rfl,rfl⟩
end M
theorem tj (g:Nat) (ok:Bool) (a b c d:Int) (w:World) (K:aH w g 94 #[.bool ok]) (h1:-4000000000000000000≤a) (h2:a≤4000000000000000000) (h3:-4000000000000000000≤b) (h4:b≤4000000000000000000) (h5:-4000000000000000000≤c) (h6:c≤4000000000000000000) (h7:-4000000000000000000≤d) (h8:d≤4000000000000000000) :
  Calls Tryz.prog 81 #[.pointer (some ⟨g,0,none⟩),.agg #[.int .i64 a,.int .i64 b],.agg #[.int .i64 c,.int .i64 d]] w fun e w'=>e=.returned (.agg #[.int .i64 (M.pick (ok && M.aN (a+c) (b+d)) (a+c)),.int .i64 (M.pick (ok && M.aN (a+c) (b+d)) (b+d))])∧Below w.heap.size (w.setCell ⟨g,0,none⟩ (.bool (ok && M.aN (a+c) (b+d)))) w':=by
 have PP:=fun W=>xA a b c d W h1 h2 h3 h4 h5 h6 h7 h8
 have PK:=fun W (k:aH W g 94 #[.bool ok])=>mM g ok (a+c) (b+d) W k
 generalize (b+d)=hi,(a+c)=lo at *;generalize (ok && M.aN lo hi)=f at *;replace PP:=yI PP;replace PK:=yI PK;have hgl:=K.lt;have B:=(((yL w.heap.size w).alloc (yM _) (.cells #[.int .i64 a,.int .i64 b] 68)).alloc (by rw [yJ];omega) (.cells #[.int .i64 c,.int .i64 d] 68)).alloc (by rw [yJ,yJ];omega) (.cells #[.int .i64 0,.int .i64 0] 68);have S:=((aH.new w #[.int .i64 a,.int .i64 b] 68).alloc (.cells #[.int .i64 c,.int .i64 d] 68)).alloc (.cells #[.int .i64 0,.int .i64 0] 68);have T:=(aH.new (w.alloc (.cells #[.int .i64 a,.int .i64 b] 68)) #[.int .i64 c,.int .i64 d] 68).alloc (.cells #[.int .i64 0,.int .i64 0] 68);rw [yJ] at T;have R:=aH.new ((w.alloc (.cells #[.int .i64 a,.int .i64 b] 68)).alloc (.cells #[.int .i64 c,.int .i64 d] 68)) #[.int .i64 0,.int .i64 0] 68;rw [yJ,yJ] at R;have K2:=((K.alloc (.cells #[.int .i64 a,.int .i64 b] 68)).alloc (.cells #[.int .i64 c,.int .i64 d] 68)).alloc (.cells #[.int .i64 0,.int .i64 0] 68);generalize hw3:((w.alloc (.cells #[.int .i64 a,.int .i64 b] 68)).alloc (.cells #[.int .i64 c,.int .i64 d] 68)).alloc (.cells #[.int .i64 0,.int .i64 0] 68)=wc at *
 have n1:w.heap.size+1+1≠g:=by omega
 have ⟨s0,s1,_,_,_⟩:=S.box;have ⟨t0,t1,_,_,_⟩:=T.box;go_enter Tryz.func81,Tryz.ntmps81
 go_wp2_with first | (go_at_call 100;(with_reducible refine (PP.out _).mono ?_);rintro e w4 ⟨rfl,hb4⟩;replace B:=f_ B hb4;replace R:=R.keep hb4;replace K2:=K2.keep hb4) | (go_at_call 98;(with_reducible refine (PK.out _ K2).mono ?_);rintro e w5 ⟨rfl,hb5⟩;have hz:=B.size;replace B:=(de B ⟨g,0,none⟩ (.bool f)).trans (hb5.mono hz);replace R:=(R.other n1 (.bool f)).keep (bF hb5);(obtain ⟨r0,r1,r2,r3,r4⟩:=R.box))
 exact bodyPost_ret (v:=.agg #[.int .i64 (M.pick f lo),.int .i64 (M.pick f hi)]) (by simp [results,Tryz.results81,go_sem, *]) rfl (⟨rfl,yK (yK B (by simp;omega) _) (by simp;omega) _⟩)
theorem qP (g:Nat) (ok:Bool) (s t:M.Sp) (w:World) (K:aH w g 94 #[.bool ok]) (hs:M.AP s) (ht:M.AP t) (h1:ok=true→s.isSome=true) (h2:ok=true→t.isSome=true) :
  Calls Tryz.prog 81 #[.pointer (some ⟨g,0,none⟩),.agg #[.int .i64 (M.yu s),.int .i64 (M.yx s)],.agg #[.int .i64 (M.yu t),.int .i64 (M.yx t)]] w fun e w'=>e=.returned (.agg #[.int .i64 (M.yu (M.gd ok (M.es s t))),.int .i64 (M.yx (M.gd ok (M.es s t)))])∧Below w.heap.size (w.setCell ⟨g,0,none⟩ (.bool (M.gd ok (M.es s t)).isSome)) w':=by
 obtain ⟨e1,e2,e3⟩:=M.step2 (F:=fun a _ c _=>a+c) (G:=fun _ b _ d=>b+d) h1 h2;have b1:=M.fP hs;have b2:=M.fP ht;have h:=tj g ok (M.yu s) (M.yx s) (M.yu t) (M.yx t) w K (by omega) (by omega) (by omega) (by omega) (by omega) (by omega) (by omega) (by omega);rw [e2,e3,e1] at h;exact h
theorem rK (g:Nat) (ok:Bool) (a b c d:Int) (w:World) (K:aH w g 94 #[.bool ok]) (h1:-4000000000000000000≤a) (h2:a≤4000000000000000000) (h3:-4000000000000000000≤b) (h4:b≤4000000000000000000) (h5:-4000000000000000000≤c) (h6:c≤4000000000000000000) (h7:-4000000000000000000≤d) (h8:d≤4000000000000000000) :
  Calls Tryz.prog 82 #[.pointer (some ⟨g,0,none⟩),.agg #[.int .i64 a,.int .i64 b],.agg #[.int .i64 c,.int .i64 d]] w fun e w'=>e=.returned (.agg #[.int .i64 (M.pick (ok && M.aN (a - d) (b - c)) (a - d)),.int .i64 (M.pick (ok && M.aN (a - d) (b - c)) (b - c))])∧Below w.heap.size (w.setCell ⟨g,0,none⟩ (.bool (ok && M.aN (a - d) (b - c)))) w':=by
 have PP:=fun W=>vH a b c d W h1 h2 h3 h4 h5 h6 h7 h8
 have PK:=fun W (k:aH W g 94 #[.bool ok])=>mM g ok (a - d) (b - c) W k
 generalize (b - c)=hi,(a - d)=lo at *;generalize (ok && M.aN lo hi)=f at *;replace PP:=yI PP;replace PK:=yI PK;have hgl:=K.lt;have B:=(((yL w.heap.size w).alloc (yM _) (.cells #[.int .i64 a,.int .i64 b] 68)).alloc (by rw [yJ];omega) (.cells #[.int .i64 c,.int .i64 d] 68)).alloc (by rw [yJ,yJ];omega) (.cells #[.int .i64 0,.int .i64 0] 68);have S:=((aH.new w #[.int .i64 a,.int .i64 b] 68).alloc (.cells #[.int .i64 c,.int .i64 d] 68)).alloc (.cells #[.int .i64 0,.int .i64 0] 68);have T:=(aH.new (w.alloc (.cells #[.int .i64 a,.int .i64 b] 68)) #[.int .i64 c,.int .i64 d] 68).alloc (.cells #[.int .i64 0,.int .i64 0] 68);rw [yJ] at T;have R:=aH.new ((w.alloc (.cells #[.int .i64 a,.int .i64 b] 68)).alloc (.cells #[.int .i64 c,.int .i64 d] 68)) #[.int .i64 0,.int .i64 0] 68;rw [yJ,yJ] at R;have K2:=((K.alloc (.cells #[.int .i64 a,.int .i64 b] 68)).alloc (.cells #[.int .i64 c,.int .i64 d] 68)).alloc (.cells #[.int .i64 0,.int .i64 0] 68);generalize hw3:((w.alloc (.cells #[.int .i64 a,.int .i64 b] 68)).alloc (.cells #[.int .i64 c,.int .i64 d] 68)).alloc (.cells #[.int .i64 0,.int .i64 0] 68)=wc at *
 have n1:w.heap.size+1+1≠g:=by omega
 have ⟨s0,s1,_,_,_⟩:=S.box;have ⟨t0,t1,_,_,_⟩:=T.box;go_enter Tryz.func82,Tryz.ntmps82
 go_wp2_with first | (go_at_call 101;(with_reducible refine (PP.out _).mono ?_);rintro e w4 ⟨rfl,hb4⟩;replace B:=f_ B hb4;replace R:=R.keep hb4;replace K2:=K2.keep hb4) | (go_at_call 98;(with_reducible refine (PK.out _ K2).mono ?_);rintro e w5 ⟨rfl,hb5⟩;have hz:=B.size;replace B:=(de B ⟨g,0,none⟩ (.bool f)).trans (hb5.mono hz);replace R:=(R.other n1 (.bool f)).keep (bF hb5);(obtain ⟨r0,r1,r2,r3,r4⟩:=R.box))
 exact bodyPost_ret (v:=.agg #[.int .i64 (M.pick f lo),.int .i64 (M.pick f hi)]) (by simp [results,Tryz.results82,go_sem, *]) rfl (⟨rfl,yK (yK B (by simp;omega) _) (by simp;omega) _⟩)
theorem kJ (g:Nat) (ok:Bool) (s t:M.Sp) (w:World) (K:aH w g 94 #[.bool ok]) (hs:M.AP s) (ht:M.AP t) (h1:ok=true→s.isSome=true) (h2:ok=true→t.isSome=true) :
  Calls Tryz.prog 82 #[.pointer (some ⟨g,0,none⟩),.agg #[.int .i64 (M.yu s),.int .i64 (M.yx s)],.agg #[.int .i64 (M.yu t),.int .i64 (M.yx t)]] w fun e w'=>e=.returned (.agg #[.int .i64 (M.yu (M.gd ok (M.cY s t))),.int .i64 (M.yx (M.gd ok (M.cY s t)))])∧Below w.heap.size (w.setCell ⟨g,0,none⟩ (.bool (M.gd ok (M.cY s t)).isSome)) w':=by
 obtain ⟨e1,e2,e3⟩:=M.step2 (F:=fun a _ _ d=>a - d) (G:=fun _ b c _=>b - c) h1 h2;have b1:=M.fP hs;have b2:=M.fP ht;have h:=rK g ok (M.yu s) (M.yx s) (M.yu t) (M.yx t) w K (by omega) (by omega) (by omega) (by omega) (by omega) (by omega) (by omega) (by omega);rw [e2,e3,e1] at h;exact h
theorem rL (g:Nat) (ok:Bool) (a b c d:Int) (w:World) (K:aH w g 94 #[.bool ok]) (h1:-1000000000≤a) (h2:a≤1000000000) (h3:-1000000000≤b) (h4:b≤1000000000) (h5:-1000000000≤c) (h6:c≤1000000000) (h7:-1000000000≤d) (h8:d≤1000000000) :
  Calls Tryz.prog 80 #[.pointer (some ⟨g,0,none⟩),.agg #[.int .i64 a,.int .i64 b],.agg #[.int .i64 c,.int .i64 d]] w fun e w'=>e=.returned (.agg #[.int .i64 (M.pick (ok && M.aN (M.ch a b c d / 4096) (-(-M.cZ a b c d / 4096))) (M.ch a b c d / 4096)),.int .i64 (M.pick (ok && M.aN (M.ch a b c d / 4096) (-(-M.cZ a b c d / 4096))) (-(-M.cZ a b c d / 4096)))])∧Below w.heap.size (w.setCell ⟨g,0,none⟩ (.bool (ok && M.aN (M.ch a b c d / 4096) (-(-M.cZ a b c d / 4096))))) w':=by
 have PP:=fun W=>vZ a b c d W h1 h2 h3 h4 h5 h6 h7 h8
 have PK:=fun W (k:aH W g 94 #[.bool ok])=>mM g ok (M.ch a b c d / 4096) (-(-M.cZ a b c d / 4096)) W k
 generalize (-(-M.cZ a b c d / 4096))=hi,(M.ch a b c d / 4096)=lo at *;generalize (ok && M.aN lo hi)=f at *;replace PP:=yI PP;replace PK:=yI PK;have hgl:=K.lt;have B:=(((yL w.heap.size w).alloc (yM _) (.cells #[.int .i64 a,.int .i64 b] 68)).alloc (by rw [yJ];omega) (.cells #[.int .i64 c,.int .i64 d] 68)).alloc (by rw [yJ,yJ];omega) (.cells #[.int .i64 0,.int .i64 0] 68);have S:=((aH.new w #[.int .i64 a,.int .i64 b] 68).alloc (.cells #[.int .i64 c,.int .i64 d] 68)).alloc (.cells #[.int .i64 0,.int .i64 0] 68);have T:=(aH.new (w.alloc (.cells #[.int .i64 a,.int .i64 b] 68)) #[.int .i64 c,.int .i64 d] 68).alloc (.cells #[.int .i64 0,.int .i64 0] 68);rw [yJ] at T;have R:=aH.new ((w.alloc (.cells #[.int .i64 a,.int .i64 b] 68)).alloc (.cells #[.int .i64 c,.int .i64 d] 68)) #[.int .i64 0,.int .i64 0] 68;rw [yJ,yJ] at R;have K2:=((K.alloc (.cells #[.int .i64 a,.int .i64 b] 68)).alloc (.cells #[.int .i64 c,.int .i64 d] 68)).alloc (.cells #[.int .i64 0,.int .i64 0] 68);generalize hw3:((w.alloc (.cells #[.int .i64 a,.int .i64 b] 68)).alloc (.cells #[.int .i64 c,.int .i64 d] 68)).alloc (.cells #[.int .i64 0,.int .i64 0] 68)=wc at *
 have n1:w.heap.size+1+1≠g:=by omega
 have ⟨s0,s1,_,_,_⟩:=S.box;have ⟨t0,t1,_,_,_⟩:=T.box;go_enter Tryz.func80,Tryz.ntmps80
 go_wp2_with first | (go_at_call 99;(with_reducible refine (PP.out _).mono ?_);rintro e w4 ⟨rfl,hb4⟩;replace B:=f_ B hb4;replace R:=R.keep hb4;replace K2:=K2.keep hb4) | (go_at_call 98;(with_reducible refine (PK.out _ K2).mono ?_);rintro e w5 ⟨rfl,hb5⟩;have hz:=B.size;replace B:=(de B ⟨g,0,none⟩ (.bool f)).trans (hb5.mono hz);replace R:=(R.other n1 (.bool f)).keep (bF hb5);(obtain ⟨r0,r1,r2,r3,r4⟩:=R.box))
 exact bodyPost_ret (v:=.agg #[.int .i64 (M.pick f lo),.int .i64 (M.pick f hi)]) (by simp [results,Tryz.results80,go_sem, *]) rfl (⟨rfl,yK (yK B (by simp;omega) _) (by simp;omega) _⟩)
theorem tk (g:Nat) (ok:Bool) (s t:M.Sp) (w:World) (K:aH w g 94 #[.bool ok]) (hs:M.AP s) (ht:M.AP t) (h1:ok=true→s.isSome=true) (h2:ok=true→t.isSome=true) :
  Calls Tryz.prog 80 #[.pointer (some ⟨g,0,none⟩),.agg #[.int .i64 (M.yu s),.int .i64 (M.yx s)],.agg #[.int .i64 (M.yu t),.int .i64 (M.yx t)]] w fun e w'=>e=.returned (.agg #[.int .i64 (M.yu (M.gd ok (M.fF s t))),.int .i64 (M.yx (M.gd ok (M.fF s t)))])∧Below w.heap.size (w.setCell ⟨g,0,none⟩ (.bool (M.gd ok (M.fF s t)).isSome)) w':=by
 obtain ⟨e1,e2,e3⟩:=M.step2 (F:=fun a b c d=>M.ch a b c d / 4096) (G:=fun a b c d=>-(-M.cZ a b c d / 4096)) h1 h2;have b1:=M.fP hs;have b2:=M.fP ht;have h:=rL g ok (M.yu s) (M.yx s) (M.yu t) (M.yx t) w K (by omega) (by omega) (by omega) (by omega) (by omega) (by omega) (by omega) (by omega);rw [e2,e3,e1] at h;exact h
theorem jk {B g:Nat} {w W:World} {T:TypeId} {u v x y:Value} (h:Below B w W) (K:aH w g T #[u]) (K2:aH W g T #[v]):Below B (w.setCell ⟨g,0,none⟩ y) ((W.setCell ⟨g,0,none⟩ x).setCell ⟨g,0,none⟩ y):=
 ⟨h.os,h.tape,h.output,by rw [ae,ae,ae];exact h.size,fun k hk=>by
  by_cases hg:k=g
  ·subst hg
   exact ((K2.one x).one y).trans (K.one y).symm
  rw [Below.heap_setCell _ _ _ _ hg,Below.heap_setCell _ _ _ _ hg,Below.heap_setCell _ _ _ _ hg]
  exact h.block k hk⟩
theorem jO (g:Nat) (ok:Bool) (a b X Y E:Int) (w:World) (K:aH w g 94 #[.bool ok]) (hg:M.good a b=true) (hX1:-10000≤X) (hX2:X≤10000) (hE1:0≤E) (hE2:E≤20) :
  Calls Tryz.prog 95 #[.pointer (some ⟨g,0,none⟩),.agg #[.int .i64 a,.int .i64 b],.agg #[.int .i64 X,.int .i64 Y,.int .i64 E]] w fun e w'=>e=.returned (.agg #[.int .i64 (M.yu (M.gd ok (M.bj a b X E))),.int .i64 (M.yx (M.gd ok (M.bj a b X E)))])∧Below w.heap.size (w.setCell ⟨g,0,none⟩ (.bool (M.gd ok (M.bj a b X E)).isSome)) w':=by
 have PB:=fun W=>lw a b X Y E W hg hX1 hX2 hE1 hE2
 have JA:=fun h=>M.qA (a:=a) (b:=b) (X:=X) (E:=E) (M.bK hg) hX1 hX2 hE1 hE2 h
 have hv:Hid (M.bj a b X E=if M.AJ a b X E=true then some (M.bL a b X E (M.bN a b X E),M.bH a b X E (M.bN a b X E)) else none):=yI rfl;rw [hv.out];clear hv;generalize M.AJ a b X E=bo,M.bH a b X E (M.bN a b X E)=hi,M.bL a b X E (M.bN a b X E)=lo at *;generalize ((M.bN a b X E:Nat):Int)=bn at *
 have PK:=fun W (k:aH W g 94 #[.bool (ok && bo)])=>mM g (ok && bo) lo hi W k
 have e1:(ok && bo && M.aN lo hi)=(M.gd ok (if bo=true then some (lo,hi) else none)).isSome:=by
  cases ok <;> cases bo <;> first | rfl | (rw [JA rfl];rfl)
 have e2:M.pick (ok && bo && M.aN lo hi) lo=M.yu (M.gd ok (if bo=true then some (lo,hi) else none)):=by
  cases ok <;> cases bo <;> first | rfl | (rw [JA rfl];rfl)
 have e3:M.pick (ok && bo && M.aN lo hi) hi=M.yx (M.gd ok (if bo=true then some (lo,hi) else none)):=by
  cases ok <;> cases bo <;> first | rfl | (rw [JA rfl];rfl)
 rw [e2,e3,e1] at PK;clear e1 e2 e3 JA;generalize M.gd ok (if bo=true then some (lo,hi) else none)=r at *;replace PB:=yI PB;have hgl:=K.lt;have B:=(((yL w.heap.size w).alloc (yM _) (.cells #[.int .i64 a,.int .i64 b] 29)).alloc (by rw [yJ];omega) (.cells #[.int .i64 X,.int .i64 Y,.int .i64 E] 57)).alloc (by rw [yJ,yJ];omega) (.cells #[.int .i64 0,.int .i64 0] 68);have C:=((aH.new w #[.int .i64 a,.int .i64 b] 29).alloc (.cells #[.int .i64 X,.int .i64 Y,.int .i64 E] 57)).alloc (.cells #[.int .i64 0,.int .i64 0] 68);have Q:=(aH.new (w.alloc (.cells #[.int .i64 a,.int .i64 b] 29)) #[.int .i64 X,.int .i64 Y,.int .i64 E] 57).alloc (.cells #[.int .i64 0,.int .i64 0] 68);rw [yJ] at Q;have R:=aH.new ((w.alloc (.cells #[.int .i64 a,.int .i64 b] 29)).alloc (.cells #[.int .i64 X,.int .i64 Y,.int .i64 E] 57)) #[.int .i64 0,.int .i64 0] 68;rw [yJ,yJ] at R;have K2:=((K.alloc (.cells #[.int .i64 a,.int .i64 b] 29)).alloc (.cells #[.int .i64 X,.int .i64 Y,.int .i64 E] 57)).alloc (.cells #[.int .i64 0,.int .i64 0] 68);generalize hw3:((w.alloc (.cells #[.int .i64 a,.int .i64 b] 29)).alloc (.cells #[.int .i64 X,.int .i64 Y,.int .i64 E] 57)).alloc (.cells #[.int .i64 0,.int .i64 0] 68)=wc at *
 have n1:w.heap.size+1+1≠g:=by omega
 have j_:=C.box.c0;have l_:=C.box.c1;have ⟨q0,q1,q2⟩:=Q.aR
 have hgm:g≠w.heap.size+1+1:=fun e=>n1 e.symm
 cases ok
 ·replace PK:=yI (show ∀ W,aH W g 94 #[(.bool false)]→_ from PK)
  go_enter Tryz.func95,Tryz.ntmps95
  go_wp2_with first | (go_at_call 109;(with_reducible refine (PB.out _).mono ?_);rintro e w4 ⟨rfl,hb4⟩;replace B:=(f_ B hb4).alloc (Nat.le_trans B.size hb4.size) (.cells #[.int .i64 lo,.int .i64 hi] 68);replace R:=(R.keep hb4).alloc (.cells #[.int .i64 lo,.int .i64 hi] 68);replace K2:=K2.keep hb4;(have n3:w4.heap.size≠g:=by have:=K2.lt;omega);(have n4:g≠w4.heap.size:=fun e=>n3 e.symm);replace K2:=K2.alloc (.cells #[.int .i64 lo,.int .i64 hi] 68);have k0:=K2.cell 0;have kf:=K2.yV 0;have kl:=K2.lt;have V:=aH.new w4 #[.int .i64 lo,.int .i64 hi] 68;have v0:=V.cell 0;have v1:=V.cell 1;have V2:=V.other (i:=0) n3 (.bool false);have v2:=V2.cell 0;have v3:=V2.cell 1) | (go_at_call 98;(with_reducible refine (PK.out _ (K2.one (.bool false))).mono ?_);rintro e w5 ⟨rfl,hb5⟩;have hz:=B.size;replace R:=((R.other n1 (.bool false)).other n1 (.bool r.isSome)).keep (bF hb5);replace B:=(jk (x:=(.bool false)) (y:=.bool r.isSome) B K K2).trans (hb5.mono (by rw [ae];exact hz));(obtain ⟨r0,r1,r2,r3,r4⟩:=R.box))
  exact bodyPost_ret (v:=.agg #[.int .i64 (M.yu r),.int .i64 (M.yx r)]) (by simp [results,Tryz.results95,go_sem, *]) rfl (⟨rfl,yK (yK B (by simp;omega) _) (by simp;omega) _⟩)
 replace PK:=yI (show ∀ W,aH W g 94 #[(.bool bo)]→_ from PK);go_enter Tryz.func95,Tryz.ntmps95
 go_wp2_with first | (go_at_call 109;(with_reducible refine (PB.out _).mono ?_);rintro e w4 ⟨rfl,hb4⟩;replace B:=(f_ B hb4).alloc (Nat.le_trans B.size hb4.size) (.cells #[.int .i64 lo,.int .i64 hi] 68);replace R:=(R.keep hb4).alloc (.cells #[.int .i64 lo,.int .i64 hi] 68);replace K2:=K2.keep hb4;(have n3:w4.heap.size≠g:=by have:=K2.lt;omega);(have n4:g≠w4.heap.size:=fun e=>n3 e.symm);replace K2:=K2.alloc (.cells #[.int .i64 lo,.int .i64 hi] 68);have k0:=K2.cell 0;have kf:=K2.yV 0;have kl:=K2.lt;have V:=aH.new w4 #[.int .i64 lo,.int .i64 hi] 68;have v0:=V.cell 0;have v1:=V.cell 1;have V2:=V.other (i:=0) n3 (.bool bo);have v2:=V2.cell 0;have v3:=V2.cell 1) | (go_at_call 98;(with_reducible refine (PK.out _ (K2.one (.bool bo))).mono ?_);rintro e w5 ⟨rfl,hb5⟩;have hz:=B.size;replace R:=((R.other n1 (.bool bo)).other n1 (.bool r.isSome)).keep (bF hb5);replace B:=(jk (x:=(.bool bo)) (y:=.bool r.isSome) B K K2).trans (hb5.mono (by rw [ae];exact hz));(obtain ⟨r0,r1,r2,r3,r4⟩:=R.box))
 exact bodyPost_ret (v:=.agg #[.int .i64 (M.yu r),.int .i64 (M.yx r)]) (by simp [results,Tryz.results95,go_sem, *]) rfl (⟨rfl,yK (yK B (by simp;omega) _) (by simp;omega) _⟩)
namespace M
noncomputable def eW (a b X E:Int):Sp:=es (bj a b X E) (bj a b X E)
noncomputable def db (a b X1 Y1 E1 X2 Y2 E2:Int):Sp:=if er a X1 Y1 E1 X2 Y2 E2=true then cY (cY (bj a b (gZ a X1 Y1 E1 X2 Y2 E2) (gY a X1 Y1 E1 X2 Y2 E2)) (bj a b X1 E1)) (bj a b X2 E2) else none
theorem iU {f:Bool} {s:Sp} (h:(gd f s).isSome=true):f=true∧s.isSome=true∧gd f s=s:=by
 cases f
 ·cases h
 exact ⟨rfl,h,rfl⟩
theorem mH (s:Sp):gd true s=s:=rfl
theorem uu (s t:Sp):gd s.isSome (es s t)=es s t:=by cases s <;> rfl
end M
theorem ky (a b X Y E:Int) (w:World) (hg:M.good a b=true) (hX1:-10000≤X) (hX2:X≤10000) (hE1:0≤E) (hE2:E≤20) :
  Calls Tryz.prog 77 #[.agg #[.int .i64 a,.int .i64 b],.agg #[.int .i64 X,.int .i64 Y,.int .i64 E]] w fun e w'=>e=.returned (.tuple #[.agg #[.int .i64 (M.yu (M.eW a b X E)),.int .i64 (M.yx (M.eW a b X E))],.bool (M.eW a b X E).isSome])∧Below w.heap.size w w':=by
 have PB:=fun W K=>jO (w.heap.size+1+1+1) true a b X Y E W K hg hX1 hX2 hE1 hE2
 have hr:=M.eO (a:=a) (b:=b) (M.bK hg) hX1 hX2 hE1 hE2;have hv:M.eW a b X E=M.gd (M.bj a b X E).isSome (M.es (M.bj a b X E) (M.bj a b X E)):=(M.uu _ _).symm;rw [hv];clear hv;rw [M.mH] at PB;generalize M.bj a b X E=r at *
 have PP:=fun W K=>qP (w.heap.size+1+1+1) r.isSome r r W K hr hr (fun h=>h) (fun h=>h)
 generalize r.isSome=f,M.gd r.isSome (M.es r r)=q at *;generalize M.yx q=qh,M.yu q=ql,q.isSome=fq at *;have PB:=yI PB;have PP:=yI PP;obtain ⟨wc,hw3,C,Q,R,K,B⟩:=li w #[.int .i64 a,.int .i64 b] 29 #[.int .i64 X,.int .i64 Y,.int .i64 E] 57 #[.int .i64 0,.int .i64 0] 68 #[.bool true] 94;have j_:=C.box.c0;have l_:=C.box.c1;have ⟨q0,q1,q2⟩:=Q.aR;go_enter Tryz.func77,Tryz.ntmps77
 go_wp2_with first | (go_at_call 95;(with_reducible refine (PB.out _ K).mono ?_);rintro e w4 ⟨rfl,hb4⟩;have hb:=bF hb4;replace R:=(R.other (i:=0) (by omega) (.bool f)).keep hb;replace K:=(K.one (.bool f)).keep hb;replace B:=(yK B (by simp;omega) _).trans (hb4.mono B.size);clear hb hb4 j_ l_ q0 q1 q2 C Q;have V:=aH.new w4 #[.int .i64 (M.yu r),.int .i64 (M.yx r)] 68;have rl:=R.lt;have kl:=K.lt;(have n1:w.heap.size+1+1≠w4.heap.size:=by omega);(have n2:w.heap.size+1+1+1≠w4.heap.size:=by omega);have n3:=n1.symm;have n4:=n2.symm;replace B:=B.alloc B.size (.cells #[.int .i64 (M.yu r),.int .i64 (M.yx r)] 68);replace R:=R.alloc (.cells #[.int .i64 (M.yu r),.int .i64 (M.yx r)] 68);replace K:=K.alloc (.cells #[.int .i64 (M.yu r),.int .i64 (M.yx r)] 68);have v0:=V.cell 0;have v1:=V.cell 1) | (go_at_call 81;(with_reducible refine (PP.out _ K).mono ?_);rintro e w5 ⟨rfl,hb5⟩;have hb:=bF hb5;replace R:=(R.other (i:=0) (by omega) (.bool fq)).keep hb;replace V:=(V.other (i:=0) n4 (.bool fq)).keep hb;replace K:=(K.one (.bool fq)).keep hb;replace B:=(yK B (by simp;omega) _).trans (hb5.mono B.size);clear hb hb5 v0 v1;(have ⟨v0,v1,v2,v3,v4⟩:=V.box);have V5:=V.set2 (.int .i64 ql) (.int .i64 qh);have R5:=R.bg n1 (.int .i64 ql) (.int .i64 qh);have K5:=K.bg n2 (.int .i64 ql) (.int .i64 qh);have B5:=dL B (k:=w4.heap.size) (by omega) (.int .i64 ql) (.int .i64 qh);(have ⟨z0,z1,_,_,_⟩:=V5.box);(have ⟨r0,r1,r2,r3,r4⟩:=R5.box);have k0:=K5.cell 0)
 go_region
 all_goals
  go_wp2;exact bodyPost_ret (v:=.tuple #[.agg #[.int .i64 ql,.int .i64 qh],.bool fq]) (by simp [results,Tryz.results77,go_sem, *]) rfl (⟨rfl,Below.drew (yK (yK B5 (by simp;omega) _) (by simp;omega) _)⟩)
namespace M
noncomputable def zA (s:Sp):Int:=match s with | some p=>pn p.1 | none=>0
noncomputable def zB (s:Sp):Int:=match s with | some p=>pd p.1 | none=>0
noncomputable def zD (s:Sp):Int:=match s with | some p=>pn p.2 | none=>0
noncomputable def zH (s:Sp):Int:=match s with | some p=>pd p.2 | none=>0
theorem iY (l h:Int):(mkS l h).isSome=aN l h:=by
 unfold mkS
 cases aN l h <;> rfl
theorem pV (l h:Int):pick (aN l h) (pn l)=zA (mkS l h):=by
 unfold mkS
 cases aN l h <;> rfl
theorem pW (l h:Int):pick (aN l h) (pd l)=zB (mkS l h):=by
 unfold mkS
 cases aN l h <;> rfl
theorem pX (l h:Int):pick (aN l h) (pn h)=zD (mkS l h):=by
 unfold mkS
 cases aN l h <;> rfl
theorem pY (l h:Int):pick (aN l h) (pd h)=zH (mkS l h):=by
 unfold mkS
 cases aN l h <;> rfl
end M
theorem ft (a b X Y E:Int) (w:World) (hg:M.good a b=true) (hX1:-10000≤X) (hX2:X≤10000) (hE1:0≤E) (hE2:E≤20) :
  Calls Tryz.prog 87 #[.agg #[.int .i64 a,.int .i64 b],.agg #[.int .i64 X,.int .i64 Y,.int .i64 E]] w fun e w'=>e=.returned (.tuple #[.agg #[.int .i64 (M.zA (M.bj a b X E)),.int .i64 (M.zB (M.bj a b X E)),.int .i64 (M.zD (M.bj a b X E)),.int .i64 (M.zH (M.bj a b X E))],.bool (M.bj a b X E).isSome])∧Below w.heap.size w w':=by
 have h:=pM a b X Y E w hg hX1 hX2 hE1 hE2;unfold M.bj
 cases hb:M.AJ a b X E
 ·rw [hb] at h;exact h
 rw [hb] at h;exact h
theorem np (p q:Int × Int) (w:World) (hp:M.aN p.1 p.2=true) (hq:M.aN q.1 q.2=true) :
  Calls Tryz.prog 71 #[.agg #[.int .i64 (M.zA (some p)),.int .i64 (M.zB (some p)),.int .i64 (M.zD (some p)),.int .i64 (M.zH (some p))],.agg #[.int .i64 (M.zA (some q)),.int .i64 (M.zB (some q)),.int .i64 (M.zD (some q)),.int .i64 (M.zH (some q))]] w fun e w'=>e=.returned (.tuple #[.agg #[.int .i64 (M.zA (M.es (some p) (some q))),.int .i64 (M.zB (M.es (some p) (some q))),.int .i64 (M.zD (M.es (some p) (some q))),.int .i64 (M.zH (M.es (some p) (some q)))],.bool (M.es (some p) (some q)).isSome])∧Below w.heap.size w w':=by
 have h:=uz p.1 p.2 q.1 q.2 w hp hq;rw [M.pV,M.pW,M.pX,M.pY,←M.iY] at h;exact h
theorem ns (p q:Int × Int) (w:World) (hp:M.aN p.1 p.2=true) (hq:M.aN q.1 q.2=true) :
  Calls Tryz.prog 72 #[.agg #[.int .i64 (M.zA (some p)),.int .i64 (M.zB (some p)),.int .i64 (M.zD (some p)),.int .i64 (M.zH (some p))],.agg #[.int .i64 (M.zA (some q)),.int .i64 (M.zB (some q)),.int .i64 (M.zD (some q)),.int .i64 (M.zH (some q))]] w fun e w'=>e=.returned (.tuple #[.agg #[.int .i64 (M.zA (M.cY (some p) (some q))),.int .i64 (M.zB (M.cY (some p) (some q))),.int .i64 (M.zD (M.cY (some p) (some q))),.int .i64 (M.zH (M.cY (some p) (some q)))],.bool (M.cY (some p) (some q)).isSome])∧Below w.heap.size w w':=by
 have h:=vB p.1 p.2 q.1 q.2 w hp hq;rw [M.pV,M.pW,M.pX,M.pY,←M.iY] at h;exact h
theorem tg (p q:Int × Int) (w:World) (hp:M.aN p.1 p.2=true) (hq:M.aN q.1 q.2=true) :
  Calls Tryz.prog 70 #[.agg #[.int .i64 (M.zA (some p)),.int .i64 (M.zB (some p)),.int .i64 (M.zD (some p)),.int .i64 (M.zH (some p))],.agg #[.int .i64 (M.zA (some q)),.int .i64 (M.zB (some q)),.int .i64 (M.zD (some q)),.int .i64 (M.zH (some q))]] w fun e w'=>e=.returned (.tuple #[.agg #[.int .i64 (M.zA (M.fF (some p) (some q))),.int .i64 (M.zB (M.fF (some p) (some q))),.int .i64 (M.zD (M.fF (some p) (some q))),.int .i64 (M.zH (M.fF (some p) (some q)))],.bool (M.fF (some p) (some q)).isSome])∧Below w.heap.size w w':=by
 have h:=vA p.1 p.2 q.1 q.2 w hp hq;rw [M.pV,M.pW,M.pX,M.pY,←M.iY] at h;exact h
theorem tV (a b X Y E:Int) (w:World) (hg:M.good a b=true) (hX1:-10000≤X) (hX2:X≤10000) (hE1:0≤E) (hE2:E≤20) :
  Calls Tryz.prog 67 #[.agg #[.int .i64 a,.int .i64 b],.agg #[.int .i64 X,.int .i64 Y,.int .i64 E]] w fun e w'=>e=.returned (.tuple #[.agg #[.int .i64 (M.zA (M.eW a b X E)),.int .i64 (M.zB (M.eW a b X E)),.int .i64 (M.zD (M.eW a b X E)),.int .i64 (M.zH (M.eW a b X E))],.bool (M.eW a b X E).isSome])∧Below w.heap.size w w':=by
 have PH:=fun W=>ft a b X Y E W hg hX1 hX2 hE1 hE2
 have hr:=M.eO (a:=a) (b:=b) (M.bK hg) hX1 hX2 hE1 hE2;unfold M.eW;generalize M.bj a b X E=r at *;clear hg hX1 hX2 hE1 hE2
 cases r with
 | none=>
  have e1:=yI (show M.zA none=0∧M.zB none=0∧M.zD none=0∧M.zH none=0∧(none:M.Sp).isSome=false from ⟨rfl,rfl,rfl,rfl,rfl⟩);have e2:=yI (show M.es none none=none from rfl);rw [e2.out,e1.out.1,e1.out.2.1,e1.out.2.2.1,e1.out.2.2.2.1,e1.out.2.2.2.2];rw [e1.out.1,e1.out.2.1,e1.out.2.2.1,e1.out.2.2.2.1,e1.out.2.2.2.2] at PH;clear e1 e2;replace PH:=yI PH;obtain ⟨wc,hw3,C,Q,R,B⟩:=ou w #[.int .i64 a,.int .i64 b] 29 #[.int .i64 X,.int .i64 Y,.int .i64 E] 57 #[.int .i64 0,.int .i64 0,.int .i64 0,.int .i64 0] 64;have j_:=C.box.c0;have l_:=C.box.c1;have ⟨q0,q1,q2⟩:=Q.aR;go_enter Tryz.func67,Tryz.ntmps67
  go_wp2_with (go_at_call 87;(with_reducible refine (PH.out _).mono ?_);rintro e w4 ⟨rfl,hb4⟩;replace R:=(R.keep hb4).alloc (.cells #[.int .i64 0,.int .i64 0,.int .i64 0,.int .i64 0] 64);replace B:=(f_ B hb4).alloc (Nat.le_trans B.size hb4.size) (.cells #[.int .i64 0,.int .i64 0,.int .i64 0,.int .i64 0] 64);have V:=aH.new w4 #[.int .i64 0,.int .i64 0,.int .i64 0,.int .i64 0] 64;have n1:=R.lt;(have ⟨r0,r1,r2,r3,z0,z1,z2,z3,rl⟩:=R.aM);(have ⟨v0,v1,v2,v3,y0,y1,y2,y3,vl⟩:=V.aM))
  exact bodyPost_ret (v:=.tuple #[.agg #[.int .i64 0,.int .i64 0,.int .i64 0,.int .i64 0],.bool false]) (by simp [results,Tryz.results67,go_sem, *]) rfl (⟨rfl,yK (yK (yK (yK B (by simp;omega) _) (by simp;omega) _) (by simp;omega) _) (by simp;omega) _⟩)
 | some p=>
 have hp:=hr p rfl
 have PI:=fun W=>np p p W hp hp
 have e1:=yI (show (some p:M.Sp).isSome=true from rfl);rw [e1.out] at PH;clear e1 hr hp;generalize M.es (some p) (some p)=q,M.zH (some p)=i4,M.zD (some p)=i3,M.zB (some p)=i2,M.zA (some p)=i1 at *;generalize q.isSome=f,M.zH q=k4,M.zD q=k3,M.zB q=k2,M.zA q=k1 at *;replace PH:=yI PH;replace PI:=yI PI;obtain ⟨wc,hw3,C,Q,R,B⟩:=ou w #[.int .i64 a,.int .i64 b] 29 #[.int .i64 X,.int .i64 Y,.int .i64 E] 57 #[.int .i64 0,.int .i64 0,.int .i64 0,.int .i64 0] 64;have j_:=C.box.c0;have l_:=C.box.c1;have ⟨q0,q1,q2⟩:=Q.aR;go_enter Tryz.func67,Tryz.ntmps67
 go_wp2_with first | (go_at_call 87;(with_reducible refine (PH.out _).mono ?_);rintro e w4 ⟨rfl,hb4⟩;replace R:=(R.keep hb4).alloc (.cells #[.int .i64 i1,.int .i64 i2,.int .i64 i3,.int .i64 i4] 64);replace B:=(f_ B hb4).alloc (Nat.le_trans B.size hb4.size) (.cells #[.int .i64 i1,.int .i64 i2,.int .i64 i3,.int .i64 i4] 64);have V:=aH.new w4 #[.int .i64 i1,.int .i64 i2,.int .i64 i3,.int .i64 i4] 64;have n1:=R.lt;(have ⟨r0,r1,r2,r3,z0,z1,z2,z3,rl⟩:=R.aM);(have ⟨v0,v1,v2,v3,y0,y1,y2,y3,vl⟩:=V.aM)) | (go_at_call 71;(with_reducible refine (PI.out _).mono ?_);rintro e w5 ⟨rfl,hb5⟩;replace R:=R.keep hb5;replace B:=f_ B hb5;(have ⟨r0,r1,r2,r3,z0,z1,z2,z3,rl⟩:=R.aM))
 exact bodyPost_ret (v:=.tuple #[.agg #[.int .i64 k1,.int .i64 k2,.int .i64 k3,.int .i64 k4],.bool f]) (by simp [results,Tryz.results67,go_sem, *]) rfl (⟨rfl,yK (yK (yK (yK B (by simp;omega) _) (by simp;omega) _) (by simp;omega) _) (by simp;omega) _⟩)
end
section
open Go Go.RowKit
namespace Rg
variable {P:Program} {Q:Exit→Act→World→Prop}
def upd (l:Nat→Bool) (i:Nat):Nat→Bool:=fun j=>if j=i then true else l j
def cU (v:Nat→Value) (i:Nat) (u:Value):Nat→Value:=fun j=>if j=i then u else v j
def jY (md:Region.Mode) (ops:Array Oper) (l:Nat→Bool):Prop:=∀ i o,ops[i]?=some o→l i=true→∀ e ∈ o.after,Region.binds md e=true→l e.on=true
section
variable (P) (Q) (md:Region.Mode) (ops:Array Oper) (I:(Nat→Bool)→(Nat→Value)→World→Prop) (a0:Act)
def k9 (i:Nat) (o:Oper) (a:Act) (w:World) (l:Nat→Bool) (vals:Nat→Value):Prop:=
 if Region.wanted o (yielded ops a.tmps)=true then o.wp P a w (fun a' w'=>∃ v,a'=a.put o.dst v∧I (upd l i) (cU vals i v) w') Q else I (upd l i) (cU vals i undef) w
def xU (i:Nat) (o:Oper):Prop:=∀ (a:Act) (w:World) (l:Nat→Bool) (vals:Nat→Value),I l vals w→l i=false→jY md ops l→(∀ e ∈ o.after,Region.binds md e=true→l e.on=true)→(∀ t ∈ o.looksAt ops,a.tmps[t]?=rd md ops a0 vals o t)→k9 P Q ops I i o a w l vals
def gQ:List Oper→Nat→Prop
 | [],_=>True
 | o :: os,k=>xU P Q md ops I a0 k o∧gQ os (k+1)
theorem gQ.at {os:List Oper} {k:Nat} (h:gQ P Q md ops I a0 os k):∀ {i:Nat} {o:Oper},os[i]?=some o→xU P Q md ops I a0 (k+i) o:=by
 induction os generalizing k with
 | nil=>intro i o hi;simp at hi
 | cons x os ih=>
 intro i o hi
 cases i with
 | zero=>
  simp only [List.getElem?_cons_zero,Option.some.injEq] at hi;subst hi;exact h.1
 | succ i=>
 have:=ih h.2 (i:=i) (o:=o) (by simpa using hi);rw [show k+(i+1)=k+1+i from by omega];exact this
def xQ (L:Array Bool) (a:Act) (w:World):Prop:=
 L.size=ops.size∧jY md ops (fun j=>L.getD j false)∧
 ∃ vals:Nat→Value,I (fun j=>L.getD j false) vals w∧a=fill (fun j=>L.getD j false) vals ops.toList 0 a0
end
theorem vg {md:Region.Mode} {ops:Array Oper} {I:(Nat→Bool)→(Nat→Value)→World→Prop} {a0:Act} (hok:eN md ops a0.tmps.size=true)
  (hR:gQ P Q md ops I a0 ops.toList 0) (hF:∀ (l:Nat→Bool) (vals:Nat→Value) (w:World),(∀ i,i<ops.size→l i=true)→I l vals w→Q .normal (fill (fun _=>true) vals ops.toList 0 a0) w) :
  ∀ (fuel:Nat) (L:Array Bool) (a:Act) (w:World),left (fun j=>L.getD j false) ops.size≤fuel→xQ md ops I a0 L a w→wpAny P md ops Q fuel L a w:=by
 rw [eN,Bool.and_eq_true,Bool.and_eq_true] at hok;obtain ⟨⟨hap,hrd⟩,hac⟩:=hok
 have Au:∀ i o,ops[i]?=some o→(∀ e ∈ o.after,Region.binds md e=true→e.on<i)∧∀ d,o.dst=some d→d<a0.tmps.size:=fun i o hi=>by
  have hlt:i<ops.size:=(Array.getElem?_eq_some_iff.1 hi).1;have:=List.all_eq_true.1 hac i (List.mem_range.2 hlt);rw [hi] at this;simp only [Bool.and_eq_true,List.all_eq_true,Bool.or_eq_true,Bool.not_eq_true',decide_eq_true_eq] at this;refine ⟨fun e he hb=>?_,fun d hd=>?_⟩
  ·rcases this.1 e (Array.mem_toList_iff.2 he) with q | q
   ·rw [hb] at q;cases q
   exact q
  have:=this.2;rw [hd] at this
  simpa using this
 have htl:∀ i,ops.toList[i]?=ops[i]?:=fun i=>Array.getElem?_toList
 have hall:∀ L:Array Bool,L.size=ops.size→Region.ready md ops L=[]→∀ i,i<ops.size→L.getD i false=true:=by
  intro L hL hr i
  induction i using Nat.strongRecOn with
  | ind i ih=>
  intro hi
  cases hl:L.getD i false
  ·exfalso
   have hm:i ∈ Region.ready md ops L:=by
    unfold Region.ready;rw [List.mem_filter];refine ⟨List.mem_range.2 hi,?_⟩
    have hg:L.getD i true=false:=by
     rw [Array.getD_eq_getD_getElem?,Array.getElem?_eq_getElem (by omega)] at hl ⊢;exact hl
    rw [hg,Array.getElem?_eq_getElem hi];simp only [Bool.not_false,Bool.true_and,Option.map_some,Option.getD_some];rw [Array.all_eq_true_iff_forall_mem];intro e he
    cases hb:Region.binds md e
    ·rfl
    have hlt:=(Au i _ (Array.getElem?_eq_getElem hi)).1 e he hb;simp [ih e.on hlt (by omega)]
   rw [hr] at hm;cases hm
  rfl
 have hfin:∀ (L:Array Bool) (a:Act) (w:World),xQ md ops I a0 L a w→Region.ready md ops L=[]→Q .normal a w:=by
  rintro L a w ⟨hL,-,vals,hS,rfl⟩ hr;have h:=hall L hL hr;rw [cI (l':=fun _=>true) (v':=vals) ops.toList 0 a0 (fun j _ hj=>h j (by simpa using hj)) (fun _ _ _=>rfl)];exact hF _ vals w h hS
 intro fuel
 induction fuel with
 | zero=>
  intro L a w hl hI;have hz:=gJ _ (Nat.le_zero.1 hl)
  have hr:Region.ready md ops L=[]:=by
   unfold Region.ready;rw [List.filter_eq_nil_iff];intro i hi;have hi:=List.mem_range.1 hi;have h1:=hz i hi
   have hg:L.getD i true=true:=by
    have hsz:=hI.1;simp only [Array.getD_eq_getD_getElem?] at h1 ⊢;rw [Array.getElem?_eq_getElem (by omega)] at h1 ⊢;exact h1
   rw [hg];simp
  exact ⟨hr,hfin L a w hI hr⟩
 | succ fuel ih=>
 intro L a w hl hI;refine ⟨hfin L a w hI,fun i hi=>?_⟩;obtain ⟨hL,hdc,vals,hS,rfl⟩:=hI;obtain ⟨hun,o,ho,Cq⟩:=mem_ready.1 hi;have hilt:i<ops.size:=(Array.getElem?_eq_some_iff.1 ho).1
 have hun':L.getD i false=false:=by
  simp only [Array.getD_eq_getD_getElem?] at hun ⊢;rw [Array.getElem?_eq_getElem (by omega)] at hun ⊢;exact hun
 have hq:=gQ.at P Q md ops I a0 hR (i:=i) (o:=o) (by rw [htl];exact ho);rw [Nat.zero_add] at hq
 have hst:=hq (fill (fun j=>L.getD j false) vals ops.toList 0 a0) w (fun j=>L.getD j false) vals hS hun' hdc
  (fun e he hb=>Cq e he hb)
  (fun t ht=>by
   unfold rd
   have hr1:gq md ops i o t=true:=by
    have:=List.all_eq_true.1 hrd i (List.mem_range.2 hilt);rw [ho] at this;exact List.all_eq_true.1 this t ht
   cases hf:o.after.toList.find? (fun e=>Region.binds md e && ((ops[e.on]?).bind (·.dst)) == some t) with
   | some e=>
    have h1:=List.find?_some hf;have h2:=List.mem_of_find?_eq_some hf;rw [Bool.and_eq_true,beq_iff_eq] at h1;obtain ⟨x,hx,hxd⟩:=Option.bind_eq_some_iff.1 h1.2;have h3:=Cq e (Array.mem_toList_iff.1 h2) h1.1;have:=jL (l:=fun j=>L.getD j false) (v:=vals) ops.toList 0 e.on x a0 hap (by rw [htl];exact hx) (by simpa using h3) hxd ((Au e.on x hx).2 t hxd);rw [Nat.zero_add] at this;exact this
   | none=>
   refine eK ops.toList 0 a0 fun j x hx hlj hxd=>?_
   rw [Nat.zero_add] at hlj;rw [htl] at hx;have hjlt:j<ops.size:=(Array.getElem?_eq_some_iff.1 hx).1;rw [gq,Bool.or_eq_true] at hr1
   rcases hr1 with q | q
   ·obtain ⟨e,he,hp⟩:=List.any_eq_true.1 q
    have:=List.find?_eq_none.1 hf e he;exact this hp
   have:=List.all_eq_true.1 q j (List.mem_range.2 hjlt);rw [hx] at this;simp only [Bool.or_eq_true,bne_iff_ne,ne_eq,beq_iff_eq,List.any_eq_true,Bool.and_eq_true] at this
   rcases this with (q1 | q1) | ⟨e,he,hb,hon⟩
   ·exact q1 hxd
   ·subst q1
    rw [hun'] at hlj;cases hlj
   have:L.getD e.on false=true:=hdc j x hx hlj e (Array.mem_toList_iff.1 he) hb;rw [hon,hun'] at this
   cases this)
 have hnext:∀ (v:Value) (w':World),I (upd (fun j=>L.getD j false) i) (cU vals i v) w'→wpAny P md ops Q fuel (L.setIfInBounds i true) ((fill (fun j=>L.getD j false) vals ops.toList 0 a0).put o.dst v) w':=by
  intro v w' h2
  have e1:∀ j,(L.setIfInBounds i true).getD j false=if j=i then true else L.getD j false:=fun j=>by
   simp only [Array.getD_eq_getD_getElem?]
   by_cases hji:j=i
   ·subst hji
    rw [Array.getElem?_setIfInBounds_self_of_lt (by omega)];simp
   rw [Array.getElem?_setIfInBounds_ne (fun e=>hji e.symm),if_neg hji]
  have e2:(fun j=>(L.setIfInBounds i true).getD j false)=upd (fun j=>L.getD j false) i:=funext e1;refine ih _ _ _ ?_ ⟨by simpa using hL,?_,cU vals i v,by rw [e2];exact h2,?_⟩
  ·have:=iE (l:=fun j=>L.getD j false) (l':=fun j=>(L.setIfInBounds i true).getD j false) hun' (by rw [e1,if_pos rfl]) (fun j hj=>by rw [e1,if_neg hj]) ops.size hilt
   omega
  ·intro j x hx hlj e he hb
   show (L.setIfInBounds i true).getD e.on false=true
   replace hlj:(L.setIfInBounds i true).getD j false=true:=hlj;rw [e1] at hlj ⊢
   split
   ·rfl
   split at hlj
   ·rename_i hji
    subst hji;rw [ho] at hx;cases hx
    exact Cq e he hb
   exact hdc j x hx hlj e he hb
  rw [iB ops.toList 0 i o a0 hap (by rw [htl];exact ho) (by simpa using hun')];rw [Nat.zero_add];exact cI _ _ _ (fun j _ _=>(e1 j).symm) (fun _ _ _=>rfl)
 unfold wpOp;rw [ho];unfold k9 at hst
 dsimp only
 split at hst
 ·rename_i hw
  rw [if_pos hw];refine Or.inl (Oper.wp_mono ?_ hst);rintro a' w' ⟨v,rfl,h2⟩;exact hnext v w' h2
 rename_i hw
 rw [if_neg hw];exact hnext undef w hst
theorem jU {id:Nat} {ops:Array Oper} {a0:Act} {w:World} (I:(Nat→Bool)→(Nat→Value)→World→Prop) (hm:P.follows .mixedOrders=true) (hok:eN .any ops a0.tmps.size=true)
  (hS:∀ vals,I (fun _=>false) vals { w with drawn:=w.drawn+1 }) (hR:gQ P Q .any ops I a0 ops.toList 0)
  (hF:∀ (l:Nat→Bool) (vals:Nat→Value) (w:World),(∀ i,i<ops.size→l i=true)→I l vals w→Q .normal (fill (fun _=>true) vals ops.toList 0 a0) w):(Code.region id ops true).wp P Q a0 w:=by
 have rep:∀ j,(Array.replicate ops.size false).getD j false=false:=fun j=>by
  rw [Array.getD_eq_getD_getElem?,Array.getElem?_replicate]
  split <;> rfl
 refine wp_region_any hm (vg hok hR hF _ _ _ _ ?_ ⟨by simp,?_,fun _=>undef,?_,?_⟩)
 ·have:∀ (l:Nat→Bool) n,left l n≤n:=fun l n=>by
   induction n with
   | zero=>exact yM _
   | succ n ih=>unfold left;split <;> omega
  exact this _ _
 ·intro i o hi hl
  replace hl:(Array.replicate ops.size false).getD i false=true:=hl;rw [rep] at hl;cases hl
 ·rw [show (fun j=>(Array.replicate ops.size false).getD j false)=fun _=>false from funext rep]
  exact hS _
 have:∀ (v:Nat→Value) (os:List Oper) (k:Nat) (a:Act),fill (fun _=>false) v os k a=a:=fun v os=>by
  induction os with
  | nil=>intro k a;rfl
  | cons x os ih=>intro k a;unfold fill;simp [ih]
 exact (this _ ops.toList 0 a0).symm.trans (cI _ _ _ (fun j _ hj=>(rep j).symm) (fun _ _ _=>rfl))
end Rg
namespace Rg
variable {P:Program} {Q:Exit→Act→World→Prop}
def cnt (l:Nat→Bool):List Nat→Nat
 | []=>0
 | c :: cs=>if l c=true then cnt l cs+1 else 0
def iR (ops:Array Oper) (c d:Nat):Bool:=match ops[d]? with
 | some o=>o.after.toList.any (fun e=>Region.binds .any e && e.on == c)
 | none=>false
def dP (ops:Array Oper):List Nat→Bool
 | c :: d :: cs=>iR ops c d && decide (c<d) && dP ops (d :: cs)
 | _=>true
theorem dO {ops:Array Oper} {l:Nat→Bool} {c d:Nat} (hc:jY .any ops l) (he:iR ops c d=true) (hd:l d=true):l c=true:=by
 unfold iR at he
 split at he
 ·rename_i o ho
  obtain ⟨e,h1,h2⟩:=List.any_eq_true.1 he;rw [Bool.and_eq_true,beq_iff_eq] at h2;have:=hc d o ho hd e (Array.mem_toList_iff.1 h1) h2.1;rw [h2.2] at this;exact this
 cases he
theorem ew {ops:Array Oper} {l:Nat→Bool} {c d:Nat} {o:Oper} (ho:ops[d]?=some o) (zu:∀ e ∈ o.after,Region.binds .any e=true→l e.on=true) (he:iR ops c d=true):l c=true:=by
 unfold iR at he;rw [ho] at he;obtain ⟨e,h1,h2⟩:=List.any_eq_true.1 he;rw [Bool.and_eq_true,beq_iff_eq] at h2;have:=zu e (Array.mem_toList_iff.1 h1) h2.1;rw [h2.2] at this;exact this
theorem fL {l:Nat→Bool} {k:Nat}:∀ C:List Nat,k ∉ C→cnt (upd l k) C=cnt l C
 | [],_=>rfl
 | c :: cs,h=>by
  have h1:c≠k:=fun e=>h (by rw [e];exact List.mem_cons_self ..)
  have e:upd l k c=l c:=if_neg h1;unfold cnt;rw [e,fL cs (fun hk=>h (List.mem_cons_of_mem _ hk))]
theorem g5 {ops:Array Oper} {l:Nat→Bool} {k:Nat} (hc:jY .any ops l) (hk:l k=false) (zu:∀ c,iR ops c k=true→l c=true):∀ C:List Nat,dP ops C=true→k ∈ C→cnt l C=C.idxOf k∧cnt (upd l k) C=C.idxOf k+1
 | [],_,h=>by cases h
 | [c],_,h=>by
  rcases List.mem_cons.1 h with rfl | h
  ·have e:upd l k k=true:=if_pos rfl
   unfold cnt cnt;rw [hk,e];simp
  cases h
 | c :: d :: cs,ho,h=>by
  unfold dP at ho;rw [Bool.and_eq_true,Bool.and_eq_true,decide_eq_true_eq] at ho;obtain ⟨⟨he,hlt⟩,ho⟩:=ho
  by_cases hkc:k=c
  ·subst hkc
   have e:upd l k k=true:=if_pos rfl
   have hd:l d=false:=by
    cases hd:l d
    ·rfl
    rw [dO hc he hd] at hk;cases hk
   have e2:upd l k d=false:=(if_neg (by omega)).trans hd
   have i0:(k :: d :: cs).idxOf k=0:=by simp
   rw [i0];unfold cnt;rw [hk,e];unfold cnt;rw [e2];simp
  have hm:k ∈ d :: cs:=(List.mem_cons.1 h).resolve_left hkc;obtain ⟨h1,h2⟩:=g5 hc hk zu (d :: cs) ho hm
  have hlc:l c=true:=by
   by_cases hkd:k=d
   ·subst hkd;exact zu c he
   have:l d=true:=by
    cases hd:l d
    ·exfalso
     have z:cnt l (d :: cs)=0:=by unfold cnt;rw [hd];rfl
     have:(d :: cs).idxOf k≠0:=by
      rw [List.idxOf_cons]
      have:(d == k)=false:=by rw [beq_eq_false_iff_ne];exact fun e=>hkd e.symm
      rw [this];simp
     omega
    rfl
   exact dO hc he this
  have e:upd l k c=l c:=if_neg (fun e=>hkc e.symm)
  have i0:(c :: d :: cs).idxOf k=(d :: cs).idxOf k+1:=by
   rw [List.idxOf_cons]
   have:(c == k)=false:=by rw [beq_eq_false_iff_ne];exact fun e=>hkc e.symm
   rw [this];rfl
  rw [i0];unfold cnt;rw [e,hlc,if_pos rfl,if_pos rfl,h1,h2];exact ⟨rfl,rfl⟩
theorem fJ {g:Nat} {w1 w w':World} {Tb:TypeId} {x u v y:Value} (h:Below w1.heap.size (w1.setCell ⟨g,0,none⟩ x) w) (K1:aH w1 g Tb #[u]) (K:aH w g Tb #[v]) (hb:Below w.heap.size (w.setCell ⟨g,0,none⟩ y) w'):Below w1.heap.size (w1.setCell ⟨g,0,none⟩ y) w':=by
 have hs:w1.heap.size≤w.heap.size:=by have:=h.size;rw [ae] at this;exact this
 refine ⟨hb.os.trans h.os,hb.tape.trans h.tape,hb.output.trans h.output,?_,fun k hk=>?_⟩
 ·rw [ae]
  have:=hb.size;rw [ae] at this;omega
 rw [hb.block k (by omega)]
 by_cases hg:k=g
 ·subst hg
  exact (K.one y).trans (K1.one y).symm
 rw [Below.heap_setCell _ _ _ _ hg,h.block k hk,Below.heap_setCell _ _ _ _ hg,Below.heap_setCell _ _ _ _ hg]
theorem eF {g:Nat} {w w':World} {Tb:TypeId} {v:Value} (K:aH w g Tb #[v]) (hb:Below w.heap.size w w'):Below w.heap.size (w.setCell ⟨g,0,none⟩ v) w':=by
 refine ⟨hb.os,hb.tape,hb.output,by rw [ae];exact hb.size,fun k hk=>?_⟩;rw [hb.block k hk]
 by_cases hg:k=g
 ·subst hg;exact K.trans (K.one v).symm
 rw [Below.heap_setCell _ _ _ _ hg]
section
variable (P) (Q) (ops:Array Oper) (a0:Act) (T:List Val) (w1:World) (g:Nat) (Tb:TypeId) (F:Nat→Value) (C:List Nat) (ka ks:Nat) (Tn:TypeId) (xs ys:Array Value)
def Held (w:World):Prop:=w1.heap.size≤w.heap.size∧∀ (b:Nat) (U:TypeId) (zs:Array Value),b≠g→aH w1 b U zs→aH w b U zs
def pv (h:Nat) (o:Oper) (a:Act) (w:World) (t:Nat):Prop:=
 match o.after.toList.find? (fun e=>Region.binds .any e && ((ops[e.on]?).bind (·.dst)) == some t) with
 | some e=>if e.on=ka then a.tmps[t]?=some (.pointer (some ⟨h,0,none⟩)) else if e.on=ks then True else ∃ v,a.tmps[t]?=some v∧(AE T e.on).ok v w
 | none=>a.tmps[t]?=a0.tmps[t]?
def jf (o:Oper) (a:Act) (w:World) (t:Nat):Prop:=
 match o.after.toList.find? (fun e=>Region.binds .any e && ((ops[e.on]?).bind (·.dst)) == some t) with
 | some e=>if e.on=ka then True else if e.on=ks then True else ∃ v,a.tmps[t]?=some v∧(AE T e.on).ok v w
 | none=>a.tmps[t]?=a0.tmps[t]?
def be (k:Nat) (o:Oper):Prop:=
 if k=ka then ∀ (a:Act) (w:World),Region.wanted o (yielded ops a.tmps)=true∧o.wp P a w (fun a' w'=>a'=a.put o.dst (.pointer (some ⟨w.heap.size,0,none⟩))∧w'=w.alloc (.cells xs Tn)) Q
 else if k=ks then ∀ (a:Act) (w:World) (h:Nat),w1.heap.size≤h→aH w h Tn xs→(∀ t ∈ o.looksAt ops,pv ops a0 T ka ks h o a w t)→Region.wanted o (yielded ops a.tmps)=true∧o.wp P a w (fun a' w'=>(∃ v,a'=a.put o.dst v)∧aH w' h Tn ys∧Below w1.heap.size w w') Q
 else if k ∈ C then ∀ (a:Act) (w:World),aH w g Tb #[F (C.idxOf k)]→Held w1 g w→(∀ t ∈ o.looksAt ops,jf ops a0 T ka ks o a w t)→Region.wanted o (yielded ops a.tmps)=true∧o.wp P a w (fun a' w'=>∃ v,a'=a.put o.dst v∧(AE T k).ok v w'∧Below w.heap.size (w.setCell ⟨g,0,none⟩ (F (C.idxOf k+1))) w') Q
 else ∀ (a:Act) (w:World),Held w1 g w→(∀ t ∈ o.looksAt ops,jf ops a0 T ka ks o a w t)→Does P ops Q (AE T k) o a w
def sP:List Oper→Nat→Prop
 | [],_=>True
 | o :: os,k=>be P Q ops a0 T w1 g Tb F C ka ks Tn xs ys k o∧sP os (k+1)
def wO (l:Nat→Bool) (vals:Nat→Value) (w:World):Prop:=
 Below w1.heap.size (w1.setCell ⟨g,0,none⟩ (F (cnt l C))) w∧(∀ i,i≠ka→i≠ks→l i=true→(AE T i).ok (vals i) w)∧(l ka=true→∃ h,w1.heap.size≤h∧vals ka=.pointer (some ⟨h,0,none⟩)∧aH w h Tn (if l ks=true then ys else xs))
end
theorem uJ {ops:Array Oper} {a0:Act} {T:List Val} {w1:World} {g:Nat} {Tb:TypeId} {F:Nat→Value} {C:List Nat} {ka ks:Nat} {Tn:TypeId} {xs ys:Array Value}
  (K1:aH w1 g Tb #[F 0]) (hp:∀ j,j≠ka→j≠ks→(AE T j).pure=true) (hC:dP ops C=true) (hka:ka ∉ C) (hks:ks ∉ C) (hne:ka≠ks) (hE:iR ops ka ks=true) :
  ∀ (os:List Oper) (k:Nat),(∀ i,os[i]?=ops[k+i]?)→sP P Q ops a0 T w1 g Tb F C ka ks Tn xs ys os k→gQ P Q .any ops (wO T w1 g F C ka ks Tn xs ys) a0 os k
 | [],_,_,_=>trivial
 | o :: os,k,hos,h=>by
  refine ⟨fun a w l vals hI hl hc zu hr=>?_,uJ K1 hp hC hka hks hne hE os (k+1) (fun i=>by rw [show k+1+i=k+(i+1) by omega,←hos (i+1)];rfl) h.2⟩;obtain ⟨hB,hv,hn⟩:=hI;have ho:ops[k]?=some o:=(hos 0).symm;have hgl:g<w1.heap.size:=K1.lt
  have hsz:w1.heap.size≤w.heap.size:=by have:=hB.size;rw [ae] at this;exact this
  have K:aH w g Tb #[F (cnt l C)]:=(K1.one (F (cnt l C))).keep (bF hB)
  have hH:Held w1 g w:=⟨hsz,fun b U zs hb hz=>(hz.other hb _).keep (bF hB)⟩
  have hQ:∀ t ∈ o.looksAt ops,jf ops a0 T ka ks o a w t:=fun t ht=>by
   have:=hr t ht;unfold rd at this;unfold jf
   split
   ·rename_i e he
    rw [he] at this;have h2:=List.find?_some he;rw [Bool.and_eq_true] at h2
    split
    ·trivial
    split
    ·trivial
    rename_i n1 n2
    exact ⟨_,this,hv _ n1 n2 (zu e (Array.mem_toList_iff.1 (List.mem_of_find?_eq_some he)) h2.1)⟩
   rename_i he
   rw [he] at this;exact this
  have hko:∀ j,j≠k→upd l k j=l j:=fun j hj=>if_neg hj
  have hkk:upd l k k=true:=if_pos rfl;have h1:=h.1;unfold be at h1;unfold k9
  by_cases e1:k=ka
  ·rw [if_pos e1] at h1
   obtain ⟨hw,hwp⟩:=h1 a w;rw [if_pos hw];refine Oper.wp_mono ?_ hwp;rintro a' w' ⟨rfl,rfl⟩;subst e1
   have hls:l ks=false:=by
    cases q:l ks
    ·rfl
    rw [dO hc hE q] at hl;cases hl
   refine ⟨_,rfl,?_,?_,fun _=>⟨w.heap.size,hsz,if_pos rfl,?_⟩⟩
   ·rw [fL C hka]
    exact hB.alloc hsz _
   ·intro i n1 n2 hi
    rw [hko i n1] at hi;have:cU vals k (.pointer (some ⟨w.heap.size,0,none⟩)) i=vals i:=if_neg n1;rw [this];exact Val.df (hp i n1 n2) (hv i n1 n2 hi)
   rw [hko ks (fun e=>hne e.symm),hls];exact aH.new w xs Tn
  rw [if_neg e1] at h1
  by_cases e2:k=ks
  ·rw [if_pos e2] at h1
   subst e2;obtain ⟨hh,Av,Ao,hh3⟩:=hn (ew ho zu hE);rw [hl] at hh3
   obtain ⟨hw,hwp⟩:=h1 a w hh Av hh3 (fun t ht=>by
    have:=hr t ht;unfold rd at this;unfold pv
    split
    ·rename_i e he
     rw [he] at this;have h2:=List.find?_some he;rw [Bool.and_eq_true] at h2
     split
     ·rename_i q
      replace this:a.tmps[t]?=some (vals e.on):=this;rw [q,Ao] at this;exact this
     split
     ·trivial
     rename_i n1 n2
     exact ⟨_,this,hv _ n1 n2 (zu e (Array.mem_toList_iff.1 (List.mem_of_find?_eq_some he)) h2.1)⟩
    rename_i he
    rw [he] at this
    exact this)
   rw [if_pos hw];refine Oper.wp_mono ?_ hwp;rintro a' w' ⟨⟨v,e⟩,h2,h3⟩;refine ⟨v,e,?_,?_,fun _=>⟨hh,Av,?_,?_⟩⟩
   ·rw [fL C hks]
    exact hB.trans h3
   ·intro i n1 n2 hi
    rw [hko i n2] at hi;have:cU vals k v i=vals i:=if_neg n2;rw [this];exact Val.df (hp i n1 n2) (hv i n1 n2 hi)
   ·have:cU vals k v ka=vals ka:=if_neg hne
    rw [this];exact Ao
   rw [hkk];exact h2
  rw [if_neg e2] at h1
  have rest:∀ (v:Value) (w':World) (y:Value),y=F (cnt (upd l k) C)→(AE T k).ok v w'→Below w.heap.size (w.setCell ⟨g,0,none⟩ y) w'→wO T w1 g F C ka ks Tn xs ys (upd l k) (cU vals k v) w':=by
   intro v w' y hy h2 h3;subst hy;refine ⟨fJ hB K1 K h3,?_,?_⟩
   ·intro i n1 n2 hi
    by_cases hik:i=k
    ·subst hik
     have:cU vals i v i=v:=if_pos rfl;rw [this];exact h2
    rw [hko i hik] at hi;have:cU vals k v i=vals i:=if_neg hik;rw [this];exact Val.df (hp i n1 n2) (hv i n1 n2 hi)
   intro hi;rw [hko ka (fun e=>e1 e.symm)] at hi;obtain ⟨hh,Av,Ao,hh3⟩:=hn hi;refine ⟨hh,Av,?_,?_⟩
   ·have:cU vals k v ka=vals ka:=if_neg (fun e=>e1 e.symm)
    rw [this];exact Ao
   rw [hko ks (fun e=>e2 e.symm)];exact (hh3.other (by omega) _).keep (bF h3)
  by_cases e3:k ∈ C
  ·rw [if_pos e3] at h1
   obtain ⟨q1,q2⟩:=g5 hc hl (fun c hcd=>ew ho zu hcd) C hC e3;rw [q1] at K;obtain ⟨hw,hwp⟩:=h1 a w K hH hQ;rw [if_pos hw];refine Oper.wp_mono ?_ hwp;rintro a' w' ⟨v,e,h2,h3⟩;exact ⟨v,e,rest v w' _ (by rw [q2]) h2 h3⟩
  rw [if_neg e3] at h1;have hd:=h1 a w hH hQ;unfold Does at hd
  split
  ·rename_i hw
   rw [if_pos hw] at hd;refine Oper.wp_mono ?_ hd;rintro a' w' ⟨v,e,h2,h3⟩;exact ⟨v,e,rest v w' _ (by rw [fL C e3]) h2 (eF K h3)⟩
  rename_i hw
  rw [if_neg hw] at hd;exact rest undef w _ (by rw [fL C e3]) hd (eF K (yL _ _))
theorem wK {id:Nat} {ops:Array Oper} {a0:Act} {w:World} (g:Nat) (Tb:TypeId) (F:Nat→Value) (C:List Nat) (ka ks:Nat) (Tn:TypeId) (xs ys:Array Value) (T:List Val)
  (hm:P.follows .mixedOrders=true) (hok:eN .any ops a0.tmps.size=true) (hC:(dP ops C && iR ops ka ks && decide (ka<ops.size) && decide (ks<ops.size))=true)
  (hp:∀ j,j≠ka→j≠ks→(AE T j).pure=true) (hka:ka ∉ C) (hks:ks ∉ C) (hne:ka≠ks) (hcl:∀ c ∈ C,c<ops.size) (K1:aH w g Tb #[F 0])
  (hR:sP P Q ops a0 T w g Tb F C ka ks Tn xs ys ops.toList 0)
  (hF:∀ (vals:Nat→Value) (w':World) (h:Nat),w.heap.size≤h→aH w' h Tn ys→vals ka=.pointer (some ⟨h,0,none⟩)→Below w.heap.size (w.setCell ⟨g,0,none⟩ (F C.length)) w'→(∀ i,i<ops.size→i≠ka→i≠ks→(AE T i).ok (vals i) w')→Q .normal (fill (fun _=>true) vals ops.toList 0 a0) w'):(Code.region id ops true).wp P Q a0 w:=by
 rw [Bool.and_eq_true,Bool.and_eq_true,Bool.and_eq_true,decide_eq_true_eq,decide_eq_true_eq] at hC;obtain ⟨⟨⟨hC,hE⟩,ha⟩,hs⟩:=hC
 have c0:∀ C:List Nat,cnt (fun _=>false) C=0:=fun C=>by cases C <;> rfl
 have cl:∀ (l:Nat→Bool) (C:List Nat),(∀ c ∈ C,l c=true)→cnt l C=C.length:=fun l C=>by
  induction C with
  | nil=>intro _;rfl
  | cons c cs ih=>
  intro h;unfold cnt;rw [if_pos (h c (List.mem_cons_self ..)),ih (fun x hx=>h x (List.mem_cons_of_mem _ hx))];rfl
 refine jU (wO T w g F C ka ks Tn xs ys) hm hok (fun vals=>⟨?_,(fun _ _ _ h=>absurd h (by simp)),(fun h=>absurd h (by simp))⟩) (uJ K1 hp hC hka hks hne hE ops.toList 0 (fun i=>by rw [Nat.zero_add];exact Array.getElem?_toList) hR) ?_
 ·rw [c0]
  exact eF K1 ((yL _ w).drew)
 intro l vals w' hl hI;obtain ⟨h1,h2,h3⟩:=hI;obtain ⟨h,q1,q2,q3⟩:=h3 (hl ka ha);rw [hl ks hs,if_pos rfl] at q3;rw [cl l C (fun c hc=>hl c (hcl c hc))] at h1;exact hF vals w' h q1 q3 q2 h1 (fun i hi n1 n2=>h2 i n1 n2 (hl i hi))
theorem xZ {ops:Array Oper} {o:Oper} {a:Act} {w:World} {V:Val} {f:FuncId} {args:Array Value} {g:Nat} {y:Value} (hw:Region.wanted o (yielded ops a.tmps)=true) (h:(execOp a.eval o).run P w=.ok (.enter f args) w)
  (hc:Calls P f args w fun e w'=>∃ v,e=.returned v∧V.ok v w'∧Below w.heap.size (w.setCell ⟨g,0,none⟩ y) w'):Region.wanted o (yielded ops a.tmps)=true∧o.wp P a w (fun a' w'=>∃ v,a'=a.put o.dst v∧V.ok v w'∧Below w.heap.size (w.setCell ⟨g,0,none⟩ y) w') Q:=by
 refine ⟨hw,?_⟩;unfold Oper.wp;rw [h];refine Calls.mono hc ?_;rintro e w' ⟨v,rfl,h1,h2⟩;exact ⟨v,rfl,h1,h2⟩
theorem fK {ops:Array Oper} {o:Oper} {a:Act} {w:World} {v:Value} {f:FuncId} {args:Array Value} {g:Nat} {y:Value} (hw:Region.wanted o (yielded ops a.tmps)=true) (h:(execOp a.eval o).run P w=.ok (.enter f args) w)
  (hc:Calls P f args w fun e w'=>e=.returned v∧Below w.heap.size (w.setCell ⟨g,0,none⟩ y) w'):Region.wanted o (yielded ops a.tmps)=true∧o.wp P a w (fun a' w'=>∃ u,a'=a.put o.dst u∧(Val.is v).ok u w'∧Below w.heap.size (w.setCell ⟨g,0,none⟩ y) w') Q:=
 xZ hw h (hc.mono fun _ _ ⟨e,b⟩=>⟨v,e,rfl,b⟩)
theorem ll {ops:Array Oper} {o:Oper} {a:Act} {w:World} {ob:Obj} (hw:Region.wanted o (yielded ops a.tmps)=true) (h:(execOp a.eval o).run P w=.ok (.value (.pointer (some ⟨w.heap.size,0,none⟩))) (w.alloc ob)):Region.wanted o (yielded ops a.tmps)=true∧o.wp P a w (fun a' w'=>a'=a.put o.dst (.pointer (some ⟨w.heap.size,0,none⟩))∧w'=w.alloc ob) Q:=by
 refine ⟨hw,?_⟩;unfold Oper.wp;rw [h];exact ⟨rfl,rfl⟩
end Rg
end
section
open Go.RowKit
namespace M
theorem pa (s1 s2 s3:Sp):cY (cY s1 s2) s3=gd (gd (gd (gd s1.isSome s2).isSome (cY s1 (gd s1.isSome s2))).isSome s3).isSome (cY (gd (gd s1.isSome s2).isSome (cY s1 (gd s1.isSome s2))) (gd (gd (gd s1.isSome s2).isSome (cY s1 (gd s1.isSome s2))).isSome s3)):=by
 cases s1 with
 | none=>rfl
 | some p=>cases s2 with
  | none=>rfl
  | some q=>
  show cY (cY (some p) (some q)) s3=gd (gd (gd true (cY (some p) (some q))).isSome s3).isSome (cY (gd true (cY (some p) (some q))) (gd (gd true (cY (some p) (some q))).isSome s3))
  rw [mH]
  cases cY (some p) (some q) with
  | none=>rfl
  | some u=>cases s3 <;> rfl
end M
theorem rU (a b X1 Y1 E1 X2 Y2 E2:Int) (w:World) (hg:M.good a b=true) (hp:M.bS a b X1 Y1 E1=true) (hq:M.bS a b X2 Y2 E2=true) :
  Calls Tryz.prog 78 #[.agg #[.int .i64 a,.int .i64 b],.agg #[.int .i64 X1,.int .i64 Y1,.int .i64 E1],.agg #[.int .i64 X2,.int .i64 Y2,.int .i64 E2]] w fun e w'=>e=.returned (.tuple #[.agg #[.int .i64 (M.yu (M.db a b X1 Y1 E1 X2 Y2 E2)),.int .i64 (M.yx (M.db a b X1 Y1 E1 X2 Y2 E2))],.bool (M.db a b X1 Y1 E1 X2 Y2 E2).isSome])∧Below w.heap.size w w':=by
 have PA:=fun W=>nF a b X1 Y1 E1 X2 Y2 E2 W hg hp hq
 have hin:=M.bK hg;have hs:=M.sY hin hp hq;obtain ⟨p1,p2,p3,p4,-,-⟩:=M.eV hin hp;obtain ⟨r1,r2,r3,r4,-,-⟩:=M.eV hin hq;obtain ⟨s1,s2,s3,s4,-,-⟩:=M.eV hin hs;have hv:=yI (show M.db a b X1 Y1 E1 X2 Y2 E2=if M.er a X1 Y1 E1 X2 Y2 E2=true then M.cY (M.cY (M.bj a b (M.gZ a X1 Y1 E1 X2 Y2 E2) (M.gY a X1 Y1 E1 X2 Y2 E2)) (M.bj a b X1 E1)) (M.bj a b X2 E2) else none from rfl);rw [hv.out];clear hv hs hp hq;generalize M.er a X1 Y1 E1 X2 Y2 E2=ok,M.gY a X1 Y1 E1 X2 Y2 E2=E3,M.jA a X1 Y1 E1 X2 Y2 E2=Y3,M.gZ a X1 Y1 E1 X2 Y2 E2=X3 at *
 cases ok with
 | false=>
  replace PA:=yI PA;have hn:=yI (show (if (false=true) then M.cY (M.cY (M.bj a b X3 E3) (M.bj a b X1 E1)) (M.bj a b X2 E2) else none)=none from rfl);rw [hn.out];clear hn;obtain ⟨wc,hw3,C,Q,U,R,B⟩:=li w #[.int .i64 a,.int .i64 b] 29 #[.int .i64 X1,.int .i64 Y1,.int .i64 E1] 57 #[.int .i64 X2,.int .i64 Y2,.int .i64 E2] 57 #[.int .i64 0,.int .i64 0] 68;have j_:=C.box.c0;have l_:=C.box.c1;have ⟨q0,q1,q2⟩:=Q.aR;have ⟨u0,u1,u2⟩:=U.aR;go_enter Tryz.func78,Tryz.ntmps78
  go_wp2_with (go_at_call 96;(with_reducible refine (PA.out _).mono ?_);rintro e w4 ⟨rfl,hb4⟩;have Ab:=Nat.lt_of_lt_of_le R.lt hb4.size;replace B:=((f_ B hb4).alloc (Nat.le_trans B.size hb4.size) (.cells #[.int .i64 X3,.int .i64 Y3,.int .i64 E3] 57)).alloc (by rw [yJ];exact Nat.le_succ_of_le (Nat.le_trans B.size hb4.size)) (.cells #[.bool false] 94);replace C:=((C.keep hb4).alloc (.cells #[.int .i64 X3,.int .i64 Y3,.int .i64 E3] 57)).alloc (.cells #[.bool false] 94);replace Q:=((Q.keep hb4).alloc (.cells #[.int .i64 X3,.int .i64 Y3,.int .i64 E3] 57)).alloc (.cells #[.bool false] 94);replace U:=((U.keep hb4).alloc (.cells #[.int .i64 X3,.int .i64 Y3,.int .i64 E3] 57)).alloc (.cells #[.bool false] 94);replace R:=((R.keep hb4).alloc (.cells #[.int .i64 X3,.int .i64 Y3,.int .i64 E3] 57)).alloc (.cells #[.bool false] 94);have S:=(aH.new w4 #[.int .i64 X3,.int .i64 Y3,.int .i64 E3] 57).alloc (.cells #[.bool false] 94);have K:=aH.new (w4.alloc (.cells #[.int .i64 X3,.int .i64 Y3,.int .i64 E3] 57)) #[.bool false] 94;(rw [yJ] at K);(have ⟨r0,r1,zf0,zf1,rl⟩:=R.box))
  exact bodyPost_ret (v:=.tuple #[.agg #[.int .i64 0,.int .i64 0],.bool false]) (by simp [results,Tryz.results78,go_sem, *]) rfl (⟨rfl,yK (yK B (by simp;omega) _) (by simp;omega) _⟩)
 | true=>
 rw [if_pos rfl,M.pa];have o1:=M.eO (a:=a) (b:=b) hin s1 s2 s3 s4
 have I3:=fun g_ W K=>jO g_ true a b X3 Y3 E3 W K hg s1 s2 s3 s4
 have Gt:=fun g_ ok W K=>jO g_ ok a b X1 Y1 E1 W K hg p1 p2 p3 p4
 have Gu:=fun g_ ok W K=>jO g_ ok a b X2 Y2 E2 W K hg r1 r2 r3 r4
 have o2:=M.eO (a:=a) (b:=b) hin p1 p2 p3 p4;have o3:=M.eO (a:=a) (b:=b) hin r1 r2 r3 r4;simp only [M.mH] at I3;generalize M.bj a b X3 E3=t1 at *
 replace Gt:=fun g_=>Gt g_ t1.isSome
 generalize M.bj a b X1 E1=t2 at *
 obtain ⟨t3,ht3⟩:∃ t,t=M.gd t1.isSome t2:=⟨_,rfl⟩
 have o4:M.AP t3:=by rw [ht3];exact M.ie o2
 have i3:t3.isSome=true→t1.isSome=true:=fun h=>by rw [ht3] at h;exact (M.iU h).1
 rw [←ht3] at Gt ⊢
 have I4:=fun g_ W K=>kJ g_ t3.isSome t1 t3 W K o1 o4 i3 (fun h=>h)
 obtain ⟨t4,Mw⟩:∃ t,t=M.gd t3.isSome (M.cY t1 t3):=⟨_,rfl⟩
 have o5:M.AP t4:=by rw [Mw];exact M.ie M.jT
 rw [←Mw] at I4 ⊢
 replace Gu:=fun g_=>Gu g_ t4.isSome
 generalize M.bj a b X2 E2=t5 at *
 obtain ⟨t6,JG⟩:∃ t,t=M.gd t4.isSome t5:=⟨_,rfl⟩
 have o6:M.AP t6:=by rw [JG];exact M.ie o3
 have i6:t6.isSome=true→t4.isSome=true:=fun h=>by rw [JG] at h;exact (M.iU h).1
 rw [←JG] at Gu ⊢
 have JY:=fun g_ W K=>kJ g_ t6.isSome t4 t6 W K o5 o6 i6 (fun h=>h)
 generalize M.gd t6.isSome (M.cY t4 t6)=t7 at *;clear ht3 Mw JG o1 o2 o3 o4 o5 o6 i3 i6 t5 t2 hg hin;generalize M.yx t7=h7,M.yu t7=l7,t7.isSome=f7,M.yx t6=h6,M.yu t6=l6,t6.isSome=f6,M.yx t4=h4,M.yu t4=l4,t4.isSome=f4,M.yx t3=h3,M.yu t3=l3,t3.isSome=f3,M.yx t1=h1,M.yu t1=l1,t1.isSome=f1 at *;replace PA:=yI PA;replace I3:=yI I3;replace Gt:=yI Gt;replace Gu:=yI Gu;replace I4:=yI I4;replace JY:=yI JY;obtain ⟨wc,hw3,C,Q,U,R,B⟩:=li w #[.int .i64 a,.int .i64 b] 29 #[.int .i64 X1,.int .i64 Y1,.int .i64 E1] 57 #[.int .i64 X2,.int .i64 Y2,.int .i64 E2] 57 #[.int .i64 0,.int .i64 0] 68;have j_:=C.box.c0;have l_:=C.box.c1;have ⟨q0,q1,q2⟩:=Q.aR;have ⟨u0,u1,u2⟩:=U.aR;go_enter Tryz.func78,Tryz.ntmps78
 go_upto_region 5 with (go_at_call 96;(with_reducible refine (PA.out _).mono ?_);rintro e w4 ⟨rfl,hb4⟩;have Ab:=Nat.lt_of_lt_of_le R.lt hb4.size;replace B:=((f_ B hb4).alloc (Nat.le_trans B.size hb4.size) (.cells #[.int .i64 X3,.int .i64 Y3,.int .i64 E3] 57)).alloc (by rw [yJ];exact Nat.le_succ_of_le (Nat.le_trans B.size hb4.size)) (.cells #[.bool true] 94);replace C:=((C.keep hb4).alloc (.cells #[.int .i64 X3,.int .i64 Y3,.int .i64 E3] 57)).alloc (.cells #[.bool true] 94);replace Q:=((Q.keep hb4).alloc (.cells #[.int .i64 X3,.int .i64 Y3,.int .i64 E3] 57)).alloc (.cells #[.bool true] 94);replace U:=((U.keep hb4).alloc (.cells #[.int .i64 X3,.int .i64 Y3,.int .i64 E3] 57)).alloc (.cells #[.bool true] 94);replace R:=((R.keep hb4).alloc (.cells #[.int .i64 X3,.int .i64 Y3,.int .i64 E3] 57)).alloc (.cells #[.bool true] 94);have S:=(aH.new w4 #[.int .i64 X3,.int .i64 Y3,.int .i64 E3] 57).alloc (.cells #[.bool true] 94);have K:=aH.new (w4.alloc (.cells #[.int .i64 X3,.int .i64 Y3,.int .i64 E3] 57)) #[.bool true] 94;(rw [yJ] at K);(have ⟨r0,r1,zf0,zf1,rl⟩:=R.box))
 generalize (w4.alloc (.cells #[.int .i64 X3,.int .i64 Y3,.int .i64 E3] 57)).alloc (.cells #[.bool true] 94)=wd at *;have hsl:=S.lt;have rl2:=R.lt
 have hw4:w.heap.size+4≤w4.heap.size:=by omega
 have nC:w.heap.size≠w4.heap.size+1:=by omega
 have nQ:w.heap.size+1≠w4.heap.size+1:=by omega
 have nU:w.heap.size+1+1≠w4.heap.size+1:=by omega
 have nR:w.heap.size+1+1+1≠w4.heap.size+1:=by omega
 have nS:w4.heap.size≠w4.heap.size+1:=by omega
 have nB:w.heap.size≤w4.heap.size+1:=by omega
 refine Rg.wK (w4.heap.size+1) 94 (fun n=>match n with | 0=>.bool true | 1=>.bool f1 | 2=>.bool f3 | 3=>.bool f4 | 4=>.bool f6 | _=>.bool f7) [5,9,10,14,15] 16 17 68 #[.int .i64 0,.int .i64 0] #[.int .i64 l7,.int .i64 h7] [.is (.pointer (some ⟨w4.heap.size+1,0,none⟩)),.is (.pointer (some ⟨w4.heap.size+1,0,none⟩)),.is (.pointer (some ⟨w4.heap.size+1,0,none⟩)),.is (.agg #[.int .i64 a,.int .i64 b]),.is (.agg #[.int .i64 X3,.int .i64 Y3,.int .i64 E3]),.is (.agg #[.int .i64 l1,.int .i64 h1]),.is (.pointer (some ⟨w4.heap.size+1,0,none⟩)),.is (.agg #[.int .i64 a,.int .i64 b]),.is (.agg #[.int .i64 X1,.int .i64 Y1,.int .i64 E1]),.is (.agg #[.int .i64 l3,.int .i64 h3]),.is (.agg #[.int .i64 l4,.int .i64 h4]),.is (.pointer (some ⟨w4.heap.size+1,0,none⟩)),.is (.agg #[.int .i64 a,.int .i64 b]),.is (.agg #[.int .i64 X2,.int .i64 Y2,.int .i64 E2]),.is (.agg #[.int .i64 l6,.int .i64 h6]),.is (.agg #[.int .i64 l7,.int .i64 h7]),.is (undef),.is (undef)] (by kernel_rfl) (by kernel_rfl) (by kernel_rfl) (fun j h1 h2=>match j,h1,h2 with | 0,h1,h2=>rfl | 1,h1,h2=>rfl | 2,h1,h2=>rfl | 3,h1,h2=>rfl | 4,h1,h2=>rfl | 5,h1,h2=>rfl | 6,h1,h2=>rfl | 7,h1,h2=>rfl | 8,h1,h2=>rfl | 9,h1,h2=>rfl | 10,h1,h2=>rfl | 11,h1,h2=>rfl | 12,h1,h2=>rfl | 13,h1,h2=>rfl | 14,h1,h2=>rfl | 15,h1,h2=>rfl | 16,h1,h2=>absurd rfl h1 | 17,h1,h2=>absurd rfl h2 | n+18,_,_=>rfl) (by decide) (by decide) (by decide) (by decide) K ⟨?_,?_,?_,?_,?_,?_,?_,?_,?_,?_,?_,?_,?_,?_,?_,?_,?_,?_,trivial⟩ ?_
 ·unfold Rg.be
  rw [if_neg (by decide),if_neg (by decide),if_neg (by decide)];intro zZ w_ hH hr;have e10:zZ.tmps[10]?=some (.pointer (some ⟨w4.heap.size+1,0,none⟩)):=hr 10 (by decide);exact Rg.aG rfl (by go_simp)
 ·unfold Rg.be
  rw [if_neg (by decide),if_neg (by decide),if_neg (by decide)];intro zZ w_ hH hr;have e10:zZ.tmps[10]?=some (.pointer (some ⟨w4.heap.size+1,0,none⟩)):=hr 10 (by decide);exact Rg.aG rfl (by go_simp)
 ·unfold Rg.be
  rw [if_neg (by decide),if_neg (by decide),if_neg (by decide)];intro zZ w_ hH hr;have e10:zZ.tmps[10]?=some (.pointer (some ⟨w4.heap.size+1,0,none⟩)):=hr 10 (by decide);exact Rg.aG rfl (by go_simp)
 ·unfold Rg.be
  rw [if_neg (by decide),if_neg (by decide),if_neg (by decide)];intro zZ w_ hH hr;have e3:zZ.tmps[3]?=some (.pointer (some ⟨w.heap.size,0,none⟩)):=hr 3 (by decide);have k0:=(hH.2 _ _ _ nC C).box.c0;have k1:=(hH.2 _ _ _ nC C).box.c1;exact Rg.aG rfl (by go_simp)
 ·unfold Rg.be
  rw [if_neg (by decide),if_neg (by decide),if_neg (by decide)];intro zZ w_ hH hr;have e8:zZ.tmps[8]?=some (.pointer (some ⟨w4.heap.size,0,none⟩)):=hr 8 (by decide);have k0:=(hH.2 _ _ _ nS S).aR.1;have k1:=(hH.2 _ _ _ nS S).aR.2.1;have k2:=(hH.2 _ _ _ nS S).aR.2.2;exact Rg.aG rfl (by go_simp)
 ·unfold Rg.be
  rw [if_neg (by decide),if_neg (by decide),if_pos (by decide)];intro zZ w_ K_ hH hr;replace K_:aH w_ (w4.heap.size+1) 94 #[.bool true]:=K_;have e27:=Rg.a_ (hr 27 (by decide));have e28:=Rg.a_ (hr 28 (by decide));have e29:=Rg.a_ (hr 29 (by decide));have ef:=Rg.ef zZ;exact Rg.fK rfl (by go_simp) (I3.out _ _ K_)
 ·unfold Rg.be
  rw [if_neg (by decide),if_neg (by decide),if_neg (by decide)];intro zZ w_ hH hr;have e10:zZ.tmps[10]?=some (.pointer (some ⟨w4.heap.size+1,0,none⟩)):=hr 10 (by decide);exact Rg.aG rfl (by go_simp)
 ·unfold Rg.be
  rw [if_neg (by decide),if_neg (by decide),if_neg (by decide)];intro zZ w_ hH hr;have e3:zZ.tmps[3]?=some (.pointer (some ⟨w.heap.size,0,none⟩)):=hr 3 (by decide);have k0:=(hH.2 _ _ _ nC C).box.c0;have k1:=(hH.2 _ _ _ nC C).box.c1;exact Rg.aG rfl (by go_simp)
 ·unfold Rg.be
  rw [if_neg (by decide),if_neg (by decide),if_neg (by decide)];intro zZ w_ hH hr;have e4:zZ.tmps[4]?=some (.pointer (some ⟨w.heap.size+1,0,none⟩)):=hr 4 (by decide);have k0:=(hH.2 _ _ _ nQ Q).aR.1;have k1:=(hH.2 _ _ _ nQ Q).aR.2.1;have k2:=(hH.2 _ _ _ nQ Q).aR.2.2;exact Rg.aG rfl (by go_simp)
 ·unfold Rg.be
  rw [if_neg (by decide),if_neg (by decide),if_pos (by decide)];intro zZ w_ K_ hH hr;replace K_:aH w_ (w4.heap.size+1) 94 #[.bool f1]:=K_;have e31:=Rg.a_ (hr 31 (by decide));have e32:=Rg.a_ (hr 32 (by decide));have e33:=Rg.a_ (hr 33 (by decide));have ef:=Rg.ef zZ;exact Rg.fK rfl (by go_simp) (Gt.out _ _ K_)
 ·unfold Rg.be
  rw [if_neg (by decide),if_neg (by decide),if_pos (by decide)];intro zZ w_ K_ hH hr;replace K_:aH w_ (w4.heap.size+1) 94 #[.bool f3]:=K_;have e26:=Rg.a_ (hr 26 (by decide));have e30:=Rg.a_ (hr 30 (by decide));have e34:=Rg.a_ (hr 34 (by decide));have ef:=Rg.ef zZ;exact Rg.fK rfl (by go_simp) (I4.out _ _ K_)
 ·unfold Rg.be
  rw [if_neg (by decide),if_neg (by decide),if_neg (by decide)];intro zZ w_ hH hr;have e10:zZ.tmps[10]?=some (.pointer (some ⟨w4.heap.size+1,0,none⟩)):=hr 10 (by decide);exact Rg.aG rfl (by go_simp)
 ·unfold Rg.be
  rw [if_neg (by decide),if_neg (by decide),if_neg (by decide)];intro zZ w_ hH hr;have e3:zZ.tmps[3]?=some (.pointer (some ⟨w.heap.size,0,none⟩)):=hr 3 (by decide);have k0:=(hH.2 _ _ _ nC C).box.c0;have k1:=(hH.2 _ _ _ nC C).box.c1;exact Rg.aG rfl (by go_simp)
 ·unfold Rg.be
  rw [if_neg (by decide),if_neg (by decide),if_neg (by decide)];intro zZ w_ hH hr;have e5:zZ.tmps[5]?=some (.pointer (some ⟨w.heap.size+1+1,0,none⟩)):=hr 5 (by decide);have k0:=(hH.2 _ _ _ nU U).aR.1;have k1:=(hH.2 _ _ _ nU U).aR.2.1;have k2:=(hH.2 _ _ _ nU U).aR.2.2;exact Rg.aG rfl (by go_simp)
 ·unfold Rg.be
  rw [if_neg (by decide),if_neg (by decide),if_pos (by decide)];intro zZ w_ K_ hH hr;replace K_:aH w_ (w4.heap.size+1) 94 #[.bool f4]:=K_;have e36:=Rg.a_ (hr 36 (by decide));have e37:=Rg.a_ (hr 37 (by decide));have e38:=Rg.a_ (hr 38 (by decide));have ef:=Rg.ef zZ;exact Rg.fK rfl (by go_simp) (Gu.out _ _ K_)
 ·unfold Rg.be
  rw [if_neg (by decide),if_neg (by decide),if_pos (by decide)];intro zZ w_ K_ hH hr;replace K_:aH w_ (w4.heap.size+1) 94 #[.bool f6]:=K_;have e25:=Rg.a_ (hr 25 (by decide));have e35:=Rg.a_ (hr 35 (by decide));have e39:=Rg.a_ (hr 39 (by decide));have ef:=Rg.ef zZ;exact Rg.fK rfl (by go_simp) (JY.out _ _ K_)
 ·unfold Rg.be
  rw [if_pos rfl];intro zZ w_;exact Rg.ll rfl (by first | (go_simp;done) | (go_simp;rfl))
 ·unfold Rg.be
  rw [if_neg (by decide),if_pos rfl];intro zZ w_ h_ hh hn hr;have e11:zZ.tmps[11]?=some (.pointer (some ⟨h_,0,none⟩)):=hr 11 (by decide);have e40:=Rg.a_ (hr 40 (by decide));have ⟨y0,y1,x0,x1,_⟩:=hn.box;refine ⟨rfl,?_⟩;unfold Oper.wp
  go_simp
  exact ⟨aH.set2 hn _ _,yK (yK (yL _ _) hh _) hh _⟩
 intro vals wz h_ hh hn Ir hB hv;replace hB:Below wd.heap.size (wd.setCell ⟨w4.heap.size+1,0,none⟩ (.bool f7)) wz:=hB;simp only [Rg.ak,Rg.fill,Act.put,Nat.reduceAdd];clear hv;simp only [Ir];clear Ir;have hB2:=bF hB;replace B:=(yK B nB (.bool f7)).trans (hB.mono B.size);replace R:=(R.other (i:=0) nR (.bool f7)).keep hB2;replace K:=(K.one (.bool f7)).keep hB2;have k0:=K.cell 0;have ⟨r0,r1,zf0,zf1,rl⟩:=R.box;have ⟨z0,z1,_,_,_⟩:=hn.box;clear hB hB2 j_ l_ q0 q1 q2 u0 u1 u2
 go_upto_region 6 with fail
 go_region
 all_goals
  go_wp2;exact bodyPost_ret (v:=.tuple #[.agg #[.int .i64 l7,.int .i64 h7],.bool f7]) (by simp [results,Tryz.results78,go_sem, *]) rfl (⟨rfl,Below.drew (yK (yK B (by simp;omega) _) (by simp;omega) _)⟩)
def eT (w:World) (g:Nat) (l:List (Int × Int × Int)):Prop:=
 ∀ (k:Nat) (p:Int × Int × Int),l[k]?=some p→w.cell? ⟨g,k*3,none⟩=some (.int .i64 p.1)∧w.cell? ⟨g,k*3+1,none⟩=some (.int .i64 p.2.1)∧w.cell? ⟨g,k*3+2,none⟩=some (.int .i64 p.2.2)
theorem eT.below {w w':World} {g:Nat} {l:List (Int × Int × Int)} (h:eT w g l) (hb:Below w.heap.size w w'):eT w' g l:=fun k p hp=>by
 obtain ⟨h1,h2,h3⟩:=h k p hp;exact ⟨aE hb h1,aE hb h2,aE hb h3⟩
namespace M
noncomputable def dI (a b:Int) (s:Sp) (l:List (Int × Int × Int)):Sp:=l.foldl (fun s p=>cY s (bj a b p.1 p.2.2)) s
theorem gl (a b:Int):∀ l,dI a b none l=none
 | []=>rfl
 | _ :: l=>gl a b l
theorem kK {a b:Int} {s:Sp} {l:List (Int × Int × Int)} {k:Nat} {p:Int × Int × Int} (h:l[k]?=some p):dI a b s (l.take (k+1))=cY (dI a b s (l.take k)) (bj a b p.1 p.2.2):=by
 unfold dI;rw [List.take_add_one,h,List.foldl_append];rfl
theorem kL {a b:Int} {s:Sp} {l:List (Int × Int × Int)} {k:Nat} (h:dI a b s (l.take k)=none):dI a b s l=none:=by
 have e:dI a b s l=dI a b (dI a b s (l.take k)) (l.drop k):=by
  unfold dI;rw [←List.foldl_append,List.take_append_drop]
 rw [e,h,gl]
end M
theorem aH.fz {W:World} {g k:Nat} {T:TypeId} {xs:Array Value} (h:aH W g T xs) (hk:g≠k) (x y z t:Value):aH ((((W.setCell ⟨k,0,none⟩ x).setCell ⟨k,1,none⟩ y).setCell ⟨k,2,none⟩ z).setCell ⟨k,3,none⟩ t) g T xs:=(((h.other hk x).other hk y).other hk z).other hk t
theorem tS (a b:Int) (s:Int × Int) (l:List (Int × Int × Int)) (g cap:Nat) (w:World) (hg:M.good a b=true) (hs:M.aN s.1 s.2=true) (hl:eT w g l) (hn:l.length≤100) (hp:∀ p ∈ l,-10000≤p.1∧p.1≤10000∧0≤p.2.2∧p.2.2≤20) :
  Calls Tryz.prog 88 #[.agg #[.int .i64 a,.int .i64 b],.agg #[.int .i64 (M.zA (some s)),.int .i64 (M.zB (some s)),.int .i64 (M.zD (some s)),.int .i64 (M.zH (some s))],.slice (some ⟨g,0,none⟩) l.length cap] w fun e w'=>e=.returned (.tuple #[.agg #[.int .i64 (M.zA (M.dI a b (some s) l)),.int .i64 (M.zB (M.dI a b (some s) l)),.int .i64 (M.zD (M.dI a b (some s) l)),.int .i64 (M.zH (M.dI a b (some s) l))],.bool (M.dI a b (some s) l).isSome])∧Below w.heap.size w w':=by
 have hin:=M.bK hg;have hl:=yI hl;have hp:=yI hp;obtain ⟨wc,hw3,C,I,R,B⟩:=ou w #[.int .i64 a,.int .i64 b] 29 #[.int .i64 (M.zA (some s)),.int .i64 (M.zB (some s)),.int .i64 (M.zD (some s)),.int .i64 (M.zH (some s))] 64 #[.int .i64 0,.int .i64 0,.int .i64 0,.int .i64 0] 64
 obtain ⟨N,hN⟩:∃ N,Hid (l.length=N):=⟨_,yI rfl⟩
 rw [hN.out] at hn ⊢;go_enter Tryz.func88,Tryz.ntmps88
 go_wp2
 go_loopw [16] (fun vi wr=>∃ (k:Nat) (p:Int × Int),k≤N∧vi=.int .i64 k∧Hid (M.dI a b (some s) (l.take k)=some p)∧aH wr w.heap.size 29 #[.int .i64 a,.int .i64 b]∧aH wr (w.heap.size+1) 64 #[.int .i64 (M.zA (some p)),.int .i64 (M.zB (some p)),.int .i64 (M.zD (some p)),.int .i64 (M.zH (some p))]∧aH wr (w.heap.size+1+1) 64 #[.int .i64 0,.int .i64 0,.int .i64 0,.int .i64 0]∧Below w.heap.size w wr) (fun vi _=>N - (intOf vi).toNat)
 case atStart=>exact ⟨0,s,Nat.zero_le _,rfl,yI rfl,C,I,R,B⟩
 case round=>
 clear C I R B hw3;obtain ⟨k,p,hk,rfl,hcur,C,I,R,B⟩:=hrel
 have hpo:M.AP (some p):=by
  rw [←hcur.out]
  cases k with
  | zero=>intro q hq;injection hq with hq;subst hq;exact hs
  | succ k=>
  obtain ⟨z,hz⟩:∃ z,l[k]?=some z:=⟨_,List.getElem?_eq_getElem (by have:=hN.out;omega)⟩
  rw [M.kK hz];exact M.jT
 have hps:=hpo p rfl;have j_:=C.box.c0;have l_:=C.box.c1
 by_cases hlt:k<N
 ·obtain ⟨z,hz⟩:∃ z,l[k]?=some z:=⟨_,List.getElem?_eq_getElem (by have:=hN.out;omega)⟩
  obtain ⟨d0,d1,d2⟩:=(hl.out.below B) k z hz;obtain ⟨b1,b2,b3,b4⟩:=hp.out z (List.mem_of_getElem? hz);have hnx:=M.kK (a:=a) (b:=b) (s:=some s) hz;rw [hcur.out] at hnx;obtain ⟨X,Y,E⟩:=z;simp only [] at d0 d1 d2 b1 b2 b3 b4 hnx
  have PH:=fun W=>ft a b X Y E W hg b1 b2 b3 b4
  have hto:=M.eO (a:=a) (b:=b) hin b1 b2 b3 b4;generalize M.bj a b X E=t at *;clear b1 b2 b3 b4 hz hcur;replace B:=B.alloc B.size (.cells #[.int .i64 X,.int .i64 Y,.int .i64 E] 57);have Z:=aH.new wr #[.int .i64 X,.int .i64 Y,.int .i64 E] 57;replace C:=C.alloc (.cells #[.int .i64 X,.int .i64 Y,.int .i64 E] 57);replace I:=I.alloc (.cells #[.int .i64 X,.int .i64 Y,.int .i64 E] 57);replace R:=R.alloc (.cells #[.int .i64 X,.int .i64 Y,.int .i64 E] 57);have j_:=C.box.c0;have l_:=C.box.c1;have ⟨z0,z1,z2⟩:=Z.aR
  cases t with
  | none=>
   have hfin:M.dI a b (some s) l=none:=M.kL (k:=k+1) (by rw [hnx];rfl);have e1:=yI (show M.zA none=0∧M.zB none=0∧M.zD none=0∧M.zH none=0∧(none:M.Sp).isSome=false from ⟨rfl,rfl,rfl,rfl,rfl⟩);rw [e1.out.1,e1.out.2.1,e1.out.2.2.1,e1.out.2.2.2.1,e1.out.2.2.2.2] at PH;have hfin:=yI hfin;clear hnx hpo hps hto;replace PH:=yI PH;generalize M.zH (some p)=i4_,M.zD (some p)=i3_,M.zB (some p)=i2_,M.zA (some p)=i1_ at *
   go_wp2_with (go_at_call 87;(with_reducible refine (PH.out _).mono ?_);rintro e w4 ⟨rfl,hb4⟩;replace B:=f_ B hb4;replace C:=C.keep hb4;replace I:=I.keep hb4;replace R:=R.keep hb4;replace R:=R.alloc (.cells #[.int .i64 0,.int .i64 0,.int .i64 0,.int .i64 0] 64);replace C:=C.alloc (.cells #[.int .i64 0,.int .i64 0,.int .i64 0,.int .i64 0] 64);replace I:=I.alloc (.cells #[.int .i64 0,.int .i64 0,.int .i64 0,.int .i64 0] 64);replace B:=B.alloc B.size (.cells #[.int .i64 0,.int .i64 0,.int .i64 0,.int .i64 0] 64);have V:=aH.new w4 #[.int .i64 0,.int .i64 0,.int .i64 0,.int .i64 0] 64;(have ⟨r0,r1,r2,r3,y0,y1,y2,y3,rl⟩:=R.aM);(have ⟨i0,i1,i2,i3,s0,s1,s2,s3,il⟩:=I.aM);(have ⟨v0,v1,v2,v3,_,_,_,_,vl⟩:=V.aM))
   exact bodyPost_ret (v:=.tuple #[.agg #[.int .i64 0,.int .i64 0,.int .i64 0,.int .i64 0],.bool false]) (by simp [results,Tryz.results88,go_sem, *]) rfl (⟨by rw [hfin.out,e1.out.1,e1.out.2.1,e1.out.2.2.1,e1.out.2.2.2.1,e1.out.2.2.2.2],yK (yK (yK (yK B (by simp;omega) _) (by simp;omega) _) (by simp;omega) _) (by simp;omega) _⟩)
  | some q=>
  have PI:=fun W=>ns p q W hps (hto q rfl)
  have e2:=yI (show (some q:M.Sp).isSome=true from rfl);rw [e2.out] at PH;clear e2;generalize M.cY (some p) (some q)=u at *;have hnx:=yI hnx;generalize M.zH (some q)=k4,M.zD (some q)=k3,M.zB (some q)=k2,M.zA (some q)=k1 at *;replace PH:=yI PH;clear hto hps hpo
  cases u with
  | none=>
   have hfin:=yI (show M.dI a b (some s) l=none from M.kL (k:=k+1) hnx.out);have e1:=yI (show M.zA none=0∧M.zB none=0∧M.zD none=0∧M.zH none=0∧(none:M.Sp).isSome=false from ⟨rfl,rfl,rfl,rfl,rfl⟩);rw [e1.out.1,e1.out.2.1,e1.out.2.2.1,e1.out.2.2.2.1,e1.out.2.2.2.2] at PI;replace PI:=yI PI;clear hnx;generalize M.zH (some p)=i4_,M.zD (some p)=i3_,M.zB (some p)=i2_,M.zA (some p)=i1_ at *
   go_wp2_with first | (go_at_call 87;(with_reducible refine (PH.out _).mono ?_);rintro e w4 ⟨rfl,hb4⟩;replace B:=f_ B hb4;replace C:=C.keep hb4;replace I:=I.keep hb4;replace R:=R.keep hb4;replace R:=R.alloc (.cells #[.int .i64 k1,.int .i64 k2,.int .i64 k3,.int .i64 k4] 64);replace C:=C.alloc (.cells #[.int .i64 k1,.int .i64 k2,.int .i64 k3,.int .i64 k4] 64);replace I:=I.alloc (.cells #[.int .i64 k1,.int .i64 k2,.int .i64 k3,.int .i64 k4] 64);replace B:=B.alloc B.size (.cells #[.int .i64 k1,.int .i64 k2,.int .i64 k3,.int .i64 k4] 64);have V:=aH.new w4 #[.int .i64 k1,.int .i64 k2,.int .i64 k3,.int .i64 k4] 64;(have ⟨r0,r1,r2,r3,y0,y1,y2,y3,rl⟩:=R.aM);(have ⟨i0,i1,i2,i3,s0,s1,s2,s3,il⟩:=I.aM);(have ⟨v0,v1,v2,v3,_,_,_,_,vl⟩:=V.aM)) | (go_at_call 72;(with_reducible refine (PI.out _).mono ?_);rintro e w5 ⟨rfl,hb5⟩;replace B:=f_ B hb5;replace C:=C.keep hb5;replace I:=I.keep hb5;replace R:=R.keep hb5;replace R:=R.alloc (.cells #[.int .i64 0,.int .i64 0,.int .i64 0,.int .i64 0] 64);replace C:=C.alloc (.cells #[.int .i64 0,.int .i64 0,.int .i64 0,.int .i64 0] 64);replace I:=I.alloc (.cells #[.int .i64 0,.int .i64 0,.int .i64 0,.int .i64 0] 64);replace B:=B.alloc B.size (.cells #[.int .i64 0,.int .i64 0,.int .i64 0,.int .i64 0] 64);have V:=aH.new w5 #[.int .i64 0,.int .i64 0,.int .i64 0,.int .i64 0] 64;(have ⟨r0,r1,r2,r3,y0,y1,y2,y3,rl⟩:=R.aM);(have ⟨i0,i1,i2,i3,s0,s1,s2,s3,il⟩:=I.aM);(have ⟨v0,v1,v2,v3,_,_,_,_,vl⟩:=V.aM))
   exact bodyPost_ret (v:=.tuple #[.agg #[.int .i64 0,.int .i64 0,.int .i64 0,.int .i64 0],.bool false]) (by simp [results,Tryz.results88,go_sem, *]) rfl (⟨by rw [hfin.out,e1.out.1,e1.out.2.1,e1.out.2.2.1,e1.out.2.2.2.1,e1.out.2.2.2.2],yK (yK (yK (yK B (by simp;omega) _) (by simp;omega) _) (by simp;omega) _) (by simp;omega) _⟩)
  | some r=>
  have e2:=yI (show (some r:M.Sp).isSome=true from rfl);rw [e2.out] at PI;clear e2
  obtain ⟨m1,hm1⟩:∃ m,Hid (M.zA (some r)=m):=⟨_,yI rfl⟩
  rw [hm1.out] at PI
  obtain ⟨m2,hm2⟩:∃ m,Hid (M.zB (some r)=m):=⟨_,yI rfl⟩
  rw [hm2.out] at PI
  obtain ⟨m3,JD⟩:∃ m,Hid (M.zD (some r)=m):=⟨_,yI rfl⟩
  rw [JD.out] at PI
  obtain ⟨m4,Gw⟩:∃ m,Hid (M.zH (some r)=m):=⟨_,yI rfl⟩
  rw [Gw.out] at PI;replace PI:=yI PI;generalize M.zH (some p)=i4_,M.zD (some p)=i3_,M.zB (some p)=i2_,M.zA (some p)=i1_ at *
  go_wp2_with first | (go_at_call 87;(with_reducible refine (PH.out _).mono ?_);rintro e w4 ⟨rfl,hb4⟩;replace B:=f_ B hb4;replace C:=C.keep hb4;replace I:=I.keep hb4;replace R:=R.keep hb4;replace R:=R.alloc (.cells #[.int .i64 k1,.int .i64 k2,.int .i64 k3,.int .i64 k4] 64);replace C:=C.alloc (.cells #[.int .i64 k1,.int .i64 k2,.int .i64 k3,.int .i64 k4] 64);replace I:=I.alloc (.cells #[.int .i64 k1,.int .i64 k2,.int .i64 k3,.int .i64 k4] 64);replace B:=B.alloc B.size (.cells #[.int .i64 k1,.int .i64 k2,.int .i64 k3,.int .i64 k4] 64);have V:=aH.new w4 #[.int .i64 k1,.int .i64 k2,.int .i64 k3,.int .i64 k4] 64;(have ⟨r0,r1,r2,r3,y0,y1,y2,y3,rl⟩:=R.aM);(have ⟨i0,i1,i2,i3,s0,s1,s2,s3,il⟩:=I.aM);(have ⟨v0,v1,v2,v3,_,_,_,_,vl⟩:=V.aM)) | (go_at_call 72;(with_reducible refine (PI.out _).mono ?_);rintro e w5 ⟨rfl,hb5⟩;replace B:=f_ B hb5;replace C:=C.keep hb5;replace I:=I.keep hb5;replace R:=R.keep hb5;replace R:=R.alloc (.cells #[.int .i64 m1,.int .i64 m2,.int .i64 m3,.int .i64 m4] 64);replace C:=C.alloc (.cells #[.int .i64 m1,.int .i64 m2,.int .i64 m3,.int .i64 m4] 64);replace I:=I.alloc (.cells #[.int .i64 m1,.int .i64 m2,.int .i64 m3,.int .i64 m4] 64);replace B:=B.alloc B.size (.cells #[.int .i64 m1,.int .i64 m2,.int .i64 m3,.int .i64 m4] 64);have V:=aH.new w5 #[.int .i64 m1,.int .i64 m2,.int .i64 m3,.int .i64 m4] 64;(have ⟨r0,r1,r2,r3,y0,y1,y2,y3,rl⟩:=R.aM);(have ⟨i0,i1,i2,i3,s0,s1,s2,s3,il⟩:=I.aM);(have ⟨v0,v1,v2,v3,_,_,_,_,vl⟩:=V.aM))
  go_roundw
  case rel=>exact ⟨k+1,r,by omega,by simp,hnx,C.fz (by omega) _ _ _ _,by rw [hm1.out,hm2.out,JD.out,Gw.out];exact I.kz _ _ _ _,R.fz (by omega) _ _ _ _,yK (yK (yK (yK B (by simp) _) (by simp) _) (by simp) _) (by simp) _⟩
  case measure=>simp [intOf] <;> omega
 obtain rfl:k=N:=by omega
 have hfin:=hcur
 have e0:l.take k=l:=by rw [←hN.out];exact List.take_length
 rw [e0] at hfin;have ⟨i0,i1,i2,i3,s0,s1,s2,s3,il⟩:=I.aM;have ⟨r0,r1,r2,r3,y0,y1,y2,y3,rl⟩:=R.aM;go_wp2;exact bodyPost_ret (v:=.tuple #[.agg #[.int .i64 (M.zA (some p)),.int .i64 (M.zB (some p)),.int .i64 (M.zD (some p)),.int .i64 (M.zH (some p))],.bool true]) (by simp [results,Tryz.results88,go_sem, *]) rfl (⟨by rw [hfin.out];rfl,yK (yK (yK (yK B (by simp;omega) _) (by simp;omega) _) (by simp;omega) _) (by simp;omega) _⟩)
theorem eT.two {W:World} {g:Nat} {T:TypeId} {X1 Y1 E1 X2 Y2 E2:Int} (h:aH W g T #[.int .i64 X1,.int .i64 Y1,.int .i64 E1,.int .i64 X2,.int .i64 Y2,.int .i64 E2]):eT W g [(X1,Y1,E1),(X2,Y2,E2)]:=by
 intro k p hp
 match k,hp with
 | 0,hp=>injection hp with hp;subst hp;exact ⟨h.cell 0,h.cell 1,h.cell 2⟩
 | 1,hp=>injection hp with hp;subst hp;exact ⟨h.cell 3,h.cell 4,h.cell 5⟩
 | k+2,hp=>cases hp
theorem nh (a b X1 Y1 E1 X2 Y2 E2:Int) (w:World) (hg:M.good a b=true) (hp:M.bS a b X1 Y1 E1=true) (hq:M.bS a b X2 Y2 E2=true) :
  Calls Tryz.prog 66 #[.agg #[.int .i64 a,.int .i64 b],.agg #[.int .i64 X1,.int .i64 Y1,.int .i64 E1],.agg #[.int .i64 X2,.int .i64 Y2,.int .i64 E2]] w fun e w'=>e=.returned (.tuple #[.agg #[.int .i64 (M.zA (M.db a b X1 Y1 E1 X2 Y2 E2)),.int .i64 (M.zB (M.db a b X1 Y1 E1 X2 Y2 E2)),.int .i64 (M.zD (M.db a b X1 Y1 E1 X2 Y2 E2)),.int .i64 (M.zH (M.db a b X1 Y1 E1 X2 Y2 E2))],.bool (M.db a b X1 Y1 E1 X2 Y2 E2).isSome])∧Below w.heap.size w w':=by
 have PA:=fun W=>vM a b X1 Y1 E1 X2 Y2 E2 W hg hp hq
 have hin:=M.bK hg;have hs:=M.sY hin hp hq;obtain ⟨p1,p2,p3,p4,-,-⟩:=M.eV hin hp;obtain ⟨r1,r2,r3,r4,-,-⟩:=M.eV hin hq;obtain ⟨s1,s2,s3,s4,-,-⟩:=M.eV hin hs;have hv:=yI (show (M.db a b X1 Y1 E1 X2 Y2 E2)=if M.er a X1 Y1 E1 X2 Y2 E2=true then M.dI a b (M.bj a b (M.gZ a X1 Y1 E1 X2 Y2 E2) (M.gY a X1 Y1 E1 X2 Y2 E2)) [(X1,Y1,E1),(X2,Y2,E2)] else none from rfl);rw [hv.out];clear hv hs hp hq;generalize M.er a X1 Y1 E1 X2 Y2 E2=ok,M.gY a X1 Y1 E1 X2 Y2 E2=E3,M.jA a X1 Y1 E1 X2 Y2 E2=Y3,M.gZ a X1 Y1 E1 X2 Y2 E2=X3 at *
 have PH:=fun W=>ft a b X3 Y3 E3 W hg s1 s2 s3 s4
 have hto:=M.eO (a:=a) (b:=b) hin s1 s2 s3 s4
 have PL:=fun s g W h1 h2=>tS a b s [(X1,Y1,E1),(X2,Y2,E2)] g 2 W hg h1 h2 (by simp) (by
  intro p hp
  rcases List.mem_cons.1 hp with rfl | hp
  ·exact ⟨p1,p2,p3,p4⟩
  rcases List.mem_cons.1 hp with rfl | hp
  ·exact ⟨r1,r2,r3,r4⟩
  cases hp)
 generalize M.bj a b X3 E3=t at *;clear hg hin s1 s2 s3 s4 p1 p2 p3 p4 r1 r2 r3 r4
 cases ok with
 | false=>
  have e1:=yI (show M.zA none=0∧M.zB none=0∧M.zD none=0∧M.zH none=0∧(none:M.Sp).isSome=false from ⟨rfl,rfl,rfl,rfl,rfl⟩);have e2:=yI (show (if (false=true) then M.dI a b t [(X1,Y1,E1),(X2,Y2,E2)] else none)=none from rfl);rw [e2.out,e1.out.1,e1.out.2.1,e1.out.2.2.1,e1.out.2.2.2.1,e1.out.2.2.2.2];clear e1 e2 PH PL hto;replace PA:=yI PA;obtain ⟨wc,hw3,C,Q,U,R,B⟩:=li w #[.int .i64 a,.int .i64 b] 29 #[.int .i64 X1,.int .i64 Y1,.int .i64 E1] 57 #[.int .i64 X2,.int .i64 Y2,.int .i64 E2] 57 #[.int .i64 0,.int .i64 0,.int .i64 0,.int .i64 0] 64;have j_:=C.box.c0;have l_:=C.box.c1;have ⟨q0,q1,q2⟩:=Q.aR;have ⟨u0,u1,u2⟩:=U.aR;go_enter Tryz.func66,Tryz.ntmps66
  go_wp2_with (go_at_call 86;(with_reducible refine (PA.out _).mono ?_);rintro e w4 ⟨rfl,hb4⟩;replace B:=f_ B hb4;replace C:=C.keep hb4;replace Q:=Q.keep hb4;replace U:=U.keep hb4;replace R:=R.keep hb4;replace B:=B.alloc B.size (.cells #[.int .i64 X3,.int .i64 Y3,.int .i64 E3] 57);replace C:=C.alloc (.cells #[.int .i64 X3,.int .i64 Y3,.int .i64 E3] 57);replace Q:=Q.alloc (.cells #[.int .i64 X3,.int .i64 Y3,.int .i64 E3] 57);replace U:=U.alloc (.cells #[.int .i64 X3,.int .i64 Y3,.int .i64 E3] 57);replace R:=R.alloc (.cells #[.int .i64 X3,.int .i64 Y3,.int .i64 E3] 57);have S:=aH.new w4 #[.int .i64 X3,.int .i64 Y3,.int .i64 E3] 57;(have ⟨z0,z1,z2⟩:=S.aR);have j_:=C.box.c0;have l_:=C.box.c1;(have ⟨q0,q1,q2⟩:=Q.aR);(have ⟨u0,u1,u2⟩:=U.aR);(have ⟨r0,r1,r2,r3,y0,y1,y2,y3,rl⟩:=R.aM))
  exact bodyPost_ret (v:=.tuple #[.agg #[.int .i64 0,.int .i64 0,.int .i64 0,.int .i64 0],.bool false]) (by simp [results,Tryz.results66,go_sem, *]) rfl (⟨rfl,yK (yK (yK (yK B (by simp;omega) _) (by simp;omega) _) (by simp;omega) _) (by simp;omega) _⟩)
 | true=>
 rw [if_pos rfl];replace PA:=yI PA
 cases t with
 | none=>
  have e1:=yI (show M.zA none=0∧M.zB none=0∧M.zD none=0∧M.zH none=0∧(none:M.Sp).isSome=false from ⟨rfl,rfl,rfl,rfl,rfl⟩);rw [M.gl,e1.out.1,e1.out.2.1,e1.out.2.2.1,e1.out.2.2.2.1,e1.out.2.2.2.2];rw [e1.out.1,e1.out.2.1,e1.out.2.2.1,e1.out.2.2.2.1,e1.out.2.2.2.2] at PH;clear e1 PL hto;replace PH:=yI PH;obtain ⟨wc,hw3,C,Q,U,R,B⟩:=li w #[.int .i64 a,.int .i64 b] 29 #[.int .i64 X1,.int .i64 Y1,.int .i64 E1] 57 #[.int .i64 X2,.int .i64 Y2,.int .i64 E2] 57 #[.int .i64 0,.int .i64 0,.int .i64 0,.int .i64 0] 64;have j_:=C.box.c0;have l_:=C.box.c1;have ⟨q0,q1,q2⟩:=Q.aR;have ⟨u0,u1,u2⟩:=U.aR;go_enter Tryz.func66,Tryz.ntmps66
  go_wp2_with first | (go_at_call 86;(with_reducible refine (PA.out _).mono ?_);rintro e w4 ⟨rfl,hb4⟩;replace B:=f_ B hb4;replace C:=C.keep hb4;replace Q:=Q.keep hb4;replace U:=U.keep hb4;replace R:=R.keep hb4;replace B:=B.alloc B.size (.cells #[.int .i64 X3,.int .i64 Y3,.int .i64 E3] 57);replace C:=C.alloc (.cells #[.int .i64 X3,.int .i64 Y3,.int .i64 E3] 57);replace Q:=Q.alloc (.cells #[.int .i64 X3,.int .i64 Y3,.int .i64 E3] 57);replace U:=U.alloc (.cells #[.int .i64 X3,.int .i64 Y3,.int .i64 E3] 57);replace R:=R.alloc (.cells #[.int .i64 X3,.int .i64 Y3,.int .i64 E3] 57);have S:=aH.new w4 #[.int .i64 X3,.int .i64 Y3,.int .i64 E3] 57;(have ⟨z0,z1,z2⟩:=S.aR);have j_:=C.box.c0;have l_:=C.box.c1;(have ⟨q0,q1,q2⟩:=Q.aR);(have ⟨u0,u1,u2⟩:=U.aR);(have ⟨r0,r1,r2,r3,y0,y1,y2,y3,rl⟩:=R.aM)) | (go_at_call 87;(with_reducible refine (PH.out _).mono ?_);rintro e w5 ⟨rfl,hb5⟩;replace B:=f_ B hb5;replace C:=C.keep hb5;replace Q:=Q.keep hb5;replace U:=U.keep hb5;replace R:=R.keep hb5;replace B:=B.alloc B.size (.cells #[.int .i64 0,.int .i64 0,.int .i64 0,.int .i64 0] 64);replace C:=C.alloc (.cells #[.int .i64 0,.int .i64 0,.int .i64 0,.int .i64 0] 64);replace Q:=Q.alloc (.cells #[.int .i64 0,.int .i64 0,.int .i64 0,.int .i64 0] 64);replace U:=U.alloc (.cells #[.int .i64 0,.int .i64 0,.int .i64 0,.int .i64 0] 64);replace R:=R.alloc (.cells #[.int .i64 0,.int .i64 0,.int .i64 0,.int .i64 0] 64);have V:=aH.new w5 #[.int .i64 0,.int .i64 0,.int .i64 0,.int .i64 0] 64;(have ⟨v0,v1,v2,v3,_,_,_,_,vl⟩:=V.aM);have j_:=C.box.c0;have l_:=C.box.c1;(have ⟨q0,q1,q2⟩:=Q.aR);(have ⟨u0,u1,u2⟩:=U.aR);(have ⟨r0,r1,r2,r3,y0,y1,y2,y3,rl⟩:=R.aM))
  exact bodyPost_ret (v:=.tuple #[.agg #[.int .i64 0,.int .i64 0,.int .i64 0,.int .i64 0],.bool false]) (by simp [results,Tryz.results66,go_sem, *]) rfl (⟨rfl,yK (yK (yK (yK B (by simp;omega) _) (by simp;omega) _) (by simp;omega) _) (by simp;omega) _⟩)
 | some s=>
 replace PL:=fun g W h2=>PL s g W (hto s rfl) h2
 have e1:=yI (show (some s:M.Sp).isSome=true from rfl);rw [e1.out] at PH;clear e1 hto;have e2:=yI (show [(X1,Y1,E1),(X2,Y2,E2)].length=2 from rfl);rw [e2.out] at PL;clear e2;generalize M.zH (some s)=i4,M.zD (some s)=i3,M.zB (some s)=i2,M.zA (some s)=i1,M.dI a b (some s) [(X1,Y1,E1),(X2,Y2,E2)]=r at *;generalize r.isSome=fr,M.zH r=k4,M.zD r=k3,M.zB r=k2,M.zA r=k1 at *;replace PH:=yI PH;replace PL:=yI PL;obtain ⟨wc,hw3,C,Q,U,R,B⟩:=li w #[.int .i64 a,.int .i64 b] 29 #[.int .i64 X1,.int .i64 Y1,.int .i64 E1] 57 #[.int .i64 X2,.int .i64 Y2,.int .i64 E2] 57 #[.int .i64 0,.int .i64 0,.int .i64 0,.int .i64 0] 64;have j_:=C.box.c0;have l_:=C.box.c1;have ⟨q0,q1,q2⟩:=Q.aR;have ⟨u0,u1,u2⟩:=U.aR;go_enter Tryz.func66,Tryz.ntmps66
 go_wp2_with first | (go_at_call 86;(with_reducible refine (PA.out _).mono ?_);rintro e w4 ⟨rfl,hb4⟩;replace B:=f_ B hb4;replace C:=C.keep hb4;replace Q:=Q.keep hb4;replace U:=U.keep hb4;replace R:=R.keep hb4;replace B:=B.alloc B.size (.cells #[.int .i64 X3,.int .i64 Y3,.int .i64 E3] 57);replace C:=C.alloc (.cells #[.int .i64 X3,.int .i64 Y3,.int .i64 E3] 57);replace Q:=Q.alloc (.cells #[.int .i64 X3,.int .i64 Y3,.int .i64 E3] 57);replace U:=U.alloc (.cells #[.int .i64 X3,.int .i64 Y3,.int .i64 E3] 57);replace R:=R.alloc (.cells #[.int .i64 X3,.int .i64 Y3,.int .i64 E3] 57);have S:=aH.new w4 #[.int .i64 X3,.int .i64 Y3,.int .i64 E3] 57;(have ⟨z0,z1,z2⟩:=S.aR);have j_:=C.box.c0;have l_:=C.box.c1;(have ⟨q0,q1,q2⟩:=Q.aR);(have ⟨u0,u1,u2⟩:=U.aR);(have ⟨r0,r1,r2,r3,y0,y1,y2,y3,rl⟩:=R.aM)) | (go_at_call 87;(with_reducible refine (PH.out _).mono ?_);rintro e w5 ⟨rfl,hb5⟩;replace B:=f_ B hb5;replace C:=C.keep hb5;replace Q:=Q.keep hb5;replace U:=U.keep hb5;replace R:=R.keep hb5;replace B:=B.alloc B.size (.cells #[.int .i64 i1,.int .i64 i2,.int .i64 i3,.int .i64 i4] 64);replace C:=C.alloc (.cells #[.int .i64 i1,.int .i64 i2,.int .i64 i3,.int .i64 i4] 64);replace Q:=Q.alloc (.cells #[.int .i64 i1,.int .i64 i2,.int .i64 i3,.int .i64 i4] 64);replace U:=U.alloc (.cells #[.int .i64 i1,.int .i64 i2,.int .i64 i3,.int .i64 i4] 64);replace R:=R.alloc (.cells #[.int .i64 i1,.int .i64 i2,.int .i64 i3,.int .i64 i4] 64);have V:=aH.new w5 #[.int .i64 i1,.int .i64 i2,.int .i64 i3,.int .i64 i4] 64;(have ⟨v0,v1,v2,v3,_,_,_,_,vl⟩:=V.aM);have j_:=C.box.c0;have l_:=C.box.c1;(have ⟨q0,q1,q2⟩:=Q.aR);(have ⟨u0,u1,u2⟩:=U.aR);(have ⟨r0,r1,r2,r3,y0,y1,y2,y3,rl⟩:=R.aM);replace R:=R.alloc (.cells #[.int .i64 X1,.int .i64 Y1,.int .i64 E1,.int .i64 X2,.int .i64 Y2,.int .i64 E2] 57);have L:=aH.new (w5.alloc (.cells #[.int .i64 i1,.int .i64 i2,.int .i64 i3,.int .i64 i4] 64)) #[.int .i64 X1,.int .i64 Y1,.int .i64 E1,.int .i64 X2,.int .i64 Y2,.int .i64 E2] 57;(rw [yJ] at L);replace L:=yI (eT.two L)) | (go_at_call 88;(with_reducible refine (PL.out _ _ L.out).mono ?_);rintro e w6 ⟨rfl,hb6⟩;replace B:=(B.alloc B.size (.cells #[.int .i64 X1,.int .i64 Y1,.int .i64 E1,.int .i64 X2,.int .i64 Y2,.int .i64 E2] 57)).trans (hb6.mono (B.alloc B.size (.cells #[.int .i64 X1,.int .i64 Y1,.int .i64 E1,.int .i64 X2,.int .i64 Y2,.int .i64 E2] 57)).size);replace R:=R.keep hb6;(have ⟨r0,r1,r2,r3,y0,y1,y2,y3,rl⟩:=R.aM))
 exact bodyPost_ret (v:=.tuple #[.agg #[.int .i64 k1,.int .i64 k2,.int .i64 k3,.int .i64 k4],.bool fr]) (by simp [results,Tryz.results66,go_sem, *]) rfl (⟨rfl,yK (yK (yK (yK B (by simp;omega) _) (by simp;omega) _) (by simp;omega) _) (by simp;omega) _⟩)
end
end Go.Proofs.YtgfkcoablfjbcaaGreat
