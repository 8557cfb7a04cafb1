/-
  Joined texts: contracts and plain lemmas.
-/
import Derived.Test.YtkalaljcbmkbmaaGreatB1
import Derived.Test.YtkalaljcbmkbmaaGreatB11
import Derived.Test.YtkalaljcbmkbmaaGreatB9
import Derived.Test.YtkalaljcbmkbmaaGreatB5
set_option linter.unusedSimpArgs false
set_option linter.unusedVariables false
set_option maxRecDepth 100000
set_option maxHeartbeats 8000000
namespace Go.Proofs.YtkalaljcbmkbmaaGreat
section
open Go.RowKit
namespace M
abbrev Sp:=Option (Int × Int)
def DQ (s:Sp):Int:=(s.getD (0,0)).1
def DZ (s:Sp):Int:=(s.getD (0,0)).2
def mkS (l h:Int):Sp:=if aJ l h=true then some (l,h) else none
def fW (s t:Sp):Sp:=s.bind fun p=>t.bind fun q=>mkS (p.1+q.1) (p.2+q.2)
def cR (s t:Sp):Sp:=s.bind fun p=>t.bind fun q=>mkS (p.1 - q.2) (p.2 - q.1)
def fI (s t:Sp):Sp:=s.bind fun p=>t.bind fun q=>mkS (cI p.1 p.2 q.1 q.2 / 4096) (-(-cG p.1 p.2 q.1 q.2 / 4096))
noncomputable def bO (a b X E:Int):Sp:=if EA a b X E=true then some (bL a b X E (bN a b X E),bH a b X E (bN a b X E)) else none
def gd (f:Bool) (s:Sp):Sp:=if f=true then s else none
def EI (s:Sp):Prop:=∀ p,s=some p->aJ p.1 p.2=true
theorem fF:EI none:=fun _ h=>by cases h
theorem Bb (l h:Int):EI (mkS l h):=by
 intro p hp;unfold mkS at hp
 split at hp
 ·injection hp with hp;subst hp;assumption
 cases hp
theorem jZ {f:Bool} {s:Sp} (h:EI s):EI (gd f s):=by
 unfold gd;split
 ·exact h
 exact fF
theorem jY {s t:Sp} {F G:Int × Int->Int × Int->Int}:EI (s.bind fun p=>t.bind fun q=>mkS (F p q) (G p q)):=by
 cases s
 ·exact fF
 cases t
 ·exact fF
 exact Bb _ _
theorem sy {s t:Sp}:EI (fW s t):=jY
theorem kP {s t:Sp}:EI (cR s t):=jY
theorem s8 {s t:Sp}:EI (fI s t):=jY
theorem gY {s:Sp} (h:EI s):DQ s<=DZ s/\-409600000<=DQ s/\DZ s<=409600000:=by
 cases s with
 | none=>exact ⟨Int.le_refl _,by decide,by decide⟩
 | some p=>exact bj (h p rfl)
theorem sM {a b X E:Int} (hin:M.aw a b=true) (hX1:-10000<=X) (hX2:X<=10000) (hE1:0<=E) (hE2:E<=20) (h:EA a b X E=true):aJ (bL a b X E (bN a b X E)) (bH a b X E (bN a b X E))=true:=by
 cases hs:aJ (bL a b X E (bN a b X E)) (bH a b X E (bN a b X E))
 ·rw [CS hin hX1 hX2 hE1 hE2 (DF _) hs] at h;cases h
 rfl
theorem fE {a b X E:Int} (hin:M.aw a b=true) (hX1:-10000<=X) (hX2:X<=10000) (hE1:0<=E) (hE2:E<=20):EI (bO a b X E):=by
 intro p hp;unfold bO at hp
 split at hp
 ·rename_i h
  injection hp with hp;subst hp;exact sM hin hX1 hX2 hE1 hE2 h
 cases hp
theorem step2 {ok:Bool} {s t:Sp} {F G:Int->Int->Int->Int->Int} (h1:ok=true->s.isSome=true) (h2:ok=true->t.isSome=true):(ok && aJ (F (DQ s) (DZ s) (DQ t) (DZ t)) (G (DQ s) (DZ s) (DQ t) (DZ t)))=(gd ok (s.bind fun p=>t.bind fun q=>mkS (F p.1 p.2 q.1 q.2) (G p.1 p.2 q.1 q.2))).isSome/\pick (ok && aJ (F (DQ s) (DZ s) (DQ t) (DZ t)) (G (DQ s) (DZ s) (DQ t) (DZ t))) (F (DQ s) (DZ s) (DQ t) (DZ t))=DQ (gd ok (s.bind fun p=>t.bind fun q=>mkS (F p.1 p.2 q.1 q.2) (G p.1 p.2 q.1 q.2)))/\pick (ok && aJ (F (DQ s) (DZ s) (DQ t) (DZ t)) (G (DQ s) (DZ s) (DQ t) (DZ t))) (G (DQ s) (DZ s) (DQ t) (DZ t))=DZ (gd ok (s.bind fun p=>t.bind fun q=>mkS (F p.1 p.2 q.1 q.2) (G p.1 p.2 q.1 q.2))):=by
 cases ok with
 | false=>exact ⟨rfl,rfl,rfl⟩
 | true=>
 obtain ⟨p,rfl⟩:=Option.isSome_iff_exists.1 (h1 rfl);obtain ⟨q,rfl⟩:=Option.isSome_iff_exists.1 (h2 rfl)
 show (true && aJ (F p.1 p.2 q.1 q.2) (G p.1 p.2 q.1 q.2))=(mkS (F p.1 p.2 q.1 q.2) (G p.1 p.2 q.1 q.2)).isSome/\pick (true && aJ (F p.1 p.2 q.1 q.2) (G p.1 p.2 q.1 q.2)) (F p.1 p.2 q.1 q.2)=DQ (mkS (F p.1 p.2 q.1 q.2) (G p.1 p.2 q.1 q.2))/\pick (true && aJ (F p.1 p.2 q.1 q.2) (G p.1 p.2 q.1 q.2)) (G p.1 p.2 q.1 q.2)=DZ (mkS (F p.1 p.2 q.1 q.2) (G p.1 p.2 q.1 q.2))
 unfold mkS
 cases aJ (F p.1 p.2 q.1 q.2) (G p.1 p.2 q.1 q.2) <;> exact ⟨rfl,rfl,rfl⟩
end M
theorem xA (g:Nat) (ok:Bool) (a b c d:Int) (w:World) (K:aG w g 103 #[ok]) (h1:-4000000000000000000<=a) (h2:a<=4000000000000000000) (h3:-4000000000000000000<=b) (h4:b<=4000000000000000000) (h5:-4000000000000000000<=c) (h6:c<=4000000000000000000) (h7:-4000000000000000000<=d) (h8:d<=4000000000000000000) :
  Calls Tryz.prog 114 #[.pointer (some ⟨g,0,none⟩),.agg #[a,b],.agg #[c,d]] w fun e w'=>e=.returned (.agg #[M.pick (ok && M.aJ (a+c) (b+d)) (a+c),M.pick (ok && M.aJ (a+c) (b+d)) (b+d)])/\Below w.heap.size (w.setCell ⟨g,0,none⟩ (.bool (ok && M.aJ (a+c) (b+d)))) w':=by
 have PP:=fun W=>Bf a b c d W h1 h2 h3 h4 h5 h6 h7 h8
 have PK:=fun W (k:aG W g 103 #[ok])=>oI g ok (a+c) (b+d) W k
 generalize (b+d)=hi,(a+c)=lo at *;generalize (ok && M.aJ lo hi)=f at *;replace PP:=DB PP;replace PK:=DB PK;have hgl:=K.lt;have B:=(((DE w.heap.size w).alloc (DF _) (.cells #[a,b] 74)).alloc (by rw [DC];omega) (.cells #[c,d] 74)).alloc (by rw [DC,DC];omega) (.cells #[(0:Int),(0:Int)] 74);have S:=((aG.new w #[a,b] 74).alloc (.cells #[c,d] 74)).alloc (.cells #[(0:Int),(0:Int)] 74);have T:=(aG.new (w.alloc (.cells #[a,b] 74)) #[c,d] 74).alloc (.cells #[(0:Int),(0:Int)] 74);rw [DC] at T;have R:=aG.new ((w.alloc (.cells #[a,b] 74)).alloc (.cells #[c,d] 74)) #[(0:Int),(0:Int)] 74;rw [DC,DC] at R;have K2:=((K.alloc (.cells #[a,b] 74)).alloc (.cells #[c,d] 74)).alloc (.cells #[(0:Int),(0:Int)] 74);generalize hw3:((w.alloc (.cells #[a,b] 74)).alloc (.cells #[c,d] 74)).alloc (.cells #[(0:Int),(0:Int)] 74)=wc at *
 have n1:w.heap.size+1+1≠g:=by omega
 have ⟨s0,s1,_,_,_⟩:=S.box;have ⟨t0,t1,_,_,_⟩:=T.box;go_enter Tryz.func114,Tryz.ntmps114
 go_wp2_with first | (go_at_call 136;(with_reducible refine (PP.out _).mono ?_);rintro e w4 ⟨rfl,hb4⟩;replace B:=d_ B hb4;replace R:=R.keep hb4;replace K2:=K2.keep hb4) | (go_at_call 134;(with_reducible refine (PK.out _ K2).mono ?_);rintro e w5 ⟨rfl,hb5⟩;have hz:=B.size;replace B:=(dj B ⟨g,0,none⟩ (.bool f)).trans (hb5.mono hz);replace R:=(R.other n1 (.bool f)).keep (bB hb5);(obtain ⟨r0,r1,r2,r3,r4⟩:=R.box))
 exact bodyPost_ret (v:=.agg #[M.pick f lo,M.pick f hi]) (by simp [results,Tryz.results114,go_sem, *]) rfl (⟨rfl,Gh B⟩)
theorem sp (g:Nat) (ok:Bool) (s t:M.Sp) (w:World) (K:aG w g 103 #[ok]) (hs:M.EI s) (ht:M.EI t) (h1:ok=true->s.isSome=true) (h2:ok=true->t.isSome=true) :
  Calls Tryz.prog 114 #[.pointer (some ⟨g,0,none⟩),.agg #[M.DQ s,M.DZ s],.agg #[M.DQ t,M.DZ t]] w fun e w'=>e=.returned (.agg #[M.DQ (M.gd ok (M.fW s t)),M.DZ (M.gd ok (M.fW s t))])/\Below w.heap.size (w.setCell ⟨g,0,none⟩ (.bool (M.gd ok (M.fW s t)).isSome)) w':=by
 obtain ⟨e1,e2,e3⟩:=M.step2 (F:=fun a _ c _=>a+c) (G:=fun _ b _ d=>b+d) h1 h2;have b1:=M.gY hs;have b2:=M.gY ht;have h:=xA g ok (M.DQ s) (M.DZ s) (M.DQ t) (M.DZ t) w K (by omega) (by omega) (by omega) (by omega) (by omega) (by omega) (by omega) (by omega);rw [e2,e3,e1] at h;exact h
theorem uI (g:Nat) (ok:Bool) (a b c d:Int) (w:World) (K:aG w g 103 #[ok]) (h1:-4000000000000000000<=a) (h2:a<=4000000000000000000) (h3:-4000000000000000000<=b) (h4:b<=4000000000000000000) (h5:-4000000000000000000<=c) (h6:c<=4000000000000000000) (h7:-4000000000000000000<=d) (h8:d<=4000000000000000000) :
  Calls Tryz.prog 115 #[.pointer (some ⟨g,0,none⟩),.agg #[a,b],.agg #[c,d]] w fun e w'=>e=.returned (.agg #[M.pick (ok && M.aJ (a - d) (b - c)) (a - d),M.pick (ok && M.aJ (a - d) (b - c)) (b - c)])/\Below w.heap.size (w.setCell ⟨g,0,none⟩ (.bool (ok && M.aJ (a - d) (b - c)))) w':=by
 have PP:=fun W=>zI a b c d W h1 h2 h3 h4 h5 h6 h7 h8
 have PK:=fun W (k:aG W g 103 #[ok])=>oI g ok (a - d) (b - c) W k
 generalize (b - c)=hi,(a - d)=lo at *;generalize (ok && M.aJ lo hi)=f at *;replace PP:=DB PP;replace PK:=DB PK;have hgl:=K.lt;have B:=(((DE w.heap.size w).alloc (DF _) (.cells #[a,b] 74)).alloc (by rw [DC];omega) (.cells #[c,d] 74)).alloc (by rw [DC,DC];omega) (.cells #[(0:Int),(0:Int)] 74);have S:=((aG.new w #[a,b] 74).alloc (.cells #[c,d] 74)).alloc (.cells #[(0:Int),(0:Int)] 74);have T:=(aG.new (w.alloc (.cells #[a,b] 74)) #[c,d] 74).alloc (.cells #[(0:Int),(0:Int)] 74);rw [DC] at T;have R:=aG.new ((w.alloc (.cells #[a,b] 74)).alloc (.cells #[c,d] 74)) #[(0:Int),(0:Int)] 74;rw [DC,DC] at R;have K2:=((K.alloc (.cells #[a,b] 74)).alloc (.cells #[c,d] 74)).alloc (.cells #[(0:Int),(0:Int)] 74);generalize hw3:((w.alloc (.cells #[a,b] 74)).alloc (.cells #[c,d] 74)).alloc (.cells #[(0:Int),(0:Int)] 74)=wc at *
 have n1:w.heap.size+1+1≠g:=by omega
 have ⟨s0,s1,_,_,_⟩:=S.box;have ⟨t0,t1,_,_,_⟩:=T.box;go_enter Tryz.func115,Tryz.ntmps115
 go_wp2_with first | (go_at_call 137;(with_reducible refine (PP.out _).mono ?_);rintro e w4 ⟨rfl,hb4⟩;replace B:=d_ B hb4;replace R:=R.keep hb4;replace K2:=K2.keep hb4) | (go_at_call 134;(with_reducible refine (PK.out _ K2).mono ?_);rintro e w5 ⟨rfl,hb5⟩;have hz:=B.size;replace B:=(dj B ⟨g,0,none⟩ (.bool f)).trans (hb5.mono hz);replace R:=(R.other n1 (.bool f)).keep (bB hb5);(obtain ⟨r0,r1,r2,r3,r4⟩:=R.box))
 exact bodyPost_ret (v:=.agg #[M.pick f lo,M.pick f hi]) (by simp [results,Tryz.results115,go_sem, *]) rfl (⟨rfl,Gh B⟩)
theorem lN (g:Nat) (ok:Bool) (s t:M.Sp) (w:World) (K:aG w g 103 #[ok]) (hs:M.EI s) (ht:M.EI t) (h1:ok=true->s.isSome=true) (h2:ok=true->t.isSome=true) :
  Calls Tryz.prog 115 #[.pointer (some ⟨g,0,none⟩),.agg #[M.DQ s,M.DZ s],.agg #[M.DQ t,M.DZ t]] w fun e w'=>e=.returned (.agg #[M.DQ (M.gd ok (M.cR s t)),M.DZ (M.gd ok (M.cR s t))])/\Below w.heap.size (w.setCell ⟨g,0,none⟩ (.bool (M.gd ok (M.cR s t)).isSome)) w':=by
 obtain ⟨e1,e2,e3⟩:=M.step2 (F:=fun a _ _ d=>a - d) (G:=fun _ b c _=>b - c) h1 h2;have b1:=M.gY hs;have b2:=M.gY ht;have h:=uI g ok (M.DQ s) (M.DZ s) (M.DQ t) (M.DZ t) w K (by omega) (by omega) (by omega) (by omega) (by omega) (by omega) (by omega) (by omega);rw [e2,e3,e1] at h;exact h
theorem uJ (g:Nat) (ok:Bool) (a b c d:Int) (w:World) (K:aG w g 103 #[ok]) (h1:-1000000000<=a) (h2:a<=1000000000) (h3:-1000000000<=b) (h4:b<=1000000000) (h5:-1000000000<=c) (h6:c<=1000000000) (h7:-1000000000<=d) (h8:d<=1000000000) :
  Calls Tryz.prog 113 #[.pointer (some ⟨g,0,none⟩),.agg #[a,b],.agg #[c,d]] w fun e w'=>e=.returned (.agg #[M.pick (ok && M.aJ (M.cI a b c d / 4096) (-(-M.cG a b c d / 4096))) (M.cI a b c d / 4096),M.pick (ok && M.aJ (M.cI a b c d / 4096) (-(-M.cG a b c d / 4096))) (-(-M.cG a b c d / 4096))])/\Below w.heap.size (w.setCell ⟨g,0,none⟩ (.bool (ok && M.aJ (M.cI a b c d / 4096) (-(-M.cG a b c d / 4096))))) w':=by
 have PP:=fun W=>AF a b c d W h1 h2 h3 h4 h5 h6 h7 h8
 have PK:=fun W (k:aG W g 103 #[ok])=>oI g ok (M.cI a b c d / 4096) (-(-M.cG a b c d / 4096)) W k
 generalize (-(-M.cG a b c d / 4096))=hi,(M.cI a b c d / 4096)=lo at *;generalize (ok && M.aJ lo hi)=f at *;replace PP:=DB PP;replace PK:=DB PK;have hgl:=K.lt;have B:=(((DE w.heap.size w).alloc (DF _) (.cells #[a,b] 74)).alloc (by rw [DC];omega) (.cells #[c,d] 74)).alloc (by rw [DC,DC];omega) (.cells #[(0:Int),(0:Int)] 74);have S:=((aG.new w #[a,b] 74).alloc (.cells #[c,d] 74)).alloc (.cells #[(0:Int),(0:Int)] 74);have T:=(aG.new (w.alloc (.cells #[a,b] 74)) #[c,d] 74).alloc (.cells #[(0:Int),(0:Int)] 74);rw [DC] at T;have R:=aG.new ((w.alloc (.cells #[a,b] 74)).alloc (.cells #[c,d] 74)) #[(0:Int),(0:Int)] 74;rw [DC,DC] at R;have K2:=((K.alloc (.cells #[a,b] 74)).alloc (.cells #[c,d] 74)).alloc (.cells #[(0:Int),(0:Int)] 74);generalize hw3:((w.alloc (.cells #[a,b] 74)).alloc (.cells #[c,d] 74)).alloc (.cells #[(0:Int),(0:Int)] 74)=wc at *
 have n1:w.heap.size+1+1≠g:=by omega
 have ⟨s0,s1,_,_,_⟩:=S.box;have ⟨t0,t1,_,_,_⟩:=T.box;go_enter Tryz.func113,Tryz.ntmps113
 go_wp2_with first | (go_at_call 135;(with_reducible refine (PP.out _).mono ?_);rintro e w4 ⟨rfl,hb4⟩;replace B:=d_ B hb4;replace R:=R.keep hb4;replace K2:=K2.keep hb4) | (go_at_call 134;(with_reducible refine (PK.out _ K2).mono ?_);rintro e w5 ⟨rfl,hb5⟩;have hz:=B.size;replace B:=(dj B ⟨g,0,none⟩ (.bool f)).trans (hb5.mono hz);replace R:=(R.other n1 (.bool f)).keep (bB hb5);(obtain ⟨r0,r1,r2,r3,r4⟩:=R.box))
 exact bodyPost_ret (v:=.agg #[M.pick f lo,M.pick f hi]) (by simp [results,Tryz.results113,go_sem, *]) rfl (⟨rfl,Gh B⟩)
theorem xB (g:Nat) (ok:Bool) (s t:M.Sp) (w:World) (K:aG w g 103 #[ok]) (hs:M.EI s) (ht:M.EI t) (h1:ok=true->s.isSome=true) (h2:ok=true->t.isSome=true) :
  Calls Tryz.prog 113 #[.pointer (some ⟨g,0,none⟩),.agg #[M.DQ s,M.DZ s],.agg #[M.DQ t,M.DZ t]] w fun e w'=>e=.returned (.agg #[M.DQ (M.gd ok (M.fI s t)),M.DZ (M.gd ok (M.fI s t))])/\Below w.heap.size (w.setCell ⟨g,0,none⟩ (.bool (M.gd ok (M.fI s t)).isSome)) w':=by
 obtain ⟨e1,e2,e3⟩:=M.step2 (F:=fun a b c d=>M.cI a b c d / 4096) (G:=fun a b c d=>-(-M.cG a b c d / 4096)) h1 h2;have b1:=M.gY hs;have b2:=M.gY ht;have h:=uJ g ok (M.DQ s) (M.DZ s) (M.DQ t) (M.DZ t) w K (by omega) (by omega) (by omega) (by omega) (by omega) (by omega) (by omega) (by omega);rw [e2,e3,e1] at h;exact h
theorem ki {B g:Nat} {w W:World} {T:TypeId} {u v x y:Value} (h:Below B w W) (K:aG w g T #[u]) (K2:aG W g T #[v]):Below B (w.setCell ⟨g,0,none⟩ y) ((W.setCell ⟨g,0,none⟩ x).setCell ⟨g,0,none⟩ y):=
 ⟨h.os,h.tape,h.output,by rw [aV,aV,aV];exact h.size,fun k hk=>by
  by_cases hg:k=g
  ·subst hg
   exact ((K2.one x).one y).trans (K.one y).symm
  rw [Below.heap_setCell _ _ _ _ hg,Below.heap_setCell _ _ _ _ hg,Below.heap_setCell _ _ _ _ hg]
  exact h.block k hk⟩
theorem kL (g:Nat) (ok:Bool) (a b X Y E:Int) (w:World) (K:aG w g 103 #[ok]) (hg:M.good a b=true) (hX1:-10000<=X) (hX2:X<=10000) (hE1:0<=E) (hE2:E<=20) :
  Calls Tryz.prog 132 #[.pointer (some ⟨g,0,none⟩),.agg #[a,b],.agg #[X,Y,E]] w fun e w'=>e=.returned (.agg #[M.DQ (M.gd ok (M.bO a b X E)),M.DZ (M.gd ok (M.bO a b X E))])/\Below w.heap.size (w.setCell ⟨g,0,none⟩ (.bool (M.gd ok (M.bO a b X E)).isSome)) w':=by
 have PB:=fun W=>nK a b X Y E W hg hX1 hX2 hE1 hE2
 have MK:=fun h=>M.sM (a:=a) (b:=b) (X:=X) (E:=E) (M.aj hg) hX1 hX2 hE1 hE2 h
 have hv:Hid (M.bO a b X E=if M.EA a b X E=true then some (M.bL a b X E (M.bN a b X E),M.bH a b X E (M.bN a b X E)) else none):=DB rfl;rw [hv.out];clear hv;generalize M.EA a b X E=bo,M.bH a b X E (M.bN a b X E)=hi,M.bL a b X E (M.bN a b X E)=lo at *;generalize ((M.bN a b X E:Nat):Int)=bn at *
 have PK:=fun W (k:aG W g 103 #[.bool (ok && bo)])=>oI g (ok && bo) lo hi W k
 have e1:(ok && bo && M.aJ lo hi)=(M.gd ok (if bo=true then some (lo,hi) else none)).isSome:=by
  cases ok <;> cases bo <;> first | rfl | (rw [MK rfl];rfl)
 have e2:M.pick (ok && bo && M.aJ lo hi) lo=M.DQ (M.gd ok (if bo=true then some (lo,hi) else none)):=by
  cases ok <;> cases bo <;> first | rfl | (rw [MK rfl];rfl)
 have e3:M.pick (ok && bo && M.aJ lo hi) hi=M.DZ (M.gd ok (if bo=true then some (lo,hi) else none)):=by
  cases ok <;> cases bo <;> first | rfl | (rw [MK rfl];rfl)
 rw [e2,e3,e1] at PK;clear e1 e2 e3 MK;generalize M.gd ok (if bo=true then some (lo,hi) else none)=r at *;replace PB:=DB PB;have hgl:=K.lt;have B:=(((DE w.heap.size w).alloc (DF _) (.cells #[a,b] 25)).alloc (by rw [DC];omega) (.cells #[X,Y,E] 40)).alloc (by rw [DC,DC];omega) (.cells #[(0:Int),(0:Int)] 74);have C:=((aG.new w #[a,b] 25).alloc (.cells #[X,Y,E] 40)).alloc (.cells #[(0:Int),(0:Int)] 74);have Q:=(aG.new (w.alloc (.cells #[a,b] 25)) #[X,Y,E] 40).alloc (.cells #[(0:Int),(0:Int)] 74);rw [DC] at Q;have R:=aG.new ((w.alloc (.cells #[a,b] 25)).alloc (.cells #[X,Y,E] 40)) #[(0:Int),(0:Int)] 74;rw [DC,DC] at R;have K2:=((K.alloc (.cells #[a,b] 25)).alloc (.cells #[X,Y,E] 40)).alloc (.cells #[(0:Int),(0:Int)] 74);generalize hw3:((w.alloc (.cells #[a,b] 25)).alloc (.cells #[X,Y,E] 40)).alloc (.cells #[(0:Int),(0:Int)] 74)=wc at *
 have n1:w.heap.size+1+1≠g:=by omega
 have e_:=C.box.c0;have f_:=C.box.c1;have ⟨q0,q1,q2⟩:=Q.aO
 have hgm:g≠w.heap.size+1+1:=fun e=>n1 e.symm
 cases ok
 ·replace PK:=DB (show ∀ W,aG W g 103 #[(.bool false)]->_ from PK)
  go_enter Tryz.func132,Tryz.ntmps132
  go_wp2_with first | (go_at_call 148;(with_reducible refine (PB.out _).mono ?_);rintro e w4 ⟨rfl,hb4⟩;replace B:=(d_ B hb4).alloc (Nat.le_trans B.size hb4.size) (.cells #[lo,hi] 74);replace R:=(R.keep hb4).alloc (.cells #[lo,hi] 74);replace K2:=K2.keep hb4;(have n3:w4.heap.size≠g:=by have:=K2.lt;omega);(have n4:g≠w4.heap.size:=fun e=>n3 e.symm);replace K2:=K2.alloc (.cells #[lo,hi] 74);have k0:=K2.cell 0;have kf:=K2.DJ 0;have kl:=K2.lt;have V:=aG.new w4 #[lo,hi] 74;have v0:=V.cell 0;have v1:=V.cell 1;have V2:=V.other (i:=0) n3 (.bool false);have v2:=V2.cell 0;have v3:=V2.cell 1) | (go_at_call 134;(with_reducible refine (PK.out _ (K2.one (.bool false))).mono ?_);rintro e w5 ⟨rfl,hb5⟩;have hz:=B.size;replace R:=((R.other n1 (.bool false)).other n1 (.bool r.isSome)).keep (bB hb5);replace B:=(ki (x:=(.bool false)) (y:=.bool r.isSome) B K K2).trans (hb5.mono (by rw [aV];exact hz));(obtain ⟨r0,r1,r2,r3,r4⟩:=R.box))
  exact bodyPost_ret (v:=.agg #[M.DQ r,M.DZ r]) (by simp [results,Tryz.results132,go_sem, *]) rfl (⟨rfl,Gh B⟩)
 replace PK:=DB (show ∀ W,aG W g 103 #[(.bool bo)]->_ from PK);go_enter Tryz.func132,Tryz.ntmps132
 go_wp2_with first | (go_at_call 148;(with_reducible refine (PB.out _).mono ?_);rintro e w4 ⟨rfl,hb4⟩;replace B:=(d_ B hb4).alloc (Nat.le_trans B.size hb4.size) (.cells #[lo,hi] 74);replace R:=(R.keep hb4).alloc (.cells #[lo,hi] 74);replace K2:=K2.keep hb4;(have n3:w4.heap.size≠g:=by have:=K2.lt;omega);(have n4:g≠w4.heap.size:=fun e=>n3 e.symm);replace K2:=K2.alloc (.cells #[lo,hi] 74);have k0:=K2.cell 0;have kf:=K2.DJ 0;have kl:=K2.lt;have V:=aG.new w4 #[lo,hi] 74;have v0:=V.cell 0;have v1:=V.cell 1;have V2:=V.other (i:=0) n3 (.bool bo);have v2:=V2.cell 0;have v3:=V2.cell 1) | (go_at_call 134;(with_reducible refine (PK.out _ (K2.one (.bool bo))).mono ?_);rintro e w5 ⟨rfl,hb5⟩;have hz:=B.size;replace R:=((R.other n1 (.bool bo)).other n1 (.bool r.isSome)).keep (bB hb5);replace B:=(ki (x:=(.bool bo)) (y:=.bool r.isSome) B K K2).trans (hb5.mono (by rw [aV];exact hz));(obtain ⟨r0,r1,r2,r3,r4⟩:=R.box))
 exact bodyPost_ret (v:=.agg #[M.DQ r,M.DZ r]) (by simp [results,Tryz.results132,go_sem, *]) rfl (⟨rfl,Gh B⟩)
namespace M
noncomputable def eD (a b X E:Int):Sp:=fW (bO a b X E) (bO a b X E)
noncomputable def dN (a b X1 Y1 E1 X2 Y2 E2:Int):Sp:=if cX a X1 Y1 E1 X2 Y2 E2=true then cR (cR (bO a b (dV a X1 Y1 E1 X2 Y2 E2) (dU a X1 Y1 E1 X2 Y2 E2)) (bO a b X1 E1)) (bO a b X2 E2) else none
theorem jS {f:Bool} {s:Sp} (h:(gd f s).isSome=true):f=true/\s.isSome=true/\gd f s=s:=by
 cases f
 ·cases h
 exact ⟨rfl,h,rfl⟩
theorem nw (s:Sp):gd true s=s:=rfl
theorem yo (s t:Sp):gd s.isSome (fW s t)=fW s t:=by cases s <;> rfl
end M
theorem mI (a b X Y E:Int) (w:World) (hg:M.good a b=true) (hX1:-10000<=X) (hX2:X<=10000) (hE1:0<=E) (hE2:E<=20) :
  Calls Tryz.prog 110 #[.agg #[a,b],.agg #[X,Y,E]] w fun e w'=>e=.returned (.tuple #[.agg #[M.DQ (M.eD a b X E),M.DZ (M.eD a b X E)],.bool (M.eD a b X E).isSome])/\Below w.heap.size w w':=by
 have PB:=fun W K=>kL (w.heap.size+1+1+1) true a b X Y E W K hg hX1 hX2 hE1 hE2
 have hr:=M.fE (a:=a) (b:=b) (M.aj hg) hX1 hX2 hE1 hE2;have hv:M.eD a b X E=M.gd (M.bO a b X E).isSome (M.fW (M.bO a b X E) (M.bO a b X E)):=(M.yo _ _).symm;rw [hv];clear hv;rw [M.nw] at PB;generalize M.bO a b X E=r at *
 have PP:=fun W K=>sp (w.heap.size+1+1+1) r.isSome r r W K hr hr (fun h=>h) (fun h=>h)
 generalize r.isSome=f,M.gd r.isSome (M.fW r r)=q at *;generalize M.DZ q=qh,M.DQ q=ql,q.isSome=fq at *;have PB:=DB PB;have PP:=DB PP;obtain ⟨wc,hw3,C,Q,R,K,B⟩:=di w #[a,b] 25 #[X,Y,E] 40 #[(0:Int),(0:Int)] 74 #[true] 103;have e_:=C.box.c0;have f_:=C.box.c1;have ⟨q0,q1,q2⟩:=Q.aO;go_enter Tryz.func110,Tryz.ntmps110
 go_wp2_with first | (go_at_call 132;(with_reducible refine (PB.out _ K).mono ?_);rintro e w4 ⟨rfl,hb4⟩;have hb:=bB hb4;replace R:=(R.other (i:=0) (by omega) (.bool f)).keep hb;replace K:=(K.one (.bool f)).keep hb;replace B:=(DD B (by simp;omega) _).trans (hb4.mono B.size);clear hb hb4 e_ f_ q0 q1 q2 C Q;have V:=aG.new w4 #[M.DQ r,M.DZ r] 74;have rl:=R.lt;have kl:=K.lt;(have n1:w.heap.size+1+1≠w4.heap.size:=by omega);(have n2:w.heap.size+1+1+1≠w4.heap.size:=by omega);have n3:=n1.symm;have n4:=n2.symm;replace B:=B.alloc B.size (.cells #[M.DQ r,M.DZ r] 74);replace R:=R.alloc (.cells #[M.DQ r,M.DZ r] 74);replace K:=K.alloc (.cells #[M.DQ r,M.DZ r] 74);have v0:=V.cell 0;have v1:=V.cell 1) | (go_at_call 114;(with_reducible refine (PP.out _ K).mono ?_);rintro e w5 ⟨rfl,hb5⟩;have hb:=bB hb5;replace R:=(R.other (i:=0) (by omega) (.bool fq)).keep hb;replace V:=(V.other (i:=0) n4 (.bool fq)).keep hb;replace K:=(K.one (.bool fq)).keep hb;replace B:=(DD B (by simp;omega) _).trans (hb5.mono B.size);clear hb hb5 v0 v1;(have ⟨v0,v1,v2,v3,v4⟩:=V.box);have V5:=V.set2 (.int .i64 ql) (.int .i64 qh);have R5:=R.cK n1 (.int .i64 ql) (.int .i64 qh);have K5:=K.cK n2 (.int .i64 ql) (.int .i64 qh);have B5:=ej B (k:=w4.heap.size) (by omega) (.int .i64 ql) (.int .i64 qh);(have ⟨z0,z1,_,_,_⟩:=V5.box);(have ⟨r0,r1,r2,r3,r4⟩:=R5.box);have k0:=K5.cell 0)
 go_region
 all_goals
  go_wp2;exact bodyPost_ret (v:=.tuple #[.agg #[ql,qh],fq]) (by simp [results,Tryz.results110,go_sem, *]) rfl (⟨rfl,Below.drew (Gh B5)⟩)
namespace M
noncomputable def De (s:Sp):Int:=match s with | some p=>pn p.1 | none=>0
noncomputable def Df (s:Sp):Int:=match s with | some p=>pd p.1 | none=>0
noncomputable def Dh (s:Sp):Int:=match s with | some p=>pn p.2 | none=>0
noncomputable def Di (s:Sp):Int:=match s with | some p=>pd p.2 | none=>0
theorem jW (l h:Int):(mkS l h).isSome=aJ l h:=by
 unfold mkS
 cases aJ l h <;> rfl
theorem rV (l h:Int):pick (aJ l h) (pn l)=De (mkS l h):=by
 unfold mkS
 cases aJ l h <;> rfl
theorem rW (l h:Int):pick (aJ l h) (pd l)=Df (mkS l h):=by
 unfold mkS
 cases aJ l h <;> rfl
theorem rX (l h:Int):pick (aJ l h) (pn h)=Dh (mkS l h):=by
 unfold mkS
 cases aJ l h <;> rfl
theorem rY (l h:Int):pick (aJ l h) (pd h)=Di (mkS l h):=by
 unfold mkS
 cases aJ l h <;> rfl
end M
theorem gU (a b X Y E:Int) (w:World) (hg:M.good a b=true) (hX1:-10000<=X) (hX2:X<=10000) (hE1:0<=E) (hE2:E<=20) :
  Calls Tryz.prog 138 #[.agg #[a,b],.agg #[X,Y,E]] w fun e w'=>e=.returned (.tuple #[.agg #[M.De (M.bO a b X E),M.Df (M.bO a b X E),M.Dh (M.bO a b X E),M.Di (M.bO a b X E)],.bool (M.bO a b X E).isSome])/\Below w.heap.size w w':=by
 have h:=rK a b X Y E w hg hX1 hX2 hE1 hE2;unfold M.bO
 cases hb:M.EA a b X E
 ·rw [hb] at h;exact h
 rw [hb] at h;exact h
theorem qJ (p q:Int × Int) (w:World) (hp:M.aJ p.1 p.2=true) (hq:M.aJ q.1 q.2=true) :
  Calls Tryz.prog 122 #[.agg #[M.De (some p),M.Df (some p),M.Dh (some p),M.Di (some p)],.agg #[M.De (some q),M.Df (some q),M.Dh (some q),M.Di (some q)]] w fun e w'=>e=.returned (.tuple #[.agg #[M.De (M.fW (some p) (some q)),M.Df (M.fW (some p) (some q)),M.Dh (M.fW (some p) (some q)),M.Di (M.fW (some p) (some q))],.bool (M.fW (some p) (some q)).isSome])/\Below w.heap.size w w':=by
 have h:=yv p.1 p.2 q.1 q.2 w hp hq;rw [M.rV,M.rW,M.rX,M.rY,←M.jW] at h;exact h
theorem qK (p q:Int × Int) (w:World) (hp:M.aJ p.1 p.2=true) (hq:M.aJ q.1 q.2=true) :
  Calls Tryz.prog 123 #[.agg #[M.De (some p),M.Df (some p),M.Dh (some p),M.Di (some p)],.agg #[M.De (some q),M.Df (some q),M.Dh (some q),M.Di (some q)]] w fun e w'=>e=.returned (.tuple #[.agg #[M.De (M.cR (some p) (some q)),M.Df (M.cR (some p) (some q)),M.Dh (M.cR (some p) (some q)),M.Di (M.cR (some p) (some q))],.bool (M.cR (some p) (some q)).isSome])/\Below w.heap.size w w':=by
 have h:=y6 p.1 p.2 q.1 q.2 w hp hq;rw [M.rV,M.rW,M.rX,M.rY,←M.jW] at h;exact h
theorem wt (p q:Int × Int) (w:World) (hp:M.aJ p.1 p.2=true) (hq:M.aJ q.1 q.2=true) :
  Calls Tryz.prog 121 #[.agg #[M.De (some p),M.Df (some p),M.Dh (some p),M.Di (some p)],.agg #[M.De (some q),M.Df (some q),M.Dh (some q),M.Di (some q)]] w fun e w'=>e=.returned (.tuple #[.agg #[M.De (M.fI (some p) (some q)),M.Df (M.fI (some p) (some q)),M.Dh (M.fI (some p) (some q)),M.Di (M.fI (some p) (some q))],.bool (M.fI (some p) (some q)).isSome])/\Below w.heap.size w w':=by
 have h:=yz p.1 p.2 q.1 q.2 w hp hq;rw [M.rV,M.rW,M.rX,M.rY,←M.jW] at h;exact h
theorem wV (a b X Y E:Int) (w:World) (hg:M.good a b=true) (hX1:-10000<=X) (hX2:X<=10000) (hE1:0<=E) (hE2:E<=20) :
  Calls Tryz.prog 118 #[.agg #[a,b],.agg #[X,Y,E]] w fun e w'=>e=.returned (.tuple #[.agg #[M.De (M.eD a b X E),M.Df (M.eD a b X E),M.Dh (M.eD a b X E),M.Di (M.eD a b X E)],.bool (M.eD a b X E).isSome])/\Below w.heap.size w w':=by
 have PH:=fun W=>gU a b X Y E W hg hX1 hX2 hE1 hE2
 have hr:=M.fE (a:=a) (b:=b) (M.aj hg) hX1 hX2 hE1 hE2;unfold M.eD;generalize M.bO a b X E=r at *;clear hg hX1 hX2 hE1 hE2
 cases r with
 | none=>
  have e1:=DB (show M.De none=0/\M.Df none=0/\M.Dh none=0/\M.Di none=0/\(none:M.Sp).isSome=false from ⟨rfl,rfl,rfl,rfl,rfl⟩);have e2:=DB (show M.fW none none=none from rfl);rw [e2.out,e1.out.1,e1.out.2.1,e1.out.2.2.1,e1.out.2.2.2.1,e1.out.2.2.2.2];rw [e1.out.1,e1.out.2.1,e1.out.2.2.1,e1.out.2.2.2.1,e1.out.2.2.2.2] at PH;clear e1 e2;replace PH:=DB PH;obtain ⟨wc,hw3,C,Q,R,B⟩:=cZ w #[a,b] 25 #[X,Y,E] 40 #[(0:Int),(0:Int),(0:Int),(0:Int)] 78;have e_:=C.box.c0;have f_:=C.box.c1;have ⟨q0,q1,q2⟩:=Q.aO;go_enter Tryz.func118,Tryz.ntmps118
  go_wp2_with (go_at_call 138;(with_reducible refine (PH.out _).mono ?_);rintro e w4 ⟨rfl,hb4⟩;replace R:=(R.keep hb4).alloc (.cells #[(0:Int),(0:Int),(0:Int),(0:Int)] 78);replace B:=(d_ B hb4).alloc (Nat.le_trans B.size hb4.size) (.cells #[(0:Int),(0:Int),(0:Int),(0:Int)] 78);have V:=aG.new w4 #[(0:Int),(0:Int),(0:Int),(0:Int)] 78;have n1:=R.lt;(have ⟨r0,r1,r2,r3,z0,z1,z2,z3,rl⟩:=R.aL);(have ⟨v0,v1,v2,v3,y0,y1,y2,y3,vl⟩:=V.aL))
  exact bodyPost_ret (v:=.tuple #[.agg #[(0:Int),(0:Int),(0:Int),(0:Int)],false]) (by simp [results,Tryz.results118,go_sem, *]) rfl (⟨rfl,D9 B⟩)
 | some p=>
 have hp:=hr p rfl
 have PI:=fun W=>qJ p p W hp hp
 have e1:=DB (show (some p:M.Sp).isSome=true from rfl);rw [e1.out] at PH;clear e1 hr hp;generalize M.fW (some p) (some p)=q,M.Di (some p)=i4,M.Dh (some p)=i3,M.Df (some p)=i2,M.De (some p)=i1 at *;generalize q.isSome=f,M.Di q=k4,M.Dh q=k3,M.Df q=k2,M.De q=k1 at *;replace PH:=DB PH;replace PI:=DB PI;obtain ⟨wc,hw3,C,Q,R,B⟩:=cZ w #[a,b] 25 #[X,Y,E] 40 #[(0:Int),(0:Int),(0:Int),(0:Int)] 78;have e_:=C.box.c0;have f_:=C.box.c1;have ⟨q0,q1,q2⟩:=Q.aO;go_enter Tryz.func118,Tryz.ntmps118
 go_wp2_with first | (go_at_call 138;(with_reducible refine (PH.out _).mono ?_);rintro e w4 ⟨rfl,hb4⟩;replace R:=(R.keep hb4).alloc (.cells #[i1,i2,i3,i4] 78);replace B:=(d_ B hb4).alloc (Nat.le_trans B.size hb4.size) (.cells #[i1,i2,i3,i4] 78);have V:=aG.new w4 #[i1,i2,i3,i4] 78;have n1:=R.lt;(have ⟨r0,r1,r2,r3,z0,z1,z2,z3,rl⟩:=R.aL);(have ⟨v0,v1,v2,v3,y0,y1,y2,y3,vl⟩:=V.aL)) | (go_at_call 122;(with_reducible refine (PI.out _).mono ?_);rintro e w5 ⟨rfl,hb5⟩;replace R:=R.keep hb5;replace B:=d_ B hb5;(have ⟨r0,r1,r2,r3,z0,z1,z2,z3,rl⟩:=R.aL))
 exact bodyPost_ret (v:=.tuple #[.agg #[k1,k2,k3,k4],f]) (by simp [results,Tryz.results118,go_sem, *]) rfl (⟨rfl,D9 B⟩)
end
section
open Go Go.RowKit
namespace Rg
variable {P:Program} {Q:Exit->Act->World->Prop}
def upd (l:Nat->Bool) (i:Nat):Nat->Bool:=fun j=>if j=i then true else l j
def dT (v:Nat->Value) (i:Nat) (u:Value):Nat->Value:=fun j=>if j=i then u else v j
def kW (md:Region.Mode) (ops:Array Oper) (l:Nat->Bool):Prop:=∀ i o,ops[i]?=some o->l i=true->∀ e ∈ o.after,Region.binds md e=true->l e.on=true
section
variable (P) (Q) (md:Region.Mode) (ops:Array Oper) (I:(Nat->Bool)->(Nat->Value)->World->Prop) (a0:Act)
def mK (i:Nat) (o:Oper) (a:Act) (w:World) (l:Nat->Bool) (vals:Nat->Value):Prop:=
 if Region.wanted o (yielded ops a.tmps)=true then o.wp P a w (fun a' w'=>∃ v,a'=a.put o.dst v/\I (upd l i) (dT vals i v) w') Q else I (upd l i) (dT vals i undef) w
def CO (i:Nat) (o:Oper):Prop:=∀ (a:Act) (w:World) (l:Nat->Bool) (vals:Nat->Value),I l vals w->l i=false->kW md ops l->(∀ e ∈ o.after,Region.binds md e=true->l e.on=true)->(∀ t ∈ o.looksAt ops,a.tmps[t]?=rd md ops a0 vals o t)->mK P Q ops I i o a w l vals
def iJ:List Oper->Nat->Prop
 | [],_=>True
 | o :: os,k=>CO P Q md ops I a0 k o/\iJ os (k+1)
theorem iJ.at {os:List Oper} {k:Nat} (h:iJ P Q md ops I a0 os k):∀ {i:Nat} {o:Oper},os[i]?=some o->CO P Q md ops I a0 (k+i) o:=by
 induction os generalizing k with
 | nil=>intro i o hi;simp at hi
 | cons x os ih=>
 intro i o hi
 cases i with
 | zero=>
  simp only [List.getElem?_cons_zero,Option.some.injEq] at hi;subst hi;exact h.1
 | succ i=>
 have:=ih h.2 (i:=i) (o:=o) (by simpa using hi);rw [show k+(i+1)=k+1+i from by omega];exact this
def CJ (L:Array Bool) (a:Act) (w:World):Prop:=
 L.size=ops.size/\kW md ops (fun j=>L.getD j false)/\
 ∃ vals:Nat->Value,I (fun j=>L.getD j false) vals w/\a=fill (fun j=>L.getD j false) vals ops.toList 0 a0
end
theorem AK {md:Region.Mode} {ops:Array Oper} {I:(Nat->Bool)->(Nat->Value)->World->Prop} {a0:Act} (hok:fC md ops a0.tmps.size=true)
  (hR:iJ P Q md ops I a0 ops.toList 0) (hF:∀ (l:Nat->Bool) (vals:Nat->Value) (w:World),(∀ i,i<ops.size->l i=true)->I l vals w->Q .normal (fill (fun _=>true) vals ops.toList 0 a0) w) :
  ∀ (fuel:Nat) (L:Array Bool) (a:Act) (w:World),left (fun j=>L.getD j false) ops.size<=fuel->CJ md ops I a0 L a w->wpAny P md ops Q fuel L a w:=by
 rw [fC,Bool.and_eq_true,Bool.and_eq_true] at hok;obtain ⟨⟨hap,hrd⟩,hac⟩:=hok
 have El:∀ i o,ops[i]?=some o->(∀ e ∈ o.after,Region.binds md e=true->e.on<i)/\∀ d,o.dst=some d->d<a0.tmps.size:=fun i o hi=>by
  have hlt:i<ops.size:=(Array.getElem?_eq_some_iff.1 hi).1;have:=List.all_eq_true.1 hac i (List.mem_range.2 hlt);rw [hi] at this;simp only [Bool.and_eq_true,List.all_eq_true,Bool.or_eq_true,Bool.not_eq_true',decide_eq_true_eq] at this;refine ⟨fun e he hb=>?_,fun d hd=>?_⟩
  ·rcases this.1 e (Array.mem_toList_iff.2 he) with q | q
   ·rw [hb] at q;cases q
   exact q
  have:=this.2;rw [hd] at this
  simpa using this
 have htl:∀ i,ops.toList[i]?=ops[i]?:=fun i=>Array.getElem?_toList
 have hall:∀ L:Array Bool,L.size=ops.size->Region.ready md ops L=[]->∀ i,i<ops.size->L.getD i false=true:=by
  intro L hL hr i
  induction i using Nat.strongRecOn with
  | ind i ih=>
  intro hi
  cases hl:L.getD i false
  ·exfalso
   have hm:i ∈ Region.ready md ops L:=by
    unfold Region.ready;rw [List.mem_filter];refine ⟨List.mem_range.2 hi,?_⟩
    have hg:L.getD i true=false:=by
     rw [Array.getD_eq_getD_getElem?,Array.getElem?_eq_getElem (by omega)] at hl ⊢;exact hl
    rw [hg,Array.getElem?_eq_getElem hi];simp only [Bool.not_false,Bool.true_and,Option.map_some,Option.getD_some];rw [Array.all_eq_true_iff_forall_mem];intro e he
    cases hb:Region.binds md e
    ·rfl
    have hlt:=(El i _ (Array.getElem?_eq_getElem hi)).1 e he hb;simp [ih e.on hlt (by omega)]
   rw [hr] at hm;cases hm
  rfl
 have hfin:∀ (L:Array Bool) (a:Act) (w:World),CJ md ops I a0 L a w->Region.ready md ops L=[]->Q .normal a w:=by
  rintro L a w ⟨hL,-,vals,hS,rfl⟩ hr;have h:=hall L hL hr;rw [b8 (l':=fun _=>true) (v':=vals) ops.toList 0 a0 (fun j _ hj=>h j (by simpa using hj)) (fun _ _ _=>rfl)];exact hF _ vals w h hS
 intro fuel
 induction fuel with
 | zero=>
  intro L a w hl hI;have hz:=iB _ (Nat.le_zero.1 hl)
  have hr:Region.ready md ops L=[]:=by
   unfold Region.ready;rw [List.filter_eq_nil_iff];intro i hi;have hi:=List.mem_range.1 hi;have h1:=hz i hi
   have hg:L.getD i true=true:=by
    have hsz:=hI.1;simp only [Array.getD_eq_getD_getElem?] at h1 ⊢;rw [Array.getElem?_eq_getElem (by omega)] at h1 ⊢;exact h1
   rw [hg];simp
  exact ⟨hr,hfin L a w hI hr⟩
 | succ fuel ih=>
 intro L a w hl hI;refine ⟨hfin L a w hI,fun i hi=>?_⟩;obtain ⟨hL,hdc,vals,hS,rfl⟩:=hI;obtain ⟨hun,o,ho,GM⟩:=mem_ready.1 hi;have hilt:i<ops.size:=(Array.getElem?_eq_some_iff.1 ho).1
 have hun':L.getD i false=false:=by
  simp only [Array.getD_eq_getD_getElem?] at hun ⊢;rw [Array.getElem?_eq_getElem (by omega)] at hun ⊢;exact hun
 have hq:=iJ.at P Q md ops I a0 hR (i:=i) (o:=o) (by rw [htl];exact ho);rw [Nat.zero_add] at hq
 have hst:=hq (fill (fun j=>L.getD j false) vals ops.toList 0 a0) w (fun j=>L.getD j false) vals hS hun' hdc
  (fun e he hb=>GM e he hb)
  (fun t ht=>by
   unfold rd
   have hr1:ic md ops i o t=true:=by
    have:=List.all_eq_true.1 hrd i (List.mem_range.2 hilt);rw [ho] at this;exact List.all_eq_true.1 this t ht
   cases hf:o.after.toList.find? (fun e=>Region.binds md e && ((ops[e.on]?).bind (·.dst)) == some t) with
   | some e=>
    have h1:=List.find?_some hf;have h2:=List.mem_of_find?_eq_some hf;rw [Bool.and_eq_true,beq_iff_eq] at h1;obtain ⟨x,hx,hxd⟩:=Option.bind_eq_some_iff.1 h1.2;have h3:=GM e (Array.mem_toList_iff.1 h2) h1.1;have:=kJ (l:=fun j=>L.getD j false) (v:=vals) ops.toList 0 e.on x a0 hap (by rw [htl];exact hx) (by simpa using h3) hxd ((El e.on x hx).2 t hxd);rw [Nat.zero_add] at this;exact this
   | none=>
   refine fA ops.toList 0 a0 fun j x hx hlj hxd=>?_
   rw [Nat.zero_add] at hlj;rw [htl] at hx;have hjlt:j<ops.size:=(Array.getElem?_eq_some_iff.1 hx).1;rw [ic,Bool.or_eq_true] at hr1
   rcases hr1 with q | q
   ·obtain ⟨e,he,hp⟩:=List.any_eq_true.1 q
    have:=List.find?_eq_none.1 hf e he;exact this hp
   have:=List.all_eq_true.1 q j (List.mem_range.2 hjlt);rw [hx] at this;simp only [Bool.or_eq_true,bne_iff_ne,ne_eq,beq_iff_eq,List.any_eq_true,Bool.and_eq_true] at this
   rcases this with (q1 | q1) | ⟨e,he,hb,hon⟩
   ·exact q1 hxd
   ·subst q1
    rw [hun'] at hlj;cases hlj
   have:L.getD e.on false=true:=hdc j x hx hlj e (Array.mem_toList_iff.1 he) hb;rw [hon,hun'] at this
   cases this)
 have hnext:∀ (v:Value) (w':World),I (upd (fun j=>L.getD j false) i) (dT vals i v) w'->wpAny P md ops Q fuel (L.setIfInBounds i true) ((fill (fun j=>L.getD j false) vals ops.toList 0 a0).put o.dst v) w':=by
  intro v w' h2
  have e1:∀ j,(L.setIfInBounds i true).getD j false=if j=i then true else L.getD j false:=fun j=>by
   simp only [Array.getD_eq_getD_getElem?]
   by_cases hji:j=i
   ·subst hji
    rw [Array.getElem?_setIfInBounds_self_of_lt (by omega)];simp
   rw [Array.getElem?_setIfInBounds_ne (fun e=>hji e.symm),if_neg hji]
  have e2:(fun j=>(L.setIfInBounds i true).getD j false)=upd (fun j=>L.getD j false) i:=funext e1;refine ih _ _ _ ?_ ⟨by simpa using hL,?_,dT vals i v,by rw [e2];exact h2,?_⟩
  ·have:=i7 (l:=fun j=>L.getD j false) (l':=fun j=>(L.setIfInBounds i true).getD j false) hun' (by rw [e1,if_pos rfl]) (fun j hj=>by rw [e1,if_neg hj]) ops.size hilt
   omega
  ·intro j x hx hlj e he hb
   show (L.setIfInBounds i true).getD e.on false=true
   replace hlj:(L.setIfInBounds i true).getD j false=true:=hlj;rw [e1] at hlj ⊢
   split
   ·rfl
   split at hlj
   ·rename_i hji
    subst hji;rw [ho] at hx;cases hx
    exact GM e he hb
   exact hdc j x hx hlj e he hb
  rw [ix ops.toList 0 i o a0 hap (by rw [htl];exact ho) (by simpa using hun')];rw [Nat.zero_add];exact b8 _ _ _ (fun j _ _=>(e1 j).symm) (fun _ _ _=>rfl)
 unfold wpOp;rw [ho];unfold mK at hst
 dsimp only
 split at hst
 ·rename_i hw
  rw [if_pos hw];refine Or.inl (Oper.wp_mono ?_ hst);rintro a' w' ⟨v,rfl,h2⟩;exact hnext v w' h2
 rename_i hw
 rw [if_neg hw];exact hnext undef w hst
theorem kR {id:Nat} {ops:Array Oper} {a0:Act} {w:World} (I:(Nat->Bool)->(Nat->Value)->World->Prop) (hm:P.follows .mixedOrders=true) (hok:fC .any ops a0.tmps.size=true)
  (hS:∀ vals,I (fun _=>false) vals { w with drawn:=w.drawn+1 }) (hR:iJ P Q .any ops I a0 ops.toList 0)
  (hF:∀ (l:Nat->Bool) (vals:Nat->Value) (w:World),(∀ i,i<ops.size->l i=true)->I l vals w->Q .normal (fill (fun _=>true) vals ops.toList 0 a0) w):(Code.region id ops true).wp P Q a0 w:=by
 have rep:∀ j,(Array.replicate ops.size false).getD j false=false:=fun j=>by
  rw [Array.getD_eq_getD_getElem?,Array.getElem?_replicate]
  split <;> rfl
 refine wp_region_any hm (AK hok hR hF _ _ _ _ ?_ ⟨by simp,?_,fun _=>undef,?_,?_⟩)
 ·have:∀ (l:Nat->Bool) n,left l n<=n:=fun l n=>by
   induction n with
   | zero=>exact DF _
   | succ n ih=>unfold left;split <;> omega
  exact this _ _
 ·intro i o hi hl
  replace hl:(Array.replicate ops.size false).getD i false=true:=hl;rw [rep] at hl;cases hl
 ·rw [show (fun j=>(Array.replicate ops.size false).getD j false)=fun _=>false from funext rep]
  exact hS _
 have:∀ (v:Nat->Value) (os:List Oper) (k:Nat) (a:Act),fill (fun _=>false) v os k a=a:=fun v os=>by
  induction os with
  | nil=>intro k a;rfl
  | cons x os ih=>intro k a;unfold fill;simp [ih]
 exact (this _ ops.toList 0 a0).symm.trans (b8 _ _ _ (fun j _ hj=>(rep j).symm) (fun _ _ _=>rfl))
end Rg
namespace Rg
variable {P:Program} {Q:Exit->Act->World->Prop}
def cnt (l:Nat->Bool):List Nat->Nat
 | []=>0
 | c :: cs=>if l c=true then cnt l cs+1 else 0
def jP (ops:Array Oper) (c d:Nat):Bool:=match ops[d]? with
 | some o=>o.after.toList.any (fun e=>Region.binds .any e && e.on == c)
 | none=>false
def dW (ops:Array Oper):List Nat->Bool
 | c :: d :: cs=>jP ops c d && decide (c<d) && dW ops (d :: cs)
 | _=>true
theorem dM {ops:Array Oper} {l:Nat->Bool} {c d:Nat} (hc:kW .any ops l) (he:jP ops c d=true) (hd:l d=true):l c=true:=by
 unfold jP at he
 split at he
 ·rename_i o ho
  obtain ⟨e,h1,h2⟩:=List.any_eq_true.1 he;rw [Bool.and_eq_true,beq_iff_eq] at h2;have:=hc d o ho hd e (Array.mem_toList_iff.1 h1) h2.1;rw [h2.2] at this;exact this
 cases he
theorem fY {ops:Array Oper} {l:Nat->Bool} {c d:Nat} {o:Oper} (ho:ops[d]?=some o) (D1:∀ e ∈ o.after,Region.binds .any e=true->l e.on=true) (he:jP ops c d=true):l c=true:=by
 unfold jP at he;rw [ho] at he;obtain ⟨e,h1,h2⟩:=List.any_eq_true.1 he;rw [Bool.and_eq_true,beq_iff_eq] at h2;have:=D1 e (Array.mem_toList_iff.1 h1) h2.1;rw [h2.2] at this;exact this
theorem f5 {l:Nat->Bool} {k:Nat}:∀ C:List Nat,k ∉ C->cnt (upd l k) C=cnt l C
 | [],_=>rfl
 | c :: cs,h=>by
  have h1:c≠k:=fun e=>h (by rw [e];exact List.mem_cons_self ..)
  have e:upd l k c=l c:=if_neg h1;unfold cnt;rw [e,f5 cs (fun hk=>h (List.mem_cons_of_mem _ hk))]
theorem ir {ops:Array Oper} {l:Nat->Bool} {k:Nat} (hc:kW .any ops l) (hk:l k=false) (D1:∀ c,jP ops c k=true->l c=true):∀ C:List Nat,dW ops C=true->k ∈ C->cnt l C=C.idxOf k/\cnt (upd l k) C=C.idxOf k+1
 | [],_,h=>by cases h
 | [c],_,h=>by
  rcases List.mem_cons.1 h with rfl | h
  ·have e:upd l k k=true:=if_pos rfl
   unfold cnt cnt;rw [hk,e];simp
  cases h
 | c :: d :: cs,ho,h=>by
  unfold dW at ho;rw [Bool.and_eq_true,Bool.and_eq_true,decide_eq_true_eq] at ho;obtain ⟨⟨he,hlt⟩,ho⟩:=ho
  by_cases hkc:k=c
  ·subst hkc
   have e:upd l k k=true:=if_pos rfl
   have hd:l d=false:=by
    cases hd:l d
    ·rfl
    rw [dM hc he hd] at hk;cases hk
   have e2:upd l k d=false:=(if_neg (by omega)).trans hd
   have i0:(k :: d :: cs).idxOf k=0:=by simp
   rw [i0];unfold cnt;rw [hk,e];unfold cnt;rw [e2];simp
  have hm:k ∈ d :: cs:=(List.mem_cons.1 h).resolve_left hkc;obtain ⟨h1,h2⟩:=ir hc hk D1 (d :: cs) ho hm
  have hlc:l c=true:=by
   by_cases hkd:k=d
   ·subst hkd;exact D1 c he
   have:l d=true:=by
    cases hd:l d
    ·exfalso
     have z:cnt l (d :: cs)=0:=by unfold cnt;rw [hd];rfl
     have:(d :: cs).idxOf k≠0:=by
      rw [List.idxOf_cons]
      have:(d == k)=false:=by rw [beq_eq_false_iff_ne];exact fun e=>hkd e.symm
      rw [this];simp
     omega
    rfl
   exact dM hc he this
  have e:upd l k c=l c:=if_neg (fun e=>hkc e.symm)
  have i0:(c :: d :: cs).idxOf k=(d :: cs).idxOf k+1:=by
   rw [List.idxOf_cons]
   have:(c == k)=false:=by rw [beq_eq_false_iff_ne];exact fun e=>hkc e.symm
   rw [this];rfl
  rw [i0];unfold cnt;rw [e,hlc,if_pos rfl,if_pos rfl,h1,h2];exact ⟨rfl,rfl⟩
end Rg
namespace Rg
variable {P:Program} {Q:Exit->Act->World->Prop}
theorem fx {g:Nat} {w1 w w':World} {Tb:TypeId} {x u v y:Value} (h:Below w1.heap.size (w1.setCell ⟨g,0,none⟩ x) w) (K1:aG w1 g Tb #[u]) (K:aG w g Tb #[v]) (hb:Below w.heap.size (w.setCell ⟨g,0,none⟩ y) w'):Below w1.heap.size (w1.setCell ⟨g,0,none⟩ y) w':=by
 have hs:w1.heap.size<=w.heap.size:=by have:=h.size;rw [aV] at this;exact this
 refine ⟨hb.os.trans h.os,hb.tape.trans h.tape,hb.output.trans h.output,?_,fun k hk=>?_⟩
 ·rw [aV]
  have:=hb.size;rw [aV] at this;omega
 rw [hb.block k (by omega)]
 by_cases hg:k=g
 ·subst hg
  exact (K.one y).trans (K1.one y).symm
 rw [Below.heap_setCell _ _ _ _ hg,h.block k hk,Below.heap_setCell _ _ _ _ hg,Below.heap_setCell _ _ _ _ hg]
theorem ek {g:Nat} {w w':World} {Tb:TypeId} {v:Value} (K:aG w g Tb #[v]) (hb:Below w.heap.size w w'):Below w.heap.size (w.setCell ⟨g,0,none⟩ v) w':=by
 refine ⟨hb.os,hb.tape,hb.output,by rw [aV];exact hb.size,fun k hk=>?_⟩;rw [hb.block k hk]
 by_cases hg:k=g
 ·subst hg;exact K.trans (K.one v).symm
 rw [Below.heap_setCell _ _ _ _ hg]
section
variable (P) (Q) (ops:Array Oper) (a0:Act) (T:List Val) (w1:World) (g:Nat) (Tb:TypeId) (F:Nat->Value) (C:List Nat) (ka ks:Nat) (Tn:TypeId) (xs ys:Array Value)
def Held (w:World):Prop:=w1.heap.size<=w.heap.size/\∀ (b:Nat) (U:TypeId) (zs:Array Value),b≠g->aG w1 b U zs->aG w b U zs
def sH (h:Nat) (o:Oper) (a:Act) (w:World) (t:Nat):Prop:=
 match o.after.toList.find? (fun e=>Region.binds .any e && ((ops[e.on]?).bind (·.dst)) == some t) with
 | some e=>if e.on=ka then a.tmps[t]?=some (.pointer (some ⟨h,0,none⟩)) else if e.on=ks then True else ∃ v,a.tmps[t]?=some v/\(Ds T e.on).ok v w
 | none=>a.tmps[t]?=a0.tmps[t]?
def kZ (o:Oper) (a:Act) (w:World) (t:Nat):Prop:=
 match o.after.toList.find? (fun e=>Region.binds .any e && ((ops[e.on]?).bind (·.dst)) == some t) with
 | some e=>if e.on=ka then True else if e.on=ks then True else ∃ v,a.tmps[t]?=some v/\(Ds T e.on).ok v w
 | none=>a.tmps[t]?=a0.tmps[t]?
def bT (k:Nat) (o:Oper):Prop:=
 if k=ka then ∀ (a:Act) (w:World),Region.wanted o (yielded ops a.tmps)=true/\o.wp P a w (fun a' w'=>a'=a.put o.dst (.pointer (some ⟨w.heap.size,0,none⟩))/\w'=w.alloc (.cells xs Tn)) Q
 else if k=ks then ∀ (a:Act) (w:World) (h:Nat),w1.heap.size<=h->aG w h Tn xs->(∀ t ∈ o.looksAt ops,sH ops a0 T ka ks h o a w t)->Region.wanted o (yielded ops a.tmps)=true/\o.wp P a w (fun a' w'=>(∃ v,a'=a.put o.dst v)/\aG w' h Tn ys/\Below w1.heap.size w w') Q
 else if k ∈ C then ∀ (a:Act) (w:World),aG w g Tb #[F (C.idxOf k)]->Held w1 g w->(∀ t ∈ o.looksAt ops,kZ ops a0 T ka ks o a w t)->Region.wanted o (yielded ops a.tmps)=true/\o.wp P a w (fun a' w'=>∃ v,a'=a.put o.dst v/\(Ds T k).ok v w'/\Below w.heap.size (w.setCell ⟨g,0,none⟩ (F (C.idxOf k+1))) w') Q
 else ∀ (a:Act) (w:World),Held w1 g w->(∀ t ∈ o.looksAt ops,kZ ops a0 T ka ks o a w t)->Does P ops Q (Ds T k) o a w
def uy:List Oper->Nat->Prop
 | [],_=>True
 | o :: os,k=>bT P Q ops a0 T w1 g Tb F C ka ks Tn xs ys k o/\uy os (k+1)
def Ap (l:Nat->Bool) (vals:Nat->Value) (w:World):Prop:=
 Below w1.heap.size (w1.setCell ⟨g,0,none⟩ (F (cnt l C))) w/\(∀ i,i≠ka->i≠ks->l i=true->(Ds T i).ok (vals i) w)/\(l ka=true->∃ h,w1.heap.size<=h/\vals ka=.pointer (some ⟨h,0,none⟩)/\aG w h Tn (if l ks=true then ys else xs))
end
theorem xj {ops:Array Oper} {a0:Act} {T:List Val} {w1:World} {g:Nat} {Tb:TypeId} {F:Nat->Value} {C:List Nat} {ka ks:Nat} {Tn:TypeId} {xs ys:Array Value}
  (K1:aG w1 g Tb #[F 0]) (hp:∀ j,j≠ka->j≠ks->(Ds T j).pure=true) (hC:dW ops C=true) (hka:ka ∉ C) (hks:ks ∉ C) (hne:ka≠ks) (hE:jP ops ka ks=true) :
  ∀ (os:List Oper) (k:Nat),(∀ i,os[i]?=ops[k+i]?)->uy P Q ops a0 T w1 g Tb F C ka ks Tn xs ys os k->iJ P Q .any ops (Ap T w1 g F C ka ks Tn xs ys) a0 os k
 | [],_,_,_=>trivial
 | o :: os,k,hos,h=>by
  refine ⟨fun a w l vals hI hl hc D1 hr=>?_,xj K1 hp hC hka hks hne hE os (k+1) (fun i=>by rw [show k+1+i=k+(i+1) by omega,←hos (i+1)];rfl) h.2⟩;obtain ⟨hB,hv,hn⟩:=hI;have ho:ops[k]?=some o:=(hos 0).symm;have hgl:g<w1.heap.size:=K1.lt
  have hsz:w1.heap.size<=w.heap.size:=by have:=hB.size;rw [aV] at this;exact this
  have K:aG w g Tb #[F (cnt l C)]:=(K1.one (F (cnt l C))).keep (bB hB)
  have hH:Held w1 g w:=⟨hsz,fun b U zs hb hz=>(hz.other hb _).keep (bB hB)⟩
  have hQ:∀ t ∈ o.looksAt ops,kZ ops a0 T ka ks o a w t:=fun t ht=>by
   have:=hr t ht;unfold rd at this;unfold kZ
   split
   ·rename_i e he
    rw [he] at this;have h2:=List.find?_some he;rw [Bool.and_eq_true] at h2
    split
    ·trivial
    split
    ·trivial
    rename_i n1 n2
    exact ⟨_,this,hv _ n1 n2 (D1 e (Array.mem_toList_iff.1 (List.mem_of_find?_eq_some he)) h2.1)⟩
   rename_i he
   rw [he] at this;exact this
  have hko:∀ j,j≠k->upd l k j=l j:=fun j hj=>if_neg hj
  have hkk:upd l k k=true:=if_pos rfl;have h1:=h.1;unfold bT at h1;unfold mK
  by_cases e1:k=ka
  ·rw [if_pos e1] at h1
   obtain ⟨hw,hwp⟩:=h1 a w;rw [if_pos hw];refine Oper.wp_mono ?_ hwp;rintro a' w' ⟨rfl,rfl⟩;subst e1
   have hls:l ks=false:=by
    cases q:l ks
    ·rfl
    rw [dM hc hE q] at hl;cases hl
   refine ⟨_,rfl,?_,?_,fun _=>⟨w.heap.size,hsz,if_pos rfl,?_⟩⟩
   ·rw [f5 C hka]
    exact hB.alloc hsz _
   ·intro i n1 n2 hi
    rw [hko i n1] at hi;have:dT vals k (.pointer (some ⟨w.heap.size,0,none⟩)) i=vals i:=if_neg n1;rw [this];exact Val.dm (hp i n1 n2) (hv i n1 n2 hi)
   rw [hko ks (fun e=>hne e.symm),hls];exact aG.new w xs Tn
  rw [if_neg e1] at h1
  by_cases e2:k=ks
  ·rw [if_pos e2] at h1
   subst e2;obtain ⟨hh,GX,F_,hh3⟩:=hn (fY ho D1 hE);rw [hl] at hh3
   obtain ⟨hw,hwp⟩:=h1 a w hh GX hh3 (fun t ht=>by
    have:=hr t ht;unfold rd at this;unfold sH
    split
    ·rename_i e he
     rw [he] at this;have h2:=List.find?_some he;rw [Bool.and_eq_true] at h2
     split
     ·rename_i q
      replace this:a.tmps[t]?=some (vals e.on):=this;rw [q,F_] at this;exact this
     split
     ·trivial
     rename_i n1 n2
     exact ⟨_,this,hv _ n1 n2 (D1 e (Array.mem_toList_iff.1 (List.mem_of_find?_eq_some he)) h2.1)⟩
    rename_i he
    rw [he] at this
    exact this)
   rw [if_pos hw];refine Oper.wp_mono ?_ hwp;rintro a' w' ⟨⟨v,e⟩,h2,h3⟩;refine ⟨v,e,?_,?_,fun _=>⟨hh,GX,?_,?_⟩⟩
   ·rw [f5 C hks]
    exact hB.trans h3
   ·intro i n1 n2 hi
    rw [hko i n2] at hi;have:dT vals k v i=vals i:=if_neg n2;rw [this];exact Val.dm (hp i n1 n2) (hv i n1 n2 hi)
   ·have:dT vals k v ka=vals ka:=if_neg hne
    rw [this];exact F_
   rw [hkk];exact h2
  rw [if_neg e2] at h1
  have rest:∀ (v:Value) (w':World) (y:Value),y=F (cnt (upd l k) C)->(Ds T k).ok v w'->Below w.heap.size (w.setCell ⟨g,0,none⟩ y) w'->Ap T w1 g F C ka ks Tn xs ys (upd l k) (dT vals k v) w':=by
   intro v w' y hy h2 h3;subst hy;refine ⟨fx hB K1 K h3,?_,?_⟩
   ·intro i n1 n2 hi
    by_cases hik:i=k
    ·subst hik
     have:dT vals i v i=v:=if_pos rfl;rw [this];exact h2
    rw [hko i hik] at hi;have:dT vals k v i=vals i:=if_neg hik;rw [this];exact Val.dm (hp i n1 n2) (hv i n1 n2 hi)
   intro hi;rw [hko ka (fun e=>e1 e.symm)] at hi;obtain ⟨hh,GX,F_,hh3⟩:=hn hi;refine ⟨hh,GX,?_,?_⟩
   ·have:dT vals k v ka=vals ka:=if_neg (fun e=>e1 e.symm)
    rw [this];exact F_
   rw [hko ks (fun e=>e2 e.symm)];exact (hh3.other (by omega) _).keep (bB h3)
  by_cases e3:k ∈ C
  ·rw [if_pos e3] at h1
   obtain ⟨q1,q2⟩:=ir hc hl (fun c hcd=>fY ho D1 hcd) C hC e3;rw [q1] at K;obtain ⟨hw,hwp⟩:=h1 a w K hH hQ;rw [if_pos hw];refine Oper.wp_mono ?_ hwp;rintro a' w' ⟨v,e,h2,h3⟩;exact ⟨v,e,rest v w' _ (by rw [q2]) h2 h3⟩
  rw [if_neg e3] at h1;have hd:=h1 a w hH hQ;unfold Does at hd
  split
  ·rename_i hw
   rw [if_pos hw] at hd;refine Oper.wp_mono ?_ hd;rintro a' w' ⟨v,e,h2,h3⟩;exact ⟨v,e,rest v w' _ (by rw [f5 C e3]) h2 (ek K h3)⟩
  rename_i hw
  rw [if_neg hw] at hd;exact rest undef w _ (by rw [f5 C e3]) hd (ek K (DE _ _))
theorem Al {id:Nat} {ops:Array Oper} {a0:Act} {w:World} (g:Nat) (Tb:TypeId) (F:Nat->Value) (C:List Nat) (ka ks:Nat) (Tn:TypeId) (xs ys:Array Value) (T:List Val)
  (hm:P.follows .mixedOrders=true) (hok:fC .any ops a0.tmps.size=true) (hC:(dW ops C && jP ops ka ks && decide (ka<ops.size) && decide (ks<ops.size))=true)
  (hp:∀ j,j≠ka->j≠ks->(Ds T j).pure=true) (hka:ka ∉ C) (hks:ks ∉ C) (hne:ka≠ks) (hcl:∀ c ∈ C,c<ops.size) (K1:aG w g Tb #[F 0])
  (hR:uy P Q ops a0 T w g Tb F C ka ks Tn xs ys ops.toList 0)
  (hF:∀ (vals:Nat->Value) (w':World) (h:Nat),w.heap.size<=h->aG w' h Tn ys->vals ka=.pointer (some ⟨h,0,none⟩)->Below w.heap.size (w.setCell ⟨g,0,none⟩ (F C.length)) w'->(∀ i,i<ops.size->i≠ka->i≠ks->(Ds T i).ok (vals i) w')->Q .normal (fill (fun _=>true) vals ops.toList 0 a0) w'):(Code.region id ops true).wp P Q a0 w:=by
 rw [Bool.and_eq_true,Bool.and_eq_true,Bool.and_eq_true,decide_eq_true_eq,decide_eq_true_eq] at hC;obtain ⟨⟨⟨hC,hE⟩,ha⟩,hs⟩:=hC
 have c0:∀ C:List Nat,cnt (fun _=>false) C=0:=fun C=>by cases C <;> rfl
 have cl:∀ (l:Nat->Bool) (C:List Nat),(∀ c ∈ C,l c=true)->cnt l C=C.length:=fun l C=>by
  induction C with
  | nil=>intro _;rfl
  | cons c cs ih=>
  intro h;unfold cnt;rw [if_pos (h c (List.mem_cons_self ..)),ih (fun x hx=>h x (List.mem_cons_of_mem _ hx))];rfl
 refine kR (Ap T w g F C ka ks Tn xs ys) hm hok (fun vals=>⟨?_,(fun _ _ _ h=>absurd h (by simp)),(fun h=>absurd h (by simp))⟩) (xj K1 hp hC hka hks hne hE ops.toList 0 (fun i=>by rw [Nat.zero_add];exact Array.getElem?_toList) hR) ?_
 ·rw [c0]
  exact ek K1 ((DE _ w).drew)
 intro l vals w' hl hI;obtain ⟨h1,h2,h3⟩:=hI;obtain ⟨h,q1,q2,q3⟩:=h3 (hl ka ha);rw [hl ks hs,if_pos rfl] at q3;rw [cl l C (fun c hc=>hl c (hcl c hc))] at h1;exact hF vals w' h q1 q3 q2 h1 (fun i hi n1 n2=>h2 i n1 n2 (hl i hi))
theorem CU {ops:Array Oper} {o:Oper} {a:Act} {w:World} {V:Val} {f:FuncId} {args:Array Value} {g:Nat} {y:Value} (hw:Region.wanted o (yielded ops a.tmps)=true) (h:(execOp a.eval o).run P w=.ok (.enter f args) w)
  (hc:Calls P f args w fun e w'=>∃ v,e=.returned v/\V.ok v w'/\Below w.heap.size (w.setCell ⟨g,0,none⟩ y) w'):Region.wanted o (yielded ops a.tmps)=true/\o.wp P a w (fun a' w'=>∃ v,a'=a.put o.dst v/\V.ok v w'/\Below w.heap.size (w.setCell ⟨g,0,none⟩ y) w') Q:=by
 refine ⟨hw,?_⟩;unfold Oper.wp;rw [h];refine Calls.mono hc ?_;rintro e w' ⟨v,rfl,h1,h2⟩;exact ⟨v,rfl,h1,h2⟩
theorem fz {ops:Array Oper} {o:Oper} {a:Act} {w:World} {v:Value} {f:FuncId} {args:Array Value} {g:Nat} {y:Value} (hw:Region.wanted o (yielded ops a.tmps)=true) (h:(execOp a.eval o).run P w=.ok (.enter f args) w)
  (hc:Calls P f args w fun e w'=>e=.returned v/\Below w.heap.size (w.setCell ⟨g,0,none⟩ y) w'):Region.wanted o (yielded ops a.tmps)=true/\o.wp P a w (fun a' w'=>∃ u,a'=a.put o.dst u/\(Val.is v).ok u w'/\Below w.heap.size (w.setCell ⟨g,0,none⟩ y) w') Q:=
 CU hw h (hc.mono fun _ _ ⟨e,b⟩=>⟨v,e,rfl,b⟩)
theorem nJ {ops:Array Oper} {o:Oper} {a:Act} {w:World} {ob:Obj} (hw:Region.wanted o (yielded ops a.tmps)=true) (h:(execOp a.eval o).run P w=.ok (.value (.pointer (some ⟨w.heap.size,0,none⟩))) (w.alloc ob)):Region.wanted o (yielded ops a.tmps)=true/\o.wp P a w (fun a' w'=>a'=a.put o.dst (.pointer (some ⟨w.heap.size,0,none⟩))/\w'=w.alloc ob) Q:=by
 refine ⟨hw,?_⟩;unfold Oper.wp;rw [h];exact ⟨rfl,rfl⟩
end Rg
end
section
open Go.RowKit
namespace M
theorem rb (s1 s2 s3:Sp):cR (cR s1 s2) s3=gd (gd (gd (gd s1.isSome s2).isSome (cR s1 (gd s1.isSome s2))).isSome s3).isSome (cR (gd (gd s1.isSome s2).isSome (cR s1 (gd s1.isSome s2))) (gd (gd (gd s1.isSome s2).isSome (cR s1 (gd s1.isSome s2))).isSome s3)):=by
 cases s1 with
 | none=>rfl
 | some p=>cases s2 with
  | none=>rfl
  | some q=>
  show cR (cR (some p) (some q)) s3=gd (gd (gd true (cR (some p) (some q))).isSome s3).isSome (cR (gd true (cR (some p) (some q))) (gd (gd true (cR (some p) (some q))).isSome s3))
  rw [nw]
  cases cR (some p) (some q) with
  | none=>rfl
  | some u=>cases s3 <;> rfl
end M
theorem uS (a b X1 Y1 E1 X2 Y2 E2:Int) (w:World) (hg:M.good a b=true) (hp:M.aY a b X1 Y1 E1=true) (hq:M.aY a b X2 Y2 E2=true) :
  Calls Tryz.prog 111 #[.agg #[a,b],.agg #[X1,Y1,E1],.agg #[X2,Y2,E2]] w fun e w'=>e=.returned (.tuple #[.agg #[M.DQ (M.dN a b X1 Y1 E1 X2 Y2 E2),M.DZ (M.dN a b X1 Y1 E1 X2 Y2 E2)],.bool (M.dN a b X1 Y1 E1 X2 Y2 E2).isSome])/\Below w.heap.size w w':=by
 have PA:=fun W=>fM a b X1 Y1 E1 X2 Y2 E2 W hg hp hq
 have hin:=M.aj hg;have hs:=M.jL hin hp hq;obtain ⟨p1,p2,p3,p4,-,-⟩:=M.dq hin hp;obtain ⟨r1,r2,r3,r4,-,-⟩:=M.dq hin hq;obtain ⟨s1,s2,s3,s4,-,-⟩:=M.dq hin hs;have hv:=DB (show M.dN a b X1 Y1 E1 X2 Y2 E2=if M.cX a X1 Y1 E1 X2 Y2 E2=true then M.cR (M.cR (M.bO a b (M.dV a X1 Y1 E1 X2 Y2 E2) (M.dU a X1 Y1 E1 X2 Y2 E2)) (M.bO a b X1 E1)) (M.bO a b X2 E2) else none from rfl);rw [hv.out];clear hv hs hp hq;generalize M.cX a X1 Y1 E1 X2 Y2 E2=ok,M.dU a X1 Y1 E1 X2 Y2 E2=E3,M.fH a X1 Y1 E1 X2 Y2 E2=Y3,M.dV a X1 Y1 E1 X2 Y2 E2=X3 at *
 cases ok with
 | false=>
  replace PA:=DB PA;have hn:=DB (show (if (false=true) then M.cR (M.cR (M.bO a b X3 E3) (M.bO a b X1 E1)) (M.bO a b X2 E2) else none)=none from rfl);rw [hn.out];clear hn;obtain ⟨wc,hw3,C,Q,U,R,B⟩:=di w #[a,b] 25 #[X1,Y1,E1] 40 #[X2,Y2,E2] 40 #[(0:Int),(0:Int)] 74;have e_:=C.box.c0;have f_:=C.box.c1;have ⟨q0,q1,q2⟩:=Q.aO;have ⟨u0,u1,u2⟩:=U.aO;go_enter Tryz.func111,Tryz.ntmps111
  go_wp2_with (go_at_call 50;(with_reducible refine (PA.out _).mono ?_);rintro e w4 ⟨rfl,hb4⟩;have D7:=Nat.lt_of_lt_of_le R.lt hb4.size;replace B:=((d_ B hb4).alloc (Nat.le_trans B.size hb4.size) (.cells #[X3,Y3,E3] 40)).alloc (by rw [DC];exact Nat.le_succ_of_le (Nat.le_trans B.size hb4.size)) (.cells #[false] 103);replace C:=((C.keep hb4).alloc (.cells #[X3,Y3,E3] 40)).alloc (.cells #[false] 103);replace Q:=((Q.keep hb4).alloc (.cells #[X3,Y3,E3] 40)).alloc (.cells #[false] 103);replace U:=((U.keep hb4).alloc (.cells #[X3,Y3,E3] 40)).alloc (.cells #[false] 103);replace R:=((R.keep hb4).alloc (.cells #[X3,Y3,E3] 40)).alloc (.cells #[false] 103);have S:=(aG.new w4 #[X3,Y3,E3] 40).alloc (.cells #[false] 103);have K:=aG.new (w4.alloc (.cells #[X3,Y3,E3] 40)) #[false] 103;(rw [DC] at K);(have ⟨r0,r1,zf0,zf1,rl⟩:=R.box))
  exact bodyPost_ret (v:=.tuple #[.agg #[(0:Int),(0:Int)],false]) (by simp [results,Tryz.results111,go_sem, *]) rfl (⟨rfl,Gh B⟩)
 | true=>
 rw [if_pos rfl,M.rb];have o1:=M.fE (a:=a) (b:=b) hin s1 s2 s3 s4
 have L8:=fun g_ W K=>kL g_ true a b X3 Y3 E3 W K hg s1 s2 s3 s4
 have J8:=fun g_ ok W K=>kL g_ ok a b X1 Y1 E1 W K hg p1 p2 p3 p4
 have J9:=fun g_ ok W K=>kL g_ ok a b X2 Y2 E2 W K hg r1 r2 r3 r4
 have o2:=M.fE (a:=a) (b:=b) hin p1 p2 p3 p4;have o3:=M.fE (a:=a) (b:=b) hin r1 r2 r3 r4;simp only [M.nw] at L8;generalize M.bO a b X3 E3=t1 at *
 replace J8:=fun g_=>J8 g_ t1.isSome
 generalize M.bO a b X1 E1=t2 at *
 obtain ⟨t3,ht3⟩:∃ t,t=M.gd t1.isSome t2:=⟨_,rfl⟩
 have o4:M.EI t3:=by rw [ht3];exact M.jZ o2
 have i3:t3.isSome=true->t1.isSome=true:=fun h=>by rw [ht3] at h;exact (M.jS h).1
 rw [←ht3] at J8 ⊢
 have L_:=fun g_ W K=>lN g_ t3.isSome t1 t3 W K o1 o4 i3 (fun h=>h)
 obtain ⟨t4,Qr⟩:∃ t,t=M.gd t3.isSome (M.cR t1 t3):=⟨_,rfl⟩
 have o5:M.EI t4:=by rw [Qr];exact M.jZ M.kP
 rw [←Qr] at L_ ⊢
 replace J9:=fun g_=>J9 g_ t4.isSome
 generalize M.bO a b X2 E2=t5 at *
 obtain ⟨t6,MR⟩:∃ t,t=M.gd t4.isSome t5:=⟨_,rfl⟩
 have o6:M.EI t6:=by rw [MR];exact M.jZ o3
 have i6:t6.isSome=true->t4.isSome=true:=fun h=>by rw [MR] at h;exact (M.jS h).1
 rw [←MR] at J9 ⊢
 have Mn:=fun g_ W K=>lN g_ t6.isSome t4 t6 W K o5 o6 i6 (fun h=>h)
 generalize M.gd t6.isSome (M.cR t4 t6)=t7 at *;clear ht3 Qr MR o1 o2 o3 o4 o5 o6 i3 i6 t5 t2 hg hin;generalize M.DZ t7=h7,M.DQ t7=l7,t7.isSome=f7,M.DZ t6=h6,M.DQ t6=l6,t6.isSome=f6,M.DZ t4=h4,M.DQ t4=l4,t4.isSome=f4,M.DZ t3=h3,M.DQ t3=l3,t3.isSome=f3,M.DZ t1=h1,M.DQ t1=l1,t1.isSome=f1 at *;replace PA:=DB PA;replace L8:=DB L8;replace J8:=DB J8;replace J9:=DB J9;replace L_:=DB L_;replace Mn:=DB Mn;obtain ⟨wc,hw3,C,Q,U,R,B⟩:=di w #[a,b] 25 #[X1,Y1,E1] 40 #[X2,Y2,E2] 40 #[(0:Int),(0:Int)] 74;have e_:=C.box.c0;have f_:=C.box.c1;have ⟨q0,q1,q2⟩:=Q.aO;have ⟨u0,u1,u2⟩:=U.aO;go_enter Tryz.func111,Tryz.ntmps111
 go_upto_region 5 with (go_at_call 50;(with_reducible refine (PA.out _).mono ?_);rintro e w4 ⟨rfl,hb4⟩;have D7:=Nat.lt_of_lt_of_le R.lt hb4.size;replace B:=((d_ B hb4).alloc (Nat.le_trans B.size hb4.size) (.cells #[X3,Y3,E3] 40)).alloc (by rw [DC];exact Nat.le_succ_of_le (Nat.le_trans B.size hb4.size)) (.cells #[true] 103);replace C:=((C.keep hb4).alloc (.cells #[X3,Y3,E3] 40)).alloc (.cells #[true] 103);replace Q:=((Q.keep hb4).alloc (.cells #[X3,Y3,E3] 40)).alloc (.cells #[true] 103);replace U:=((U.keep hb4).alloc (.cells #[X3,Y3,E3] 40)).alloc (.cells #[true] 103);replace R:=((R.keep hb4).alloc (.cells #[X3,Y3,E3] 40)).alloc (.cells #[true] 103);have S:=(aG.new w4 #[X3,Y3,E3] 40).alloc (.cells #[true] 103);have K:=aG.new (w4.alloc (.cells #[X3,Y3,E3] 40)) #[true] 103;(rw [DC] at K);(have ⟨r0,r1,zf0,zf1,rl⟩:=R.box))
 generalize (w4.alloc (.cells #[X3,Y3,E3] 40)).alloc (.cells #[true] 103)=wd at *;have hsl:=S.lt;have rl2:=R.lt
 have hw4:w.heap.size+4<=w4.heap.size:=by omega
 have nC:w.heap.size≠w4.heap.size+1:=by omega
 have nQ:w.heap.size+1≠w4.heap.size+1:=by omega
 have nU:w.heap.size+1+1≠w4.heap.size+1:=by omega
 have nR:w.heap.size+1+1+1≠w4.heap.size+1:=by omega
 have nS:w4.heap.size≠w4.heap.size+1:=by omega
 have nB:w.heap.size<=w4.heap.size+1:=by omega
 refine Rg.Al (w4.heap.size+1) 103 (fun n=>match n with | 0=>.bool true | 1=>.bool f1 | 2=>.bool f3 | 3=>.bool f4 | 4=>.bool f6 | _=>.bool f7) [5,9,10,14,15] 16 17 74 #[(0:Int),(0:Int)] #[l7,h7] [.is (.pointer (some ⟨w4.heap.size+1,0,none⟩)),.is (.pointer (some ⟨w4.heap.size+1,0,none⟩)),.is (.pointer (some ⟨w4.heap.size+1,0,none⟩)),.is (.agg #[a,b]),.is (.agg #[X3,Y3,E3]),.is (.agg #[l1,h1]),.is (.pointer (some ⟨w4.heap.size+1,0,none⟩)),.is (.agg #[a,b]),.is (.agg #[X1,Y1,E1]),.is (.agg #[l3,h3]),.is (.agg #[l4,h4]),.is (.pointer (some ⟨w4.heap.size+1,0,none⟩)),.is (.agg #[a,b]),.is (.agg #[X2,Y2,E2]),.is (.agg #[l6,h6]),.is (.agg #[l7,h7]),.is (undef),.is (undef)] (by kernel_rfl) (by kernel_rfl) (by kernel_rfl) (fun j h1 h2=>match j,h1,h2 with | 0,h1,h2=>rfl | 1,h1,h2=>rfl | 2,h1,h2=>rfl | 3,h1,h2=>rfl | 4,h1,h2=>rfl | 5,h1,h2=>rfl | 6,h1,h2=>rfl | 7,h1,h2=>rfl | 8,h1,h2=>rfl | 9,h1,h2=>rfl | 10,h1,h2=>rfl | 11,h1,h2=>rfl | 12,h1,h2=>rfl | 13,h1,h2=>rfl | 14,h1,h2=>rfl | 15,h1,h2=>rfl | 16,h1,h2=>absurd rfl h1 | 17,h1,h2=>absurd rfl h2 | n+18,_,_=>rfl) (by decide) (by decide) (by decide) (by decide) K ⟨?_,?_,?_,?_,?_,?_,?_,?_,?_,?_,?_,?_,?_,?_,?_,?_,?_,?_,trivial⟩ ?_
 ·unfold Rg.bT
  rw [if_neg (by decide),if_neg (by decide),if_neg (by decide)];intro zZ w_ hH hr;have e10:zZ.tmps[10]?=some (.pointer (some ⟨w4.heap.size+1,0,none⟩)):=hr 10 (by decide);exact Rg.aW rfl (by go_simp)
 ·unfold Rg.bT
  rw [if_neg (by decide),if_neg (by decide),if_neg (by decide)];intro zZ w_ hH hr;have e10:zZ.tmps[10]?=some (.pointer (some ⟨w4.heap.size+1,0,none⟩)):=hr 10 (by decide);exact Rg.aW rfl (by go_simp)
 ·unfold Rg.bT
  rw [if_neg (by decide),if_neg (by decide),if_neg (by decide)];intro zZ w_ hH hr;have e10:zZ.tmps[10]?=some (.pointer (some ⟨w4.heap.size+1,0,none⟩)):=hr 10 (by decide);exact Rg.aW rfl (by go_simp)
 ·unfold Rg.bT
  rw [if_neg (by decide),if_neg (by decide),if_neg (by decide)];intro zZ w_ hH hr;have e3:zZ.tmps[3]?=some (.pointer (some ⟨w.heap.size,0,none⟩)):=hr 3 (by decide);have k0:=(hH.2 _ _ _ nC C).box.c0;have k1:=(hH.2 _ _ _ nC C).box.c1;exact Rg.aW rfl (by go_simp)
 ·unfold Rg.bT
  rw [if_neg (by decide),if_neg (by decide),if_neg (by decide)];intro zZ w_ hH hr;have e8:zZ.tmps[8]?=some (.pointer (some ⟨w4.heap.size,0,none⟩)):=hr 8 (by decide);have k0:=(hH.2 _ _ _ nS S).aO.1;have k1:=(hH.2 _ _ _ nS S).aO.2.1;have k2:=(hH.2 _ _ _ nS S).aO.2.2;exact Rg.aW rfl (by go_simp)
 ·unfold Rg.bT
  rw [if_neg (by decide),if_neg (by decide),if_pos (by decide)];intro zZ w_ K_ hH hr;replace K_:aG w_ (w4.heap.size+1) 103 #[true]:=K_;have e27:=Rg.l_ (hr 27 (by decide));have e28:=Rg.l_ (hr 28 (by decide));have e29:=Rg.l_ (hr 29 (by decide));have ef:=Rg.ef zZ;exact Rg.fz rfl (by go_simp) (L8.out _ _ K_)
 ·unfold Rg.bT
  rw [if_neg (by decide),if_neg (by decide),if_neg (by decide)];intro zZ w_ hH hr;have e10:zZ.tmps[10]?=some (.pointer (some ⟨w4.heap.size+1,0,none⟩)):=hr 10 (by decide);exact Rg.aW rfl (by go_simp)
 ·unfold Rg.bT
  rw [if_neg (by decide),if_neg (by decide),if_neg (by decide)];intro zZ w_ hH hr;have e3:zZ.tmps[3]?=some (.pointer (some ⟨w.heap.size,0,none⟩)):=hr 3 (by decide);have k0:=(hH.2 _ _ _ nC C).box.c0;have k1:=(hH.2 _ _ _ nC C).box.c1;exact Rg.aW rfl (by go_simp)
 ·unfold Rg.bT
  rw [if_neg (by decide),if_neg (by decide),if_neg (by decide)];intro zZ w_ hH hr;have e4:zZ.tmps[4]?=some (.pointer (some ⟨w.heap.size+1,0,none⟩)):=hr 4 (by decide);have k0:=(hH.2 _ _ _ nQ Q).aO.1;have k1:=(hH.2 _ _ _ nQ Q).aO.2.1;have k2:=(hH.2 _ _ _ nQ Q).aO.2.2;exact Rg.aW rfl (by go_simp)
 ·unfold Rg.bT
  rw [if_neg (by decide),if_neg (by decide),if_pos (by decide)];intro zZ w_ K_ hH hr;replace K_:aG w_ (w4.heap.size+1) 103 #[f1]:=K_;have e31:=Rg.l_ (hr 31 (by decide));have e32:=Rg.l_ (hr 32 (by decide));have e33:=Rg.l_ (hr 33 (by decide));have ef:=Rg.ef zZ;exact Rg.fz rfl (by go_simp) (J8.out _ _ K_)
 ·unfold Rg.bT
  rw [if_neg (by decide),if_neg (by decide),if_pos (by decide)];intro zZ w_ K_ hH hr;replace K_:aG w_ (w4.heap.size+1) 103 #[f3]:=K_;have e26:=Rg.l_ (hr 26 (by decide));have e30:=Rg.l_ (hr 30 (by decide));have e34:=Rg.l_ (hr 34 (by decide));have ef:=Rg.ef zZ;exact Rg.fz rfl (by go_simp) (L_.out _ _ K_)
 ·unfold Rg.bT
  rw [if_neg (by decide),if_neg (by decide),if_neg (by decide)];intro zZ w_ hH hr;have e10:zZ.tmps[10]?=some (.pointer (some ⟨w4.heap.size+1,0,none⟩)):=hr 10 (by decide);exact Rg.aW rfl (by go_simp)
 ·unfold Rg.bT
  rw [if_neg (by decide),if_neg (by decide),if_neg (by decide)];intro zZ w_ hH hr;have e3:zZ.tmps[3]?=some (.pointer (some ⟨w.heap.size,0,none⟩)):=hr 3 (by decide);have k0:=(hH.2 _ _ _ nC C).box.c0;have k1:=(hH.2 _ _ _ nC C).box.c1;exact Rg.aW rfl (by go_simp)
 ·unfold Rg.bT
  rw [if_neg (by decide),if_neg (by decide),if_neg (by decide)];intro zZ w_ hH hr;have e5:zZ.tmps[5]?=some (.pointer (some ⟨w.heap.size+1+1,0,none⟩)):=hr 5 (by decide);have k0:=(hH.2 _ _ _ nU U).aO.1;have k1:=(hH.2 _ _ _ nU U).aO.2.1;have k2:=(hH.2 _ _ _ nU U).aO.2.2;exact Rg.aW rfl (by go_simp)
 ·unfold Rg.bT
  rw [if_neg (by decide),if_neg (by decide),if_pos (by decide)];intro zZ w_ K_ hH hr;replace K_:aG w_ (w4.heap.size+1) 103 #[f4]:=K_;have e36:=Rg.l_ (hr 36 (by decide));have e37:=Rg.l_ (hr 37 (by decide));have e38:=Rg.l_ (hr 38 (by decide));have ef:=Rg.ef zZ;exact Rg.fz rfl (by go_simp) (J9.out _ _ K_)
 ·unfold Rg.bT
  rw [if_neg (by decide),if_neg (by decide),if_pos (by decide)];intro zZ w_ K_ hH hr;replace K_:aG w_ (w4.heap.size+1) 103 #[f6]:=K_;have e25:=Rg.l_ (hr 25 (by decide));have e35:=Rg.l_ (hr 35 (by decide));have e39:=Rg.l_ (hr 39 (by decide));have ef:=Rg.ef zZ;exact Rg.fz rfl (by go_simp) (Mn.out _ _ K_)
 ·unfold Rg.bT
  rw [if_pos rfl];intro zZ w_;exact Rg.nJ rfl (by first | (go_simp;done) | (go_simp;rfl))
 ·unfold Rg.bT
  rw [if_neg (by decide),if_pos rfl];intro zZ w_ h_ hh hn hr;have e11:zZ.tmps[11]?=some (.pointer (some ⟨h_,0,none⟩)):=hr 11 (by decide);have e40:=Rg.l_ (hr 40 (by decide));have ⟨y0,y1,x0,x1,_⟩:=hn.box;refine ⟨rfl,?_⟩;unfold Oper.wp;go_simp
  exact ⟨aG.set2 hn _ _,DD (DD (DE _ _) hh _) hh _⟩
 intro vals wz h_ hh hn Ls hB hv;replace hB:Below wd.heap.size (wd.setCell ⟨w4.heap.size+1,0,none⟩ (.bool f7)) wz:=hB;simp only [Rg.bF,Rg.fill,Act.put,Nat.reduceAdd];clear hv;simp only [Ls];clear Ls;have hB2:=bB hB;replace B:=(DD B nB (.bool f7)).trans (hB.mono B.size);replace R:=(R.other (i:=0) nR (.bool f7)).keep hB2;replace K:=(K.one (.bool f7)).keep hB2;have k0:=K.cell 0;have ⟨r0,r1,zf0,zf1,rl⟩:=R.box;have ⟨z0,z1,_,_,_⟩:=hn.box;clear hB hB2 e_ f_ q0 q1 q2 u0 u1 u2
 go_upto_region 6 with fail
 go_region
 all_goals
  go_wp2;exact bodyPost_ret (v:=.tuple #[.agg #[l7,h7],f7]) (by simp [results,Tryz.results111,go_sem, *]) rfl (⟨rfl,Below.drew (Gh B)⟩)
def fL (w:World) (g:Nat) (l:List (Int × Int × Int)):Prop:=
 ∀ (k:Nat) (p:Int × Int × Int),l[k]?=some p->w.cell? ⟨g,k*3,none⟩=some (.int .i64 p.1)/\w.cell? ⟨g,k*3+1,none⟩=some (.int .i64 p.2.1)/\w.cell? ⟨g,k*3+2,none⟩=some (.int .i64 p.2.2)
theorem fL.below {w w':World} {g:Nat} {l:List (Int × Int × Int)} (h:fL w g l) (hb:Below w.heap.size w w'):fL w' g l:=fun k p hp=>by
 obtain ⟨h1,h2,h3⟩:=h k p hp;exact ⟨aE hb h1,aE hb h2,aE hb h3⟩
namespace M
noncomputable def dG (a b:Int) (s:Sp) (l:List (Int × Int × Int)):Sp:=l.foldl (fun s p=>cR s (bO a b p.1 p.2.2)) s
theorem iX (a b:Int):∀ l,dG a b none l=none
 | []=>rfl
 | _ :: l=>iX a b l
theorem lO {a b:Int} {s:Sp} {l:List (Int × Int × Int)} {k:Nat} {p:Int × Int × Int} (h:l[k]?=some p):dG a b s (l.take (k+1))=cR (dG a b s (l.take k)) (bO a b p.1 p.2.2):=by
 unfold dG;rw [List.take_add_one,h,List.foldl_append];rfl
theorem lP {a b:Int} {s:Sp} {l:List (Int × Int × Int)} {k:Nat} (h:dG a b s (l.take k)=none):dG a b s l=none:=by
 have e:dG a b s l=dG a b (dG a b s (l.take k)) (l.drop k):=by
  unfold dG;rw [←List.foldl_append,List.take_append_drop]
 rw [e,h,iX]
end M
theorem aG.gc {W:World} {g k:Nat} {T:TypeId} {xs:Array Value} (h:aG W g T xs) (hk:g≠k) (x y z t:Value):aG ((((W.setCell ⟨k,0,none⟩ x).setCell ⟨k,1,none⟩ y).setCell ⟨k,2,none⟩ z).setCell ⟨k,3,none⟩ t) g T xs:=(((h.other hk x).other hk y).other hk z).other hk t
theorem wT (a b:Int) (s:Int × Int) (l:List (Int × Int × Int)) (g cap:Nat) (w:World) (hg:M.good a b=true) (hs:M.aJ s.1 s.2=true) (hl:fL w g l) (hn:l.length<=100) (hp:∀ p ∈ l,-10000<=p.1/\p.1<=10000/\0<=p.2.2/\p.2.2<=20) :
  Calls Tryz.prog 139 #[.agg #[a,b],.agg #[M.De (some s),M.Df (some s),M.Dh (some s),M.Di (some s)],.slice (some ⟨g,0,none⟩) l.length cap] w fun e w'=>e=.returned (.tuple #[.agg #[M.De (M.dG a b (some s) l),M.Df (M.dG a b (some s) l),M.Dh (M.dG a b (some s) l),M.Di (M.dG a b (some s) l)],.bool (M.dG a b (some s) l).isSome])/\Below w.heap.size w w':=by
 have hin:=M.aj hg;have hl:=DB hl;have hp:=DB hp;obtain ⟨wc,hw3,C,I,R,B⟩:=cZ w #[a,b] 25 #[M.De (some s),M.Df (some s),M.Dh (some s),M.Di (some s)] 78 #[(0:Int),(0:Int),(0:Int),(0:Int)] 78
 obtain ⟨N,hN⟩:∃ N,Hid (l.length=N):=⟨_,DB rfl⟩
 rw [hN.out] at hn ⊢;go_enter Tryz.func139,Tryz.ntmps139
 go_wp2
 go_loopw [16] (fun vi wr=>∃ (k:Nat) (p:Int × Int),k<=N/\vi=.int .i64 k/\Hid (M.dG a b (some s) (l.take k)=some p)/\aG wr w.heap.size 25 #[a,b]/\aG wr (w.heap.size+1) 78 #[M.De (some p),M.Df (some p),M.Dh (some p),M.Di (some p)]/\aG wr (w.heap.size+1+1) 78 #[(0:Int),(0:Int),(0:Int),(0:Int)]/\Below w.heap.size w wr) (fun vi _=>N - (intOf vi).toNat)
 case atStart=>exact ⟨0,s,Nat.zero_le _,rfl,DB rfl,C,I,R,B⟩
 case round=>
 clear C I R B hw3;obtain ⟨k,p,hk,rfl,hcur,C,I,R,B⟩:=hrel
 have hpo:M.EI (some p):=by
  rw [←hcur.out]
  cases k with
  | zero=>intro q hq;injection hq with hq;subst hq;exact hs
  | succ k=>
  obtain ⟨z,hz⟩:∃ z,l[k]?=some z:=⟨_,List.getElem?_eq_getElem (by have:=hN.out;omega)⟩
  rw [M.lO hz];exact M.kP
 have hps:=hpo p rfl;have e_:=C.box.c0;have f_:=C.box.c1
 by_cases hlt:k<N
 ·obtain ⟨z,hz⟩:∃ z,l[k]?=some z:=⟨_,List.getElem?_eq_getElem (by have:=hN.out;omega)⟩
  obtain ⟨d0,d1,d2⟩:=(hl.out.below B) k z hz;obtain ⟨b1,b2,b3,b4⟩:=hp.out z (List.mem_of_getElem? hz);have hnx:=M.lO (a:=a) (b:=b) (s:=some s) hz;rw [hcur.out] at hnx;obtain ⟨X,Y,E⟩:=z;simp only [] at d0 d1 d2 b1 b2 b3 b4 hnx
  have PH:=fun W=>gU a b X Y E W hg b1 b2 b3 b4
  have hto:=M.fE (a:=a) (b:=b) hin b1 b2 b3 b4;generalize M.bO a b X E=t at *;clear b1 b2 b3 b4 hz hcur;replace B:=B.alloc B.size (.cells #[X,Y,E] 40);have Z:=aG.new wr #[X,Y,E] 40;replace C:=C.alloc (.cells #[X,Y,E] 40);replace I:=I.alloc (.cells #[X,Y,E] 40);replace R:=R.alloc (.cells #[X,Y,E] 40);have e_:=C.box.c0;have f_:=C.box.c1;have ⟨z0,z1,z2⟩:=Z.aO
  cases t with
  | none=>
   have hfin:M.dG a b (some s) l=none:=M.lP (k:=k+1) (by rw [hnx];rfl);have e1:=DB (show M.De none=0/\M.Df none=0/\M.Dh none=0/\M.Di none=0/\(none:M.Sp).isSome=false from ⟨rfl,rfl,rfl,rfl,rfl⟩);rw [e1.out.1,e1.out.2.1,e1.out.2.2.1,e1.out.2.2.2.1,e1.out.2.2.2.2] at PH;have hfin:=DB hfin;clear hnx hpo hps hto;replace PH:=DB PH;generalize M.Di (some p)=i4_,M.Dh (some p)=i3_,M.Df (some p)=i2_,M.De (some p)=i1_ at *
   go_wp2_with (go_at_call 138;(with_reducible refine (PH.out _).mono ?_);rintro e w4 ⟨rfl,hb4⟩;replace B:=d_ B hb4;replace C:=C.keep hb4;replace I:=I.keep hb4;replace R:=R.keep hb4;replace R:=R.alloc (.cells #[(0:Int),(0:Int),(0:Int),(0:Int)] 78);replace C:=C.alloc (.cells #[(0:Int),(0:Int),(0:Int),(0:Int)] 78);replace I:=I.alloc (.cells #[(0:Int),(0:Int),(0:Int),(0:Int)] 78);replace B:=B.alloc B.size (.cells #[(0:Int),(0:Int),(0:Int),(0:Int)] 78);have V:=aG.new w4 #[(0:Int),(0:Int),(0:Int),(0:Int)] 78;(have ⟨r0,r1,r2,r3,y0,y1,y2,y3,rl⟩:=R.aL);(have ⟨i0,i1,i2,i3,s0,s1,s2,s3,il⟩:=I.aL);(have ⟨v0,v1,v2,v3,_,_,_,_,vl⟩:=V.aL))
   exact bodyPost_ret (v:=.tuple #[.agg #[(0:Int),(0:Int),(0:Int),(0:Int)],false]) (by simp [results,Tryz.results139,go_sem, *]) rfl (⟨by rw [hfin.out,e1.out.1,e1.out.2.1,e1.out.2.2.1,e1.out.2.2.2.1,e1.out.2.2.2.2],D9 B⟩)
  | some q=>
  have PI:=fun W=>qK p q W hps (hto q rfl)
  have e2:=DB (show (some q:M.Sp).isSome=true from rfl);rw [e2.out] at PH;clear e2;generalize M.cR (some p) (some q)=u at *;have hnx:=DB hnx;generalize M.Di (some q)=k4,M.Dh (some q)=k3,M.Df (some q)=k2,M.De (some q)=k1 at *;replace PH:=DB PH;clear hto hps hpo
  cases u with
  | none=>
   have hfin:=DB (show M.dG a b (some s) l=none from M.lP (k:=k+1) hnx.out);have e1:=DB (show M.De none=0/\M.Df none=0/\M.Dh none=0/\M.Di none=0/\(none:M.Sp).isSome=false from ⟨rfl,rfl,rfl,rfl,rfl⟩);rw [e1.out.1,e1.out.2.1,e1.out.2.2.1,e1.out.2.2.2.1,e1.out.2.2.2.2] at PI;replace PI:=DB PI;clear hnx;generalize M.Di (some p)=i4_,M.Dh (some p)=i3_,M.Df (some p)=i2_,M.De (some p)=i1_ at *
   go_wp2_with first | (go_at_call 138;(with_reducible refine (PH.out _).mono ?_);rintro e w4 ⟨rfl,hb4⟩;replace B:=d_ B hb4;replace C:=C.keep hb4;replace I:=I.keep hb4;replace R:=R.keep hb4;replace R:=R.alloc (.cells #[k1,k2,k3,k4] 78);replace C:=C.alloc (.cells #[k1,k2,k3,k4] 78);replace I:=I.alloc (.cells #[k1,k2,k3,k4] 78);replace B:=B.alloc B.size (.cells #[k1,k2,k3,k4] 78);have V:=aG.new w4 #[k1,k2,k3,k4] 78;(have ⟨r0,r1,r2,r3,y0,y1,y2,y3,rl⟩:=R.aL);(have ⟨i0,i1,i2,i3,s0,s1,s2,s3,il⟩:=I.aL);(have ⟨v0,v1,v2,v3,_,_,_,_,vl⟩:=V.aL)) | (go_at_call 123;(with_reducible refine (PI.out _).mono ?_);rintro e w5 ⟨rfl,hb5⟩;replace B:=d_ B hb5;replace C:=C.keep hb5;replace I:=I.keep hb5;replace R:=R.keep hb5;replace R:=R.alloc (.cells #[(0:Int),(0:Int),(0:Int),(0:Int)] 78);replace C:=C.alloc (.cells #[(0:Int),(0:Int),(0:Int),(0:Int)] 78);replace I:=I.alloc (.cells #[(0:Int),(0:Int),(0:Int),(0:Int)] 78);replace B:=B.alloc B.size (.cells #[(0:Int),(0:Int),(0:Int),(0:Int)] 78);have V:=aG.new w5 #[(0:Int),(0:Int),(0:Int),(0:Int)] 78;(have ⟨r0,r1,r2,r3,y0,y1,y2,y3,rl⟩:=R.aL);(have ⟨i0,i1,i2,i3,s0,s1,s2,s3,il⟩:=I.aL);(have ⟨v0,v1,v2,v3,_,_,_,_,vl⟩:=V.aL))
   exact bodyPost_ret (v:=.tuple #[.agg #[(0:Int),(0:Int),(0:Int),(0:Int)],false]) (by simp [results,Tryz.results139,go_sem, *]) rfl (⟨by rw [hfin.out,e1.out.1,e1.out.2.1,e1.out.2.2.1,e1.out.2.2.2.1,e1.out.2.2.2.2],D9 B⟩)
  | some r=>
  have e2:=DB (show (some r:M.Sp).isSome=true from rfl);rw [e2.out] at PI;clear e2
  obtain ⟨m1,hm1⟩:∃ m,Hid (M.De (some r)=m):=⟨_,DB rfl⟩
  rw [hm1.out] at PI
  obtain ⟨m2,hm2⟩:∃ m,Hid (M.Df (some r)=m):=⟨_,DB rfl⟩
  rw [hm2.out] at PI
  obtain ⟨m3,MO⟩:∃ m,Hid (M.Dh (some r)=m):=⟨_,DB rfl⟩
  rw [MO.out] at PI
  obtain ⟨m4,KD⟩:∃ m,Hid (M.Di (some r)=m):=⟨_,DB rfl⟩
  rw [KD.out] at PI;replace PI:=DB PI;generalize M.Di (some p)=i4_,M.Dh (some p)=i3_,M.Df (some p)=i2_,M.De (some p)=i1_ at *
  go_wp2_with first | (go_at_call 138;(with_reducible refine (PH.out _).mono ?_);rintro e w4 ⟨rfl,hb4⟩;replace B:=d_ B hb4;replace C:=C.keep hb4;replace I:=I.keep hb4;replace R:=R.keep hb4;replace R:=R.alloc (.cells #[k1,k2,k3,k4] 78);replace C:=C.alloc (.cells #[k1,k2,k3,k4] 78);replace I:=I.alloc (.cells #[k1,k2,k3,k4] 78);replace B:=B.alloc B.size (.cells #[k1,k2,k3,k4] 78);have V:=aG.new w4 #[k1,k2,k3,k4] 78;(have ⟨r0,r1,r2,r3,y0,y1,y2,y3,rl⟩:=R.aL);(have ⟨i0,i1,i2,i3,s0,s1,s2,s3,il⟩:=I.aL);(have ⟨v0,v1,v2,v3,_,_,_,_,vl⟩:=V.aL)) | (go_at_call 123;(with_reducible refine (PI.out _).mono ?_);rintro e w5 ⟨rfl,hb5⟩;replace B:=d_ B hb5;replace C:=C.keep hb5;replace I:=I.keep hb5;replace R:=R.keep hb5;replace R:=R.alloc (.cells #[m1,m2,m3,m4] 78);replace C:=C.alloc (.cells #[m1,m2,m3,m4] 78);replace I:=I.alloc (.cells #[m1,m2,m3,m4] 78);replace B:=B.alloc B.size (.cells #[m1,m2,m3,m4] 78);have V:=aG.new w5 #[m1,m2,m3,m4] 78;(have ⟨r0,r1,r2,r3,y0,y1,y2,y3,rl⟩:=R.aL);(have ⟨i0,i1,i2,i3,s0,s1,s2,s3,il⟩:=I.aL);(have ⟨v0,v1,v2,v3,_,_,_,_,vl⟩:=V.aL))
  go_roundw
  case rel=>exact ⟨k+1,r,by omega,by simp,hnx,C.gc (by omega) _ _ _ _,by rw [hm1.out,hm2.out,MO.out,KD.out];exact I.mJ _ _ _ _,R.gc (by omega) _ _ _ _,DD (DD (DD (DD B (by simp) _) (by simp) _) (by simp) _) (by simp) _⟩
  case measure=>simp [intOf] <;> omega
 obtain rfl:k=N:=by omega
 have hfin:=hcur
 have e0:l.take k=l:=by rw [←hN.out];exact List.take_length
 rw [e0] at hfin;have ⟨i0,i1,i2,i3,s0,s1,s2,s3,il⟩:=I.aL;have ⟨r0,r1,r2,r3,y0,y1,y2,y3,rl⟩:=R.aL;go_wp2;exact bodyPost_ret (v:=.tuple #[.agg #[M.De (some p),M.Df (some p),M.Dh (some p),M.Di (some p)],true]) (by simp [results,Tryz.results139,go_sem, *]) rfl (⟨by rw [hfin.out];rfl,D9 B⟩)
theorem fL.two {W:World} {g:Nat} {T:TypeId} {X1 Y1 E1 X2 Y2 E2:Int} (h:aG W g T #[X1,Y1,E1,X2,Y2,E2]):fL W g [(X1,Y1,E1),(X2,Y2,E2)]:=by
 intro k p hp
 match k,hp with
 | 0,hp=>injection hp with hp;subst hp;exact ⟨h.cell 0,h.cell 1,h.cell 2⟩
 | 1,hp=>injection hp with hp;subst hp;exact ⟨h.cell 3,h.cell 4,h.cell 5⟩
 | k+2,hp=>cases hp
theorem qG (a b X1 Y1 E1 X2 Y2 E2:Int) (w:World) (hg:M.good a b=true) (hp:M.aY a b X1 Y1 E1=true) (hq:M.aY a b X2 Y2 E2=true) :
  Calls Tryz.prog 117 #[.agg #[a,b],.agg #[X1,Y1,E1],.agg #[X2,Y2,E2]] w fun e w'=>e=.returned (.tuple #[.agg #[M.De (M.dN a b X1 Y1 E1 X2 Y2 E2),M.Df (M.dN a b X1 Y1 E1 X2 Y2 E2),M.Dh (M.dN a b X1 Y1 E1 X2 Y2 E2),M.Di (M.dN a b X1 Y1 E1 X2 Y2 E2)],.bool (M.dN a b X1 Y1 E1 X2 Y2 E2).isSome])/\Below w.heap.size w w':=by
 have PA:=fun W=>zY a b X1 Y1 E1 X2 Y2 E2 W hg hp hq
 have hin:=M.aj hg;have hs:=M.jL hin hp hq;obtain ⟨p1,p2,p3,p4,-,-⟩:=M.dq hin hp;obtain ⟨r1,r2,r3,r4,-,-⟩:=M.dq hin hq;obtain ⟨s1,s2,s3,s4,-,-⟩:=M.dq hin hs;have hv:=DB (show (M.dN a b X1 Y1 E1 X2 Y2 E2)=if M.cX a X1 Y1 E1 X2 Y2 E2=true then M.dG a b (M.bO a b (M.dV a X1 Y1 E1 X2 Y2 E2) (M.dU a X1 Y1 E1 X2 Y2 E2)) [(X1,Y1,E1),(X2,Y2,E2)] else none from rfl);rw [hv.out];clear hv hs hp hq;generalize M.cX a X1 Y1 E1 X2 Y2 E2=ok,M.dU a X1 Y1 E1 X2 Y2 E2=E3,M.fH a X1 Y1 E1 X2 Y2 E2=Y3,M.dV a X1 Y1 E1 X2 Y2 E2=X3 at *
 have PH:=fun W=>gU a b X3 Y3 E3 W hg s1 s2 s3 s4
 have hto:=M.fE (a:=a) (b:=b) hin s1 s2 s3 s4
 have PL:=fun s g W h1 h2=>wT a b s [(X1,Y1,E1),(X2,Y2,E2)] g 2 W hg h1 h2 (by simp) (by
  intro p hp
  rcases List.mem_cons.1 hp with rfl | hp
  ·exact ⟨p1,p2,p3,p4⟩
  rcases List.mem_cons.1 hp with rfl | hp
  ·exact ⟨r1,r2,r3,r4⟩
  cases hp)
 generalize M.bO a b X3 E3=t at *;clear hg hin s1 s2 s3 s4 p1 p2 p3 p4 r1 r2 r3 r4
 cases ok with
 | false=>
  have e1:=DB (show M.De none=0/\M.Df none=0/\M.Dh none=0/\M.Di none=0/\(none:M.Sp).isSome=false from ⟨rfl,rfl,rfl,rfl,rfl⟩);have e2:=DB (show (if (false=true) then M.dG a b t [(X1,Y1,E1),(X2,Y2,E2)] else none)=none from rfl);rw [e2.out,e1.out.1,e1.out.2.1,e1.out.2.2.1,e1.out.2.2.2.1,e1.out.2.2.2.2];clear e1 e2 PH PL hto;replace PA:=DB PA;obtain ⟨wc,hw3,C,Q,U,R,B⟩:=di w #[a,b] 25 #[X1,Y1,E1] 40 #[X2,Y2,E2] 40 #[(0:Int),(0:Int),(0:Int),(0:Int)] 78;have e_:=C.box.c0;have f_:=C.box.c1;have ⟨q0,q1,q2⟩:=Q.aO;have ⟨u0,u1,u2⟩:=U.aO;go_enter Tryz.func117,Tryz.ntmps117
  go_wp2_with (go_at_call 55;(with_reducible refine (PA.out _).mono ?_);rintro e w4 ⟨rfl,hb4⟩;replace B:=d_ B hb4;replace C:=C.keep hb4;replace Q:=Q.keep hb4;replace U:=U.keep hb4;replace R:=R.keep hb4;replace B:=B.alloc B.size (.cells #[X3,Y3,E3] 40);replace C:=C.alloc (.cells #[X3,Y3,E3] 40);replace Q:=Q.alloc (.cells #[X3,Y3,E3] 40);replace U:=U.alloc (.cells #[X3,Y3,E3] 40);replace R:=R.alloc (.cells #[X3,Y3,E3] 40);have S:=aG.new w4 #[X3,Y3,E3] 40;(have ⟨z0,z1,z2⟩:=S.aO);have e_:=C.box.c0;have f_:=C.box.c1;(have ⟨q0,q1,q2⟩:=Q.aO);(have ⟨u0,u1,u2⟩:=U.aO);(have ⟨r0,r1,r2,r3,y0,y1,y2,y3,rl⟩:=R.aL))
  exact bodyPost_ret (v:=.tuple #[.agg #[(0:Int),(0:Int),(0:Int),(0:Int)],false]) (by simp [results,Tryz.results117,go_sem, *]) rfl (⟨rfl,D9 B⟩)
 | true=>
 rw [if_pos rfl];replace PA:=DB PA
 cases t with
 | none=>
  have e1:=DB (show M.De none=0/\M.Df none=0/\M.Dh none=0/\M.Di none=0/\(none:M.Sp).isSome=false from ⟨rfl,rfl,rfl,rfl,rfl⟩);rw [M.iX,e1.out.1,e1.out.2.1,e1.out.2.2.1,e1.out.2.2.2.1,e1.out.2.2.2.2];rw [e1.out.1,e1.out.2.1,e1.out.2.2.1,e1.out.2.2.2.1,e1.out.2.2.2.2] at PH;clear e1 PL hto;replace PH:=DB PH;obtain ⟨wc,hw3,C,Q,U,R,B⟩:=di w #[a,b] 25 #[X1,Y1,E1] 40 #[X2,Y2,E2] 40 #[(0:Int),(0:Int),(0:Int),(0:Int)] 78;have e_:=C.box.c0;have f_:=C.box.c1;have ⟨q0,q1,q2⟩:=Q.aO;have ⟨u0,u1,u2⟩:=U.aO;go_enter Tryz.func117,Tryz.ntmps117
  go_wp2_with first | (go_at_call 55;(with_reducible refine (PA.out _).mono ?_);rintro e w4 ⟨rfl,hb4⟩;replace B:=d_ B hb4;replace C:=C.keep hb4;replace Q:=Q.keep hb4;replace U:=U.keep hb4;replace R:=R.keep hb4;replace B:=B.alloc B.size (.cells #[X3,Y3,E3] 40);replace C:=C.alloc (.cells #[X3,Y3,E3] 40);replace Q:=Q.alloc (.cells #[X3,Y3,E3] 40);replace U:=U.alloc (.cells #[X3,Y3,E3] 40);replace R:=R.alloc (.cells #[X3,Y3,E3] 40);have S:=aG.new w4 #[X3,Y3,E3] 40;(have ⟨z0,z1,z2⟩:=S.aO);have e_:=C.box.c0;have f_:=C.box.c1;(have ⟨q0,q1,q2⟩:=Q.aO);(have ⟨u0,u1,u2⟩:=U.aO);(have ⟨r0,r1,r2,r3,y0,y1,y2,y3,rl⟩:=R.aL)) | (go_at_call 138;(with_reducible refine (PH.out _).mono ?_);rintro e w5 ⟨rfl,hb5⟩;replace B:=d_ B hb5;replace C:=C.keep hb5;replace Q:=Q.keep hb5;replace U:=U.keep hb5;replace R:=R.keep hb5;replace B:=B.alloc B.size (.cells #[(0:Int),(0:Int),(0:Int),(0:Int)] 78);replace C:=C.alloc (.cells #[(0:Int),(0:Int),(0:Int),(0:Int)] 78);replace Q:=Q.alloc (.cells #[(0:Int),(0:Int),(0:Int),(0:Int)] 78);replace U:=U.alloc (.cells #[(0:Int),(0:Int),(0:Int),(0:Int)] 78);replace R:=R.alloc (.cells #[(0:Int),(0:Int),(0:Int),(0:Int)] 78);have V:=aG.new w5 #[(0:Int),(0:Int),(0:Int),(0:Int)] 78;(have ⟨v0,v1,v2,v3,_,_,_,_,vl⟩:=V.aL);have e_:=C.box.c0;have f_:=C.box.c1;(have ⟨q0,q1,q2⟩:=Q.aO);(have ⟨u0,u1,u2⟩:=U.aO);(have ⟨r0,r1,r2,r3,y0,y1,y2,y3,rl⟩:=R.aL))
  exact bodyPost_ret (v:=.tuple #[.agg #[(0:Int),(0:Int),(0:Int),(0:Int)],false]) (by simp [results,Tryz.results117,go_sem, *]) rfl (⟨rfl,D9 B⟩)
 | some s=>
 replace PL:=fun g W h2=>PL s g W (hto s rfl) h2
 have e1:=DB (show (some s:M.Sp).isSome=true from rfl);rw [e1.out] at PH;clear e1 hto;have e2:=DB (show [(X1,Y1,E1),(X2,Y2,E2)].length=2 from rfl);rw [e2.out] at PL;clear e2;generalize M.Di (some s)=i4,M.Dh (some s)=i3,M.Df (some s)=i2,M.De (some s)=i1,M.dG a b (some s) [(X1,Y1,E1),(X2,Y2,E2)]=r at *;generalize r.isSome=fr,M.Di r=k4,M.Dh r=k3,M.Df r=k2,M.De r=k1 at *;replace PH:=DB PH;replace PL:=DB PL;obtain ⟨wc,hw3,C,Q,U,R,B⟩:=di w #[a,b] 25 #[X1,Y1,E1] 40 #[X2,Y2,E2] 40 #[(0:Int),(0:Int),(0:Int),(0:Int)] 78;have e_:=C.box.c0;have f_:=C.box.c1;have ⟨q0,q1,q2⟩:=Q.aO;have ⟨u0,u1,u2⟩:=U.aO;go_enter Tryz.func117,Tryz.ntmps117
 go_wp2_with first | (go_at_call 55;(with_reducible refine (PA.out _).mono ?_);rintro e w4 ⟨rfl,hb4⟩;replace B:=d_ B hb4;replace C:=C.keep hb4;replace Q:=Q.keep hb4;replace U:=U.keep hb4;replace R:=R.keep hb4;replace B:=B.alloc B.size (.cells #[X3,Y3,E3] 40);replace C:=C.alloc (.cells #[X3,Y3,E3] 40);replace Q:=Q.alloc (.cells #[X3,Y3,E3] 40);replace U:=U.alloc (.cells #[X3,Y3,E3] 40);replace R:=R.alloc (.cells #[X3,Y3,E3] 40);have S:=aG.new w4 #[X3,Y3,E3] 40;(have ⟨z0,z1,z2⟩:=S.aO);have e_:=C.box.c0;have f_:=C.box.c1;(have ⟨q0,q1,q2⟩:=Q.aO);(have ⟨u0,u1,u2⟩:=U.aO);(have ⟨r0,r1,r2,r3,y0,y1,y2,y3,rl⟩:=R.aL)) | (go_at_call 138;(with_reducible refine (PH.out _).mono ?_);rintro e w5 ⟨rfl,hb5⟩;replace B:=d_ B hb5;replace C:=C.keep hb5;replace Q:=Q.keep hb5;replace U:=U.keep hb5;replace R:=R.keep hb5;replace B:=B.alloc B.size (.cells #[i1,i2,i3,i4] 78);replace C:=C.alloc (.cells #[i1,i2,i3,i4] 78);replace Q:=Q.alloc (.cells #[i1,i2,i3,i4] 78);replace U:=U.alloc (.cells #[i1,i2,i3,i4] 78);replace R:=R.alloc (.cells #[i1,i2,i3,i4] 78);have V:=aG.new w5 #[i1,i2,i3,i4] 78;(have ⟨v0,v1,v2,v3,_,_,_,_,vl⟩:=V.aL);have e_:=C.box.c0;have f_:=C.box.c1;(have ⟨q0,q1,q2⟩:=Q.aO);(have ⟨u0,u1,u2⟩:=U.aO);(have ⟨r0,r1,r2,r3,y0,y1,y2,y3,rl⟩:=R.aL);replace R:=R.alloc (.cells #[X1,Y1,E1,X2,Y2,E2] 40);have L:=aG.new (w5.alloc (.cells #[i1,i2,i3,i4] 78)) #[X1,Y1,E1,X2,Y2,E2] 40;(rw [DC] at L);replace L:=DB (fL.two L)) | (go_at_call 139;(with_reducible refine (PL.out _ _ L.out).mono ?_);rintro e w6 ⟨rfl,hb6⟩;replace B:=(B.alloc B.size (.cells #[X1,Y1,E1,X2,Y2,E2] 40)).trans (hb6.mono (B.alloc B.size (.cells #[X1,Y1,E1,X2,Y2,E2] 40)).size);replace R:=R.keep hb6;(have ⟨r0,r1,r2,r3,y0,y1,y2,y3,rl⟩:=R.aL))
 exact bodyPost_ret (v:=.tuple #[.agg #[k1,k2,k3,k4],fr]) (by simp [results,Tryz.results117,go_sem, *]) rfl (⟨rfl,D9 B⟩)
end
end Go.Proofs.YtkalaljcbmkbmaaGreat
