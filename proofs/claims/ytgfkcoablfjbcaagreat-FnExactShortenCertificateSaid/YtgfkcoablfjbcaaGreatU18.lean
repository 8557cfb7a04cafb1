/-
  Joined texts: contracts and plain lemmas.
-/
import Derived.Test.YtgfkcoablfjbcaaGreatU1
import Derived.Test.YtgfkcoablfjbcaaGreatU17
import Derived.Test.YtgfkcoablfjbcaaGreatRows
import Derived.WalkKit
import Derived.ProofKit
import Derived.OpenShut
import Derived.Lib.SmallJoins
import Derived.Below
import Derived.Carry
import Derived.Test.YtgfkcoablfjbcaaGreatU16
import Derived.Deep.Slices
set_option linter.unusedSimpArgs false
set_option linter.unusedVariables false
set_option maxRecDepth 100000
set_option maxHeartbeats 8000000
namespace Go.Proofs.YtgfkcoablfjbcaaGreat
section
open Go.RowKit Go.Shelf
namespace M
noncomputable def zW (a b:Int) (l:List Pt) (n d i:Int):Bool:=eI a b l n d && (decide (2≤l.length) && ins i 0 ((l.length:Int) - 1))
theorem xy {a b:Int} {l:List Pt} {n d i:Int} (h:eI a b l n d=false):zW a b l n d i=false:=by unfold zW;rw [h];rfl
theorem yA {a b:Int} {l:List Pt} {n d i:Int} (h:l.length<2):zW a b l n d i=false:=by unfold zW;rw [decide_eq_false (by omega),Bool.false_and,Bool.and_false]
theorem yB {a b:Int} {l:List Pt} {n d i:Int} (h:ins i 0 ((l.length:Int) - 1)=false):zW a b l n d i=false:=by unfold zW;rw [h,Bool.and_false,Bool.and_false]
theorem yC {a b:Int} {l:List Pt} {n d i:Int} (h1:eI a b l n d=true) (h2:¬ l.length<2) (h3:ins i 0 ((l.length:Int) - 1)=true):zW a b l n d i=true:=by unfold zW;rw [h1,h3,decide_eq_true (by omega)];rfl
theorem ny {a b:Int} {l:List Pt} (hg:good a b=true) (h1:1≤l.length) (h2:l.length≤4) (h:∀ p ∈ l,bS a b p.1 p.2.1 p.2.2=true):bs a b l=true:=by
 unfold bs;rw [hg,List.all_eq_true.2 h,Bool.true_and,Bool.and_true];unfold ins;exact decide_eq_true ⟨by omega,by omega⟩
end M
def fm (kr kx:Nat) (w:World) (gc gr base:Nat) (cs:Array Value) (x1 x2 x3 x4:Int) (ok:Bool) (L:List Pt) (m:Nat) (v:Nat→Value) (W:World):Prop:=
 (∃ u,v kr=.tuple #[.agg #[.int .i64 x1,.int .i64 x2,u,.int .i64 x3,.int .i64 x4],.bool ok]∧Rw.Own yU W base u L)∧match m with
 | 0=>zv w gc gc gr base 47 cs 47 cs #[.int .i64 0,.int .i64 0,.slice none 0 0,.int .i64 0,.int .i64 0] W
 | 1=>zv w gc gc gr base 47 cs 47 cs #[.int .i64 0,.int .i64 0,.slice none 0 0,.int .i64 0,.int .i64 0] W∧∃ u,v kx=.agg #[.int .i64 x1,.int .i64 x2,u,.int .i64 x3,.int .i64 x4]∧Rw.Own yU W base u L
 | _=>∃ u,zv w gc gc gr base 47 cs 47 cs #[.int .i64 x1,.int .i64 x2,u,.int .i64 x3,.int .i64 x4] W∧Rw.Own yU W base u L
section
variable {w:World} {gc gr base:Nat} {cs:Array Value} {x1 x2 x3 x4:Int} {ok:Bool} {L:List Pt} {v v':Nat→Value} {W:World}
theorem fm.congr {kr kx m:Nat} (h1:v kr=v' kr) (h2:v kx=v' kx) (h:fm kr kx w gc gr base cs x1 x2 x3 x4 ok L m v W):fm kr kx w gc gr base cs x1 x2 x3 x4 ok L m v' W:=by
 unfold fm at *;rw [←h1,←h2];exact h
theorem fm.st {kr kx m:Nat} (h:fm kr kx w gc gr base cs x1 x2 x3 x4 ok L m v W):∃ zs,zv w gc gc gr base 47 cs 47 cs zs W:=by
 obtain ⟨-,h⟩:=h
 match m,h with
 | 0,h=>exact ⟨_,h⟩
 | 1,h=>exact ⟨_,h.1⟩
 | _+2,h=>
 obtain ⟨u,h,-⟩:=h;exact ⟨_,h⟩
theorem fm.put {kr kx:Nat} {u:Value} (h:fm kr kx w gc gr base cs x1 x2 x3 x4 ok L 1 v W) (hu:Rw.Own yU W base u L) (h1:v kr=v' kr):fm kr kx w gc gr base cs x1 x2 x3 x4 ok L 2 v' (((((W.setCell ⟨gr,0,none⟩ (.int .i64 x1)).setCell ⟨gr,1,none⟩ (.int .i64 x2)).setCell ⟨gr,2,none⟩ u).setCell ⟨gr,3,none⟩ (.int .i64 x3)).setCell ⟨gr,4,none⟩ (.int .i64 x4)):=by
 obtain ⟨⟨y,e,ho⟩,hS,-⟩:=h;exact ⟨⟨y,h1 ▸ e,ho.rj hS.lr ..⟩,u,hS.put ..,hu.rj hS.lr ..⟩
end
def Cn (l l':List Pt) (w:World) (gc gr base:Nat) (cs:Array Value) (x1 x2 x3 x4:Int) (ok:Bool) (L:List Pt) (k:Nat) (v:Nat→Value) (W:World):Prop:=match k with
 | 0=>zv w gc gc gr base 47 cs 47 cs #[.int .i64 0,.int .i64 0,.slice none 0 0,.int .i64 0,.int .i64 0] W
 | 1=>zv w gc gc gr base 47 cs 47 cs #[.int .i64 0,.int .i64 0,.slice none 0 0,.int .i64 0,.int .i64 0] W∧Rw.Own yU W base (v 4) l
 | 2=>zv w gc gc gr base 47 cs 47 cs #[.int .i64 0,.int .i64 0,.slice none 0 0,.int .i64 0,.int .i64 0] W∧Rw.Own yU W base (v 8) l'
 | k+3=>fm 9 10 w gc gr base cs x1 x2 x3 x4 ok L k v W
def CJ (l1 l':List Pt) (w:World) (gc gr base:Nat) (cs:Array Value) (x1 x2 x3 x4:Int) (ok:Bool) (L:List Pt) (k:Nat) (v:Nat→Value) (W:World):Prop:=match k with
 | 0=>zv w gc gc gr base 47 cs 47 cs #[.int .i64 0,.int .i64 0,.slice none 0 0,.int .i64 0,.int .i64 0] W
 | 1=>zv w gc gc gr base 47 cs 47 cs #[.int .i64 0,.int .i64 0,.slice none 0 0,.int .i64 0,.int .i64 0] W∧Rw.Own yU W base (v 2) []
 | 2=>zv w gc gc gr base 47 cs 47 cs #[.int .i64 0,.int .i64 0,.slice none 0 0,.int .i64 0,.int .i64 0] W∧Rw.Own yU W base (v 7) l1
 | 3=>zv w gc gc gr base 47 cs 47 cs #[.int .i64 0,.int .i64 0,.slice none 0 0,.int .i64 0,.int .i64 0] W∧Rw.Own yU W base (v 13) l'
 | k+4=>fm 14 15 w gc gr base cs x1 x2 x3 x4 ok L k v W
section
variable {l l' l1:List Pt} {w:World} {gc gr base:Nat} {cs:Array Value} {x1 x2 x3 x4:Int} {ok:Bool} {L:List Pt} {k:Nat} {v v':Nat→Value} {W:World}
theorem Cn.congr (h1:v 4=v' 4) (h2:v 8=v' 8) (h3:v 9=v' 9) (h4:v 10=v' 10) (h:Cn l l' w gc gr base cs x1 x2 x3 x4 ok L k v W):Cn l l' w gc gr base cs x1 x2 x3 x4 ok L k v' W:=by
 match k,h with
 | 0,h=>exact h
 | 1,h=>unfold Cn at *;rw [←h1];exact h
 | 2,h=>unfold Cn at *;rw [←h2];exact h
 | k+3,h=>exact fm.congr h3 h4 h
theorem CJ.congr (h1:v 2=v' 2) (h2:v 7=v' 7) (h3:v 13=v' 13) (h4:v 14=v' 14) (h5:v 15=v' 15) (h:CJ l1 l' w gc gr base cs x1 x2 x3 x4 ok L k v W):CJ l1 l' w gc gr base cs x1 x2 x3 x4 ok L k v' W:=by
 match k,h with
 | 0,h=>exact h
 | 1,h=>unfold CJ at *;rw [←h1];exact h
 | 2,h=>unfold CJ at *;rw [←h2];exact h
 | 3,h=>unfold CJ at *;rw [←h3];exact h
 | k+4,h=>exact fm.congr h4 h5 h
theorem Cn.st (h:Cn l l' w gc gr base cs x1 x2 x3 x4 ok L k v W):∃ zs,zv w gc gc gr base 47 cs 47 cs zs W:=by
 match k,h with
 | 0,h=>exact ⟨_,h⟩
 | 1,h=>exact ⟨_,h.1⟩
 | 2,h=>exact ⟨_,h.1⟩
 | k+3,h=>exact fm.st (m:=k) h
theorem CJ.st (h:CJ l1 l' w gc gr base cs x1 x2 x3 x4 ok L k v W):∃ zs,zv w gc gc gr base 47 cs 47 cs zs W:=by
 match k,h with
 | 0,h=>exact ⟨_,h⟩
 | 1,h=>exact ⟨_,h.1⟩
 | 2,h=>exact ⟨_,h.1⟩
 | 3,h=>exact ⟨_,h.1⟩
 | k+4,h=>exact fm.st (m:=k) h
theorem Cn.val (h:Cn l l' w gc gr base cs x1 x2 x3 x4 ok L k v W) (hk:2<k):∃ u,v 9=.tuple #[.agg #[.int .i64 x1,.int .i64 x2,u,.int .i64 x3,.int .i64 x4],.bool ok]:=by
 match k,h with
 | k+3,h=>
 obtain ⟨⟨u,e,-⟩,-⟩:=h;exact ⟨u,e⟩
theorem CJ.val (h:CJ l1 l' w gc gr base cs x1 x2 x3 x4 ok L k v W) (hk:3<k):∃ u,v 14=.tuple #[.agg #[.int .i64 x1,.int .i64 x2,u,.int .i64 x3,.int .i64 x4],.bool ok]:=by
 match k,h with
 | k+4,h=>
 obtain ⟨⟨u,e,-⟩,-⟩:=h;exact ⟨u,e⟩
end
theorem ej (a b n d i:Int) (v:Value) (l:List Pt) (w:World) (base:Nat) (hown:Rw.Own yU w base v l) (hn:l.length≤4000000) :
  Calls Tryz.prog 31 #[.agg #[.int .i64 a,.int .i64 b,v,.int .i64 n,.int .i64 d],.int .i64 i] w fun e w'=>∃ v',e=.returned (.tuple #[.agg #[.int .i64 (M.pick (M.cQ (M.zW a b l n d i) a b (l.eraseIdx i.toNat)) a),.int .i64 (M.pick (M.cQ (M.zW a b l n d i) a b (l.eraseIdx i.toNat)) b),v',.int .i64 (M.pick (M.cQ (M.zW a b l n d i) a b (l.eraseIdx i.toNat)) (M.BW a b (l.eraseIdx i.toNat))),.int .i64 (M.pick (M.cQ (M.zW a b l n d i) a b (l.eraseIdx i.toNat)) (M.BV a b (l.eraseIdx i.toNat)))],.bool (M.cQ (M.zW a b l n d i) a b (l.eraseIdx i.toNat))])∧Rw.Own yU w' w.heap.size v' (if M.cQ (M.zW a b l n d i) a b (l.eraseIdx i.toNat)=true then l.eraseIdx i.toNat else [])∧Below w.heap.size w w':=by
 have hx0:=hown.seen.pts
 have HP:l=[]∨∃ g cap,v=.slice (some ⟨g,0,none⟩) l.length cap∧g<w.heap.size∧l.length≤cap:=by
  rcases hown.forms with ⟨-,h⟩ | ⟨g,cap,h,-,h2,h3,-⟩
  ·exact Or.inl h
  exact Or.inr ⟨g,cap,h,h2,h3⟩
 have h0:=fun (h:M.cQ (M.zW a b l n d i) a b (l.eraseIdx i.toNat)=false)=>yH h a b (M.BW a b (l.eraseIdx i.toNat)) (M.BV a b (l.eraseIdx i.toNat)) (l.eraseIdx i.toNat)
 have h1:=fun h=>M.xy (a:=a) (b:=b) (l:=l) (n:=n) (d:=d) (i:=i) h
 have h2:=fun h=>M.yA (a:=a) (b:=b) (l:=l) (n:=n) (d:=d) (i:=i) h
 have h3:=fun h=>M.yB (a:=a) (b:=b) (l:=l) (n:=n) (d:=d) (i:=i) h
 have h4:=fun p q r=>M.yC (a:=a) (b:=b) (l:=l) (n:=n) (d:=d) (i:=i) p q r
 have PI:=fun W=>cn i 0 ((l.length:Int) - 1) W
 rcases HP with hl0 | ⟨g,cap,rfl,hgs,hcap⟩
 ·obtain ⟨sa,cap,rfl⟩:=BH hx0
  have hct:M.eI a b l n d=false:=by
   cases h:M.eI a b l n d with
   | false=>rfl
   | true=>
   have:=(M.cP (M.gF h).1).2.1;rw [hl0] at this;simp at this
  obtain ⟨wc,hw3,C,R,B⟩:=gW w #[.int .i64 a,.int .i64 b,.slice sa l.length cap,.int .i64 n,.int .i64 d] 47 #[.int .i64 0,.int .i64 0,.slice none 0 0,.int .i64 0,.int .i64 0] 47;have hxc:=yI (hx0.below B);have ⟨c0,c1,c2,c3,c4⟩:=C.aw;have hfin:=yI (h0 (M.qk (h1 hct)))
  have CI:=fun W (C:aH W w.heap.size 47 #[.int .i64 a,.int .i64 b,.slice sa l.length cap,.int .i64 n,.int .i64 d]) h=>fZ a b n d (.slice sa l.length cap) l w.heap.size W C h hn
  rw [hct] at CI;replace CI:=yI CI;clear h0 h1 h2 h3 h4 PI hx0 hown hct hl0;generalize M.BV a b (l.eraseIdx i.toNat)=m2,M.BW a b (l.eraseIdx i.toNat)=m1,M.cQ (M.zW a b l n d i) a b (l.eraseIdx i.toNat)=ok at *;generalize (if ok=true then l.eraseIdx i.toNat else [])=L,M.pick ok m2=y4,M.pick ok m1=y3,M.pick ok b=y2,M.pick ok a=y1 at *;go_enter Tryz.func31,Tryz.ntmps31
  go_wp2_with (go_at_call 41;(refine (CI.out _ C hxc.out).mono ?_);rintro e w4 ⟨rfl,hb4⟩;have Ab:=hb4.size;replace B:=f_ B hb4;replace C:=C.keep hb4;replace R:=R.keep hb4;(have ⟨c0,c1,c2,c3,c4⟩:=C.aw);(have ⟨r0,r1,r2,r3,r4⟩:=R.aw);(have ⟨r5,r6,r7,r8,r9,_⟩:=R.dz))
  exact bodyPost_ret (v:=.tuple #[.agg #[.int .i64 0,.int .i64 0,.slice none 0 0,.int .i64 0,.int .i64 0],.bool false]) (by simp [results,Tryz.results31,go_sem, *]) rfl (⟨.slice none 0 0,by rw [hfin.out.1],by rw [hfin.out.2];exact Rw.Own.nil yU _ _,yK (yK (yK (yK (yK B (by simp) _) (by simp) _) (by simp) _) (by simp) _) (by simp) _⟩)
 obtain ⟨wc,hw3,C,R,B⟩:=gW w #[.int .i64 a,.int .i64 b,.slice (some ⟨g,0,none⟩) l.length cap,.int .i64 n,.int .i64 d] 47 #[.int .i64 0,.int .i64 0,.slice none 0 0,.int .i64 0,.int .i64 0] 47;have hxc:=yI (hx0.below B);have ⟨c0,c1,c2,c3,c4⟩:=C.aw
 have hzz:w.heap.size+2≤wc.heap.size:=by have:=R.lt;omega
 have CI:=fun W (C:aH W w.heap.size 47 #[.int .i64 a,.int .i64 b,.slice (some ⟨g,0,none⟩) l.length cap,.int .i64 n,.int .i64 d]) h=>fZ a b n d (.slice (some ⟨g,0,none⟩) l.length cap) l w.heap.size W C h hn
 have hsucc:M.eI a b l n d=true→¬ l.length<2→M.ins i 0 ((l.length:Int) - 1)=true→∃ j:Nat,i=(j:Int)∧j<l.length∧l.length≤4∧M.bs a b (l.eraseIdx j)=true:=fun p q r=>by
  unfold M.ins at r;rw [decide_eq_true_eq] at r;obtain ⟨hg,-,hl4,hpt⟩:=M.cP (M.gF p).1;refine ⟨i.toNat,by omega,by omega,hl4,M.ny hg ?_ ?_ fun x hx=>hpt x (List.mem_of_mem_eraseIdx hx)⟩
  ·rw [List.length_eraseIdx];split <;> omega
  rw [List.length_eraseIdx];split <;> omega
 have MK:=fun (hp:M.bs a b (l.eraseIdx i.toNat)=true) v W (h:dc W v (l.eraseIdx i.toNat))=>(M.tu hp).symm ▸ iF a b v (l.eraseIdx i.toNat) W h (M.cP hp).1 (M.cP hp).2.1 (M.cP hp).2.2.1 (M.cP hp).2.2.2
 have EE:=fun (h:M.zW a b l n d i=true)=>M.ud (a:=a) (b:=b) (l:=l.eraseIdx i.toNat) h
 have hx0:=yI hx0;have hown:=yI hown
 have CP:=fun (h:M.zW a b l n d i=true) hp v W q=>(EE h).symm ▸ MK hp v W q
 clear MK EE;generalize (if M.cQ (M.zW a b l n d i) a b (l.eraseIdx i.toNat)=true then l.eraseIdx i.toNat else [])=L,M.pick (M.cQ (M.zW a b l n d i) a b (l.eraseIdx i.toNat)) (M.BV a b (l.eraseIdx i.toNat))=x4,M.pick (M.cQ (M.zW a b l n d i) a b (l.eraseIdx i.toNat)) (M.BW a b (l.eraseIdx i.toNat))=x3,M.pick (M.cQ (M.zW a b l n d i) a b (l.eraseIdx i.toNat)) b=x2,M.pick (M.cQ (M.zW a b l n d i) a b (l.eraseIdx i.toNat)) a=x1 at *
 have h0:=fun (h:M.zW a b l n d i=false)=>h0 (M.qk h)
 generalize M.cQ (M.zW a b l n d i) a b (l.eraseIdx i.toNat)=ok at *;replace CP:=yI CP;replace hsucc:=yI hsucc;replace h4:=yI h4;replace h0:=yI h0
 cases hc:M.eI a b l n d with
 | false=>
  have hfin:=yI (h0.out (h1 hc));rw [hc] at CI;replace CI:=yI CI;replace PI:=yI PI;clear h0 h1 h2 h3 h4 hc CP hsucc hn;go_enter Tryz.func31,Tryz.ntmps31
  go_wp2_with first | (go_at_call 41;(refine (CI.out _ C hxc.out).mono ?_);rintro e w4 ⟨rfl,hb4⟩;have Ab:=hb4.size;replace B:=f_ B hb4;replace C:=C.keep hb4;replace R:=R.keep hb4;(have ⟨c0,c1,c2,c3,c4⟩:=C.aw);(have ⟨r0,r1,r2,r3,r4⟩:=R.aw);(have ⟨r5,r6,r7,r8,r9,_⟩:=R.dz)) | (go_at_call 48;(refine (PI.out _).mono ?_);rintro e w5 ⟨rfl,rfl⟩)
  exact bodyPost_ret (v:=.tuple #[.agg #[.int .i64 0,.int .i64 0,.slice none 0 0,.int .i64 0,.int .i64 0],.bool false]) (by simp [results,Tryz.results31,go_sem, *]) rfl (⟨.slice none 0 0,by rw [hfin.out.1],by rw [hfin.out.2];exact Rw.Own.nil yU _ _,yK (yK (yK (yK (yK B (by simp) _) (by simp) _) (by simp) _) (by simp) _) (by simp) _⟩)
 | true=>
 rw [hc] at CI;replace CI:=yI CI;have hl4:l.length≤4:=(M.cP (M.gF hc).1).2.2.1
 by_cases hl2:l.length<2
 ·have hfin:=yI (h0.out (h2 hl2))
  replace PI:=yI PI;clear h0 h1 h2 h3 h4 hc CP hsucc hn;go_enter Tryz.func31,Tryz.ntmps31
  go_wp2_with first | (go_at_call 41;(refine (CI.out _ C hxc.out).mono ?_);rintro e w4 ⟨rfl,hb4⟩;have Ab:=hb4.size;replace B:=f_ B hb4;replace C:=C.keep hb4;replace R:=R.keep hb4;(have ⟨c0,c1,c2,c3,c4⟩:=C.aw);(have ⟨r0,r1,r2,r3,r4⟩:=R.aw);(have ⟨r5,r6,r7,r8,r9,_⟩:=R.dz)) | (go_at_call 48;(refine (PI.out _).mono ?_);rintro e w5 ⟨rfl,rfl⟩)
  exact bodyPost_ret (v:=.tuple #[.agg #[.int .i64 0,.int .i64 0,.slice none 0 0,.int .i64 0,.int .i64 0],.bool false]) (by simp [results,Tryz.results31,go_sem, *]) rfl (⟨.slice none 0 0,by rw [hfin.out.1],by rw [hfin.out.2];exact Rw.Own.nil yU _ _,yK (yK (yK (yK (yK B (by simp) _) (by simp) _) (by simp) _) (by simp) _) (by simp) _⟩)
 cases hi:M.ins i 0 ((l.length:Int) - 1) with
 | false=>
  have hfin:=yI (h0.out (h3 hi));rw [hi] at PI;replace PI:=yI PI;clear h0 h1 h2 h3 h4 hc CP hsucc hn hi;go_enter Tryz.func31,Tryz.ntmps31
  go_wp2_with first | (go_at_call 41;(refine (CI.out _ C hxc.out).mono ?_);rintro e w4 ⟨rfl,hb4⟩;have Ab:=hb4.size;replace B:=f_ B hb4;replace C:=C.keep hb4;replace R:=R.keep hb4;(have ⟨c0,c1,c2,c3,c4⟩:=C.aw);(have ⟨r0,r1,r2,r3,r4⟩:=R.aw);(have ⟨r5,r6,r7,r8,r9,_⟩:=R.dz)) | (go_at_call 48;(refine (PI.out _).mono ?_);rintro e w5 ⟨rfl,rfl⟩)
  exact bodyPost_ret (v:=.tuple #[.agg #[.int .i64 0,.int .i64 0,.slice none 0 0,.int .i64 0,.int .i64 0],.bool false]) (by simp [results,Tryz.results31,go_sem, *]) rfl (⟨.slice none 0 0,by rw [hfin.out.1],by rw [hfin.out.2];exact Rw.Own.nil yU _ _,yK (yK (yK (yK (yK B (by simp) _) (by simp) _) (by simp) _) (by simp) _) (by simp) _⟩)
 | true=>
 rw [hi] at PI;replace PI:=yI PI;obtain ⟨j,rfl,hj,-,hpl⟩:=hsucc.out hc hl2 hi;have MK:=yI (CP.out (h4.out hc hl2 hi) hpl);clear h0 h1 h2 h3 h4 hc CP hsucc hn hi hpl;simp only [Int.toNat_natCast] at MK;have CL:=yI (fun w (h:dc w (.slice (some ⟨g,0,none⟩) l.length cap) l)=>ju l (.slice (some ⟨g,0,none⟩) l.length cap) w h (by omega));have hj1:=yI (show ((j:Int)+1)=((j+1:Nat):Int) by omega)
 have DL:=yI fun v W base ho hb=>pH l v j (j+1) W base ho rfl hj (by omega) hb
 go_enter Tryz.func31,Tryz.ntmps31
 go_upto_region 3 with first | (go_at_call 41;(refine (CI.out _ C hxc.out).mono ?_);rintro e w4 ⟨rfl,hb4⟩;have Ab:=hb4.size;replace B:=f_ B hb4;replace C:=C.keep hb4;replace R:=R.keep hb4;(have ⟨c0,c1,c2,c3,c4⟩:=C.aw);have J0:=yI (zv.mk B C C R (by omega) (by omega) (by omega) (show w.heap.size<w4.heap.size by omega) (show w.heap.size<w4.heap.size by omega) (by omega) (yM _))) | (go_at_call 48;(refine (PI.out _).mono ?_);rintro e w5 ⟨rfl,rfl⟩)
 refine Rg.ke (fun k v W=>Cn l (l.eraseIdx j) w w.heap.size (w.heap.size+1) w4.heap.size #[.int .i64 a,.int .i64 b,.slice (some ⟨g,0,none⟩) l.length cap,.int .i64 n,.int .i64 d] x1 x2 x3 x4 ok L k v W) [4,8,9,10,12] [.pointer (some ⟨w.heap.size,0,none⟩),.agg #[.int .i64 a,.int .i64 b],.pointer (some ⟨w.heap.size,2,none⟩),.slice (some ⟨g,0,none⟩) l.length cap,undef,.int .i64 (j:Int),.int .i64 (j:Int),.int .i64 ((j:Int)+1),undef,undef,undef,.bool ok,undef,.bool ok] (by kernel_rfl) (by kernel_rfl) (by kernel_rfl) (by decide) (fun k v v2 W h hj=>Cn.congr (h 4 (by decide)) (h 8 (by decide)) (h 9 (by decide)) (h 10 (by decide)) hj) (fun _=>J0.out.keep (yL _ _).drew) ⟨?_,?_,?_,?_,?_,?_,?_,?_,?_,?_,?_,?_,?_,?_,trivial⟩ ?_
 ·unfold Rg.aV
  rw [if_neg (by decide)];intro zZ w_ n_ i_ yv hJ hr;refine ⟨rfl,?_⟩;have e2:zZ.tmps[2]?=some (.pointer (some ⟨w.heap.size,0,none⟩)):=hr 2 (by decide)
  (first | (go_simp;done) | (go_simp;exact Rg.wr (by omega) (by omega)) | (go_simp;omega) | (go_simp;rfl))
 ·unfold Rg.aV
  rw [if_neg (by decide)];intro zZ w_ n_ i_ yv hJ hr;refine ⟨rfl,?_⟩;have e24:zZ.tmps[24]?=some (.pointer (some ⟨w.heap.size,0,none⟩)):=hr 24 (by decide);obtain ⟨FO,hs_⟩:=Cn.st hJ;have ⟨k0,k1,k2,k3,k4⟩:=hs_.C.aw
  (first | (go_simp;done) | (go_simp;exact Rg.wr (by omega) (by omega)) | (go_simp;omega) | (go_simp;rfl))
 ·unfold Rg.aV
  rw [if_neg (by decide)];intro zZ w_ n_ i_ yv hJ hr;refine ⟨rfl,?_⟩;have e2:zZ.tmps[2]?=some (.pointer (some ⟨w.heap.size,0,none⟩)):=hr 2 (by decide)
  (first | (go_simp;done) | (go_simp;exact Rg.wr (by omega) (by omega)) | (go_simp;omega) | (go_simp;rfl))
 ·unfold Rg.aV
  rw [if_neg (by decide)];intro zZ w_ n_ i_ yv hJ hr;refine ⟨rfl,?_⟩;have e26:zZ.tmps[26]?=some (.pointer (some ⟨w.heap.size,2,none⟩)):=hr 26 (by decide);obtain ⟨FO,hs_⟩:=Cn.st hJ;have ⟨k0,k1,k2,k3,k4⟩:=hs_.C.aw
  (first | (go_simp;done) | (go_simp;exact Rg.wr (by omega) (by omega)) | (go_simp;omega) | (go_simp;rfl))
 ·unfold Rg.aV
  rw [if_pos (by decide)];intro zZ w_ i_ hJ hr;have e27:zZ.tmps[27]?=some (.slice (some ⟨g,0,none⟩) l.length cap):=hr 27 (by decide)
  have ef:∀ f,zZ.eval (.func f)=.func (.func f) #[] #[]:=fun _=>rfl
  refine ⟨rfl,?_⟩;have zC:zv w w.heap.size w.heap.size (w.heap.size+1) w4.heap.size 47 #[.int .i64 a,.int .i64 b,.slice (some ⟨g,0,none⟩) l.length cap,.int .i64 n,.int .i64 d] 47 #[.int .i64 a,.int .i64 b,.slice (some ⟨g,0,none⟩) l.length cap,.int .i64 n,.int .i64 d] #[.int .i64 0,.int .i64 0,.slice none 0 0,.int .i64 0,.int .i64 0] w_:=hJ;refine Rg.iw (by go_simp;exact ⟨rfl,rfl⟩) ?_;refine (CL.out _ (hx0.out.below zC.B)).mono ?_;rintro e G3 ⟨u_,rfl,yp,AK⟩;exact ⟨u_,rfl,zC.keep AK,yp.down zC.hb⟩
 ·unfold Rg.aV
  rw [if_neg (by decide)];intro zZ w_ n_ i_ yv hJ hr;refine ⟨rfl,?_⟩;have e1:zZ.tmps[1]?=some (.int .i64 (j:Int)):=hr 1 (by decide)
  go_simp
 ·unfold Rg.aV
  rw [if_neg (by decide)];intro zZ w_ n_ i_ yv hJ hr;refine ⟨rfl,?_⟩;have e1:zZ.tmps[1]?=some (.int .i64 (j:Int)):=hr 1 (by decide)
  go_simp
 ·unfold Rg.aV
  rw [if_neg (by decide)];intro zZ w_ n_ i_ yv hJ hr;refine ⟨rfl,?_⟩;have e30:zZ.tmps[30]?=some (.int .i64 (j:Int)):=hr 30 (by decide);have ec:=Rg.ec zZ
  (first | (go_simp;done) | (go_simp;exact Rg.wr (by omega) (by omega)) | (go_simp;omega) | (go_simp;rfl))
 ·unfold Rg.aV
  rw [if_pos (by decide)];intro zZ w_ i_ hJ hr;have e28:zZ.tmps[28]?=some (i_ 4):=hr 28 (by decide);have e29:zZ.tmps[29]?=some (.int .i64 (j:Int)):=hr 29 (by decide);have e31:zZ.tmps[31]?=some (.int .i64 ((j:Int)+1)):=hr 31 (by decide)
  have ef:∀ f,zZ.eval (.func f)=.func (.func f) #[] #[]:=fun _=>rfl
  refine ⟨rfl,?_⟩;obtain ⟨zC,yp⟩:zv w w.heap.size w.heap.size (w.heap.size+1) w4.heap.size 47 #[.int .i64 a,.int .i64 b,.slice (some ⟨g,0,none⟩) l.length cap,.int .i64 n,.int .i64 d] 47 #[.int .i64 a,.int .i64 b,.slice (some ⟨g,0,none⟩) l.length cap,.int .i64 n,.int .i64 d] #[.int .i64 0,.int .i64 0,.slice none 0 0,.int .i64 0,.int .i64 0] w_∧Rw.Own yU w_ w4.heap.size (i_ 4) l:=hJ;rw [hj1.out] at e31;refine Rg.iw (by go_simp;exact ⟨rfl,rfl⟩) ?_;refine (DL.out _ _ _ yp zC.hb).mono ?_;rintro e G3 ⟨u_,rfl,H_,hg_⟩;exact ⟨u_,rfl,zC.grown yp hg_,H_⟩
 ·unfold Rg.aV
  rw [if_pos (by decide)];intro zZ w_ i_ hJ hr;have e25:zZ.tmps[25]?=some (.agg #[.int .i64 a,.int .i64 b]):=hr 25 (by decide);have e32:zZ.tmps[32]?=some (i_ 8):=hr 32 (by decide)
  have ef:∀ f,zZ.eval (.func f)=.func (.func f) #[] #[]:=fun _=>rfl
  refine ⟨rfl,?_⟩;obtain ⟨zC,yp⟩:zv w w.heap.size w.heap.size (w.heap.size+1) w4.heap.size 47 #[.int .i64 a,.int .i64 b,.slice (some ⟨g,0,none⟩) l.length cap,.int .i64 n,.int .i64 d] 47 #[.int .i64 a,.int .i64 b,.slice (some ⟨g,0,none⟩) l.length cap,.int .i64 n,.int .i64 d] #[.int .i64 0,.int .i64 0,.slice none 0 0,.int .i64 0,.int .i64 0] w_∧Rw.Own yU w_ w4.heap.size (i_ 8) (l.eraseIdx j):=hJ;refine Rg.iw (by go_simp;exact ⟨rfl,rfl⟩) ?_;refine (MK.out _ _ yp.seen.pts).mono ?_;rintro e G3 ⟨u_,rfl,H_,AK⟩;exact ⟨_,rfl,⟨u_,rfl,H_.down zC.hb⟩,zC.keep AK⟩
 ·unfold Rg.aV
  rw [if_pos (by decide)];intro zZ w_ i_ hJ hr;have e33:zZ.tmps[33]?=some (i_ 9):=hr 33 (by decide);refine ⟨rfl,?_⟩;obtain ⟨⟨u_,e_,yp⟩,zC⟩:(∃ u,i_ 9=.tuple #[.agg #[.int .i64 x1,.int .i64 x2,u,.int .i64 x3,.int .i64 x4],.bool ok]∧Rw.Own yU w_ w4.heap.size u L)∧zv w w.heap.size w.heap.size (w.heap.size+1) w4.heap.size 47 #[.int .i64 a,.int .i64 b,.slice (some ⟨g,0,none⟩) l.length cap,.int .i64 n,.int .i64 d] 47 #[.int .i64 a,.int .i64 b,.slice (some ⟨g,0,none⟩) l.length cap,.int .i64 n,.int .i64 d] #[.int .i64 0,.int .i64 0,.slice none 0 0,.int .i64 0,.int .i64 0] w_:=hJ;rw [e_] at e33;refine Rg.iH (x:=.agg #[.int .i64 x1,.int .i64 x2,u_,.int .i64 x3,.int .i64 x4]) (w2:=w_) (by (first | (go_simp;done) | (go_simp;exact Rg.wr (by omega) (by omega)) | (go_simp;omega) | (go_simp;rfl))) ?_;exact ⟨⟨u_,e_,yp⟩,zC,u_,rfl,yp⟩
 ·unfold Rg.aV
  rw [if_neg (by decide)];intro zZ w_ n_ i_ yv hJ hr;refine ⟨rfl,?_⟩;have e33:zZ.tmps[33]?=some (i_ 9):=hr 33 (by decide);obtain ⟨u_,e_⟩:=Cn.val hJ (yv.2.2 9 (by decide) (by kernel_rfl));rw [e_] at e33
  (first | (go_simp;done) | (go_simp;exact Rg.wr (by omega) (by omega)) | (go_simp;omega) | (go_simp;rfl))
 ·unfold Rg.aV
  rw [if_pos (by decide)];intro zZ w_ i_ hJ hr;have e4:zZ.tmps[4]?=some (.pointer (some ⟨w.heap.size+1,0,none⟩)):=hr 4 (by decide);have e34:zZ.tmps[34]?=some (i_ 10):=hr 34 (by decide);refine ⟨rfl,?_⟩;have Hn:fm 9 10 w w.heap.size (w.heap.size+1) w4.heap.size #[.int .i64 a,.int .i64 b,.slice (some ⟨g,0,none⟩) l.length cap,.int .i64 n,.int .i64 d] x1 x2 x3 x4 ok L 1 i_ w_:=hJ;obtain ⟨-,zC,u_,e_,yp⟩:(∃ u,i_ 9=.tuple #[.agg #[.int .i64 x1,.int .i64 x2,u,.int .i64 x3,.int .i64 x4],.bool ok]∧Rw.Own yU w_ w4.heap.size u L)∧zv w w.heap.size w.heap.size (w.heap.size+1) w4.heap.size 47 #[.int .i64 a,.int .i64 b,.slice (some ⟨g,0,none⟩) l.length cap,.int .i64 n,.int .i64 d] 47 #[.int .i64 a,.int .i64 b,.slice (some ⟨g,0,none⟩) l.length cap,.int .i64 n,.int .i64 d] #[.int .i64 0,.int .i64 0,.slice none 0 0,.int .i64 0,.int .i64 0] w_∧∃ u,i_ 10=.agg #[.int .i64 x1,.int .i64 x2,u,.int .i64 x3,.int .i64 x4]∧Rw.Own yU w_ w4.heap.size u L:=hJ;obtain ⟨A_,c_,rfl⟩:=BH yp.seen.pts;rw [e_] at e34;have Ce:=Hn.put (v':=Rg.cU i_ 12 undef) yp rfl;have ⟨y0,y1,y2,y3,y4⟩:=zC.R.aw;have ⟨y5,y6,y7,y8,y9,_⟩:=zC.R.dz;clear zC Hn e_ yp;unfold Oper.wp
  go_simp
  all_goals first | exact ⟨undef,Ce⟩ | exact ⟨_,rfl,Ce⟩ | exact Ce
 ·unfold Rg.aV
  rw [if_neg (by decide)];intro zZ w_ n_ i_ yv hJ hr;refine ⟨rfl,?_⟩;have e35:zZ.tmps[35]?=some (.bool ok):=hr 35 (by decide)
  (first | (go_simp;done) | (go_simp;exact Rg.wr (by omega) (by omega)) | (go_simp;omega) | (go_simp;rfl))
 intro vals wz hJ hv;have Iq:vals 13=.bool ok:=hv 13 (by decide) (by decide);simp only [Rg.ak,Rg.fill,Act.put,Nat.reduceAdd];clear hv;simp only [Iq];clear Iq;obtain ⟨-,u,hS,hO⟩:(∃ u,vals 9=.tuple #[.agg #[.int .i64 x1,.int .i64 x2,u,.int .i64 x3,.int .i64 x4],.bool ok]∧Rw.Own yU wz w4.heap.size u L)∧∃ u,zv w w.heap.size w.heap.size (w.heap.size+1) w4.heap.size 47 #[.int .i64 a,.int .i64 b,.slice (some ⟨g,0,none⟩) l.length cap,.int .i64 n,.int .i64 d] 47 #[.int .i64 a,.int .i64 b,.slice (some ⟨g,0,none⟩) l.length cap,.int .i64 n,.int .i64 d] #[.int .i64 x1,.int .i64 x2,u,.int .i64 x3,.int .i64 x4] wz∧Rw.Own yU wz w4.heap.size u L:=hJ;obtain ⟨A7,c7,rfl⟩:=BH hO.seen.pts;have ⟨r0,r1,r2,r3,r4⟩:=hS.R.aw;have BB:=hS.B;have hO:=yI (hO.down (base':=w.heap.size) (by omega));clear J0 hS;go_wp2;exact bodyPost_ret (v:=.tuple #[.agg #[.int .i64 x1,.int .i64 x2,.slice A7 L.length c7,.int .i64 x3,.int .i64 x4],.bool ok]) (by simp [results,Tryz.results31,go_sem, *]) rfl (⟨_,rfl,hO.out,BB⟩)
theorem el (a b n d i:Int) (v:Value) (l:List Pt) (w:World) (base:Nat) (hown:Rw.Own yU w base v l) (hn:l.length≤4000000) :
  Calls Tryz.prog 30 #[.agg #[.int .i64 a,.int .i64 b,v,.int .i64 n,.int .i64 d],.int .i64 i] w fun e w'=>∃ v',e=.returned (.tuple #[.agg #[.int .i64 (M.pick (M.cQ (M.zW a b l n d i) a b (l.eraseIdx i.toNat)) a),.int .i64 (M.pick (M.cQ (M.zW a b l n d i) a b (l.eraseIdx i.toNat)) b),v',.int .i64 (M.pick (M.cQ (M.zW a b l n d i) a b (l.eraseIdx i.toNat)) (M.BW a b (l.eraseIdx i.toNat))),.int .i64 (M.pick (M.cQ (M.zW a b l n d i) a b (l.eraseIdx i.toNat)) (M.BV a b (l.eraseIdx i.toNat)))],.bool (M.cQ (M.zW a b l n d i) a b (l.eraseIdx i.toNat))])∧Rw.Own yU w' w.heap.size v' (if M.cQ (M.zW a b l n d i) a b (l.eraseIdx i.toNat)=true then l.eraseIdx i.toNat else [])∧Below w.heap.size w w':=by
 have hx0:=hown.seen.pts
 have HP:l=[]∨∃ g cap,v=.slice (some ⟨g,0,none⟩) l.length cap∧g<w.heap.size∧l.length≤cap:=by
  rcases hown.forms with ⟨-,h⟩ | ⟨g,cap,h,-,h2,h3,-⟩
  ·exact Or.inl h
  exact Or.inr ⟨g,cap,h,h2,h3⟩
 have h0:=fun (h:M.cQ (M.zW a b l n d i) a b (l.eraseIdx i.toNat)=false)=>yH h a b (M.BW a b (l.eraseIdx i.toNat)) (M.BV a b (l.eraseIdx i.toNat)) (l.eraseIdx i.toNat)
 have h1:=fun h=>M.xy (a:=a) (b:=b) (l:=l) (n:=n) (d:=d) (i:=i) h
 have h2:=fun h=>M.yA (a:=a) (b:=b) (l:=l) (n:=n) (d:=d) (i:=i) h
 have h3:=fun h=>M.yB (a:=a) (b:=b) (l:=l) (n:=n) (d:=d) (i:=i) h
 have h4:=fun p q r=>M.yC (a:=a) (b:=b) (l:=l) (n:=n) (d:=d) (i:=i) p q r
 have PI:=fun W=>dT i 0 ((l.length:Int) - 1) W
 rcases HP with hl0 | ⟨g,cap,rfl,hgs,hcap⟩
 ·obtain ⟨sa,cap,rfl⟩:=BH hx0
  have hct:M.eI a b l n d=false:=by
   cases h:M.eI a b l n d with
   | false=>rfl
   | true=>
   have:=(M.cP (M.gF h).1).2.1;rw [hl0] at this;simp at this
  obtain ⟨wc,hw3,C,R,B⟩:=gW w #[.int .i64 a,.int .i64 b,.slice sa l.length cap,.int .i64 n,.int .i64 d] 47 #[.int .i64 0,.int .i64 0,.slice none 0 0,.int .i64 0,.int .i64 0] 47;have hxc:=yI (hx0.below B);have ⟨c0,c1,c2,c3,c4⟩:=C.aw;have hfin:=yI (h0 (M.qk (h1 hct)))
  have CI:=fun W  h=>ni a b n d (.slice sa l.length cap) l W h hn
  rw [hct] at CI;replace CI:=yI CI;clear h0 h1 h2 h3 h4 PI hx0 hown hct hl0;generalize M.BV a b (l.eraseIdx i.toNat)=m2,M.BW a b (l.eraseIdx i.toNat)=m1,M.cQ (M.zW a b l n d i) a b (l.eraseIdx i.toNat)=ok at *;generalize (if ok=true then l.eraseIdx i.toNat else [])=L,M.pick ok m2=y4,M.pick ok m1=y3,M.pick ok b=y2,M.pick ok a=y1 at *;go_enter Tryz.func30,Tryz.ntmps30
  go_wp2_with (go_at_call 38;(refine (CI.out _ hxc.out).mono ?_);rintro e w4 ⟨rfl,hb4⟩;have Ab:=hb4.size;replace B:=f_ B hb4;replace C:=C.keep hb4;replace R:=R.keep hb4;(have ⟨c0,c1,c2,c3,c4⟩:=C.aw);(have ⟨r0,r1,r2,r3,r4⟩:=R.aw);(have ⟨r5,r6,r7,r8,r9,_⟩:=R.dz))
  exact bodyPost_ret (v:=.tuple #[.agg #[.int .i64 0,.int .i64 0,.slice none 0 0,.int .i64 0,.int .i64 0],.bool false]) (by simp [results,Tryz.results30,go_sem, *]) rfl (⟨.slice none 0 0,by rw [hfin.out.1],by rw [hfin.out.2];exact Rw.Own.nil yU _ _,yK (yK (yK (yK (yK B (by simp) _) (by simp) _) (by simp) _) (by simp) _) (by simp) _⟩)
 obtain ⟨wc,hw3,C,R,B⟩:=gW w #[.int .i64 a,.int .i64 b,.slice (some ⟨g,0,none⟩) l.length cap,.int .i64 n,.int .i64 d] 47 #[.int .i64 0,.int .i64 0,.slice none 0 0,.int .i64 0,.int .i64 0] 47;have hxc:=yI (hx0.below B);have ⟨c0,c1,c2,c3,c4⟩:=C.aw
 have hzz:w.heap.size+2≤wc.heap.size:=by have:=R.lt;omega
 have CI:=fun W  h=>ni a b n d (.slice (some ⟨g,0,none⟩) l.length cap) l W h hn
 have hsucc:M.eI a b l n d=true→¬ l.length<2→M.ins i 0 ((l.length:Int) - 1)=true→∃ j:Nat,i=(j:Int)∧j<l.length∧l.length≤4∧M.bs a b (l.eraseIdx j)=true:=fun p q r=>by
  unfold M.ins at r;rw [decide_eq_true_eq] at r;obtain ⟨hg,-,hl4,hpt⟩:=M.cP (M.gF p).1;refine ⟨i.toNat,by omega,by omega,hl4,M.ny hg ?_ ?_ fun x hx=>hpt x (List.mem_of_mem_eraseIdx hx)⟩
  ·rw [List.length_eraseIdx];split <;> omega
  rw [List.length_eraseIdx];split <;> omega
 have MK:=fun (hp:M.bs a b (l.eraseIdx i.toNat)=true) v W (h:dc W v (l.eraseIdx i.toNat))=>tW a b v (l.eraseIdx i.toNat) W h (by have:=(M.cP hp).2.2.1;omega)
 have EE:=fun (h:M.zW a b l n d i=true)=>M.ud (a:=a) (b:=b) (l:=l.eraseIdx i.toNat) h
 have hx0:=yI hx0;have hown:=yI hown
 have CP:=fun (h:M.zW a b l n d i=true) hp v W q=>(EE h).symm ▸ MK hp v W q
 clear MK EE;generalize (if M.cQ (M.zW a b l n d i) a b (l.eraseIdx i.toNat)=true then l.eraseIdx i.toNat else [])=L,M.pick (M.cQ (M.zW a b l n d i) a b (l.eraseIdx i.toNat)) (M.BV a b (l.eraseIdx i.toNat))=x4,M.pick (M.cQ (M.zW a b l n d i) a b (l.eraseIdx i.toNat)) (M.BW a b (l.eraseIdx i.toNat))=x3,M.pick (M.cQ (M.zW a b l n d i) a b (l.eraseIdx i.toNat)) b=x2,M.pick (M.cQ (M.zW a b l n d i) a b (l.eraseIdx i.toNat)) a=x1 at *
 have h0:=fun (h:M.zW a b l n d i=false)=>h0 (M.qk h)
 generalize M.cQ (M.zW a b l n d i) a b (l.eraseIdx i.toNat)=ok at *;replace CP:=yI CP;replace hsucc:=yI hsucc;replace h4:=yI h4;replace h0:=yI h0
 cases hc:M.eI a b l n d with
 | false=>
  have hfin:=yI (h0.out (h1 hc));rw [hc] at CI;replace CI:=yI CI;replace PI:=yI PI;clear h0 h1 h2 h3 h4 hc CP hsucc hn;go_enter Tryz.func30,Tryz.ntmps30
  go_wp2_with first | (go_at_call 38;(refine (CI.out _ hxc.out).mono ?_);rintro e w4 ⟨rfl,hb4⟩;have Ab:=hb4.size;replace B:=f_ B hb4;replace C:=C.keep hb4;replace R:=R.keep hb4;(have ⟨c0,c1,c2,c3,c4⟩:=C.aw);(have ⟨r0,r1,r2,r3,r4⟩:=R.aw);(have ⟨r5,r6,r7,r8,r9,_⟩:=R.dz)) | (go_at_call 47;(refine (PI.out _).mono ?_);rintro e w5 ⟨rfl,rfl⟩)
  exact bodyPost_ret (v:=.tuple #[.agg #[.int .i64 0,.int .i64 0,.slice none 0 0,.int .i64 0,.int .i64 0],.bool false]) (by simp [results,Tryz.results30,go_sem, *]) rfl (⟨.slice none 0 0,by rw [hfin.out.1],by rw [hfin.out.2];exact Rw.Own.nil yU _ _,yK (yK (yK (yK (yK B (by simp) _) (by simp) _) (by simp) _) (by simp) _) (by simp) _⟩)
 | true=>
 rw [hc] at CI;replace CI:=yI CI;have hl4:l.length≤4:=(M.cP (M.gF hc).1).2.2.1
 by_cases hl2:l.length<2
 ·have hfin:=yI (h0.out (h2 hl2))
  replace PI:=yI PI;clear h0 h1 h2 h3 h4 hc CP hsucc hn;go_enter Tryz.func30,Tryz.ntmps30
  go_wp2_with first | (go_at_call 38;(refine (CI.out _ hxc.out).mono ?_);rintro e w4 ⟨rfl,hb4⟩;have Ab:=hb4.size;replace B:=f_ B hb4;replace C:=C.keep hb4;replace R:=R.keep hb4;(have ⟨c0,c1,c2,c3,c4⟩:=C.aw);(have ⟨r0,r1,r2,r3,r4⟩:=R.aw);(have ⟨r5,r6,r7,r8,r9,_⟩:=R.dz)) | (go_at_call 47;(refine (PI.out _).mono ?_);rintro e w5 ⟨rfl,rfl⟩)
  exact bodyPost_ret (v:=.tuple #[.agg #[.int .i64 0,.int .i64 0,.slice none 0 0,.int .i64 0,.int .i64 0],.bool false]) (by simp [results,Tryz.results30,go_sem, *]) rfl (⟨.slice none 0 0,by rw [hfin.out.1],by rw [hfin.out.2];exact Rw.Own.nil yU _ _,yK (yK (yK (yK (yK B (by simp) _) (by simp) _) (by simp) _) (by simp) _) (by simp) _⟩)
 cases hi:M.ins i 0 ((l.length:Int) - 1) with
 | false=>
  have hfin:=yI (h0.out (h3 hi));rw [hi] at PI;replace PI:=yI PI;clear h0 h1 h2 h3 h4 hc CP hsucc hn hi;go_enter Tryz.func30,Tryz.ntmps30
  go_wp2_with first | (go_at_call 38;(refine (CI.out _ hxc.out).mono ?_);rintro e w4 ⟨rfl,hb4⟩;have Ab:=hb4.size;replace B:=f_ B hb4;replace C:=C.keep hb4;replace R:=R.keep hb4;(have ⟨c0,c1,c2,c3,c4⟩:=C.aw);(have ⟨r0,r1,r2,r3,r4⟩:=R.aw);(have ⟨r5,r6,r7,r8,r9,_⟩:=R.dz)) | (go_at_call 47;(refine (PI.out _).mono ?_);rintro e w5 ⟨rfl,rfl⟩)
  exact bodyPost_ret (v:=.tuple #[.agg #[.int .i64 0,.int .i64 0,.slice none 0 0,.int .i64 0,.int .i64 0],.bool false]) (by simp [results,Tryz.results30,go_sem, *]) rfl (⟨.slice none 0 0,by rw [hfin.out.1],by rw [hfin.out.2];exact Rw.Own.nil yU _ _,yK (yK (yK (yK (yK B (by simp) _) (by simp) _) (by simp) _) (by simp) _) (by simp) _⟩)
 | true=>
 rw [hi] at PI;replace PI:=yI PI;obtain ⟨j,rfl,hj,-,hpl⟩:=hsucc.out hc hl2 hi;have MK:=yI (CP.out (h4.out hc hl2 hi) hpl);clear h0 h1 h2 h3 h4 hc CP hsucc hn hi hpl;simp only [Int.toNat_natCast] at MK
 have hj1:j+1≤l.length:=by omega
 have hjc:j≤cap:=by omega
 have hj1c:j+1≤cap:=by omega
 obtain ⟨A2,hA2,hF2⟩:∃ A2:Addr,(if cap=j+1 then some (⟨g,0,none⟩:Addr) else some ⟨g,(j+1)*3,none⟩)=some A2∧Hid (∀ W,Below w.heap.size w W→Rw.From yU W (some A2) (l.drop (j+1))):=by
  by_cases h:cap=j+1
  ·refine ⟨⟨g,0,none⟩,by simp [h],fun W hW=>?_⟩
   rw [List.drop_of_length_le (by omega)];exact Rw.From.nil yU W _
  exact ⟨⟨g,(j+1)*3,none⟩,by simp [h],fun W hW=>hown.out.vy rfl hgs hW (j+1) _ rfl⟩
 have hF1:=yI fun W (hW:Below w.heap.size w W)=>hown.out.uY rfl hgs hW j
 have hl1:=yI (show (l.take j).length=j by rw [List.length_take];omega);have Ht:=yI (show (l.drop (j+1)).length=l.length - (j+1) by rw [List.length_drop]);have hle:=yI (show l.eraseIdx j=l.take j ++ l.drop (j+1) from List.eraseIdx_eq_take_drop_succ ..);go_enter Tryz.func30,Tryz.ntmps30
 go_upto_region 3 with first | (go_at_call 38;(refine (CI.out _ hxc.out).mono ?_);rintro e w4 ⟨rfl,hb4⟩;have Ab:=hb4.size;replace B:=f_ B hb4;replace C:=C.keep hb4;replace R:=R.keep hb4;(have ⟨c0,c1,c2,c3,c4⟩:=C.aw);have J0:=yI (zv.mk B C C R (by omega) (by omega) (by omega) (show w.heap.size<w4.heap.size by omega) (show w.heap.size<w4.heap.size by omega) (by omega) (yM _))) | (go_at_call 47;(refine (PI.out _).mono ?_);rintro e w5 ⟨rfl,rfl⟩)
 refine Rg.ke (fun k v W=>CJ (l.take j) (l.eraseIdx j) w w.heap.size (w.heap.size+1) w4.heap.size #[.int .i64 a,.int .i64 b,.slice (some ⟨g,0,none⟩) l.length cap,.int .i64 n,.int .i64 d] x1 x2 x3 x4 ok L k v W) [2,7,13,14,15,17] [.pointer (some ⟨w.heap.size,0,none⟩),.agg #[.int .i64 a,.int .i64 b],undef,.pointer (some ⟨w.heap.size,2,none⟩),.slice (some ⟨g,0,none⟩) l.length cap,.int .i64 (j:Int),.slice (some ⟨g,0,none⟩) j cap,undef,.pointer (some ⟨w.heap.size,2,none⟩),.slice (some ⟨g,0,none⟩) l.length cap,.int .i64 (j:Int),.int .i64 ((j:Int)+1),.slice (some A2) (l.length - (j+1)) (cap - (j+1)),undef,undef,undef,.bool ok,undef,.bool ok] (by kernel_rfl) (by kernel_rfl) (by kernel_rfl) (by decide) (fun k v v2 W h hj=>CJ.congr (h 2 (by decide)) (h 7 (by decide)) (h 13 (by decide)) (h 14 (by decide)) (h 15 (by decide)) hj) (fun _=>J0.out.keep (yL _ _).drew) ⟨?_,?_,?_,?_,?_,?_,?_,?_,?_,?_,?_,?_,?_,?_,?_,?_,?_,?_,?_,trivial⟩ ?_
 ·unfold Rg.aV
  rw [if_neg (by decide)];intro zZ w_ n_ i_ yv hJ hr;refine ⟨rfl,?_⟩;have e2:zZ.tmps[2]?=some (.pointer (some ⟨w.heap.size,0,none⟩)):=hr 2 (by decide)
  (first | (go_simp;done) | (go_simp;exact Rg.wr (by omega) (by omega)) | (go_simp;omega) | (go_simp;rfl))
 ·unfold Rg.aV
  rw [if_neg (by decide)];intro zZ w_ n_ i_ yv hJ hr;refine ⟨rfl,?_⟩;have e25:zZ.tmps[25]?=some (.pointer (some ⟨w.heap.size,0,none⟩)):=hr 25 (by decide);obtain ⟨FO,hs_⟩:=CJ.st hJ;have ⟨k0,k1,k2,k3,k4⟩:=hs_.C.aw
  (first | (go_simp;done) | (go_simp;exact Rg.wr (by omega) (by omega)) | (go_simp;omega) | (go_simp;rfl))
 ·unfold Rg.aV
  rw [if_pos (by decide)];intro zZ w_ i_ hJ hr;refine ⟨rfl,?_⟩;have zC:zv w w.heap.size w.heap.size (w.heap.size+1) w4.heap.size 47 #[.int .i64 a,.int .i64 b,.slice (some ⟨g,0,none⟩) l.length cap,.int .i64 n,.int .i64 d] 47 #[.int .i64 a,.int .i64 b,.slice (some ⟨g,0,none⟩) l.length cap,.int .i64 n,.int .i64 d] #[.int .i64 0,.int .i64 0,.slice none 0 0,.int .i64 0,.int .i64 0] w_:=hJ;refine Rg.rM (x:=.slice (some ⟨w_.heap.size,0,none⟩) 0 0) (ob:=.cells #[] 57) (by (first | (go_simp;done) | (go_simp;exact Rg.wr (by omega) (by omega)) | (go_simp;omega) | (go_simp;rfl))) ?_;exact ⟨zC.keep (bA _ _),Rw.Own.pR yU w_ _ zC.hb⟩
 ·unfold Rg.aV
  rw [if_neg (by decide)];intro zZ w_ n_ i_ yv hJ hr;refine ⟨rfl,?_⟩;have e2:zZ.tmps[2]?=some (.pointer (some ⟨w.heap.size,0,none⟩)):=hr 2 (by decide)
  (first | (go_simp;done) | (go_simp;exact Rg.wr (by omega) (by omega)) | (go_simp;omega) | (go_simp;rfl))
 ·unfold Rg.aV
  rw [if_neg (by decide)];intro zZ w_ n_ i_ yv hJ hr;refine ⟨rfl,?_⟩;have e28:zZ.tmps[28]?=some (.pointer (some ⟨w.heap.size,2,none⟩)):=hr 28 (by decide);obtain ⟨FO,hs_⟩:=CJ.st hJ;have ⟨k0,k1,k2,k3,k4⟩:=hs_.C.aw
  (first | (go_simp;done) | (go_simp;exact Rg.wr (by omega) (by omega)) | (go_simp;omega) | (go_simp;rfl))
 ·unfold Rg.aV
  rw [if_neg (by decide)];intro zZ w_ n_ i_ yv hJ hr;refine ⟨rfl,?_⟩;have e1:zZ.tmps[1]?=some (.int .i64 (j:Int)):=hr 1 (by decide)
  go_simp
 ·unfold Rg.aV
  rw [if_neg (by decide)];intro zZ w_ n_ i_ yv hJ hr;refine ⟨rfl,?_⟩;have e29:zZ.tmps[29]?=some (.slice (some ⟨g,0,none⟩) l.length cap):=hr 29 (by decide);have e30:zZ.tmps[30]?=some (.int .i64 (j:Int)):=hr 30 (by decide)
  (first | (go_simp;done) | (go_simp;exact Rg.wr (by omega) (by omega)) | (go_simp;omega) | (go_simp;rfl))
 ·unfold Rg.aV
  rw [if_pos (by decide)];intro zZ w_ i_ hJ hr;have e27:zZ.tmps[27]?=some (i_ 2):=hr 27 (by decide);have e31:zZ.tmps[31]?=some (.slice (some ⟨g,0,none⟩) j cap):=hr 31 (by decide);refine ⟨rfl,?_⟩;obtain ⟨zC,yp⟩:zv w w.heap.size w.heap.size (w.heap.size+1) w4.heap.size 47 #[.int .i64 a,.int .i64 b,.slice (some ⟨g,0,none⟩) l.length cap,.int .i64 n,.int .i64 d] 47 #[.int .i64 a,.int .i64 b,.slice (some ⟨g,0,none⟩) l.length cap,.int .i64 n,.int .i64 d] #[.int .i64 0,.int .i64 0,.slice none 0 0,.int .i64 0,.int .i64 0] w_∧Rw.Own yU w_ w4.heap.size (i_ 2) []:=hJ;obtain ⟨v_,Ix,CE,Cj,DJ,Ii⟩:=Rw.gM j6 (W:=w_) (base:=w4.heap.size) 31 (l.take j) (some ⟨g,0,none⟩) cap (hF1.out _ zC.B) yp (yL _ _) zC.hb (by rw [hl1.out];simp only [List.length_nil];omega);rw [hl1.out] at CE;refine Rg.iH (x:=v_) (w2:=Ix) (Rg.fI rfl (Rg.ev e27) (Rg.ev e31) CE) ?_;exact ⟨zC.grown yp Ii,Cj⟩
 ·unfold Rg.aV
  rw [if_neg (by decide)];intro zZ w_ n_ i_ yv hJ hr;refine ⟨rfl,?_⟩;have e2:zZ.tmps[2]?=some (.pointer (some ⟨w.heap.size,0,none⟩)):=hr 2 (by decide)
  (first | (go_simp;done) | (go_simp;exact Rg.wr (by omega) (by omega)) | (go_simp;omega) | (go_simp;rfl))
 ·unfold Rg.aV
  rw [if_neg (by decide)];intro zZ w_ n_ i_ yv hJ hr;refine ⟨rfl,?_⟩;have e33:zZ.tmps[33]?=some (.pointer (some ⟨w.heap.size,2,none⟩)):=hr 33 (by decide);obtain ⟨FO,hs_⟩:=CJ.st hJ;have ⟨k0,k1,k2,k3,k4⟩:=hs_.C.aw
  (first | (go_simp;done) | (go_simp;exact Rg.wr (by omega) (by omega)) | (go_simp;omega) | (go_simp;rfl))
 ·unfold Rg.aV
  rw [if_neg (by decide)];intro zZ w_ n_ i_ yv hJ hr;refine ⟨rfl,?_⟩;have e1:zZ.tmps[1]?=some (.int .i64 (j:Int)):=hr 1 (by decide)
  go_simp
 ·unfold Rg.aV
  rw [if_neg (by decide)];intro zZ w_ n_ i_ yv hJ hr;refine ⟨rfl,?_⟩;have e35:zZ.tmps[35]?=some (.int .i64 (j:Int)):=hr 35 (by decide);have ec:=Rg.ec zZ
  (first | (go_simp;done) | (go_simp;exact Rg.wr (by omega) (by omega)) | (go_simp;omega) | (go_simp;rfl))
 ·unfold Rg.aV
  rw [if_neg (by decide)];intro zZ w_ n_ i_ yv hJ hr;refine ⟨rfl,?_⟩;have e34:zZ.tmps[34]?=some (.slice (some ⟨g,0,none⟩) l.length cap):=hr 34 (by decide);have e36:zZ.tmps[36]?=some (.int .i64 ((j:Int)+1)):=hr 36 (by decide)
  (first | (go_simp;done) | (go_simp;exact Rg.wr (by omega) (by omega)) | (go_simp;omega) | (go_simp;rfl))
 ·unfold Rg.aV
  rw [if_pos (by decide)];intro zZ w_ i_ hJ hr;have e32:zZ.tmps[32]?=some (i_ 7):=hr 32 (by decide);have e37:zZ.tmps[37]?=some (.slice (some A2) (l.length - (j+1)) (cap - (j+1))):=hr 37 (by decide);refine ⟨rfl,?_⟩;obtain ⟨zC,yp⟩:zv w w.heap.size w.heap.size (w.heap.size+1) w4.heap.size 47 #[.int .i64 a,.int .i64 b,.slice (some ⟨g,0,none⟩) l.length cap,.int .i64 n,.int .i64 d] 47 #[.int .i64 a,.int .i64 b,.slice (some ⟨g,0,none⟩) l.length cap,.int .i64 n,.int .i64 d] #[.int .i64 0,.int .i64 0,.slice none 0 0,.int .i64 0,.int .i64 0] w_∧Rw.Own yU w_ w4.heap.size (i_ 7) (l.take j):=hJ;obtain ⟨v_,Ix,CE,Cj,DJ,Ii⟩:=Rw.gM j6 (W:=w_) (base:=w4.heap.size) 31 (l.drop (j+1)) (some A2) (cap - (j+1)) (hF2.out _ zC.B) yp (yL _ _) zC.hb (by rw [hl1.out,Ht.out];omega);rw [Ht.out] at CE;rw [←hle.out] at Cj;refine Rg.iH (x:=v_) (w2:=Ix) (Rg.fI rfl (Rg.ev e32) (Rg.ev e37) CE) ?_;exact ⟨zC.grown yp Ii,Cj⟩
 ·unfold Rg.aV
  rw [if_pos (by decide)];intro zZ w_ i_ hJ hr;have e26:zZ.tmps[26]?=some (.agg #[.int .i64 a,.int .i64 b]):=hr 26 (by decide);have e38:zZ.tmps[38]?=some (i_ 13):=hr 38 (by decide)
  have ef:∀ f,zZ.eval (.func f)=.func (.func f) #[] #[]:=fun _=>rfl
  refine ⟨rfl,?_⟩;obtain ⟨zC,yp⟩:zv w w.heap.size w.heap.size (w.heap.size+1) w4.heap.size 47 #[.int .i64 a,.int .i64 b,.slice (some ⟨g,0,none⟩) l.length cap,.int .i64 n,.int .i64 d] 47 #[.int .i64 a,.int .i64 b,.slice (some ⟨g,0,none⟩) l.length cap,.int .i64 n,.int .i64 d] #[.int .i64 0,.int .i64 0,.slice none 0 0,.int .i64 0,.int .i64 0] w_∧Rw.Own yU w_ w4.heap.size (i_ 13) (l.eraseIdx j):=hJ;refine Rg.iw (by go_simp;exact ⟨rfl,rfl⟩) ?_;refine (MK.out _ _ yp.seen.pts).mono ?_;rintro e G3 ⟨u_,rfl,H_,AK⟩;exact ⟨_,rfl,⟨u_,rfl,H_.down zC.hb⟩,zC.keep AK⟩
 ·unfold Rg.aV
  rw [if_pos (by decide)];intro zZ w_ i_ hJ hr;have e39:zZ.tmps[39]?=some (i_ 14):=hr 39 (by decide);refine ⟨rfl,?_⟩;obtain ⟨⟨u_,e_,yp⟩,zC⟩:(∃ u,i_ 14=.tuple #[.agg #[.int .i64 x1,.int .i64 x2,u,.int .i64 x3,.int .i64 x4],.bool ok]∧Rw.Own yU w_ w4.heap.size u L)∧zv w w.heap.size w.heap.size (w.heap.size+1) w4.heap.size 47 #[.int .i64 a,.int .i64 b,.slice (some ⟨g,0,none⟩) l.length cap,.int .i64 n,.int .i64 d] 47 #[.int .i64 a,.int .i64 b,.slice (some ⟨g,0,none⟩) l.length cap,.int .i64 n,.int .i64 d] #[.int .i64 0,.int .i64 0,.slice none 0 0,.int .i64 0,.int .i64 0] w_:=hJ;rw [e_] at e39;refine Rg.iH (x:=.agg #[.int .i64 x1,.int .i64 x2,u_,.int .i64 x3,.int .i64 x4]) (w2:=w_) (by (first | (go_simp;done) | (go_simp;exact Rg.wr (by omega) (by omega)) | (go_simp;omega) | (go_simp;rfl))) ?_;exact ⟨⟨u_,e_,yp⟩,zC,u_,rfl,yp⟩
 ·unfold Rg.aV
  rw [if_neg (by decide)];intro zZ w_ n_ i_ yv hJ hr;refine ⟨rfl,?_⟩;have e39:zZ.tmps[39]?=some (i_ 14):=hr 39 (by decide);obtain ⟨u_,e_⟩:=CJ.val hJ (yv.2.2 14 (by decide) (by kernel_rfl));rw [e_] at e39
  (first | (go_simp;done) | (go_simp;exact Rg.wr (by omega) (by omega)) | (go_simp;omega) | (go_simp;rfl))
 ·unfold Rg.aV
  rw [if_pos (by decide)];intro zZ w_ i_ hJ hr;have e4:zZ.tmps[4]?=some (.pointer (some ⟨w.heap.size+1,0,none⟩)):=hr 4 (by decide);have e40:zZ.tmps[40]?=some (i_ 15):=hr 40 (by decide);refine ⟨rfl,?_⟩;have Hn:fm 14 15 w w.heap.size (w.heap.size+1) w4.heap.size #[.int .i64 a,.int .i64 b,.slice (some ⟨g,0,none⟩) l.length cap,.int .i64 n,.int .i64 d] x1 x2 x3 x4 ok L 1 i_ w_:=hJ;obtain ⟨-,zC,u_,e_,yp⟩:(∃ u,i_ 14=.tuple #[.agg #[.int .i64 x1,.int .i64 x2,u,.int .i64 x3,.int .i64 x4],.bool ok]∧Rw.Own yU w_ w4.heap.size u L)∧zv w w.heap.size w.heap.size (w.heap.size+1) w4.heap.size 47 #[.int .i64 a,.int .i64 b,.slice (some ⟨g,0,none⟩) l.length cap,.int .i64 n,.int .i64 d] 47 #[.int .i64 a,.int .i64 b,.slice (some ⟨g,0,none⟩) l.length cap,.int .i64 n,.int .i64 d] #[.int .i64 0,.int .i64 0,.slice none 0 0,.int .i64 0,.int .i64 0] w_∧∃ u,i_ 15=.agg #[.int .i64 x1,.int .i64 x2,u,.int .i64 x3,.int .i64 x4]∧Rw.Own yU w_ w4.heap.size u L:=hJ;obtain ⟨A_,c_,rfl⟩:=BH yp.seen.pts;rw [e_] at e40;have Ce:=Hn.put (v':=Rg.cU i_ 17 undef) yp rfl;have ⟨y0,y1,y2,y3,y4⟩:=zC.R.aw;have ⟨y5,y6,y7,y8,y9,_⟩:=zC.R.dz;clear zC Hn e_ yp;unfold Oper.wp
  go_simp
  all_goals first | exact ⟨undef,Ce⟩ | exact ⟨_,rfl,Ce⟩ | exact Ce
 ·unfold Rg.aV
  rw [if_neg (by decide)];intro zZ w_ n_ i_ yv hJ hr;refine ⟨rfl,?_⟩;have e41:zZ.tmps[41]?=some (.bool ok):=hr 41 (by decide)
  (first | (go_simp;done) | (go_simp;exact Rg.wr (by omega) (by omega)) | (go_simp;omega) | (go_simp;rfl))
 intro vals wz hJ hv;have D7:vals 18=.bool ok:=hv 18 (by decide) (by decide);simp only [Rg.ak,Rg.fill,Act.put,Nat.reduceAdd];clear hv;simp only [D7];clear D7;obtain ⟨-,u,hS,hO⟩:(∃ u,vals 14=.tuple #[.agg #[.int .i64 x1,.int .i64 x2,u,.int .i64 x3,.int .i64 x4],.bool ok]∧Rw.Own yU wz w4.heap.size u L)∧∃ u,zv w w.heap.size w.heap.size (w.heap.size+1) w4.heap.size 47 #[.int .i64 a,.int .i64 b,.slice (some ⟨g,0,none⟩) l.length cap,.int .i64 n,.int .i64 d] 47 #[.int .i64 a,.int .i64 b,.slice (some ⟨g,0,none⟩) l.length cap,.int .i64 n,.int .i64 d] #[.int .i64 x1,.int .i64 x2,u,.int .i64 x3,.int .i64 x4] wz∧Rw.Own yU wz w4.heap.size u L:=hJ;obtain ⟨A7,c7,rfl⟩:=BH hO.seen.pts;have ⟨r0,r1,r2,r3,r4⟩:=hS.R.aw;have BB:=hS.B;have hO:=yI (hO.down (base':=w.heap.size) (by omega));clear J0 hS;go_wp2;exact bodyPost_ret (v:=.tuple #[.agg #[.int .i64 x1,.int .i64 x2,.slice A7 L.length c7,.int .i64 x3,.int .i64 x4],.bool ok]) (by simp [results,Tryz.results30,go_sem, *]) rfl (⟨_,rfl,hO.out,BB⟩)
end
section
open Go.ChangeShapes Go.WideShapes Go.ChangeAt Go.RowKit Go.Joins Go.Deep
theorem own:ownKnob Tryz.prog.godebug=none:=by kernel_rfl
theorem laidOut:laidOutB Tryz.prog=true:=by kernel_rfl
theorem M.iV {a:Int} (h:(Lit.int .i64 a).wf=true):M.Ct a:=by
 have:=bounds_i64 h;exact this
section
variable {H:Type} {enc:TypeId × Value→H} {P:Program} {w:World} {base:Nat} {spare:Nat→Bool} {held:Bool}
theorem open_i {r:Reach} {b0:Nat} {t:TypeId} {v:Value} {d:DataW H} {ps:List MemPlace} (ht:P.underlying t=some (.int .i64)) (hval:Value.okWide P w r b0 t v) (hd:DataW.Trod enc P w base spare held t v d ps) :
  ∃ n,v=.int .i64 n∧M.Ct n:=by
 obtain ⟨n,h1,_,_,h4⟩:=open_int ht hval hd;exact ⟨n,h1,M.iV h4⟩
theorem gV (hl:laidOutB P=true):∀ (ts:List TypeId) (hts:∀ t ∈ ts,P.readableRec t=true∧t<P.types.size) {W W':World} {vs:List Value} {ds:List (DataW H)} {ps:List MemPlace}
  (_:DataW.TrodAll enc P W 0 (fun _=>true) true ts vs ds ps) (_:Below W.heap.size W W') (_:∀ x ∈ ps,x.block<W.heap.size),DataW.TrodAll enc P W' 0 (fun b=>decide (b<W.heap.size)) true ts vs ds ps
 | [],_,_,_,_,_,_,h,_,_=>by
  obtain ⟨rfl,rfl,rfl⟩:=trodAll_nil h;exact trodAll_mk0
 | t :: ts,hts,_,_,_,_,_,h,hb,hlt=>by
  obtain ⟨v,vs',d,ds',p,q,rfl,rfl,rfl,h1,h2⟩:=trodAll_cons h;refine ⟨p,q,Below.trod hl (hts t List.mem_cons_self).1 (hts t List.mem_cons_self).2 h1 hb fun x hx=>hlt x (List.mem_append_left _ hx),?_,rfl⟩
  exact gV hl ts (fun t' ht'=>hts t' (List.mem_cons_of_mem _ ht')) h2 hb fun x hx=>hlt x (List.mem_append_right _ hx)
theorem law_post {f:Func} {s:ChangeSpec} {W W':World} {args:Array Value} {ds:List (DataW H)} {before:List MemPlace} {tb:TypeId}
  (hl:laidOutB P=true) (hts:∀ t ∈ f.params.toList,P.readableRec t=true∧t<P.types.size)
  (hvars:s.vars=[]) (hf:s.fn H ds={ results:=[.lit (.bool true)],args:=ds }) (hrt:f.resultTypes=#[tb]) (Ho:P.underlying tb=some .bool)
  (hW:DataW.Whole enc P f.params.toList s.vars false W args.toList ds [] before) (hb:Below W.heap.size W W') :
  s.post enc P f false true false false W args (.bool true) W':=by
 have hlt:∀ p ∈ before,p.block<W.heap.size:=fun p hp=>hW.lt p hp
 obtain ⟨p,q,hA,hV,hpq,hz,hn⟩:=id hW;rw [hvars] at hV;obtain ⟨_,rfl⟩:=trodVars_none hV
 have hbp:before=p:=by simpa using hpq
 subst hbp
 have e1:s.fn H (ds ++ [])={ results:=[.lit (.bool true)],args:=ds }:=by rw [List.append_nil];exact hf
 refine ⟨ds,[],before,[],before,[],hW,?_,?_,?_,World.keptBut_mono (fun x hx=>⟨hx,Or.inr (Or.inl hx)⟩) (hb.frame (· ∈ before)),fun h=>by cases h⟩
 ·rw [e1,hrt]
  exact trodAll_mk1 (shut_bool Ho true)
 ·rw [e1]
  exact gV hl _ hts hA hb hlt
 rw [e1,hvars];exact rfl
end
def ow (w:World) (v:Value) (xs:List Int):Prop:=
 ∃ (A:Option Addr) (cap:Nat),v=.slice A xs.length cap∧(xs.length:Int)≤9223372036854775807∧
  ∀ k,k<xs.length→∃ g o x,A=some ⟨g,o,none⟩∧g<w.heap.size∧Hid (xs[k]?=some x)∧w.cell? ⟨g,o+k,none⟩=some (.int .i64 x)
theorem ow.keep {w w':World} {v:Value} {xs:List Int} (h:ow w v xs) (hb:Below w.heap.size w w'):ow w' v xs:=by
 obtain ⟨A,cap,rfl,hm,hv⟩:=h;refine ⟨A,cap,rfl,hm,fun k hk=>?_⟩;obtain ⟨g,o,x,hA,hg,hx,h0⟩:=hv k hk;exact ⟨g,o,x,hA,Nat.lt_of_lt_of_le hg hb.size,hx,aE hb h0⟩
end
section
open Go.RowKit Go.Shelf
theorem Rw.Own.xn {α:Type} {E:Rw.Enc α} {w w':World} {base:Nat} {r:Option Nat} {v:Value} {xs:List α} (h:Rw.Own E w base v xs) (hg:w.grownBy w' r) (hlt:∀ k,r=some k→k<base):Rw.Own E w' base v xs:=
 h.kept hg (fun g hg' e=>by
  have:=(h.lt g e).1;have:=hlt g hg'
  omega)
def gt (i j:Nat) (W0:World) (a b n d:Int) (xs:List Pt) (k:Nat) (v:Nat→Value) (W:World):Prop:=match k with
 | 0=>Below W0.heap.size W0 W
 | 1=>Below W0.heap.size W0 W∧∃ u,v i=.agg #[.int .i64 a,.int .i64 b,u,.int .i64 n,.int .i64 d]∧Rw.Own yU W W0.heap.size u xs
 | _=>Below W0.heap.size W0 W∧v j=.bool true
theorem gt.congr {i j:Nat} {W0:World} {a b n d:Int} {xs:List Pt} {k:Nat} {v v':Nat→Value} {W:World} (h1:v i=v' i) (h2:v j=v' j) (h:gt i j W0 a b n d xs k v W):gt i j W0 a b n d xs k v' W:=by
 unfold gt at *;rw [←h1,←h2];exact h
theorem gt.B {i j:Nat} {W0:World} {a b n d:Int} {xs:List Pt} {k:Nat} {v:Nat→Value} {W:World} (h:gt i j W0 a b n d xs k v W):Below W0.heap.size W0 W:=by
 match k,h with
 | 0,h=>exact h
 | 1,h=>exact h.1
 | _+2,h=>exact h.1
theorem gt.val {i j:Nat} {W0:World} {a b n d:Int} {xs:List Pt} {k:Nat} {v:Nat→Value} {W:World} (h:gt i j W0 a b n d xs k v W) (hk:1<k):v j=.bool true:=by
 match k,h with
 | _+2,h=>exact h.2
theorem law_ShortenCertificate (a b n d i:Int) (_:M.Ct a) (_:M.Ct b) (_:M.Ct n) (_:M.Ct d) (_:M.Ct i) (v:Value) (xs:List Pt) (w:World) (hx:cO w v xs) :
  Calls Tryz.prog 7 #[.agg #[.int .i64 a,.int .i64 b,v,.int .i64 n,.int .i64 d],.int .i64 i] w fun e w'=>e=.returned (.bool true)∧Below w.heap.size w w':=by
 have e1:=fun v w base h hn=>el a b n d i v xs w base h hn
 have e2:=fun v w base h hn=>ej a b n d i v xs w base h hn
 have hl:=M.xL (g:=M.zW a b xs n d i) (a:=a) (b:=b) (l:=xs.eraseIdx i.toNat);generalize M.cQ (M.zW a b xs n d i) a b (xs.eraseIdx i.toNat)=ok,(if M.cQ (M.zW a b xs n d i) a b (xs.eraseIdx i.toNat)=true then xs.eraseIdx i.toNat else [])=V,M.pick (M.cQ (M.zW a b xs n d i) a b (xs.eraseIdx i.toNat)) (M.BV a b (xs.eraseIdx i.toNat))=x4,M.pick (M.cQ (M.zW a b xs n d i) a b (xs.eraseIdx i.toNat)) (M.BW a b (xs.eraseIdx i.toNat))=x3,M.pick (M.cQ (M.zW a b xs n d i) a b (xs.eraseIdx i.toNat)) b=x2,M.pick (M.cQ (M.zW a b xs n d i) a b (xs.eraseIdx i.toNat)) a=x1 at *;have E1:=yI e1;have E2:=yI e2;clear e1 e2
 have EQ:=yI fun v u w h1 h2 hx hy p q=>fX a b n d v u xs w h1 h2 hx hy p q
 have EV:=yI fun v u w h1 h2 hx hy Av Ao=>fX x1 x2 x3 x4 v u V w h1 h2 hx hy Av Ao
 have Hx:=yI hx;obtain ⟨A,cap,rfl,-,-⟩:=hx;obtain ⟨wc,hw3,C,B⟩:=ei w #[.int .i64 a,.int .i64 b,.slice A xs.length cap,.int .i64 n,.int .i64 d] 41;have ⟨k0,k1,k2,k3,k4⟩:=C.aw
 by_cases hn:xs.length≤1048576
 ·have hL:0≤(1048576:Int) - xs.length:=by omega
  have TC:=yI fun w (h:cO w (.slice A xs.length cap) xs)=>jG a b n d (.slice A xs.length cap) xs w h hn
  have HS:=fun w (h:cO w (.slice A xs.length cap) xs)=>fb a b n d (.slice A xs.length cap) xs w h
  simp only [if_pos hn] at HS;replace HS:=yI HS
  have C0:xs.length≤4000000:=by omega
  have MK:=fun v w base (h:Rw.Own yU w base v xs)=>eU a b n d v xs 1 w base h (by decide) (by omega)
  have MV:=fun v w base (h:Rw.Own yU w base v V)=>eU x1 x2 x3 x4 v V 1 w base h (by decide) (by omega)
  have HV:=fun v w base (h:Rw.Own yU w base v (M.cX 1 V.length))=>iC x1 x2 x3 x4 v V.length 1 w base h (by decide) (by omega)
  have hk0:(0:Int)≤1+3*xs.length:=by omega
  have hm0:(0:Int)≤1+3*(V.length:Int):=by omega
  replace MK:=yI MK;replace MV:=yI MV;replace HV:=yI HV;generalize hKe:(1:Int)+3*xs.length=K1 at *;generalize hMe:(1:Int)+3*(V.length:Int)=M1 at *;clear hKe hMe hl;generalize (1048576:Int) - xs.length=M0 at *;go_enter Tryz.func7,Tryz.ntmps7
  go_wp2_with fail
  refine (HS.out _ (Hx.out.keep B)).mono ?_;rintro e w1 ⟨rfl,b1⟩;replace B:=f_ B b1;replace C:=C.keep b1;clear k0 k1 k2 k3 k4;have ⟨k0,k1,k2,k3,k4⟩:=C.aw
  go_wp2_with fail
  refine (TC.out _ (Hx.out.keep B)).mono ?_;rintro e w2 ⟨v2,rfl,o2,b2⟩;replace B:=f_ B b2;replace C:=C.keep b2;clear k0 k1 k2 k3 k4
  go_wp2_with fail
  refine (E1.out _ _ _ o2 C0).mono ?_;rintro e w3 ⟨u0,rfl,ho,b3⟩;replace B:=f_ B b3;replace C:=C.keep b3;have s:=ho.seen;obtain ⟨A0,c0,rfl⟩:=BH s.pts;obtain ⟨wq,hwq,Q0,Bq⟩:=ei w3 #[.int .i64 x1,.int .i64 x2,.slice A0 V.length c0,.int .i64 x3,.int .i64 x4] 47;have hle:=Bq.size;replace B:=f_ B Bq;replace C:=C.keep Bq;replace s:=s.below Bq;have h3:=B.size;have G:=yL wq.heap.size wq;clear ho o2;have ⟨k0,k1,k2,k3,k4⟩:=C.aw
  go_wp2_with fail
  refine (TC.out _ (Hx.out.keep B)).mono ?_;rintro e w4 ⟨v4,rfl,o4,b4⟩;replace B:=f_ B b4;replace G:=f_ G b4;have zG:=G.size;obtain ⟨A4,c4,rfl⟩:=BH o4.seen.pts
  have Hu:∀ k,(Value.slice A4 xs.length c4).ownBlock=some k→wq.heap.size≤k∧k<w4.heap.size:=fun k hk=>World.ownsRow.lt o4 k hk
  obtain ⟨wx,hwx,Qx,Bx⟩:=ei w4 #[.int .i64 a,.int .i64 b,.slice A4 xs.length c4,.int .i64 n,.int .i64 d] 47;have zx:=Bx.size;replace B:=f_ B Bx;replace G:=f_ G Bx;have zG:=G.size;replace o4:=o4.below Bx;clear k0 k1 k2 k3 k4;have ⟨y0,y1,y2,y3,y4⟩:=Qx.aw
  go_wp2_with fail
  refine (E2.out _ _ _ o4 C0).mono ?_;rintro e w6 ⟨u1,rfl,p,b6⟩;have hb5:wq.heap.size≤wx.heap.size:=Nat.le_trans b4.size zx;replace B:=f_ B b6;replace G:=f_ G b6;have zG:=G.size;replace o4:=o4.below b6;replace Qx:=Qx.keep b6;have z6:=b6.size;obtain ⟨A1,c1,rfl⟩:=BH p.seen.pts;obtain ⟨wr,hwr,Q1,Br⟩:=ei w6 #[.int .i64 x1,.int .i64 x2,.slice A1 V.length c1,.int .i64 x3,.int .i64 x4] 47;replace B:=f_ B Br;replace G:=f_ G Br;have zG:=G.size;replace o4:=o4.below Br;replace p:=p.below Br;replace Qx:=Qx.keep Br;clear y0 y1 y2 y3 y4;have ⟨q0,q1,q2,q3,q4⟩:=(Q0.keep G).aw;have ⟨r0,r1,r2,r3,r4⟩:=Q1.aw
  go_wp2_with fail
  refine (EV.out _ _ _ _ _ p.seen (s.below (G.mono hle)) (yM _) (Nat.le_trans hle zG)).mono ?_;rintro e w7 ⟨rfl,b7⟩;replace B:=f_ B b7;replace G:=f_ G b7;have zG:=G.size;replace o4:=o4.below b7;replace p:=p.below b7;replace Qx:=Qx.keep b7;replace Q1:=Q1.keep b7;clear q0 q1 q2 q3 q4;clear r0 r1 r2 r3 r4;have Cw:=C.keep G
  go_upto_region 10 with fail
  refine Rg.ke (fun k v W=>gt 2 3 w7 a b n d xs k v W) [2,3] [.agg #[.int .i64 a,.int .i64 b,.slice A4 xs.length c4,.int .i64 n,.int .i64 d],.agg #[.int .i64 a,.int .i64 b,.slice A xs.length cap,.int .i64 n,.int .i64 d],undef,undef,.bool false] (by kernel_rfl) (by kernel_rfl) (by kernel_rfl) (by decide) (fun k v v2 W h hj=>gt.congr (h 2 (by decide)) (h 3 (by decide)) hj) (fun _=>(yL _ _).drew) ⟨?_,?_,?_,?_,?_,trivial⟩ ?_
  ·unfold Rg.aV
   rw [if_neg (by decide)];intro zZ w_ n_ i_ yv hJ hr;refine ⟨rfl,?_⟩;have e8:zZ.tmps[8]?=some (.pointer (some ⟨w4.heap.size,0,none⟩)):=hr 8 (by decide);have hs_:=Qx.keep (gt.B hJ);have ⟨k0,k1,k2,k3,k4⟩:=hs_.aw
   (first | (go_simp;done) | (go_simp;omega) | (go_simp;rfl))
  ·unfold Rg.aV
   rw [if_neg (by decide)];intro zZ w_ n_ i_ yv hJ hr;refine ⟨rfl,?_⟩;have e2:zZ.tmps[2]?=some (.pointer (some ⟨w.heap.size,0,none⟩)):=hr 2 (by decide);have hs_:=Cw.keep (gt.B hJ);have ⟨k0,k1,k2,k3,k4⟩:=hs_.aw
   (first | (go_simp;done) | (go_simp;omega) | (go_simp;rfl))
  ·unfold Rg.aV
   rw [if_pos (by decide)];intro zZ w_ i_ hJ hr;have e46:zZ.tmps[46]?=some (.agg #[.int .i64 a,.int .i64 b,.slice A xs.length cap,.int .i64 n,.int .i64 d]):=hr 46 (by decide)
   have ef:∀ f,zZ.eval (.func f)=.func (.func f) #[] #[]:=fun _=>rfl
   refine ⟨rfl,?_⟩;have hJ:Below w7.heap.size w7 w_:=hJ;refine Rg.iw (by go_simp;exact ⟨rfl,rfl⟩) ?_;refine (TC.out _ (Hx.out.keep (f_ B hJ))).mono ?_;rintro e G3 ⟨u_,rfl,yp,AK⟩;exact ⟨_,rfl,f_ hJ AK,u_,rfl,yp.down hJ.size⟩
  ·unfold Rg.aV
   rw [if_pos (by decide)];intro zZ w_ i_ hJ hr;have e45:zZ.tmps[45]?=some (.agg #[.int .i64 a,.int .i64 b,.slice A4 xs.length c4,.int .i64 n,.int .i64 d]):=hr 45 (by decide);have e47:zZ.tmps[47]?=some (i_ 2):=hr 47 (by decide)
   have ef:∀ f,zZ.eval (.func f)=.func (.func f) #[] #[]:=fun _=>rfl
   refine ⟨rfl,?_⟩;obtain ⟨AK,u_,q_,yp⟩:Below w7.heap.size w7 w_∧∃ u,i_ 2=.agg #[.int .i64 a,.int .i64 b,u,.int .i64 n,.int .i64 d]∧Rw.Own yU w_ w7.heap.size u xs:=hJ;rw [q_] at e47;refine Rg.iw (by go_simp;exact ⟨rfl,rfl⟩) ?_;refine (EQ.out _ _ _ _ _ (o4.below AK).seen yp.seen (yM _) (yM _)).mono ?_;rintro e G3 ⟨rfl,L5⟩;exact ⟨_,rfl,f_ AK L5,rfl⟩
  ·unfold Rg.aV
   rw [if_neg (by decide)];intro zZ w_ n_ i_ yv hJ hr;refine ⟨rfl,?_⟩;have e48:zZ.tmps[48]?=some (i_ 3):=hr 48 (by decide);rw [gt.val hJ (yv.2.2 3 (by decide) (by kernel_rfl))] at e48
   (first | (go_simp;done) | (go_simp;omega) | (go_simp;rfl))
  intro vals wz hJ hv;have Ck:vals 4=.bool false:=hv 4 (by decide) (by decide);simp only [Rg.ak,Rg.fill,Act.put,Nat.reduceAdd];clear hv;simp only [Ck];clear Ck;have hb:=gt.B hJ;clear hJ Cw;replace B:=f_ B hb;replace G:=f_ G hb;have zG:=G.size;replace o4:=o4.below hb;replace p:=p.below hb;replace Qx:=Qx.keep hb;replace Q1:=Q1.keep hb;have ⟨y0,y1,y2,y3,y4⟩:=Qx.aw
  go_wp2_with fail
  refine (MK.out _ _ _ o4).mono ?_;rintro e EJ ⟨rfl,-,hg⟩;have b10:Below wq.heap.size wz EJ:=cM hg zG (fun k hk=>(Hu k hk).1);replace B:=B.trans (b10.mono h3);replace G:=G.trans b10;replace zG:=G.size;replace Q1:=Q1.kC o4 hg gX;replace p:=p.xn hg (fun k hk=>Nat.lt_of_lt_of_le (Hu k hk).2 zx);clear o4 hg Qx;clear y0 y1 y2 y3 y4;have ⟨q0,q1,q2,q3,q4⟩:=(Q0.keep G).aw;have ⟨r0,r1,r2,r3,r4⟩:=Q1.aw
  go_wp2_with fail
  refine (EV.out _ _ _ _ _ p.seen (s.below (G.mono hle)) (yM _) (Nat.le_trans hle zG)).mono ?_;rintro e w11 ⟨rfl,b11⟩;replace B:=f_ B b11;replace G:=f_ G b11;have zG:=G.size;replace p:=p.below b11;replace Q1:=Q1.keep b11;clear q0 q1 q2 q3 q4;clear r0 r1 r2 r3 r4;have ⟨r0,r1,r2,r3,r4⟩:=Q1.aw
  have zq:wx.heap.size≤w11.heap.size:=by have:=b6.size;have:=Br.size;have:=b7.size;have:=hb.size;have:=b10.size;have:=b11.size;omega
  go_wp2_with fail
  refine (MV.out _ _ _ p).mono ?_;rintro e w12 ⟨rfl,q,hg⟩;have b12:Below wx.heap.size w11 w12:=cM hg zq (fun k hk=>(p.lt k hk).1);replace Q1:=Q1.kC p hg gX;clear hg;replace B:=B.trans (b12.mono (Nat.le_trans h3 hb5));replace G:=G.trans (b12.mono hb5);replace zG:=G.size;clear p;clear r0 r1 r2 r3 r4;have ⟨r0,r1,r2,r3,r4⟩:=Q1.aw
  go_wp2_with fail
  refine (HV.out _ _ _ q).mono ?_;rintro e w13 ⟨rfl,b13⟩;replace B:=f_ B b13;replace G:=f_ G b13;have zG:=G.size;replace q:=q.below b13;replace Q1:=Q1.keep b13;clear r0 r1 r2 r3 r4;have ⟨k0,k1,k2,k3,k4⟩:=(C.keep G).aw
  go_wp2_with fail
  refine (TC.out _ (Hx.out.keep B)).mono ?_;rintro e w15 ⟨v15,rfl,EI,b15⟩;replace B:=f_ B b15;replace G:=f_ G b15;have zG:=G.size;replace q:=q.below b15;replace Q1:=Q1.keep b15;clear k0 k1 k2 k3 k4
  go_wp2_with fail
  refine (E2.out _ _ _ EI C0).mono ?_;rintro e w16 ⟨u2,rfl,hw,b16⟩;replace B:=f_ B b16;replace G:=f_ G b16;have zG:=G.size;replace q:=q.below b16;replace Q1:=Q1.keep b16;obtain ⟨A2,c2,rfl⟩:=BH hw.seen.pts;obtain ⟨wt,hwt,Q2,Bt⟩:=ei w16 #[.int .i64 x1,.int .i64 x2,.slice A2 V.length c2,.int .i64 x3,.int .i64 x4] 47;replace B:=f_ B Bt;replace G:=f_ G Bt;have zG:=G.size;replace q:=q.below Bt;replace hw:=hw.below Bt;replace Q1:=Q1.keep Bt;have ⟨q0,q1,q2,q3,q4⟩:=(Q0.keep G).aw;have ⟨t0,t1,t2,t3,t4⟩:=Q2.aw
  go_wp2_with fail
  refine (EV.out _ _ _ _ _ hw.seen (s.below (G.mono hle)) (yM _) (Nat.le_trans hle zG)).mono ?_;rintro e w17 ⟨rfl,b17⟩;replace B:=f_ B b17;replace G:=f_ G b17;have zG:=G.size;replace q:=q.below b17;replace Q1:=Q1.keep b17;clear q0 q1 q2 q3 q4;clear t0 t1 t2 t3 t4;have ⟨r0,r1,r2,r3,r4⟩:=Q1.aw
  go_wp2_with fail
  refine (HV.out _ _ _ q).mono ?_;rintro e w18 ⟨rfl,b18⟩;replace B:=f_ B b18
  go_wp2_with fail
  go_ret;exact ⟨by simp,B⟩
 have HS:=fun w (h:cO w (.slice A xs.length cap) xs)=>fb a b n d (.slice A xs.length cap) xs w h
 simp only [if_neg hn] at HS;replace HS:=yI HS;generalize xs.length=L at *;go_enter Tryz.func7,Tryz.ntmps7
 go_wp2_with fail
 refine (HS.out _ (Hx.out.keep B)).mono ?_;rintro e w1 ⟨rfl,b1⟩;replace B:=f_ B b1;go_wp2;go_ret;exact ⟨rfl,B⟩
end
section
open Go.ChangeShapes Go.WideShapes Go.ChangeAt Go.RowKit Go.Joins Go.Deep
theorem mS {H:Type} {enc:TypeId × Value→H} {P:Program} {w:World} {base fuel:Nat} {held:Bool} {t te ti:TypeId} {f0 f1 f2:Field} {v:Value} {x0:DataW H × List MemPlace}
  (ht:P.underlying t=some (.slice te)) (he:P.underlying te=some (.struct #[f0,f1,f2])) (t0:f0.type=ti) (t1:f1.type=ti) (t2:f2.type=ti) (hi:P.underlying ti=some (.int .i64)) (ce:P.cellsOf te=3) (o0:f0.offset=0) (o1:f1.offset=1) (o2:f2.offset=2)
  (ci:P.cellsOf ti=1) (hf:DataW.trod enc P w base (fun _=>true) held fuel t [v]=some x0) :
  ∃ xs:List Pt,cO w v xs:=by
 obtain ⟨a1,len,cap,e⟩:=slice_form ht hf
 injection e with e _
 subst e
 rcases open_slice ht hf with ⟨hcs,hx⟩ | ⟨a,len',cap',m,n,D,Pl,hcs,hb,hl,hm,hmm,hx,hall⟩
 ·simp at hcs
  obtain ⟨rfl,rfl,rfl⟩:=hcs;exact ⟨[],none,0,rfl,by simp,fun k hk=>absurd hk (by simp)⟩
 simp at hcs
 obtain ⟨rfl,rfl,rfl⟩:=hcs;simp only [if_true] at hmm
 have each:∀ i,i<len→∃ q:Pt,w.cell? (a.add (i*3))=some (.int .i64 q.1)∧w.cell? (a.add (i*3+1))=some (.int .i64 q.2.1)∧w.cell? (a.add (i*3+2))=some (.int .i64 q.2.2):=by
  intro i hi2;obtain ⟨cs',h1,h2⟩:=hall i (by omega);rw [ce] at h1;obtain ⟨_,hlen,hcell⟩:=World.cells?_some h1;obtain ⟨xs,k,hk,hxy,_,hxl,ED⟩:=DataW.trod_struct he h2
  match xs,hxl,cs',hlen with
  | [y0,y1,y2],_,[v0,v1,v2],_=>
  have g0:=ED 0 f0 rfl;have g1:=ED 1 f1 rfl;have g2:=ED 2 f2 rfl;simp [o0,o1,o2,t0,t1,t2,ci] at g0 g1 g2
  have e0:=hcell 0 (by omega);have e1:=hcell 1 (by omega);have e2:=hcell 2 (by omega);rw [add_add] at e0 e1 e2;obtain ⟨x,ex,-,-⟩:=DataW.trod_int hi g0;obtain ⟨y,ey,-,-⟩:=DataW.trod_int hi g1;obtain ⟨z,ez,-,-⟩:=DataW.trod_int hi g2;simp only [List.cons.injEq,and_true] at ex ey ez;subst ex ey ez;refine ⟨(intOf (.int .i64 x),intOf (.int .i64 y),intOf (.int .i64 z)),?_,?_,?_⟩
  ·simpa [intOf] using e0
  ·simpa [intOf] using e1
  simpa [intOf] using e2
 obtain ⟨q,hq⟩:=choose_lt each;refine ⟨(List.range len).map q,some a,cap,by simp,by simp;unfold maxLen at hm;omega,fun k hk=>?_⟩
 have hk':k<len:=by simpa using hk
 obtain ⟨h1,h2,h3⟩:=hq k hk';obtain ⟨ab,ao,spot⟩:=a
 have hspot:spot=none:=by simpa [Addr.add] using World.cell?_spot (hq 0 (by omega)).1
 subst hspot;rw [Addr.add_lit] at h1 h2 h3;exact ⟨ab,ao,q k,rfl,World.block_lt_of_cell? w _ h1,yI (by rw [List.getElem?_map,List.getElem?_range hk'];rfl),h1,by rw [Nat.add_assoc];exact h2,by rw [Nat.add_assoc];exact h3⟩
theorem wW {α:Type} {cs:Array α} (h:cs.size=5):∃ c0 c1 c2 c3 c4,cs=#[c0,c1,c2,c3,c4]:=by
 obtain ⟨l⟩:=cs
 match l,h with
 | [c0,c1,c2,c3,c4],_=>exact ⟨c0,c1,c2,c3,c4,rfl⟩
theorem lS {H:Type} {enc:TypeId × Value→H} {P:Program} {w:World} {base fuel:Nat} {spare:Nat→Bool} {held:Bool} {t ti:TypeId} {f0 f1:Field} {u v:Value} {x:DataW H × List MemPlace}
  (hs:P.underlying t=some (.struct #[f0,f1])) (h0:f0.type=ti) (h1:f1.type=ti) (hi:P.underlying ti=some (.int .i64)) (o0:f0.offset=0) (o1:f1.offset=1) (ci:P.cellsOf ti=1) (hf:DataW.trod enc P w base spare held fuel t [u,v]=some x) :
  ∃ a b,u=.int .i64 a∧v=.int .i64 b∧M.Ct a∧M.Ct b:=by
 obtain ⟨xs,n,-,-,-,hl,ED⟩:=DataW.trod_struct hs hf
 match xs,hl with
 | [y0,y1],_=>
 have g0:=ED 0 f0 rfl;have g1:=ED 1 f1 rfl;simp [o0,o1,h0,h1,ci] at g0 g1
 obtain ⟨a,ea,-,wa⟩:=DataW.trod_int hi g0;obtain ⟨b,eb,-,wb⟩:=DataW.trod_int hi g1;simp only [List.cons.injEq,and_true] at ea eb;exact ⟨a,b,ea,eb,M.iV wa,M.iV wb⟩
theorem open_cert {H:Type} {enc:TypeId × Value→H} {P:Program} {w:World} {base b0:Nat} {held:Bool} {r:Reach} {t tc ts te tf ti:TypeId} {f0 f1 f2 c0 c1 p0 p1 p2 r0 r1:Field} {v:Value} {d:DataW H} {ps:List MemPlace}
  (hs:P.underlying t=some (.struct #[f0,f1,f2])) (h0:f0.type=tc) (h1:f1.type=ts) (h2:f2.type=tf) (o0:f0.offset=0) (o1:f1.offset=2) (o2:f2.offset=3) (ct:P.cellsOf t=5)
  (hc:P.underlying tc=some (.struct #[c0,c1])) (hc0:c0.type=ti) (hc1:c1.type=ti) (oc0:c0.offset=0) (oc1:c1.offset=1) (cc:P.cellsOf tc=2)
  (hf:P.underlying tf=some (.struct #[r0,r1])) (hf0:r0.type=ti) (hf1:r1.type=ti) (of0:r0.offset=0) (of1:r1.offset=1) (cf:P.cellsOf tf=2)
  (hl:P.underlying ts=some (.slice te)) (cs1:P.cellsOf ts=1) (he:P.underlying te=some (.struct #[p0,p1,p2])) (t0:p0.type=ti) (t1:p1.type=ti) (t2:p2.type=ti) (ce:P.cellsOf te=3) (q0:p0.offset=0) (q1:p1.offset=1) (q2:p2.offset=2)
  (hi:P.underlying ti=some (.int .i64)) (ci:P.cellsOf ti=1) (hv:Value.okWide P w r b0 t v) (h:DataW.Trod enc P w base (fun _=>true) held t v d ps) :
  ∃ (a b n d:Int) (u:Value) (xs:List Pt),v=.agg #[.int .i64 a,.int .i64 b,u,.int .i64 n,.int .i64 d]∧M.Ct a∧M.Ct b∧M.Ct n∧M.Ct d∧cO w u xs:=by
 obtain ⟨cs,rfl,hsz⟩:=okWide_struct hs hv;obtain ⟨v0,v1,v2,v3,v4,rfl⟩:=wW (hsz.trans ct);obtain ⟨fuel,hf'⟩:=h;obtain ⟨xs,n,-,-,-,hlen,ED⟩:=DataW.trod_struct hs hf'
 match xs,hlen with
 | [y0,y1,y2],_=>
 have g0:=ED 0 f0 rfl;have g1:=ED 1 f1 rfl;have g2:=ED 2 f2 rfl;simp [Value.cells,o0,o1,o2,h0,h1,h2,cc,cs1,cf] at g0 g1 g2
 obtain ⟨a,b,rfl,rfl,ia,ib⟩:=lS hc hc0 hc1 hi oc0 oc1 ci g0;obtain ⟨n,d,rfl,rfl,in',id'⟩:=lS hf hf0 hf1 hi of0 of1 ci g2;obtain ⟨l,hp⟩:=mS hl he t0 t1 t2 hi ce q0 q1 q2 ci g1;exact ⟨a,b,n,d,v2,l,rfl,ia,ib,in',id',hp⟩
end
end Go.Proofs.YtgfkcoablfjbcaaGreat
