/-
  Joined texts: contracts and plain lemmas.
-/
import Derived.Test.YtgfkcoablfjbcaaGreatDoorB1
import Derived.Test.YtgfkcoablfjbcaaGreatDoorB22
import Derived.Test.YtgfkcoablfjbcaaGreatDoorB2
import Derived.Test.YtgfkcoablfjbcaaGreatDoorB16
import Derived.Test.YtgfkcoablfjbcaaGreatDoorB6
set_option linter.unusedSimpArgs false
set_option linter.unusedVariables false
set_option maxRecDepth 100000
set_option maxHeartbeats 8000000
namespace Go.Proofs.YtgfkcoablfjbcaaGreatDoor
section
open Go.RowKit
namespace M
noncomputable def cQ (a b:Int) (l:List Pt):Bool:=good a b && ins l.length 1 4 && l.all (fun p=>bR a b p.1 p.2.1 p.2.2)
theorem pH {a b:Int} {l:List Pt} (h:good a b=false):cQ a b l=false:=by unfold cQ;rw [h];rfl
theorem pG {a b:Int} {l:List Pt} (hg:good a b=true):(!l.any (fun x=>!(good a b && bR a b x.1 x.2.1 x.2.2)))=l.all (fun p=>bR a b p.1 p.2.1 p.2.2):=by
 rw [hg,List.not_any_eq_all_not]
 congr 1
 funext x
 simp
end M
theorem lc (a b:Int) (v:Value) (l:List Pt) (w:World) (hx:fc w v l) (hn:l.length≤4000000) :
  Calls Tryz.prog 23 #[.agg #[.int .i64 a,.int .i64 b],v] w fun e w'=>e=.returned (.bool (M.cQ a b l))∧Below w.heap.size w w':=by
 have PC:=uh fun W=>jb a b W
 obtain ⟨sa,cap,rfl,hv⟩:=hx
 have hx:=uh (show fc w (.slice sa l.length cap) l from ⟨sa,cap,rfl,hv⟩)
 clear hv
 have PF:=uh fun W (h:fc W (.slice sa l.length cap) l) (hn:l.length≤4) (C:aH W w.heap.size 28 #[.int .i64 a,.int .i64 b])=>jQ 38 #[.pointer (some ⟨w.heap.size,0,none⟩)] (fun _ _=>rfl) (fun x=>!(M.good a b && M.bR a b x.1 x.2.1 x.2.2)) (.slice sa l.length cap) l W h hn (fun x _ W' hb=>mV a b x.1 x.2.1 x.2.2 w.heap.size W' (C.keep hb))
 have PI:=uh fun W=>cr l.length 1 4 W
 have hpl:=uh (show M.cQ a b l=(M.good a b && M.ins l.length 1 4 && l.all (fun p=>M.bR a b p.1 p.2.1 p.2.2)) from rfl)
 have han:=uh fun h=>M.pG (a:=a) (b:=b) (l:=l) h
 have hbd:M.ins l.length 1 4=true→l.length≤4:=fun h=>by
  unfold M.ins at h
  simp only [Bool.and_eq_true,decide_eq_true_eq] at h
  omega
 have hbd:=uh hbd
 have B:=(uk w.heap.size w).alloc (ul _) (.cells #[.int .i64 a,.int .i64 b] 28)
 have C:=aH.new w #[.int .i64 a,.int .i64 b] 28
 replace hx:=uh (hx.out.below B)
 generalize hw3:w.alloc (.cells #[.int .i64 a,.int .i64 b] 28)=wc at *
 have C_c0:=C.box.c0
 have C_c1:=C.box.c1
 cases hg:M.good a b
 ·have hfin:=uh (M.pH (l:=l) hg)
  rw [hg] at PC
  clear hpl han hg
  generalize M.cQ a b l=pl at *
  generalize l.length=N at *
  go_enter Tryz.func23,Tryz.ntmps23
  go_wp2_with (go_at_call 35;(with_reducible refine (PC.out _).mono ?_);rintro e w4 ⟨rfl,hb4⟩;(replace B:=B.trans (hb4.mono B.size)))
  go_ret
  exact ⟨by rw [hfin.out];rfl,B⟩
 cases hi:M.ins l.length 1 4
 ·have hfin:=uh (show M.cQ a b l=false by rw [hpl.out,hi,Bool.and_false];rfl)
  rw [hg] at PC
  rw [hi] at PI
  clear hpl han hg hi hbd PF hx
  generalize M.cQ a b l=pl at *
  generalize l.length=N at *
  go_enter Tryz.func23,Tryz.ntmps23
  go_wp2_with first | (go_at_call 35;(with_reducible refine (PC.out _).mono ?_);rintro e w4 ⟨rfl,hb4⟩;(replace B:=B.trans (hb4.mono B.size))) | (go_at_call 36;(with_reducible refine (PI.out _).mono ?_);rintro e w5 ⟨rfl,rfl⟩)
  go_ret
  exact ⟨by rw [hfin.out];rfl,B⟩
 have hfin:=uh (show M.cQ a b l=!l.any (fun x=>!(M.good a b && M.bR a b x.1 x.2.1 x.2.2)) by rw [han.out hg,hpl.out,hi,hg];rfl)
 have hn4:=uh (hbd.out hi)
 rw [hg] at PC
 rw [hi] at PI
 replace PF:=uh fun W h=>PF.out W h hn4.out
 clear hpl han hg hi hbd
 generalize l.any (fun x=>!(M.good a b && M.bR a b x.1 x.2.1 x.2.2))=t at *
 generalize M.cQ a b l=pl at *
 generalize l.length=N at *
 go_enter Tryz.func23,Tryz.ntmps23
 go_wp2_with first | (go_at_call 35;(with_reducible refine (PC.out _).mono ?_);rintro e w4 ⟨rfl,hb4⟩;(replace B:=B.trans (hb4.mono B.size));(replace C:=C.keep hb4);(replace hx:=uh (hx.out.below hb4))) | (go_at_call 36;(with_reducible refine (PI.out _).mono ?_);rintro e w5 ⟨rfl,rfl⟩) | (go_at_call 37;(refine (PF.out _ hx.out C).mono ?_);rintro e w6 ⟨rfl,hb6⟩;(replace B:=B.trans (hb6.mono B.size)))
 go_ret
 exact ⟨by rw [hfin.out];rfl,B⟩
theorem qY (a b:Int) (v:Value) (l:List Pt) (w:World) (hx:fc w v l) (hn:l.length≤4000000) :
  Calls Tryz.prog 10 #[.agg #[.int .i64 a,.int .i64 b],v] w fun e w'=>e=.returned (.bool (M.cQ a b l))∧Below w.heap.size w w':=by
 have PC:=uh fun W=>k8 a b W
 obtain ⟨sa,cap,rfl,hv⟩:=hx
 have hv:=uh hv
 have PI:=uh fun W=>dQ l.length 1 4 W
 have hpl:=uh (show M.cQ a b l=(M.good a b && M.ins l.length 1 4 && l.all (fun p=>M.bR a b p.1 p.2.1 p.2.2)) from rfl)
 have B:=(uk w.heap.size w).alloc (ul _) (.cells #[.int .i64 a,.int .i64 b] 28)
 have C:=aH.new w #[.int .i64 a,.int .i64 b] 28
 generalize hw3:w.alloc (.cells #[.int .i64 a,.int .i64 b] 28)=wc at *
 obtain ⟨N,hN⟩:∃ N,Hid (l.length=N):=⟨_,uh rfl⟩
 rw [hN.out] at hn PI hpl ⊢
 go_enter Tryz.func10,Tryz.ntmps10
 go_wp2
 go_loopw [9] (fun vi wr=>∃ k:Nat,k≤N∧vi=.int .i64 k∧Hid ((l.take k).all (fun p=>M.good a b && M.bR a b p.1 p.2.1 p.2.2)=true)∧aH wr w.heap.size 28 #[.int .i64 a,.int .i64 b]∧Below w.heap.size w wr) (fun vi _=>N - (intOf vi).toNat)
 case atStart=>exact ⟨0,Nat.zero_le _,rfl,uh rfl,C,B⟩
 case round=>
 clear C B hw3
 obtain ⟨k,hk,rfl,hall,C,B⟩:=hrel
 by_cases hlt:k<N
 ·obtain ⟨x,hx⟩:∃ x,l[k]?=some x:=⟨_,List.getElem?_eq_getElem (by have:=hN.out;omega)⟩
  obtain ⟨g,rfl,hpt⟩:∃ g,sa=some ⟨g,0,none⟩∧ek w g l:=by
   rcases hv.out with h | h
   ·rw [h] at hx;cases hx
   exact h
  obtain ⟨d0,d1,d2⟩:=(hpt.below B) k x hx
  have PP:=fun W=>kh a b x.1 x.2.1 x.2.2 W
  have hmem:=List.mem_of_getElem? hx
  have hnx:(M.good a b && M.bR a b x.1 x.2.1 x.2.2)=true→(l.take (k+1)).all (fun p=>M.good a b && M.bR a b p.1 p.2.1 p.2.2)=true:=fun h=>by
   rw [List.take_add_one,hx,List.all_append,hall.out]
   simpa using h
  have hbad:(M.good a b && M.bR a b x.1 x.2.1 x.2.2)=false→M.cQ a b l=false:=fun h=>by
   cases hp:M.cQ a b l
   ·rfl
   rw [hpl.out] at hp
   simp only [Bool.and_eq_true,List.all_eq_true] at hp
   have:=hp.2 x hmem
   rw [hp.1.1,this] at h
   cases h
  generalize (M.good a b && M.bR a b x.1 x.2.1 x.2.2)=t at *
  obtain ⟨x1,x2,x3⟩:=x
  simp only [] at d0 d1 d2 PP
  clear hx hmem hpt
  replace PP:=uh PP
  replace hnx:=uh hnx
  replace hbad:=uh hbad
  replace B:=B.alloc B.size (.cells #[.int .i64 x1,.int .i64 x2,.int .i64 x3] 45)
  have Z:=aH.new wr #[.int .i64 x1,.int .i64 x2,.int .i64 x3] 45
  replace C:=C.alloc (.cells #[.int .i64 x1,.int .i64 x2,.int .i64 x3] 45)
  have C_c0:=C.box.c0
  have C_c1:=C.box.c1
  have ⟨z0,z1,z2⟩:=Z.aQ
  cases t
  ·have hfin:=uh (hbad.out rfl)
   go_wp2_with (go_at_call 17;(with_reducible refine (PP.out _).mono ?_);rintro e w4 ⟨rfl,hb4⟩;(replace B:=B.trans (hb4.mono B.size)))
   go_ret
   exact ⟨by rw [hfin.out];rfl,B⟩
  have hny:=uh (hnx.out rfl)
  clear hnx
  go_wp2_with (go_at_call 17;(with_reducible refine (PP.out _).mono ?_);rintro e w4 ⟨rfl,hb4⟩;(replace B:=B.trans (hb4.mono B.size));(replace C:=C.keep hb4))
  go_roundw
  case rel=>exact ⟨k+1,by omega,by simp,hny,C,B⟩
  case measure=>simp [intOf] <;> omega
 obtain rfl:k=N:=by omega
 have e0:l.take k=l:=by rw [←hN.out];exact List.take_length
 rw [e0] at hall
 have hfin:M.cQ a b l=(M.good a b && M.ins (k:Int) 1 4):=by
  rw [hpl.out]
  cases hg:M.good a b
  ·rfl
  have:=hall.out
  rw [hg] at this
  simp only [Bool.true_and] at this
  rw [this,Bool.and_true]
 have hfin:=uh hfin
 clear hpl hall
 have C_c0:=C.box.c0
 have C_c1:=C.box.c1
 generalize M.good a b=gd at *
 generalize M.ins (k:Int) 1 4=ii at *
 cases gd
 all_goals
  go_wp2_with first | (go_at_call 18;(with_reducible refine (PC.out _).mono ?_);rintro e w4 ⟨rfl,hb4⟩;(replace B:=B.trans (hb4.mono B.size))) | (go_at_call 19;(with_reducible refine (PI.out _).mono ?_);rintro e w5 ⟨rfl,rfl⟩)
  go_ret
  exact ⟨by rw [hfin.out];rfl,B⟩
theorem Rw.sS {α:Type} {E:Rw.Enc α} {v:Value} {w:World} {base:Nat} {xs:List α} (h:Rw.Own E w base v xs):v.oneCell'=true:=by
 rcases h.2 with ⟨rfl,-⟩ | ⟨g,cap,cur,rfl,-⟩ <;> rfl
def EN:Rw.Enc (Int × Int × Int × Int) where
 t:=42
 k:=4
 cells:=fun q=>[.int .i64 q.1,.int .i64 q.2.1,.int .i64 q.2.2.1,.int .i64 q.2.2.2]
 len:=fun _=>rfl
 one:=fun x u hu=>by simp only [List.mem_cons,List.not_mem_nil,or_false] at hu;rcases hu with rfl | rfl | rfl | rfl <;> rfl
 pos:=by decide
theorem uS:(Tryz.prog.info? 42).map (fun i=>(i.zero,i.size,i.bytes))=some (some (.agg #[.int .i64 0,.int .i64 0,.int .i64 0,.int .i64 0]),4,32):=by kernel_rfl
theorem nd:Rw.Fits Tryz.prog EN 38:=⟨Tryz.underlying38,by
 obtain ⟨i0,hi,hz0,hz1,hz2⟩:=info_parts uS
 exact ⟨i0,_,hi,hz0,hz1,by omega,rfl⟩⟩
theorem tZ:(Tryz.prog.info? 38).map (fun i=>(i.zero,i.size,i.bytes))=some (some (.slice none 0 0),1,24):=by kernel_rfl
theorem neN:(38:TypeId)≠42:=by decide
def bw (w:World) (base:Nat) (v:Value) (vs:List Value) (rows:List (List (Int × Int × Int × Int))):Prop:=
 w.ownsRow base 38 1 v rows.length vs∧vs.length=rows.length∧(∀ (i:Nat) (u:Value) (r:List (Int × Int × Int × Int)),vs[i]?=some u→rows[i]?=some r→Rw.Own EN w base u r)∧
  vs.Pairwise (fun u u'=>∀ g,u.ownBlock=some g→u'.ownBlock≠some g)
theorem bw.nil (w:World) (base:Nat):bw w base (.slice none 0 0) [] []:=⟨World.ownsRow_nil w base _ 1,rfl,fun i u r h=>by simp at h,List.Pairwise.nil⟩
theorem bw.base {w:World} {base base':Nat} {v:Value} {vs:List Value} {rows:List (List (Int × Int × Int × Int))} (h:bw w base v vs rows) (hb:base'≤base):bw w base' v vs rows:=by
 obtain ⟨h1,h2,h3,h4⟩:=h
 refine ⟨?_,h2,fun i u r hu hr=>(h3 i u r hu hr).down hb,h4⟩
 obtain ⟨a1,a2⟩:=h1
 refine ⟨a1,?_⟩
 rcases a2 with a2 | ⟨g,cap,cur,hv,hg,hh,r⟩
 ·exact Or.inl a2
 exact Or.inr ⟨g,cap,cur,hv,Nat.le_trans hb hg,hh,r⟩
theorem bw.below {w w':World} {base:Nat} {v:Value} {vs:List Value} {rows:List (List (Int × Int × Int × Int))} (h:bw w base v vs rows) (hb:Below w.heap.size w w'):bw w' base v vs rows:=by
 obtain ⟨h1,h2,h3,h4⟩:=h
 exact ⟨World.ownsRow.kept h1 (cK hb none) (by cases v.ownBlock <;> simp),h2,fun i u r hu hr=>(h3 i u r hu hr).below hb,h4⟩
theorem bw.alloc {w:World} {base:Nat} {v:Value} {vs:List Value} {rows:List (List (Int × Int × Int × Int))} (h:bw w base v vs rows) (o:Obj):bw (w.alloc o) base v vs rows:=
 h.below ((uk _ _).alloc (ul _) _)
theorem bw.lt {w:World} {base:Nat} {v:Value} {vs:List Value} {rows:List (List (Int × Int × Int × Int))} (h:bw w base v vs rows):∀ z ∈ vs,∀ g,z.ownBlock=some g→base≤g∧g<w.heap.size:=by
 obtain ⟨h1,h2,h3,h4⟩:=h
 intro z hz g hg
 obtain ⟨i,hi⟩:=List.getElem?_of_mem hz
 have hil:=(List.getElem?_eq_some_iff.1 hi).1
 exact World.ownsRow.lt (h3 i z _ hi (List.getElem?_eq_getElem (by omega))) g hg
theorem jo {ops:Array Oper} {rest:List Oper} {o:Oper} {a:Act} {Q:Exit→Act→World→Prop} {w W:World} (base:Nat) (u:Value) (r:List (Int × Int × Int × Int)) (vs:List Value) (rows:List (List (Int × Int × Int × Int))) (v:Value) (H:Nat) (hH:w.heap.size=H) (hgd:o.guard=none) (s x:Operand)
  (ho:o.op=.call { callee:=.builtin .append,args:=#[s,x],argTypes:=#[35,35] }) (hs:a.eval s=v) (hx:a.eval x=.slice (some ⟨H,0,none⟩) 1 1)
  (hown:bw w base v vs rows) (hu:Rw.Own EN w base u r) (hnew:∀ g,u.ownBlock=some g→∀ z ∈ vs,z.ownBlock≠some g)
  (hW:Below base W w) (hB:base≤w.heap.size) (hl:rows.length≤1000000000)
  (h:∀ v' w',bw w' base v' (vs ++ [u]) (rows ++ [r])→Below base W w'→wpList Tryz.prog ops Q rest (a.put o.dst v') w') :
  wpList Tryz.prog ops Q (o :: rest) a (w.alloc (.cells #[u] 38)):=by
 subst hH
 obtain ⟨i0,hi,hz0,hz1,hz2⟩:=info_parts tZ
 obtain ⟨h1,h2,h3,h4⟩:=hown
 refine wpList_append_own _ hgd s x 35 ho base 38 i0 (.slice none 0 0) 1 24 Tryz.underlying35 hi hz0 hz1 hz2 rfl (by decide) v rows.length vs hs (h1.alloc _) ⟨w.heap.size,0,none⟩ 1 1 [u] hx rfl (fun j z hz=>by
  have hadd:(⟨w.heap.size,0,none⟩:Addr).add j=⟨w.heap.size,j,none⟩:=by unfold Addr.add;split <;> simp_all
  rw [hadd,World.cell?_alloc_at _ _ _ _ rfl]
  simpa using hz) (fun z hz=>by simp only [List.mem_singleton] at hz;subst hz;exact Rw.sS hu) ?_ ?_ ?_ ?_
 ·unfold maxLen;omega
 ·omega
 ·simp;omega
 intro v' w' k1 k2 _
 refine h v' w' ⟨by rw [List.length_append];exact k1,by rw [List.length_append,List.length_append,h2];rfl,?_,?_⟩ ((hW.alloc hB _).grown k2 (by simp;omega) fun k hk=>(h1.lt k hk).1)
 ·have hal:∀ {z:Value} {q:List (Int × Int × Int × Int)},Rw.Own EN w base z q→Rw.Own EN w' base z q:=by
   intro z q hz
   have hz':Rw.Own EN (w.alloc (.cells #[u] 38)) base z q:=World.ownsRow.alloc hz _
   refine hz'.kept k2 fun g hg=>?_
   exact jm (t1:=42) (t2:=38) hz' (World.ownsRow.alloc h1 _) (Ne.symm neN) g hg
  intro i z q hz hq
  by_cases hlt:i<vs.length
  ·rw [List.getElem?_append_left hlt] at hz
   rw [List.getElem?_append_left (by omega)] at hq
   exact hal (h3 i z q hz hq)
  rw [List.getElem?_append_right (by omega)] at hz
  rw [List.getElem?_append_right (by omega),←h2] at hq
  have hi0:i - vs.length=0:=by
   rcases Nat.eq_zero_or_pos (i - vs.length) with e | e
   ·exact e
   rw [List.getElem?_eq_none (by simp;omega)] at hz;cases hz
  rw [hi0] at hz hq
  simp only [List.getElem?_cons_zero,Option.some.injEq] at hz hq
  subst hz hq
  exact hal hu
 rw [List.pairwise_append]
 refine ⟨h4,by simp,fun z hz z' hz' g hg hg'=>?_⟩
 simp only [List.mem_singleton] at hz'
 subst hz'
 exact hnew g hg' z hz hg
theorem bw.view {w:World} {base:Nat} {v:Value} {vs:List Value} {rows:List (List (Int × Int × Int × Int))} (h:bw w base v vs rows):∃ (a:Option Addr) (cap:Nat),v=.slice a rows.length cap∧(rows.length:Int)≤9223372036854775807∧
  ∀ k,k<rows.length→∃ g u r,a=some ⟨g,0,none⟩∧g<w.heap.size∧Hid (rows[k]?=some r)∧Hid (vs[k]?=some u)∧w.cell? ⟨g,k,none⟩=some u∧Rw.Own EN w base u r:=by
 obtain ⟨⟨h1,h2⟩,h3,h4,h5⟩:=h
 rcases h2 with ⟨rfl,hn⟩ | ⟨g,cap,cur,rfl,hg,hh,hc,hm,hs,ht⟩
 ·exact ⟨none,0,by rw [hn],by omega,fun k hk=>by omega⟩
 refine ⟨some ⟨g,0,none⟩,cap,rfl,by unfold maxLen at hm;omega,fun k hk=>⟨g,vs[k]'(by omega),rows[k],rfl,(Array.getElem?_eq_some_iff.1 hh).1,List.getElem?_eq_getElem hk,List.getElem?_eq_getElem (by omega),?_,h4 k _ _ (List.getElem?_eq_getElem (by omega)) (List.getElem?_eq_getElem hk)⟩⟩
 rw [cell_of_row w g k cur _ (0,0) hh]
 have e:vs[k]?=some (vs[k]'(by omega)):=List.getElem?_eq_getElem (by omega)
 generalize vs[k]'(by omega)=q at e ⊢
 rw [←ht,List.getElem?_take] at e
 split at e
 ·simpa using e
 cases e
def EP:Rw.Enc (Int × Int) where
 t:=61
 k:=2
 cells:=fun q=>[.int .i64 q.1,.int .i64 q.2]
 len:=fun _=>rfl
 one:=fun x u hu=>by simp only [List.mem_cons,List.not_mem_nil,or_false] at hu;rcases hu with rfl | rfl <;> rfl
 pos:=by decide
theorem uT:(Tryz.prog.info? 61).map (fun i=>(i.zero,i.size,i.bytes))=some (some (.agg #[.int .i64 0,.int .i64 0]),2,16):=by kernel_rfl
theorem ta:(Tryz.prog.info? 59).map (fun i=>(i.zero,i.size,i.bytes))=some (some (.slice none 0 0),1,24):=by kernel_rfl
def bj (w:World) (base:Nat) (v:Value) (vs:List Value) (rows:List (List (Int × Int))):Prop:=
 w.ownsRow base 59 1 v rows.length vs∧vs.length=rows.length∧(∀ (i:Nat) (u:Value) (r:List (Int × Int)),vs[i]?=some u→rows[i]?=some r→Rw.Own EP w base u r)∧
  vs.Pairwise (fun u u'=>∀ g,u.ownBlock=some g→u'.ownBlock≠some g)
theorem bj.nil (w:World) (base:Nat):bj w base (.slice none 0 0) [] []:=⟨World.ownsRow_nil w base _ 1,rfl,fun i u r h=>by simp at h,List.Pairwise.nil⟩
theorem bj.base {w:World} {base base':Nat} {v:Value} {vs:List Value} {rows:List (List (Int × Int))} (h:bj w base v vs rows) (hb:base'≤base):bj w base' v vs rows:=by
 obtain ⟨h1,h2,h3,h4⟩:=h
 refine ⟨?_,h2,fun i u r hu hr=>(h3 i u r hu hr).down hb,h4⟩
 obtain ⟨a1,a2⟩:=h1
 refine ⟨a1,?_⟩
 rcases a2 with a2 | ⟨g,cap,cur,hv,hg,hh,r⟩
 ·exact Or.inl a2
 exact Or.inr ⟨g,cap,cur,hv,Nat.le_trans hb hg,hh,r⟩
theorem bj.below {w w':World} {base:Nat} {v:Value} {vs:List Value} {rows:List (List (Int × Int))} (h:bj w base v vs rows) (hb:Below w.heap.size w w'):bj w' base v vs rows:=by
 obtain ⟨h1,h2,h3,h4⟩:=h
 exact ⟨World.ownsRow.kept h1 (cK hb none) (by cases v.ownBlock <;> simp),h2,fun i u r hu hr=>(h3 i u r hu hr).below hb,h4⟩
theorem bj.alloc {w:World} {base:Nat} {v:Value} {vs:List Value} {rows:List (List (Int × Int))} (h:bj w base v vs rows) (o:Obj):bj (w.alloc o) base v vs rows:=
 h.below ((uk _ _).alloc (ul _) _)
theorem bj.lt {w:World} {base:Nat} {v:Value} {vs:List Value} {rows:List (List (Int × Int))} (h:bj w base v vs rows):∀ z ∈ vs,∀ g,z.ownBlock=some g→base≤g∧g<w.heap.size:=by
 obtain ⟨h1,h2,h3,h4⟩:=h
 intro z hz g hg
 obtain ⟨i,hi⟩:=List.getElem?_of_mem hz
 have hil:=(List.getElem?_eq_some_iff.1 hi).1
 exact World.ownsRow.lt (h3 i z _ hi (List.getElem?_eq_getElem (by omega))) g hg
theorem bj.view {w:World} {base:Nat} {v:Value} {vs:List Value} {rows:List (List (Int × Int))} (h:bj w base v vs rows):∃ (a:Option Addr) (cap:Nat),v=.slice a rows.length cap∧(rows.length:Int)≤9223372036854775807∧
  ∀ k,k<rows.length→∃ g u r,a=some ⟨g,0,none⟩∧g<w.heap.size∧Hid (rows[k]?=some r)∧Hid (vs[k]?=some u)∧w.cell? ⟨g,k,none⟩=some u∧Rw.Own EP w base u r:=by
 obtain ⟨⟨h1,h2⟩,h3,h4,h5⟩:=h
 rcases h2 with ⟨rfl,hn⟩ | ⟨g,cap,cur,rfl,hg,hh,hc,hm,hs,ht⟩
 ·exact ⟨none,0,by rw [hn],by omega,fun k hk=>by omega⟩
 refine ⟨some ⟨g,0,none⟩,cap,rfl,by unfold maxLen at hm;omega,fun k hk=>⟨g,vs[k]'(by omega),rows[k],rfl,(Array.getElem?_eq_some_iff.1 hh).1,List.getElem?_eq_getElem hk,List.getElem?_eq_getElem (by omega),?_,h4 k _ _ (List.getElem?_eq_getElem (by omega)) (List.getElem?_eq_getElem hk)⟩⟩
 rw [cell_of_row w g k cur _ (0,0) hh]
 have e:vs[k]?=some (vs[k]'(by omega)):=List.getElem?_eq_getElem (by omega)
 generalize vs[k]'(by omega)=q at e ⊢
 rw [←ht,List.getElem?_take] at e
 split at e
 ·simpa using e
 cases e
namespace M
noncomputable def ent (a b:Int) (l:List Pt) (i j:Nat):Sp:=match l[i]?,l[j]? with
 | some p,some q=>if i=j then d8 a b p.1 p.2.2 else if i<j then dP a b p.1 p.2.1 p.2.2 q.1 q.2.1 q.2.2 else dP a b q.1 q.2.1 q.2.2 p.1 p.2.1 p.2.2
 | _,_=>none
noncomputable def ivc (s:Sp):Int × Int × Int × Int:=(in1 s,in2 s,in3 s,in4 s)
noncomputable def mOk (a b:Int) (l:List Pt):Bool:=(List.range l.length).all fun i=>(List.range l.length).all fun j=>(ent a b l i j).isSome
noncomputable def hP (a b:Int) (l:List Pt) (i:Nat):List (Int × Int × Int × Int):=(List.range l.length).map fun j=>ivc (ent a b l i j)
noncomputable def jA (a b:Int) (l:List Pt):List (List (Int × Int × Int × Int)):=if mOk a b l=true then (List.range l.length).map (hP a b l) else []
theorem iE (a b:Int) (l:List Pt) (i j:Nat):ent a b l i j=ent a b l j i:=by
 by_cases h:i=j
 ·subst h;rfl
 unfold ent
 cases l[i]? with
 | none=>cases l[j]? <;> rfl
 | some p=>cases l[j]? with
  | none=>rfl
  | some q=>
  simp only []
  have h':¬ j=i:=fun e=>h e.symm
  simp only [h,h',if_false]
  rcases Nat.lt_or_ge i j with q1 | q1
  ·rw [if_pos q1,if_neg (by omega)]
  rw [if_neg (by omega),if_pos (by omega)]
theorem lE {a b:Int} {l:List Pt} {i:Nat} {p:Pt} (h:l[i]?=some p):ent a b l i i=d8 a b p.1 p.2.2:=by
 unfold ent
 rw [h]
 simp
theorem k9 {a b:Int} {l:List Pt} {i j:Nat} {p q:Pt} (h1:l[i]?=some p) (h2:l[j]?=some q) (h:i<j):ent a b l i j=dP a b p.1 p.2.1 p.2.2 q.1 q.2.1 q.2.2:=by
 unfold ent
 rw [h1,h2]
 simp only []
 rw [if_neg (by omega),if_pos h]
theorem qk {a b:Int} {l:List Pt} {i j:Nat} (hi:i<l.length) (hj:j<l.length) (h:ent a b l i j=none):mOk a b l=false:=by
 cases hm:mOk a b l
 ·rfl
 unfold mOk at hm
 simp only [List.all_eq_true,List.mem_range] at hm
 have:=hm i hi j hj
 rw [h] at this
 cases this
theorem nv {a b:Int} {l:List Pt} (h:∀ i,i<l.length→∀ j,j<l.length→(ent a b l i j).isSome=true):mOk a b l=true:=by
 unfold mOk
 simp only [List.all_eq_true,List.mem_range]
 exact h
theorem lU {a b:Int} {l:List Pt} (h:mOk a b l=false):jA a b l=[]:=by
 unfold jA
 rw [h]
 rfl
theorem jg {a b:Int} {l:List Pt} (h:mOk a b l=true):jA a b l=(List.range l.length).map (hP a b l):=by
 unfold jA
 rw [h]
 rfl
end M
def dG (w:World) (base:Nat) (v:Value) (rows:List (List (Int × Int × Int × Int))):Prop:=∃ vs,bw w base v vs rows
theorem dG.below {w w':World} {base:Nat} {v:Value} {rows:List (List (Int × Int × Int × Int))} (h:dG w base v rows) (hb:Below w.heap.size w w'):dG w' base v rows:=h.elim fun vs k=>⟨vs,k.below hb⟩
theorem dG.base {w:World} {base base':Nat} {v:Value} {rows:List (List (Int × Int × Int × Int))} (h:dG w base v rows) (hb:base'≤base):dG w base' v rows:=h.elim fun vs k=>⟨vs,k.base hb⟩
theorem dG.nil (w:World) (base:Nat):dG w base (.slice none 0 0) []:=⟨[],bw.nil w base⟩
theorem dG.at {w:World} {base:Nat} {v:Value} {rows:List (List (Int × Int × Int × Int))} (h:dG w base v rows) {i j:Nat} {r:List (Int × Int × Int × Int)} {q:Int × Int × Int × Int} (hr:rows[i]?=some r) (hq:r[j]?=some q) :
  ∃ (g cap g2 cap2:Nat),v=.slice (some ⟨g,0,none⟩) rows.length cap∧w.cell? ⟨g,i,none⟩=some (.slice (some ⟨g2,0,none⟩) r.length cap2)∧w.cell? ⟨g2,j*4,none⟩=some (.int .i64 q.1)∧w.cell? ⟨g2,j*4+1,none⟩=some (.int .i64 q.2.1)∧w.cell? ⟨g2,j*4+2,none⟩=some (.int .i64 q.2.2.1)∧w.cell? ⟨g2,j*4+3,none⟩=some (.int .i64 q.2.2.2):=by
 obtain ⟨vs,h⟩:=h
 obtain ⟨a,cap,rfl,-,hv⟩:=h.view
 obtain ⟨g,u,r',rfl,-,h1,-,h2,h3⟩:=hv i (List.getElem?_eq_some_iff.1 hr).1
 have e:r'=r:=by
  have:=h1.out
  rw [hr] at this
  exact (Option.some.inj this).symm
 subst e
 rcases h3.forms with ⟨-,h4⟩ | ⟨g2,cap2,rfl,-,-,-,-⟩
 ·rw [h4] at hq;cases hq
 have hc:=fun t (ht:t<4)=>(h3.cellAt rfl (j*4+t) _ ((Rw.flat_get EN r' j t q hq ht).trans (List.getElem?_eq_getElem (by rw [EN.len];exact ht)))).1
 exact ⟨g,cap,g2,cap2,rfl,h2,hc 0 (by decide),hc 1 (by decide),hc 2 (by decide),hc 3 (by decide)⟩
theorem eV {α:Type} (f:Nat→α) (k:Nat):(List.range (k+1)).map f=(List.range k).map f ++ [f k]:=by
 rw [List.range_succ,List.map_append]
 rfl
theorem lj {α:Type} (f:Nat→α) {k n:Nat} (h:k<n):((List.range n).map f)[k]?=some (f k):=by
 rw [List.getElem?_map,List.getElem?_range h]
 rfl
theorem me (a b:Int) (v:Value) (l:List Pt) (w:World) (hx:fc w v l) (hg:M.good a b=true) (hn:l.length≤4) (hp:∀ p ∈ l,M.bR a b p.1 p.2.1 p.2.2=true) :
  Calls Tryz.prog 11 #[.agg #[.int .i64 a,.int .i64 b],v] w fun e w'=>∃ mv,e=.returned (.tuple #[mv,.bool (M.mOk a b l)])∧dG w' w.heap.size mv (M.jA a b l)∧Below w.heap.size w w':=by
 have hin:=M.bE hg
 obtain ⟨sa,cap,rfl,hv⟩:=hx
 have hv:=uh hv
 have hp:=uh hp
 obtain ⟨N,hN⟩:∃ N,Hid (l.length=N):=⟨_,uh rfl⟩
 rw [hN.out] at hn ⊢
 have hno:=uh fun i j h1 h2 h=>M.qk (a:=a) (b:=b) (l:=l) (i:=i) (j:=j) h1 h2 h
 have hrn:=uh fun h=>M.lU (a:=a) (b:=b) (l:=l) h
 have B:=(uk w.heap.size w).alloc (ul _) (.cells #[.int .i64 a,.int .i64 b] 28)
 have C:=aH.new w #[.int .i64 a,.int .i64 b] 28
 generalize hw3:w.alloc (.cells #[.int .i64 a,.int .i64 b] 28)=wc at *
 go_enter Tryz.func11,Tryz.ntmps11
 go_wp2
 go_loopw [6,16] (fun vo vi wr=>∃ i:Nat,i≤N∧vi=.int .i64 i∧Hid (∀ i',i'<i→∀ j,j<l.length→(M.ent a b l i' j).isSome=true)∧Hid (dG wr wc.heap.size vo ((List.range i).map (M.hP a b l)))∧Below wc.heap.size wc wr) (fun _ vi _=>N - (intOf vi).toNat)
 case atStart=>exact ⟨0,Nat.zero_le _,rfl,uh (fun i' h=>absurd h (by omega)),uh (dG.nil _ _),uk _ _⟩
 case round=>
 obtain ⟨i,hi,rfl,hall,hmat,Bc⟩:=hrel
 have hB0:=B.size
 replace B:=B.trans (Bc.mono B.size)
 replace C:=C.keep Bc
 by_cases hlt:i<N
 ·obtain ⟨x,hx⟩:∃ x,l[i]?=some x:=⟨_,List.getElem?_eq_getElem (by have:=hN.out;omega)⟩
  obtain ⟨g,rfl,hpt⟩:∃ g,sa=some ⟨g,0,none⟩∧ek w g l:=by
   rcases hv.out with h | h
   ·rw [h] at hx;cases hx
   exact h
  have hpt:=uh hpt
  obtain ⟨d0,d1,d2⟩:=(hpt.out.below B) i x hx
  have hpx:=hp.out x (List.mem_of_getElem? hx)
  have hx:=uh hx
  obtain ⟨x1,x2,x3⟩:=x
  simp only [] at d0 d1 d2 hpx
  have hb1:=M.d6 hin hpx
  have PS:=uh fun W=>qZ a b x1 x2 x3 W hg hb1.1 hb1.2.1 hb1.2.2.1 hb1.2.2.2.1
  clear hb1
  have B1:=B.alloc B.size (.cells #[.int .i64 x1,.int .i64 x2,.int .i64 x3] 45)
  have B1c:=Bc.alloc Bc.size (.cells #[.int .i64 x1,.int .i64 x2,.int .i64 x3] 45)
  have Z:=aH.new wr #[.int .i64 x1,.int .i64 x2,.int .i64 x3] 45
  have C1:=C.alloc (.cells #[.int .i64 x1,.int .i64 x2,.int .i64 x3] 45)
  have hwi:=ui wr (.cells #[.int .i64 x1,.int .i64 x2,.int .i64 x3] 45)
  have hm1:=uh (hmat.out.below ((uk _ wr).alloc (ul _) (.cells #[.int .i64 x1,.int .i64 x2,.int .i64 x3] 45)))
  generalize hw1:wr.alloc (.cells #[.int .i64 x1,.int .i64 x2,.int .i64 x3] 45)=wi at *
  go_wp2
  go_loopw [9,23] (fun vr vk wq=>∃ k:Nat,k≤N∧vk=.int .i64 k∧Hid (∀ j,j<k→(M.ent a b l i j).isSome=true)∧Hid (Rw.Own EN wq wi.heap.size vr ((List.range k).map fun j=>M.ivc (M.ent a b l i j)))∧Below wi.heap.size wi wq) (fun _ vk _=>N - (intOf vk).toNat)
  case atStart=>exact ⟨0,Nat.zero_le _,rfl,uh (fun j h=>absurd h (by omega)),uh (Rw.Own.nil EN _ _),uk _ _⟩
  case round=>
  clear d0 d1 d2
  obtain ⟨k,hk,rfl,hall2,hrow,Bq⟩:=hrel
  have hsz:=B.size
  have hsq:=Bq.size
  by_cases hlt2:k<N
  ·obtain ⟨y,hy⟩:∃ y,l[k]?=some y:=⟨_,List.getElem?_eq_getElem (by have:=hN.out;omega)⟩
   obtain ⟨d0,d1,d2⟩:=((hpt.out.below B1).below Bq) k y hy
   have hpy:=hp.out y (List.mem_of_getElem? hy)
   obtain ⟨y1,y2,y3⟩:=y
   simp only [] at d0 d1 d2 hpy
   have hy:=uh hy
   have hmq:=uh (hm1.out.below Bq)
   have B2:=Bq.alloc Bq.size (.cells #[.int .i64 y1,.int .i64 y2,.int .i64 y3] 45)
   have ZY:=aH.new wr #[.int .i64 y1,.int .i64 y2,.int .i64 y3] 45
   have Z2:=(Z.keep Bq).alloc (.cells #[.int .i64 y1,.int .i64 y2,.int .i64 y3] 45)
   have C2:=(C1.keep Bq).alloc (.cells #[.int .i64 y1,.int .i64 y2,.int .i64 y3] 45)
   have hrow2:=uh (Rw.Own.alloc hrow.out (.cells #[.int .i64 y1,.int .i64 y2,.int .i64 y3] 45))
   have C_c0:=C2.box.c0
   have C_c1:=C2.box.c1
   have ⟨z0,z1,z2⟩:=Z2.aQ
   have ⟨t0,t1,t2⟩:=ZY.aQ
   have hle:((List.range k).map fun j=>M.ivc (M.ent a b l i j)).length≤4:=by rw [List.length_map,List.length_range];omega
   have hle:=uh hle
   have hnxt:(M.ent a b l i k).isSome=true→(∀ j,j<k+1→(M.ent a b l i j).isSome=true):=fun h j hj=>by
    rcases Nat.lt_or_ge j k with q | q
    ·exact hall2.out j q
    obtain rfl:j=k:=by omega
    exact h
   have hnxt:=uh hnxt
   rcases Nat.lt_trichotomy k i with hc | hc | hc
   ·have hent:=hall.out k hc i (by have:=hN.out;omega)
    rw [M.iE] at hent
    have hnx:=uh (hnxt.out hent)
    obtain ⟨gm,cm,g2,c2,rfl,m0,m1,m2,m3,m4⟩:=(hmq.out.below ((uk _ wr).alloc (ul _) (.cells #[.int .i64 y1,.int .i64 y2,.int .i64 y3] 45))).at (lj (M.hP a b l) hc) (show (M.hP a b l k)[i]?=some _ from lj _ (by have:=hN.out;omega))
    rw [M.iE] at m1 m2 m3 m4
    have hrl:(M.hP a b l k).length=N:=by unfold M.hP;rw [List.length_map,List.length_range];exact hN.out
    rw [hrl] at m0
    have hrm:((List.range i).map (M.hP a b l)).length=i:=by rw [List.length_map,List.length_range]
    simp only [hrm]
    clear hnxt hent hrl hrm
    obtain ⟨q,hq⟩:∃ q,Hid (M.ivc (M.ent a b l i k)=q):=⟨_,uh rfl⟩
    rw [hq.out] at m1 m2 m3 m4
    obtain ⟨q1,q2,q3,q4⟩:=q
    simp only [] at m1 m2 m3 m4
    have hii:((i:Nat):Int)≤4:=by omega
    go_wp2_with (at_builtin;refine Rw.push nd (W:=wi) wi.heap.size [(q1,q2,q3,q4)] _ _ (some ⟨wr.heap.size+1,0,none⟩) 1 1 rfl rfl (.tmp 31) (.tmp 39) rfl rfl rfl (Rw.From.lit EN _ (q1,q2,q3,q4) (wr.heap.size+1) (ui _ _)) (Rw.Own.alloc hrow2.out _) (B2.alloc B2.size _) (by rw [ui];have:=B2.size;omega) (by have:=hle.out;simp only [List.length_cons,List.length_nil];omega) ?_;intro v6 w6 hown6 hb6)
    go_roundw
    case rel=>exact ⟨k+1,by omega,by go_num,hnx,by rw [eV,hq.out];exact uh hown6,hb6⟩
    case measure=>simp [intOf] <;> omega
   ·subst hc
    have hxy:=Option.some.inj (hx.out.symm.trans hy.out)
    injection hxy with e1 e2
    injection e2 with e2 e3
    subst e1 e2 e3
    have he:=M.lE (a:=a) (b:=b) hx.out
    have PP:=fun W=>lN a b x1 x2 x3 x1 x2 x3 W hg hpx hpx
    generalize M.dP a b x1 x2 x3 x1 x2 x3=ps at *
    generalize M.in1 ps=u1 at *
    generalize M.in2 ps=u2 at *
    generalize M.in3 ps=u3 at *
    generalize M.in4 ps=u4 at *
    generalize ps.isSome=fu at *
    simp only [] at he
    replace PS:=PS.out
    generalize M.d8 a b x1 x3=ss at *
    have hni:=hno.out k k (by have:=hN.out;omega) (by have:=hN.out;omega)
    rw [he] at hni hnxt
    have Bv:=(uk wr.heap.size wr).alloc (ul _) (.cells #[.int .i64 x1,.int .i64 x2,.int .i64 x3] 45)
    cases ss with
    | none=>
     have hfin:=uh (hni rfl)
     have hfr:=uh (hrn.out hfin.out)
     have e9:=uh (show M.in1 none=0∧M.in2 none=0∧M.in3 none=0∧M.in4 none=0∧(none:M.Sp).isSome=false from ⟨rfl,rfl,rfl,rfl,rfl⟩)
     rw [e9.out.1,e9.out.2.1,e9.out.2.2.1,e9.out.2.2.2.1,e9.out.2.2.2.2] at PS
     clear hni hnxt hno hrn e9 he
     replace PP:=uh PP
     replace PS:=uh PS
     go_wp2_with first | (go_at_call 20;(with_reducible refine (PP.out _).mono ?_);rintro e w4 ⟨rfl,hb4⟩;(have hz40:=Nat.le_trans Bv.size hb4.size);(replace Bv:=(Bv.trans (hb4.mono Bv.size)).alloc (Nat.le_trans Bv.size hb4.size) (.cells #[.int .i64 u1,.int .i64 u2,.int .i64 u3,.int .i64 u4] 42));(replace C2:=(C2.keep hb4).alloc (.cells #[.int .i64 u1,.int .i64 u2,.int .i64 u3,.int .i64 u4] 42));(replace Z2:=(Z2.keep hb4).alloc (.cells #[.int .i64 u1,.int .i64 u2,.int .i64 u3,.int .i64 u4] 42));(have V:=aH.new w4 #[.int .i64 u1,.int .i64 u2,.int .i64 u3,.int .i64 u4] 42);(have C_c0:=C2.box.c0);(have C_c1:=C2.box.c1);(have ⟨z0,z1,z2⟩:=Z2.aQ);(have ⟨v0,v1,v2,v3,f0,f1,f2,f3,vl⟩:=V.aR)) | (go_at_call 21;(with_reducible refine (PS.out _).mono ?_);rintro e w5 ⟨rfl,hb5⟩;(replace Bv:=Bv.trans (hb5.mono Bv.size));(replace V:=V.keep hb5);(have ⟨v0,v1,v2,v3,f0,f1,f2,f3,vl⟩:=V.aR);(have Bv2:=uj (uj (uj (uj (Bv) (p:=⟨w4.heap.size,0,none⟩) hz40 (.int .i64 0)) (p:=⟨w4.heap.size,1,none⟩) hz40 (.int .i64 0)) (p:=⟨w4.heap.size,2,none⟩) hz40 (.int .i64 0)) (p:=⟨w4.heap.size,3,none⟩) hz40 (.int .i64 0));(have V9:=V.pS (.int .i64 0) (.int .i64 0) (.int .i64 0) (.int .i64 0));(have ⟨v0_,v1_,v2_,v3_,_,_,_,_,_⟩:=V9.aR))
     go_ret2
     exact ⟨_,by rw [hfin.out];rfl,by rw [hfr.out];exact dG.nil _ _,(B1.trans (Bq.mono B1.size)).trans (Bv2.mono (Nat.le_trans B1.size hsq))⟩
    | some q_=>
    have hnx:=uh (hnxt.out rfl)
    obtain ⟨q,hq⟩:∃ q,Hid (M.ivc (some q_)=q):=⟨_,uh rfl⟩
    obtain ⟨q1,q2,q3,q4⟩:=q
    have e1:M.in1 (some q_)=q1:=congrArg (fun z=>z.1) hq.out
    have e2:M.in2 (some q_)=q2:=congrArg (fun z=>z.2.1) hq.out
    have e3:M.in3 (some q_)=q3:=congrArg (fun z=>z.2.2.1) hq.out
    have e4:M.in4 (some q_)=q4:=congrArg (fun z=>z.2.2.2) hq.out
    have e5:=uh (show (some q_:M.Sp).isSome=true from rfl)
    rw [e1,e2,e3,e4,e5.out] at PS
    have he:=uh (he.trans rfl)
    clear hni hnxt hno hrn e1 e2 e3 e4 e5
    replace PP:=uh PP
    replace PS:=uh PS
    go_wp2_with first | (go_at_call 20;(with_reducible refine (PP.out _).mono ?_);rintro e w4 ⟨rfl,hb4⟩;(have hz40:=Nat.le_trans Bv.size hb4.size);(replace Bv:=(Bv.trans (hb4.mono Bv.size)).alloc (Nat.le_trans Bv.size hb4.size) (.cells #[.int .i64 u1,.int .i64 u2,.int .i64 u3,.int .i64 u4] 42));(replace C2:=(C2.keep hb4).alloc (.cells #[.int .i64 u1,.int .i64 u2,.int .i64 u3,.int .i64 u4] 42));(replace Z2:=(Z2.keep hb4).alloc (.cells #[.int .i64 u1,.int .i64 u2,.int .i64 u3,.int .i64 u4] 42));(have V:=aH.new w4 #[.int .i64 u1,.int .i64 u2,.int .i64 u3,.int .i64 u4] 42);(have C_c0:=C2.box.c0);(have C_c1:=C2.box.c1);(have ⟨z0,z1,z2⟩:=Z2.aQ);(have ⟨v0,v1,v2,v3,f0,f1,f2,f3,vl⟩:=V.aR)) | (go_at_call 21;(with_reducible refine (PS.out _).mono ?_);rintro e w5 ⟨rfl,hb5⟩;(replace Bv:=Bv.trans (hb5.mono Bv.size));(replace V:=V.keep hb5);(have ⟨v0,v1,v2,v3,f0,f1,f2,f3,vl⟩:=V.aR);(have Bv2:=uj (uj (uj (uj (Bv) (p:=⟨w4.heap.size,0,none⟩) hz40 (.int .i64 q1)) (p:=⟨w4.heap.size,1,none⟩) hz40 (.int .i64 q2)) (p:=⟨w4.heap.size,2,none⟩) hz40 (.int .i64 q3)) (p:=⟨w4.heap.size,3,none⟩) hz40 (.int .i64 q4));(have V9:=V.pS (.int .i64 q1) (.int .i64 q2) (.int .i64 q3) (.int .i64 q4));(have ⟨v0_,v1_,v2_,v3_,_,_,_,_,_⟩:=V9.aR)) | (at_builtin;refine Rw.push nd (W:=wi) wi.heap.size [(q1,q2,q3,q4)] _ _ (some ⟨w5.heap.size,0,none⟩) 1 1 rfl rfl (.tmp 59) (.tmp 61) rfl rfl rfl (Rw.From.lit EN _ (q1,q2,q3,q4) (w5.heap.size) (by simp [World.setCell])) (Rw.Own.alloc (hrow.out.below Bv2) _) ((Bq.trans (Bv2.mono Bq.size)).alloc (Nat.le_trans hsq Bv2.size) _) (by rw [ui];exact Nat.le_succ_of_le (Nat.le_trans hsq Bv2.size)) (by have:=hle.out;simp only [List.length_cons,List.length_nil];omega) ?_;intro v6 w6 hown6 hb6)
    go_roundw
    case rel=>exact ⟨k+1,by omega,by go_num,hnx,by rw [eV,he.out,hq.out];exact uh hown6,hb6⟩
    case measure=>simp [intOf] <;> omega
   have he:=M.k9 (a:=a) (b:=b) hx.out hy.out hc
   have PP:=fun W=>lN a b x1 x2 x3 y1 y2 y3 W hg hpx hpy
   simp only [] at he
   generalize M.dP a b x1 x2 x3 y1 y2 y3=ss at *
   have hne:((k:Int) == (i:Int))=false:=by rw [beq_eq_false_iff_ne];omega
   clear PS
   have hni:=hno.out i k (by have:=hN.out;omega) (by have:=hN.out;omega)
   rw [he] at hni hnxt
   have Bv:=(uk wr.heap.size wr).alloc (ul _) (.cells #[.int .i64 y1,.int .i64 y2,.int .i64 y3] 45)
   cases ss with
   | none=>
    have hfin:=uh (hni rfl)
    have hfr:=uh (hrn.out hfin.out)
    have e9:=uh (show M.in1 none=0∧M.in2 none=0∧M.in3 none=0∧M.in4 none=0∧(none:M.Sp).isSome=false from ⟨rfl,rfl,rfl,rfl,rfl⟩)
    rw [e9.out.1,e9.out.2.1,e9.out.2.2.1,e9.out.2.2.2.1,e9.out.2.2.2.2] at PP
    clear hni hnxt hno hrn e9 he
    replace PP:=uh PP
    go_wp2_with first | (go_at_call 20;(with_reducible refine (PP.out _).mono ?_);rintro e w4 ⟨rfl,hb4⟩;(have hz40:=Nat.le_trans Bv.size hb4.size);(replace Bv:=(Bv.trans (hb4.mono Bv.size)).alloc (Nat.le_trans Bv.size hb4.size) (.cells #[.int .i64 0,.int .i64 0,.int .i64 0,.int .i64 0] 42));(replace C2:=(C2.keep hb4).alloc (.cells #[.int .i64 0,.int .i64 0,.int .i64 0,.int .i64 0] 42));(replace Z2:=(Z2.keep hb4).alloc (.cells #[.int .i64 0,.int .i64 0,.int .i64 0,.int .i64 0] 42));(have V:=aH.new w4 #[.int .i64 0,.int .i64 0,.int .i64 0,.int .i64 0] 42);(have C_c0:=C2.box.c0);(have C_c1:=C2.box.c1);(have ⟨z0,z1,z2⟩:=Z2.aQ);(have ⟨v0,v1,v2,v3,f0,f1,f2,f3,vl⟩:=V.aR))
    go_ret2
    exact ⟨_,by rw [hfin.out];rfl,by rw [hfr.out];exact dG.nil _ _,(B1.trans (Bq.mono B1.size)).trans (Bv.mono (Nat.le_trans B1.size hsq))⟩
   | some q_=>
   have hnx:=uh (hnxt.out rfl)
   obtain ⟨q,hq⟩:∃ q,Hid (M.ivc (some q_)=q):=⟨_,uh rfl⟩
   obtain ⟨q1,q2,q3,q4⟩:=q
   have e1:M.in1 (some q_)=q1:=congrArg (fun z=>z.1) hq.out
   have e2:M.in2 (some q_)=q2:=congrArg (fun z=>z.2.1) hq.out
   have e3:M.in3 (some q_)=q3:=congrArg (fun z=>z.2.2.1) hq.out
   have e4:M.in4 (some q_)=q4:=congrArg (fun z=>z.2.2.2) hq.out
   have e5:=uh (show (some q_:M.Sp).isSome=true from rfl)
   rw [e1,e2,e3,e4,e5.out] at PP
   have he:=uh (he.trans rfl)
   clear hni hnxt hno hrn e1 e2 e3 e4 e5
   replace PP:=uh PP
   go_wp2_with first | (go_at_call 20;(with_reducible refine (PP.out _).mono ?_);rintro e w4 ⟨rfl,hb4⟩;(have hz40:=Nat.le_trans Bv.size hb4.size);(replace Bv:=(Bv.trans (hb4.mono Bv.size)).alloc (Nat.le_trans Bv.size hb4.size) (.cells #[.int .i64 q1,.int .i64 q2,.int .i64 q3,.int .i64 q4] 42));(replace C2:=(C2.keep hb4).alloc (.cells #[.int .i64 q1,.int .i64 q2,.int .i64 q3,.int .i64 q4] 42));(replace Z2:=(Z2.keep hb4).alloc (.cells #[.int .i64 q1,.int .i64 q2,.int .i64 q3,.int .i64 q4] 42));(have V:=aH.new w4 #[.int .i64 q1,.int .i64 q2,.int .i64 q3,.int .i64 q4] 42);(have C_c0:=C2.box.c0);(have C_c1:=C2.box.c1);(have ⟨z0,z1,z2⟩:=Z2.aQ);(have ⟨v0,v1,v2,v3,f0,f1,f2,f3,vl⟩:=V.aR)) | (at_builtin;refine Rw.push nd (W:=wi) wi.heap.size [(q1,q2,q3,q4)] _ _ (some ⟨w4.heap.size+1,0,none⟩) 1 1 rfl rfl (.tmp 59) (.tmp 61) rfl rfl rfl (Rw.From.lit EN _ (q1,q2,q3,q4) (w4.heap.size+1) (by simp [World.setCell])) (Rw.Own.alloc (hrow.out.below Bv) _) ((Bq.trans (Bv.mono Bq.size)).alloc (Nat.le_trans hsq Bv.size) _) (by rw [ui];exact Nat.le_succ_of_le (Nat.le_trans hsq Bv.size)) (by have:=hle.out;simp only [List.length_cons,List.length_nil];omega) ?_;intro v6 w6 hown6 hb6)
   go_roundw
   case rel=>exact ⟨k+1,by omega,by go_num,hnx,by rw [eV,he.out,hq.out];exact uh hown6,hb6⟩
   case measure=>simp [intOf] <;> omega
  obtain rfl:k=N:=by omega
  have hkl:((List.range k).map fun j=>M.ivc (M.ent a b l i j)).length=k:=by rw [List.length_map,List.length_range]
  obtain ⟨g4,c4,hvr⟩:∃ g4 c4,_=Value.slice (some ⟨g4,0,none⟩) k c4:=by
   rcases hrow.out.forms with ⟨-,h4⟩ | ⟨g4,c4,h4,-⟩
   ·rw [h4] at hkl;simp only [List.length_nil] at hkl;omega
   rw [hkl] at h4;exact ⟨g4,c4,h4⟩
  subst hvr
  clear hkl
  obtain ⟨vs,hvs⟩:=hm1.out
  have hvq:=hvs.below Bq
  have hrw:=hrow.out.down (show wc.heap.size≤wi.heap.size from B1c.size)
  have hlt3:=fun g h=>hrow.out.lt g h
  have hmr:(List.range k).map (fun j=>M.ivc (M.ent a b l i j))=M.hP a b l i:=by unfold M.hP;rw [hN.out]
  rw [hmr] at hrw
  have hnewr:=fun g hg z hz (e:Value.ownBlock z=some g)=>(absurd (hlt3 g hg).1 (Nat.not_le.2 (hvs.lt z hz g e).2):False)
  have hrm:((List.range i).map (M.hP a b l)).length=i:=by rw [List.length_map,List.length_range]
  have hal:∀ i',i'<i+1→∀ j,j<l.length→(M.ent a b l i' j).isSome=true:=fun i' h j hj=>by
   rcases Nat.lt_or_ge i' i with q | q
   ·exact hall.out i' q j hj
   obtain rfl:i'=i:=by omega
   exact hall2.out j (by have:=hN.out;omega)
  have hal:=uh hal
  have Bw:=B1c.trans (Bq.mono B1c.size)
  go_wp2_with (at_builtin;refine jo (W:=wc) wc.heap.size _ _ vs _ _ wr.heap.size rfl rfl (.tmp 64) (.tmp 66) rfl rfl rfl hvq hrw hnewr Bw Bw.size (by rw [hrm];omega) ?_;intro v7 w7 hown7 hb7)
  go_roundw
  case rel=>exact ⟨i+1,by omega,by go_num,hal,uh ⟨_,by rw [eV];exact hown7⟩,hb7⟩
  case measure=>simp [intOf] <;> omega
 obtain rfl:i=N:=by omega
 have hyes:=uh (M.nv (a:=a) (b:=b) (l:=l) (fun i' h=>hall.out i' (by have:=hN.out;omega)))
 have hrows:=uh (M.jg hyes.out)
 go_wp2
 go_ret2
 exact ⟨_,by rw [hyes.out];rfl,by rw [hrows.out,hN.out];exact hmat.out.base hB0,B⟩
end
section
namespace M
abbrev Mat:=List (List (Int × Int))
def okM (m:Mat):Prop:=∀ r ∈ m,∀ q ∈ r,aO q.1 q.2=true
def tv (n:Nat) (m:Mat):Prop:=m.length=n∧∀ r ∈ m,r.length=n
end M
end
section
open Go.RowKit
def es (w:World) (base:Nat) (v:Value) (rows:M.Mat):Prop:=∃ vs,bj w base v vs rows
theorem es.below {w w':World} {base:Nat} {v:Value} {rows:M.Mat} (h:es w base v rows) (hb:Below w.heap.size w w'):es w' base v rows:=h.elim fun vs k=>⟨vs,k.below hb⟩
theorem es.base {w:World} {base base':Nat} {v:Value} {rows:M.Mat} (h:es w base v rows) (hb:base'≤base):es w base' v rows:=h.elim fun vs k=>⟨vs,k.base hb⟩
theorem es.nil (w:World) (base:Nat):es w base (.slice none 0 0) []:=⟨[],bj.nil w base⟩
theorem es.at {w:World} {base:Nat} {v:Value} {rows:M.Mat} (h:es w base v rows) {i j:Nat} {r:List (Int × Int)} {q:Int × Int} (hr:rows[i]?=some r) (hq:r[j]?=some q) :
  ∃ (g cap g2 cap2:Nat),v=.slice (some ⟨g,0,none⟩) rows.length cap∧w.cell? ⟨g,i,none⟩=some (.slice (some ⟨g2,0,none⟩) r.length cap2)∧w.cell? ⟨g2,j*2,none⟩=some (.int .i64 q.1)∧w.cell? ⟨g2,j*2+1,none⟩=some (.int .i64 q.2):=by
 obtain ⟨vs,h⟩:=h
 obtain ⟨a,cap,rfl,-,hv⟩:=h.view
 obtain ⟨g,u,r',rfl,-,h1,-,h2,h3⟩:=hv i (List.getElem?_eq_some_iff.1 hr).1
 have e:r'=r:=by
  have:=h1.out
  rw [hr] at this
  exact (Option.some.inj this).symm
 subst e
 rcases h3.forms with ⟨-,h4⟩ | ⟨g2,cap2,rfl,-,-,-,-⟩
 ·rw [h4] at hq;cases hq
 have hc:=fun t (ht:t<2)=>(h3.cellAt rfl (j*2+t) _ ((Rw.flat_get EP r' j t q hq ht).trans (List.getElem?_eq_getElem (by rw [EP.len];exact ht)))).1
 exact ⟨g,cap,g2,cap2,rfl,h2,hc 0 (by decide),hc 1 (by decide)⟩
def bg (xs:List (Int × Int)):Array Value:=(xs.flatMap EP.cells).toArray
def dm (W:World) (gm n:Nat) (rows:M.Mat):Prop:=
 rows.length=n∧aH W gm 59 ((List.range n).map fun i=>Value.slice (some ⟨gm+1+i,0,none⟩) n n).toArray∧∀ (i:Nat) (r:List (Int × Int)),rows[i]?=some r→r.length=n∧aH W (gm+1+i) 61 (bg r)
theorem dm.below {W W':World} {gm n:Nat} {rows:M.Mat} (h:dm W gm n rows) (hb:Below W.heap.size W W'):dm W' gm n rows:=
 ⟨h.1,h.2.1.keep hb,fun i r hr=>⟨(h.2.2 i r hr).1,(h.2.2 i r hr).2.keep hb⟩⟩
theorem dm.row {W:World} {gm n:Nat} {rows:M.Mat} (h:dm W gm n rows) {i:Nat} (hi:i<n):W.cell? ⟨gm,i,none⟩=some (.slice (some ⟨gm+1+i,0,none⟩) n n):=by
 refine (h.2.1.cell i).trans ?_
 rw [List.getElem?_toArray,List.getElem?_map,List.getElem?_range hi]
 rfl
theorem dm.mat {W:World} {gm n base:Nat} {rows:M.Mat} (h:dm W gm n rows) (hb:base≤gm) (hn:n≤1000000):es W base (.slice (some ⟨gm,0,none⟩) n n) rows:=by
 obtain ⟨h1,h2,h3⟩:=h
 refine ⟨(List.range n).map fun i=>Value.slice (some ⟨gm+1+i,0,none⟩) n n,?_,?_,?_,?_⟩
 ·rw [h1]
  refine ⟨by simp,Or.inr ⟨gm,n,_,rfl,hb,h2,ul _,by unfold maxLen;omega,by simp,List.take_of_length_le (by simp)⟩⟩
 ·simp [h1]
 ·intro i u r hu hr
  have hi:i<n:=by rw [←h1];exact (List.getElem?_eq_some_iff.1 hr).1
  rw [List.getElem?_map,List.getElem?_range hi] at hu
  have hu:Value.slice (some ⟨gm+1+i,0,none⟩) n n=u:=Option.some.inj hu
  subst hu
  obtain ⟨k1,k2⟩:=h3 i r hr
  refine ⟨Rw.cN EP r,Or.inr ⟨gm+1+i,n,_,by rw [k1],by omega,k2,by omega,by unfold maxLen;omega,?_,?_⟩⟩
  ·unfold bg;rw [List.size_toArray,Rw.cN,k1]
  exact List.take_of_length_le (Nat.le_of_eq (Rw.cN EP r))
 rw [List.pairwise_map]
 refine List.Pairwise.imp ?_ (List.nodup_range (n:=n))
 intro a b hab g hg hg'
 simp only [Value.ownBlock,Option.some.injEq] at hg hg'
 exact hab (by omega)
theorem kR {r:List (Int × Int)} {j:Nat} (q:Int × Int) (hj:j<r.length):((bg r).setIfInBounds (j*2) (.int .i64 q.1)).setIfInBounds (j*2+1) (.int .i64 q.2)=bg (r.set j q):=by
 have hl:(r.flatMap EP.cells).length=r.length*2:=Rw.cN EP r
 have hz:(bg r).size=r.length*2:=hl
 apply Array.ext_getElem?
 intro t
 have hs:=Rw.ij EP r j q hj t
 have hk:EP.k=2:=rfl
 rw [hk] at hs
 show _=(bg (r.set j q))[t]?
 have e1:(bg (r.set j q))[t]?=((r.set j q).flatMap EP.cells)[t]?:=List.getElem?_toArray
 have e2:(bg r)[t]?=(r.flatMap EP.cells)[t]?:=List.getElem?_toArray
 rw [e1,hs,Array.getElem?_setIfInBounds,Array.getElem?_setIfInBounds,Array.size_setIfInBounds,hz,e2]
 by_cases h1:j*2+1=t
 ·subst h1
  rw [if_pos rfl,if_pos (by omega),if_pos (by omega)]
  have:j*2+1 - j*2=1:=by omega
  rw [this]
  rfl
 rw [if_neg h1]
 by_cases h2:j*2=t
 ·subst h2
  rw [if_pos rfl,if_pos (by omega),if_pos (by omega)]
  have:j*2 - j*2=0:=by omega
  rw [this]
  rfl
 rw [if_neg h2,if_neg (by omega)]
theorem dm.put {W:World} {gm n:Nat} {rows:M.Mat} (h:dm W gm n rows) {i j:Nat} {r:List (Int × Int)} (hr:rows[i]?=some r) (hj:j<n) (q:Int × Int):dm ((W.setCell ⟨gm+1+i,j*2,none⟩ (.int .i64 q.1)).setCell ⟨gm+1+i,j*2+1,none⟩ (.int .i64 q.2)) gm n (rows.set i (r.set j q)):=by
 obtain ⟨h1,h2,h3⟩:=h
 obtain ⟨k1,k2⟩:=h3 i r hr
 refine ⟨by rw [List.length_set];exact h1,(h2.other (by omega) _).other (by omega) _,fun i' r' hr'=>?_⟩
 by_cases hi:i=i'
 ·subst hi
  rw [List.getElem?_set_self (List.getElem?_eq_some_iff.1 hr).1] at hr'
  have e:=Option.some.inj hr'
  subst e
  refine ⟨by rw [List.length_set];exact k1,?_⟩
  rw [←kR q (by omega)]
  exact (k2.set _ _).set _ _
 rw [List.getElem?_set_ne hi] at hr'
 obtain ⟨m1,m2⟩:=h3 i' r' hr'
 exact ⟨m1,(m2.other (by omega) _).other (by omega) _⟩
theorem dm.cells {W:World} {gm n:Nat} {rows:M.Mat} (h:dm W gm n rows) {i j:Nat} {r:List (Int × Int)} {q:Int × Int} (hr:rows[i]?=some r) (hq:r[j]?=some q):W.cell? ⟨gm+1+i,j*2,none⟩=some (.int .i64 q.1)∧W.cell? ⟨gm+1+i,j*2+1,none⟩=some (.int .i64 q.2)∧W.frozen? ⟨gm+1+i,j*2,none⟩=false∧W.frozen? ⟨gm+1+i,j*2+1,none⟩=false∧gm+1+i<W.heap.size:=by
 obtain ⟨k1,k2⟩:=h.2.2 i r hr
 have hc:=fun t (ht:t<2)=>(k2.cell (j*2+t)).trans ((List.getElem?_toArray (xs:=r.flatMap EP.cells) (i:=j*2+t)).trans ((Rw.flat_get EP r j t q hq ht).trans (List.getElem?_eq_getElem (by rw [EP.len];exact ht))))
 exact ⟨hc 0 (by decide),hc 1 (by decide),k2.frz _,k2.frz _,k2.lt⟩
theorem qp (n:Nat) (hn:n≤4):madeCells (Value.agg #[.int .i64 0,.int .i64 0]).cells (n*2)=bg (List.replicate n (0,0)):=by
 have hc:n=0∨n=1∨n=2∨n=3∨n=4:=by omega
 rcases hc with rfl | rfl | rfl | rfl | rfl <;> (simp [madeCells,bg,EP,Value.cells,Array.range_succ,(show Array.range 0=#[] from rfl),List.replicate])
theorem pA (n:Nat) (hn:n≤4):madeCells (Value.slice none 0 0).cells (n*1)=(List.replicate n (Value.slice none 0 0)).toArray:=by
 have hc:n=0∨n=1∨n=2∨n=3∨n=4:=by omega
 rcases hc with rfl | rfl | rfl | rfl | rfl <;> (simp [madeCells,bg,EP,Value.cells,Array.range_succ,(show Array.range 0=#[] from rfl),List.replicate])
theorem sK (w:World) (n:Nat) (hn:n≤4):(Instr.makeSlice 59 (.int .i64 (n:Int)) (.int .i64 (n:Int))).run Tryz.prog w=.ok (.slice (some ⟨w.heap.size,0,none⟩) n n) (w.alloc (.cells (bg (List.replicate n (0,0))) 61)):=by
 obtain ⟨i0,hi,hz0,hz1,hz2⟩:=info_parts uT
 have hr:=run_make (P:=Tryz.prog) w 59 61 i0 _ Tryz.underlying59 hi hz0 .i64 .i64 n n (by omega) (Int.le_refl _) (by rw [hz2];omega) (by omega)
 rw [hz1] at hr
 rw [Int.toNat_natCast,qp n hn] at hr
 exact hr
theorem qr (w:World) (n:Nat) (hn:n≤4):(Instr.makeSlice 56 (.int .i64 (n:Int)) (.int .i64 (n:Int))).run Tryz.prog w=.ok (.slice (some ⟨w.heap.size,0,none⟩) n n) (w.alloc (.cells (List.replicate n (Value.slice none 0 0)).toArray 59)):=by
 obtain ⟨i0,hi,hz0,hz1,hz2⟩:=info_parts ta
 have hr:=run_make (P:=Tryz.prog) w 56 59 i0 _ Tryz.underlying56 hi hz0 .i64 .i64 n n (by omega) (Int.le_refl _) (by rw [hz2];omega) (by omega)
 rw [hz1] at hr
 rw [Int.toNat_natCast,pA n hn] at hr
 exact hr
namespace M
noncomputable def spc (s:Sp):Int × Int:=(slo s,shi s)
noncomputable def eN (a b:Int) (l:List Pt):Mat:=if mOk a b l=true then (List.range l.length).map (fun i=>(List.range l.length).map fun j=>spc (ent a b l i j)) else []
end M
def dx (gm n k:Nat):Array Value:=((List.range n).map fun i=>if i<k then Value.slice (some ⟨gm+1+i,0,none⟩) n n else Value.slice none 0 0).toArray
theorem l8 (gm n:Nat):dx gm n 0=(List.replicate n (Value.slice none 0 0)).toArray:=by
 unfold dx
 congr 1
 simp [List.map_const']
theorem ly {gm n k:Nat} (hk:k<n):(dx gm n k).setIfInBounds k (.slice (some ⟨gm+1+k,0,none⟩) n n)=dx gm n (k+1):=by
 unfold dx
 apply Array.ext_getElem?
 intro t
 rw [Array.getElem?_setIfInBounds]
 simp only [List.size_toArray,List.length_map,List.length_range,List.getElem?_toArray,List.getElem?_map]
 by_cases h:k=t
 ·subst h
  rw [if_pos rfl,if_pos hk,List.getElem?_range hk]
  simp
 rw [if_neg h]
 rcases Nat.lt_or_ge t n with q | q
 ·rw [List.getElem?_range q]
  simp only [Option.map_some]
  congr 1
  by_cases h2:t<k
  ·rw [if_pos h2,if_pos (by omega)]
  rw [if_neg h2,if_neg (by omega)]
 rw [List.getElem?_eq_none (by simp;omega)]
 rfl
theorem pQ {gm n k:Nat} (hk:k<n):(dx gm n k)[k]?=some (.slice none 0 0):=by
 unfold dx
 rw [List.getElem?_toArray,List.getElem?_map,List.getElem?_range hk]
 simp
end
section
open Go Go.RowKit
namespace Rg
variable {P:Program} {Q:Exit→Act→World→Prop}
section
variable (P) (Q) (ops:Array Oper) (a0:Act) (T:List Value) (J:Nat→World→Prop) (C:List Nat)
def nL (o:Oper) (a:Act) (t:Nat):Prop:=
 match o.after.toList.find? (fun e=>Region.binds .any e && ((ops[e.on]?).bind (·.dst)) == some t) with
 | some e=>if e.on ∈ C then True else a.tmps[t]?=some (T.getD e.on undef)
 | none=>a.tmps[t]?=a0.tmps[t]?
def bf (k:Nat) (o:Oper):Prop:=
 if k ∈ C then ∀ (a:Act) (w:World),J (C.idxOf k) w→(∀ t ∈ o.looksAt ops,nL ops a0 T C o a t)→Region.wanted o (yielded ops a.tmps)=true∧o.wp P a w (fun a' w'=>(∃ v,a'=a.put o.dst v)∧J (C.idxOf k+1) w') Q
 else ∀ (a:Act) (w:World) (n:Nat),n≤C.length→J n w→(∀ t ∈ o.looksAt ops,nL ops a0 T C o a t)→Region.wanted o (yielded ops a.tmps)=true∧(execOp a.eval o).run P w=.ok (.value (T.getD k undef)) w
def ph:List Oper→Nat→Prop
 | [],_=>True
 | o :: os,k=>bf P Q ops a0 T J C k o∧ph os (k+1)
def uC (l:Nat→Bool) (vals:Nat→Value) (w:World):Prop:=
 J (cnt l C) w∧∀ i,i ∉ C→l i=true→vals i=T.getD i undef
end
theorem qF {l:Nat→Bool}:∀ C:List Nat,cnt l C≤C.length
 | []=>ul _
 | c :: cs=>by
  unfold cnt
  have:=qF (l:=l) cs
  split
  ·simp only [List.length_cons];omega
  omega
theorem rJ {ops:Array Oper} {a0:Act} {T:List Value} {J:Nat→World→Prop} {C:List Nat} (hC:eR ops C=true) :
  ∀ (os:List Oper) (k:Nat),(∀ i,os[i]?=ops[k+i]?)→ph P Q ops a0 T J C os k→ft P Q .any ops (uC T J C) a0 os k
 | [],_,_,_=>trivial
 | o :: os,k,hos,h=>by
  refine ⟨fun a w l vals hI hl hc hdep hr=>?_,rJ hC os (k+1) (fun i=>by rw [show k+1+i=k+(i+1) by omega,←hos (i+1)];rfl) h.2⟩
  obtain ⟨hB,hv⟩:=hI
  have ho:ops[k]?=some o:=(hos 0).symm
  have hQ:∀ t ∈ o.looksAt ops,nL ops a0 T C o a t:=fun t ht=>by
   have:=hr t ht
   unfold rd at this
   unfold nL
   split
   ·rename_i e he
    rw [he] at this
    have h2:=List.find?_some he
    rw [Bool.and_eq_true] at h2
    split
    ·trivial
    rename_i n1
    replace this:a.tmps[t]?=some (vals e.on):=this
    rw [this,hv _ n1 (hdep e (Array.mem_toList_iff.1 (List.mem_of_find?_eq_some he)) h2.1)]
   rename_i he
   rw [he] at this
   exact this
  have hko:∀ j,j≠k→upd l k j=l j:=fun j hj=>if_neg hj
  have h1:=h.1
  unfold bf at h1
  unfold ki
  have rest:∀ v,(k ∉ C→v=T.getD k undef)→∀ i,i ∉ C→upd l k i=true→eA vals k v i=T.getD i undef:=fun v hvk i n1 hi=>by
   by_cases hik:i=k
   ·subst hik
    have:eA vals i v i=v:=if_pos rfl
    rw [this];exact hvk n1
   rw [hko i hik] at hi
   have:eA vals k v i=vals i:=if_neg hik
   rw [this]
   exact hv i n1 hi
  by_cases e3:k ∈ C
  ·rw [if_pos e3] at h1
   obtain ⟨q1,q2⟩:=ib hc hl (fun c hcd=>gB ho hdep hcd) C hC e3
   rw [q1] at hB
   obtain ⟨hw,hwp⟩:=h1 a w hB hQ
   rw [if_pos hw]
   refine Oper.wp_mono ?_ hwp
   rintro a' w' ⟨⟨v,e⟩,h2⟩
   exact ⟨v,e,by rw [q2];exact h2,rest v (fun h=>absurd e3 h)⟩
  rw [if_neg e3] at h1
  obtain ⟨hw,hwp⟩:=h1 a w _ (qF C) hB hQ
  rw [if_pos hw]
  unfold Oper.wp
  rw [hwp]
  exact ⟨_,rfl,by rw [fL C e3];exact hB,rest _ (fun _=>rfl)⟩
theorem tH {id:Nat} {ops:Array Oper} {a0:Act} {w:World} (J:Nat→World→Prop) (C:List Nat) (T:List Value)
  (hm:P.follows .mixedOrders=true) (hok:dz .any ops a0.tmps.size=true) (hC:eR ops C=true) (hcl:∀ c ∈ C,c<ops.size) (h0:J 0 { w with drawn:=w.drawn+1 })
  (hR:ph P Q ops a0 T J C ops.toList 0)
  (hF:∀ (vals:Nat→Value) (w':World),J C.length w'→(∀ i,i<ops.size→i ∉ C→vals i=T.getD i undef)→Q .normal (fill (fun _=>true) vals ops.toList 0 a0) w'):(Code.region id ops true).wp P Q a0 w:=by
 have c0:∀ C:List Nat,cnt (fun _=>false) C=0:=fun C=>by cases C <;> rfl
 have cl:∀ (l:Nat→Bool) (C:List Nat),(∀ c ∈ C,l c=true)→cnt l C=C.length:=fun l C=>by
  induction C with
  | nil=>intro _;rfl
  | cons c cs ih=>
  intro h
  unfold cnt
  rw [if_pos (h c (List.mem_cons_self ..)),ih (fun x hx=>h x (List.mem_cons_of_mem _ hx))]
  rfl
 refine kQ (uC T J C) hm hok (fun vals=>⟨?_,(fun _ _ h=>absurd h (by simp))⟩) (rJ hC ops.toList 0 (fun i=>by rw [Nat.zero_add];exact Array.getElem?_toList) hR) ?_
 ·rw [c0]
  exact h0
 intro l vals w' hl hI
 obtain ⟨h1,h2⟩:=hI
 rw [cl l C (fun c hc=>hl c (hcl c hc))] at h1
 exact hF vals w' h1 (fun i hi n1=>h2 i n1 (hl i hi))
end Rg
namespace Rg
variable {P:Program} {Q:Exit→Act→World→Prop}
section
variable (P) (Q) (ops:Array Oper) (a0:Act) (T:List Val) (w1:World) (ka ks:Nat) (Tn:TypeId) (xs ys:Array Value)
def bU (k:Nat) (o:Oper):Prop:=
 if k=ka then ∀ (a:Act) (w:World),Region.wanted o (yielded ops a.tmps)=true∧o.wp P a w (fun a' w'=>a'=a.put o.dst (.pointer (some ⟨w.heap.size,0,none⟩))∧w'=w.alloc (.cells xs Tn)) Q
 else if k=ks then ∀ (a:Act) (w:World) (h:Nat),w1.heap.size≤h→aH w h Tn xs→(∀ t ∈ o.looksAt ops,nK ops a0 T ka ks h o a w t)→Region.wanted o (yielded ops a.tmps)=true∧o.wp P a w (fun a' w'=>(∃ v,a'=a.put o.dst v)∧aH w' h Tn ys∧Below w1.heap.size w w') Q
 else ∀ (a:Act) (w:World),Below w1.heap.size w1 w→(∀ t ∈ o.looksAt ops,iR ops a0 T ka ks o a w t)→Does P ops Q (tbl T k) o a w
def pf:List Oper→Nat→Prop
 | [],_=>True
 | o :: os,k=>bU P Q ops a0 T w1 ka ks Tn xs ys k o∧pf os (k+1)
def tI (l:Nat→Bool) (vals:Nat→Value) (w:World):Prop:=
 Below w1.heap.size w1 w∧(∀ i,i≠ka→i≠ks→l i=true→(tbl T i).ok (vals i) w)∧(l ka=true→∃ h,w1.heap.size≤h∧vals ka=.pointer (some ⟨h,0,none⟩)∧aH w h Tn (if l ks=true then ys else xs))
end
theorem rH {ops:Array Oper} {a0:Act} {T:List Val} {w1:World} {ka ks:Nat} {Tn:TypeId} {xs ys:Array Value}
  (hp:∀ j,j≠ka→j≠ks→(tbl T j).pure=true) (hne:ka≠ks) (hE:jR ops ka ks=true) :
  ∀ (os:List Oper) (k:Nat),(∀ i,os[i]?=ops[k+i]?)→pf P Q ops a0 T w1 ka ks Tn xs ys os k→ft P Q .any ops (tI T w1 ka ks Tn xs ys) a0 os k
 | [],_,_,_=>trivial
 | o :: os,k,hos,h=>by
  refine ⟨fun a w l vals hI hl hc hdep hr=>?_,rH hp hne hE os (k+1) (fun i=>by rw [show k+1+i=k+(i+1) by omega,←hos (i+1)];rfl) h.2⟩
  obtain ⟨hB,hv,hn⟩:=hI
  have ho:ops[k]?=some o:=(hos 0).symm
  have hsz:w1.heap.size≤w.heap.size:=hB.size
  have hQ:∀ t ∈ o.looksAt ops,iR ops a0 T ka ks o a w t:=fun t ht=>by
   have:=hr t ht
   unfold rd at this
   unfold iR
   split
   ·rename_i e he
    rw [he] at this
    have h2:=List.find?_some he
    rw [Bool.and_eq_true] at h2
    split
    ·trivial
    split
    ·trivial
    rename_i n1 n2
    exact ⟨_,this,hv _ n1 n2 (hdep e (Array.mem_toList_iff.1 (List.mem_of_find?_eq_some he)) h2.1)⟩
   rename_i he
   rw [he] at this
   exact this
  have hko:∀ j,j≠k→upd l k j=l j:=fun j hj=>if_neg hj
  have hkk:upd l k k=true:=if_pos rfl
  have h1:=h.1
  unfold bU at h1
  unfold ki
  by_cases e1:k=ka
  ·rw [if_pos e1] at h1
   obtain ⟨hw,hwp⟩:=h1 a w
   rw [if_pos hw]
   refine Oper.wp_mono ?_ hwp
   rintro a' w' ⟨rfl,rfl⟩
   subst e1
   have hls:l ks=false:=by
    cases q:l ks
    ·rfl
    rw [dy hc hE q] at hl;cases hl
   refine ⟨_,rfl,?_,?_,fun _=>⟨w.heap.size,hsz,if_pos rfl,?_⟩⟩
   ·exact hB.alloc hsz _
   ·intro i n1 n2 hi
    rw [hko i n1] at hi
    have:eA vals k (.pointer (some ⟨w.heap.size,0,none⟩)) i=vals i:=if_neg n1
    rw [this]
    exact Val.dR (hp i n1 n2) (hv i n1 n2 hi)
   rw [hko ks (fun e=>hne e.symm),hls]
   exact aH.new w xs Tn
  rw [if_neg e1] at h1
  by_cases e2:k=ks
  ·rw [if_pos e2] at h1
   subst e2
   obtain ⟨hh,hh1,hh2,hh3⟩:=hn (gB ho hdep hE)
   rw [hl] at hh3
   obtain ⟨hw,hwp⟩:=h1 a w hh hh1 hh3 (fun t ht=>by
    have:=hr t ht
    unfold rd at this
    unfold nK
    split
    ·rename_i e he
     rw [he] at this
     have h2:=List.find?_some he
     rw [Bool.and_eq_true] at h2
     split
     ·rename_i q
      replace this:a.tmps[t]?=some (vals e.on):=this
      rw [q,hh2] at this
      exact this
     split
     ·trivial
     rename_i n1 n2
     exact ⟨_,this,hv _ n1 n2 (hdep e (Array.mem_toList_iff.1 (List.mem_of_find?_eq_some he)) h2.1)⟩
    rename_i he
    rw [he] at this
    exact this)
   rw [if_pos hw]
   refine Oper.wp_mono ?_ hwp
   rintro a' w' ⟨⟨v,e⟩,h2,h3⟩
   refine ⟨v,e,?_,?_,fun _=>⟨hh,hh1,?_,?_⟩⟩
   ·exact hB.trans h3
   ·intro i n1 n2 hi
    rw [hko i n2] at hi
    have:eA vals k v i=vals i:=if_neg n2
    rw [this]
    exact Val.dR (hp i n1 n2) (hv i n1 n2 hi)
   ·have:eA vals k v ka=vals ka:=if_neg hne
    rw [this];exact hh2
   rw [hkk];exact h2
  rw [if_neg e2] at h1
  have rest:∀ (v:Value) (w':World),(tbl T k).ok v w'→Below w.heap.size w w'→tI T w1 ka ks Tn xs ys (upd l k) (eA vals k v) w':=by
   intro v w' h2 h3
   refine ⟨hB.trans (h3.mono hsz),?_,?_⟩
   ·intro i n1 n2 hi
    by_cases hik:i=k
    ·subst hik
     have:eA vals i v i=v:=if_pos rfl
     rw [this];exact h2
    rw [hko i hik] at hi
    have:eA vals k v i=vals i:=if_neg hik
    rw [this]
    exact Val.dR (hp i n1 n2) (hv i n1 n2 hi)
   intro hi
   rw [hko ka (fun e=>e1 e.symm)] at hi
   obtain ⟨hh,hh1,hh2,hh3⟩:=hn hi
   refine ⟨hh,hh1,?_,?_⟩
   ·have:eA vals k v ka=vals ka:=if_neg (fun e=>e1 e.symm)
    rw [this];exact hh2
   rw [hko ks (fun e=>e2 e.symm)]
   exact hh3.keep h3
  have hd:=h1 a w hB hQ
  unfold Does at hd
  split
  ·rename_i hw
   rw [if_pos hw] at hd
   refine Oper.wp_mono ?_ hd
   rintro a' w' ⟨v,e,h2,h3⟩
   exact ⟨v,e,rest v w' h2 h3⟩
  rename_i hw
  rw [if_neg hw] at hd
  exact rest undef w hd (uk _ _)
theorem tG {id:Nat} {ops:Array Oper} {a0:Act} {w:World} (ka ks:Nat) (Tn:TypeId) (xs ys:Array Value) (T:List Val)
  (hm:P.follows .mixedOrders=true) (hok:dz .any ops a0.tmps.size=true) (hC:(jR ops ka ks && decide (ka<ops.size) && decide (ks<ops.size))=true)
  (hp:∀ j,j≠ka→j≠ks→(tbl T j).pure=true) (hne:ka≠ks)
  (hR:pf P Q ops a0 T w ka ks Tn xs ys ops.toList 0)
  (hF:∀ (vals:Nat→Value) (w':World) (h:Nat),w.heap.size≤h→aH w' h Tn ys→vals ka=.pointer (some ⟨h,0,none⟩)→Below w.heap.size w w'→(∀ i,i<ops.size→i≠ka→i≠ks→(tbl T i).ok (vals i) w')→Q .normal (fill (fun _=>true) vals ops.toList 0 a0) w'):(Code.region id ops true).wp P Q a0 w:=by
 rw [Bool.and_eq_true,Bool.and_eq_true,decide_eq_true_eq,decide_eq_true_eq] at hC
 obtain ⟨⟨hE,ha⟩,hs⟩:=hC
 refine kQ (tI T w ka ks Tn xs ys) hm hok (fun vals=>⟨?_,(fun _ _ _ h=>absurd h (by simp)),(fun h=>absurd h (by simp))⟩) (rH hp hne hE ops.toList 0 (fun i=>by rw [Nat.zero_add];exact Array.getElem?_toList) hR) ?_
 ·exact (uk _ w).drew
 intro l vals w' hl hI
 obtain ⟨h1,h2,h3⟩:=hI
 obtain ⟨h,q1,q2,q3⟩:=h3 (hl ka ha)
 rw [hl ks hs,if_pos rfl] at q3
 exact hF vals w' h q1 q3 q2 h1 (fun i hi n1 n2=>h2 i n1 n2 (hl i hi))
end Rg
end
end Go.Proofs.YtgfkcoablfjbcaaGreatDoor
