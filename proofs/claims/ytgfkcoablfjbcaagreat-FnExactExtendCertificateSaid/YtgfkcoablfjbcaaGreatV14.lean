/-
  Joined texts: contracts and plain lemmas.
-/
import Derived.Test.YtgfkcoablfjbcaaGreatV1
import Derived.Test.YtgfkcoablfjbcaaGreatV13
import Derived.Test.YtgfkcoablfjbcaaGreatV9
import Derived.Test.YtgfkcoablfjbcaaGreatV4
set_option linter.unusedSimpArgs false
set_option linter.unusedVariables false
set_option maxRecDepth 100000
set_option maxHeartbeats 8000000
namespace Go.Proofs.YtgfkcoablfjbcaaGreat
section
open Go.RowKit
abbrev Pt:=Int × Int × Int
def dN (W:World) (v:Value) (l:List Pt):Prop:=∃ (a:Option Addr) (cap:Nat),v=.slice a l.length cap∧(l=[]∨∃ g,a=some ⟨g,0,none⟩∧eV W g l)
theorem dN.below {w w':World} {v:Value} {l:List Pt} (h:dN w v l) (hb:Below w.heap.size w w'):dN w' v l:=by
 obtain ⟨a,cap,e,h⟩:=h;refine ⟨a,cap,e,?_⟩
 rcases h with h | ⟨g,e,h⟩
 ·exact Or.inl h
 exact Or.inr ⟨g,e,h.below hb⟩
def sS (g:Nat) (lb:Array Value) (p:Pt→Bool) (xs:List Pt) (w:World):Prop:=
 ∀ (x:Pt) (_:x ∈ xs) (W:World),Below w.heap.size w W→Calls Tryz.prog g (#[.agg #[.int .i64 x.1,.int .i64 x.2.1,.int .i64 x.2.2]] ++ lb) W fun e W'=>e=.returned (.bool (p x))∧Below W.heap.size W W'
theorem sY {p:Pt→Bool} {xs:List Pt} {k:Nat} {x:Pt} (hx:xs[k]?=some x) (h:(xs.take k).any p=false) (h':p x=false):(xs.take (k+1)).any p=false:=by
 rw [List.take_add_one,hx,List.any_append,h]
 simpa using h'
theorem wg {p:Pt→Bool} {xs:List Pt} {k:Nat} {x:Pt} (hx:xs[k]?=some x) (h':p x=true):xs.any p=true:=
 List.any_eq_true.2 ⟨x,List.mem_of_getElem? hx,h'⟩
theorem pP (g:Nat) (lb:Array Value) (eg:∀ args w,(callFunc g args).run Tryz.prog w=.ok (.enter g args) w) (p:Pt→Bool) (v:Value) (xs:List Pt) (w:World) (hx:dN w v xs) (hn:xs.length≤4) (hp:sS g lb p xs w) :
  Calls Tryz.prog 74 #[v,.func (.func g) #[] lb] w fun e w'=>∃ r:Int,e=.returned (.int .i64 r)∧(decide (0≤r)=xs.any p∧-1≤r∧r≤4)∧Below w.heap.size w w':=by
 obtain ⟨a,cap,rfl,hv⟩:=hx;have hv:=yJ hv;have hp:=yJ hp
 obtain ⟨N,hN⟩:∃ N,Hid (xs.length=N):=⟨_,yJ rfl⟩
 rw [hN.out] at hn ⊢;go_enter Tryz.func74,Tryz.ntmps74
 go_wp2
 go_loopw [5,8] (fun _ vi wr=>∃ k:Nat,k≤N∧vi=.int .i64 k∧Hid ((xs.take k).any p=false)∧Below w.heap.size w wr) (fun _ vi _=>N - (intOf vi).toNat)
 case atStart=>exact ⟨0,by omega,rfl,yJ rfl,yM _ _⟩
 case round=>
 obtain ⟨k,hk,rfl,hall,hbr⟩:=hrel
 by_cases hlt:k<N
 ·obtain ⟨x,hx⟩:∃ x,xs[k]?=some x:=⟨_,List.getElem?_eq_getElem (by have:=hN.out;omega)⟩
  obtain ⟨b,rfl,hpt⟩:∃ b,a=some ⟨b,0,none⟩∧eV w b xs:=by
   rcases hv.out with h | h
   ·rw [h] at hx;cases hx
   exact h
  obtain ⟨d0,d1,d2⟩:=(hpt.below hbr) k x hx;have hcall:=hp.out x (List.mem_of_getElem? hx) wr hbr
  cases hq:p x
  ·rw [hq] at hcall
   have hcall:=yJ hcall;have hnx:=yJ (sY hx hall.out hq);clear hx hq hpt;obtain ⟨x1,x2,x3⟩:=x;simp only [] at d0 d1 d2 hcall
   go_wp2_with (go_at_fn g;refine (hcall.out).mono ?_;rintro e w2 ⟨rfl,hb2⟩)
   go_roundw
   case rel=>exact ⟨k+1,by omega,by go_num,hnx,aS hbr hb2⟩
   case measure=>simp [intOf];omega
  rw [hq] at hcall;have hcall:=yJ hcall;have hf:=yJ (wg hx hq);clear hx hq hpt;obtain ⟨x1,x2,x3⟩:=x;simp only [] at d0 d1 d2 hcall
  go_wp2_with (go_at_fn g;refine (hcall.out).mono ?_;rintro e w2 ⟨rfl,hb2⟩)
  go_ret;exact ⟨_,rfl,⟨by rw [hf.out];exact decide_eq_true (by omega),by omega,by omega⟩,aS hbr hb2⟩
 obtain rfl:k=N:=by omega
 have An:=hall;rw [←hN.out,List.take_length] at An;go_wp2;go_ret;exact ⟨_,rfl,⟨by rw [An.out];rfl,by omega,by omega⟩,hbr⟩
theorem km (g:Nat) (lb:Array Value) (eg:∀ args w,(callFunc g args).run Tryz.prog w=.ok (.enter g args) w) (p:Pt→Bool) (v:Value) (xs:List Pt) (w:World) (hx:dN w v xs) (hn:xs.length≤4) (hp:sS g lb p xs w) :
  Calls Tryz.prog 55 #[v,.func (.func g) #[] lb] w fun e w'=>e=.returned (.bool (xs.any p))∧Below w.heap.size w w':=by
 have P:=yJ (pP g lb eg p v xs w hx hn hp);generalize xs.any p=t at *;clear hx hp;go_enter Tryz.func55,Tryz.ntmps55
 go_wp2_with (go_at_call 74;refine P.out.mono ?_;rintro e w2 ⟨r,rfl,⟨h1,h2,h3⟩,hb2⟩)
 go_ret;exact ⟨by rw [←h1];simp,hb2⟩
theorem pE (a b X Y E:Int) (cb:Nat) (w:World) (C:aH w cb 29 #[.int .i64 a,.int .i64 b]) :
  Calls Tryz.prog 56 #[.agg #[.int .i64 X,.int .i64 Y,.int .i64 E],.pointer (some ⟨cb,0,none⟩)] w fun e w'=>e=.returned (.bool (!(M.good a b && M.bV a b X Y E)))∧Below w.heap.size w w':=by
 have PP:=yJ fun W=>rJ a b X Y E W
 generalize (M.good a b && M.bV a b X Y E)=t at *;have B:=(yM w.heap.size w).alloc (yN _) (.cells #[.int .i64 X,.int .i64 Y,.int .i64 E] 57);have C2:=C.alloc (.cells #[.int .i64 X,.int .i64 Y,.int .i64 E] 57);have Q:=aH.new w #[.int .i64 X,.int .i64 Y,.int .i64 E] 57;generalize hw3:w.alloc (.cells #[.int .i64 X,.int .i64 Y,.int .i64 E] 57)=wc at *;have j_:=C2.box.c0;have o_:=C2.box.c1;have ⟨q0,q1,q2⟩:=Q.aQ;go_enter Tryz.func56,Tryz.ntmps56
 go_wp2_with (go_at_call 57;(with_reducible refine (PP.out _).mono ?_);rintro e w4 ⟨rfl,hb4⟩)
 go_ret;exact ⟨rfl,i_ B hb4⟩
namespace M
noncomputable def cJ (a b:Int) (l:List Pt):Bool:=good a b && ins l.length 1 4 && l.all (fun p=>bV a b p.1 p.2.1 p.2.2)
theorem rY {a b:Int} {l:List Pt} (h:good a b=false):cJ a b l=false:=by unfold cJ;rw [h];rfl
theorem rX {a b:Int} {l:List Pt} (hg:good a b=true):(!l.any (fun x=>!(good a b && bV a b x.1 x.2.1 x.2.2)))=l.all (fun p=>bV a b p.1 p.2.1 p.2.2):=by
 rw [hg,List.not_any_eq_all_not]
 congr 1
 funext x
 simp
end M
theorem iy (a b:Int) (v:Value) (l:List Pt) (w:World) (hx:dN w v l) (hn:l.length≤4000000) :
  Calls Tryz.prog 34 #[.agg #[.int .i64 a,.int .i64 b],v] w fun e w'=>e=.returned (.bool (M.cJ a b l))∧Below w.heap.size w w':=by
 have PC:=yJ fun W=>lH a b W
 obtain ⟨sa,cap,rfl,hv⟩:=hx;have hx:=yJ (show dN w (.slice sa l.length cap) l from ⟨sa,cap,rfl,hv⟩);clear hv
 have PF:=yJ fun W (h:dN W (.slice sa l.length cap) l) (hn:l.length≤4) (C:aH W w.heap.size 29 #[.int .i64 a,.int .i64 b])=>km 56 #[.pointer (some ⟨w.heap.size,0,none⟩)] (fun _ _=>rfl) (fun x=>!(M.good a b && M.bV a b x.1 x.2.1 x.2.2)) (.slice sa l.length cap) l W h hn (fun x _ W' hb=>pE a b x.1 x.2.1 x.2.2 w.heap.size W' (C.keep hb))
 have PI:=yJ fun W=>dJ l.length 1 4 W
 have hpl:=yJ (show M.cJ a b l=(M.good a b && M.ins l.length 1 4 && l.all (fun p=>M.bV a b p.1 p.2.1 p.2.2)) from rfl)
 have han:=yJ fun h=>M.rX (a:=a) (b:=b) (l:=l) h
 have hbd:M.ins l.length 1 4=true→l.length≤4:=fun h=>by
  unfold M.ins at h;simp only [Bool.and_eq_true,decide_eq_true_eq] at h;omega
 have hbd:=yJ hbd;have B:=(yM w.heap.size w).alloc (yN _) (.cells #[.int .i64 a,.int .i64 b] 29);have C:=aH.new w #[.int .i64 a,.int .i64 b] 29;replace hx:=yJ (hx.out.below B);generalize hw3:w.alloc (.cells #[.int .i64 a,.int .i64 b] 29)=wc at *;have j_:=C.box.c0;have o_:=C.box.c1
 cases hg:M.good a b
 ·have hfin:=yJ (M.rY (l:=l) hg)
  rw [hg] at PC;clear hpl han hg;generalize l.length=N,M.cJ a b l=pl at *;go_enter Tryz.func34,Tryz.ntmps34
  go_wp2_with (go_at_call 54;(with_reducible refine (PC.out _).mono ?_);rintro e w4 ⟨rfl,hb4⟩;replace B:=i_ B hb4)
  go_ret;exact ⟨by rw [hfin.out];rfl,B⟩
 cases hi:M.ins l.length 1 4
 ·have hfin:=yJ (show M.cJ a b l=false by rw [hpl.out,hi,Bool.and_false];rfl)
  rw [hg] at PC;rw [hi] at PI;clear hpl han hg hi hbd PF hx;generalize l.length=N,M.cJ a b l=pl at *;go_enter Tryz.func34,Tryz.ntmps34
  go_wp2_with first | (go_at_call 54;(with_reducible refine (PC.out _).mono ?_);rintro e w4 ⟨rfl,hb4⟩;replace B:=i_ B hb4) | (go_at_call 48;(with_reducible refine (PI.out _).mono ?_);rintro e w5 ⟨rfl,rfl⟩)
  go_ret;exact ⟨by rw [hfin.out];rfl,B⟩
 have hfin:=yJ (show M.cJ a b l=!l.any (fun x=>!(M.good a b && M.bV a b x.1 x.2.1 x.2.2)) by rw [han.out hg,hpl.out,hi,hg];rfl);have DH:=yJ (hbd.out hi);rw [hg] at PC;rw [hi] at PI
 replace PF:=yJ fun W h=>PF.out W h DH.out
 clear hpl han hg hi hbd;generalize l.length=N,M.cJ a b l=pl,l.any (fun x=>!(M.good a b && M.bV a b x.1 x.2.1 x.2.2))=t at *;go_enter Tryz.func34,Tryz.ntmps34
 go_wp2_with first | (go_at_call 54;(with_reducible refine (PC.out _).mono ?_);rintro e w4 ⟨rfl,hb4⟩;replace B:=i_ B hb4;replace C:=C.keep hb4;replace hx:=yJ (hx.out.below hb4)) | (go_at_call 48;(with_reducible refine (PI.out _).mono ?_);rintro e w5 ⟨rfl,rfl⟩) | (go_at_call 55;(refine (PF.out _ hx.out C).mono ?_);rintro e w6 ⟨rfl,hb6⟩;replace B:=i_ B hb6)
 go_ret;exact ⟨by rw [hfin.out];rfl,B⟩
theorem tS (a b:Int) (v:Value) (l:List Pt) (w:World) (hx:dN w v l) (hn:l.length≤4000000) :
  Calls Tryz.prog 32 #[.agg #[.int .i64 a,.int .i64 b],v] w fun e w'=>e=.returned (.bool (M.cJ a b l))∧Below w.heap.size w w':=by
 have PC:=yJ fun W=>nV a b W
 obtain ⟨sa,cap,rfl,hv⟩:=hx;have hv:=yJ hv
 have PI:=yJ fun W=>df l.length 1 4 W
 have hpl:=yJ (show M.cJ a b l=(M.good a b && M.ins l.length 1 4 && l.all (fun p=>M.bV a b p.1 p.2.1 p.2.2)) from rfl);have B:=(yM w.heap.size w).alloc (yN _) (.cells #[.int .i64 a,.int .i64 b] 29);have C:=aH.new w #[.int .i64 a,.int .i64 b] 29;generalize hw3:w.alloc (.cells #[.int .i64 a,.int .i64 b] 29)=wc at *
 obtain ⟨N,hN⟩:∃ N,Hid (l.length=N):=⟨_,yJ rfl⟩
 rw [hN.out] at hn PI hpl ⊢;go_enter Tryz.func32,Tryz.ntmps32
 go_wp2
 go_loopw [9] (fun vi wr=>∃ k:Nat,k≤N∧vi=.int .i64 k∧Hid ((l.take k).all (fun p=>M.good a b && M.bV a b p.1 p.2.1 p.2.2)=true)∧aH wr w.heap.size 29 #[.int .i64 a,.int .i64 b]∧Below w.heap.size w wr) (fun vi _=>N - (intOf vi).toNat)
 case atStart=>exact ⟨0,Nat.zero_le _,rfl,yJ rfl,C,B⟩
 case round=>
 clear C B hw3;obtain ⟨k,hk,rfl,hall,C,B⟩:=hrel
 by_cases hlt:k<N
 ·obtain ⟨x,hx⟩:∃ x,l[k]?=some x:=⟨_,List.getElem?_eq_getElem (by have:=hN.out;omega)⟩
  obtain ⟨g,rfl,hpt⟩:∃ g,sa=some ⟨g,0,none⟩∧eV w g l:=by
   rcases hv.out with h | h
   ·rw [h] at hx;cases hx
   exact h
  obtain ⟨d0,d1,d2⟩:=(hpt.below B) k x hx
  have PP:=fun W=>nE a b x.1 x.2.1 x.2.2 W
  have hmem:=List.mem_of_getElem? hx
  have hnx:(M.good a b && M.bV a b x.1 x.2.1 x.2.2)=true→(l.take (k+1)).all (fun p=>M.good a b && M.bV a b p.1 p.2.1 p.2.2)=true:=fun h=>by
   rw [List.take_add_one,hx,List.all_append,hall.out]
   simpa using h
  have hbad:(M.good a b && M.bV a b x.1 x.2.1 x.2.2)=false→M.cJ a b l=false:=fun h=>by
   cases hp:M.cJ a b l
   ·rfl
   rw [hpl.out] at hp;simp only [Bool.and_eq_true,List.all_eq_true] at hp;have:=hp.2 x hmem;rw [hp.1.1,this] at h;cases h
  generalize (M.good a b && M.bV a b x.1 x.2.1 x.2.2)=t at *;obtain ⟨x1,x2,x3⟩:=x;simp only [] at d0 d1 d2 PP;clear hx hmem hpt;replace PP:=yJ PP;replace hnx:=yJ hnx;replace hbad:=yJ hbad;replace B:=B.alloc B.size (.cells #[.int .i64 x1,.int .i64 x2,.int .i64 x3] 57);have Z:=aH.new wr #[.int .i64 x1,.int .i64 x2,.int .i64 x3] 57;replace C:=C.alloc (.cells #[.int .i64 x1,.int .i64 x2,.int .i64 x3] 57);have j_:=C.box.c0;have o_:=C.box.c1;have ⟨z0,z1,z2⟩:=Z.aQ;cases t
  ·have hfin:=yJ (hbad.out rfl)
   go_wp2_with (go_at_call 50;(with_reducible refine (PP.out _).mono ?_);rintro e w4 ⟨rfl,hb4⟩;replace B:=i_ B hb4)
   go_ret;exact ⟨by rw [hfin.out];rfl,B⟩
  have hny:=yJ (hnx.out rfl);clear hnx
  go_wp2_with (go_at_call 50;(with_reducible refine (PP.out _).mono ?_);rintro e w4 ⟨rfl,hb4⟩;replace B:=i_ B hb4;replace C:=C.keep hb4)
  go_roundw
  case rel=>exact ⟨k+1,by omega,by simp,hny,C,B⟩
  case measure=>simp [intOf] <;> omega
 obtain rfl:k=N:=by omega
 have e0:l.take k=l:=by rw [←hN.out];exact List.take_length
 rw [e0] at hall
 have hfin:M.cJ a b l=(M.good a b && M.ins (k:Int) 1 4):=by
  rw [hpl.out]
  cases hg:M.good a b
  ·rfl
  have:=hall.out;rw [hg] at this;simp only [Bool.true_and] at this;rw [this,Bool.and_true]
 have hfin:=yJ hfin;clear hpl hall;have j_:=C.box.c0;have o_:=C.box.c1;generalize M.good a b=gd at *;generalize M.ins (k:Int) 1 4=ii at *;cases gd
 all_goals
  go_wp2_with first | (go_at_call 51;(with_reducible refine (PC.out _).mono ?_);rintro e w4 ⟨rfl,hb4⟩;replace B:=i_ B hb4) | (go_at_call 47;(with_reducible refine (PI.out _).mono ?_);rintro e w5 ⟨rfl,rfl⟩)
  go_ret;exact ⟨by rw [hfin.out];rfl,B⟩
theorem Rw.mV {α:Type} {E:Rw.Enc α} {v:Value} {w:World} {base:Nat} {xs:List α} (h:Rw.Own E w base v xs):v.oneCell'=true:=by
 rcases h.2 with ⟨rfl,-⟩ | ⟨g,cap,cur,rfl,-⟩ <;> rfl
def EN:Rw.Enc (Int × Int × Int × Int) where
 t:=64
 k:=4
 cells:=fun q=>[.int .i64 q.1,.int .i64 q.2.1,.int .i64 q.2.2.1,.int .i64 q.2.2.2]
 len:=fun _=>rfl
 one:=fun x u hu=>by simp only [List.mem_cons,List.not_mem_nil,or_false] at hu;rcases hu with rfl | rfl | rfl | rfl <;> rfl
 pos:=by decide
theorem xv:(Tryz.prog.info? 64).map (fun i=>(i.zero,i.size,i.bytes))=some (some (.agg #[.int .i64 0,.int .i64 0,.int .i64 0,.int .i64 0]),4,32):=by kernel_rfl
theorem nZ:Rw.Fits Tryz.prog EN 100:=⟨Tryz.underlying100,by
 obtain ⟨i0,hi,hz0,hz1,hz2⟩:=info_parts xv
 exact ⟨i0,_,hi,hz0,hz1,by omega,rfl⟩⟩
theorem tX:(Tryz.prog.info? 100).map (fun i=>(i.zero,i.size,i.bytes))=some (some (.slice none 0 0),1,24):=by kernel_rfl
theorem neN:(100:TypeId)≠64:=by decide
def bs (w:World) (base:Nat) (v:Value) (vs:List Value) (rows:List (List (Int × Int × Int × Int))):Prop:=
 w.ownsRow base 100 1 v rows.length vs∧vs.length=rows.length∧(∀ (i:Nat) (u:Value) (r:List (Int × Int × Int × Int)),vs[i]?=some u→rows[i]?=some r→Rw.Own EN w base u r)∧
  vs.Pairwise (fun u u'=>∀ g,u.ownBlock=some g→u'.ownBlock≠some g)
theorem bs.nil (w:World) (base:Nat):bs w base (.slice none 0 0) [] []:=⟨World.ownsRow_nil w base _ 1,rfl,fun i u r h=>by simp at h,List.Pairwise.nil⟩
theorem bs.base {w:World} {base base':Nat} {v:Value} {vs:List Value} {rows:List (List (Int × Int × Int × Int))} (h:bs w base v vs rows) (hb:base'≤base):bs w base' v vs rows:=by
 obtain ⟨h1,h2,h3,h4⟩:=h;refine ⟨?_,h2,fun i u r hu hr=>(h3 i u r hu hr).down hb,h4⟩;obtain ⟨a1,a2⟩:=h1;refine ⟨a1,?_⟩
 rcases a2 with a2 | ⟨g,cap,cur,hv,hg,hh,r⟩
 ·exact Or.inl a2
 exact Or.inr ⟨g,cap,cur,hv,Nat.le_trans hb hg,hh,r⟩
theorem bs.below {w w':World} {base:Nat} {v:Value} {vs:List Value} {rows:List (List (Int × Int × Int × Int))} (h:bs w base v vs rows) (hb:Below w.heap.size w w'):bs w' base v vs rows:=by
 obtain ⟨h1,h2,h3,h4⟩:=h;exact ⟨World.ownsRow.kept h1 (cF hb none) (by cases v.ownBlock <;> simp),h2,fun i u r hu hr=>(h3 i u r hu hr).below hb,h4⟩
theorem bs.alloc {w:World} {base:Nat} {v:Value} {vs:List Value} {rows:List (List (Int × Int × Int × Int))} (h:bs w base v vs rows) (o:Obj):bs (w.alloc o) base v vs rows:=
 h.below ((yM _ _).alloc (yN _) _)
theorem bs.lt {w:World} {base:Nat} {v:Value} {vs:List Value} {rows:List (List (Int × Int × Int × Int))} (h:bs w base v vs rows):∀ z ∈ vs,∀ g,z.ownBlock=some g→base≤g∧g<w.heap.size:=by
 obtain ⟨h1,h2,h3,h4⟩:=h;intro z hz g hg;obtain ⟨i,hi⟩:=List.getElem?_of_mem hz;have hil:=(List.getElem?_eq_some_iff.1 hi).1;exact World.ownsRow.lt (h3 i z _ hi (List.getElem?_eq_getElem (by omega))) g hg
theorem ri {ops:Array Oper} {rest:List Oper} {o:Oper} {a:Act} {Q:Exit→Act→World→Prop} {w W:World} (base:Nat) (u:Value) (r:List (Int × Int × Int × Int)) (vs:List Value) (rows:List (List (Int × Int × Int × Int))) (v:Value) (H:Nat) (hH:w.heap.size=H) (hgd:o.guard=none) (s x:Operand)
  (ho:o.op=.call { callee:=.builtin .append,args:=#[s,x],argTypes:=#[83,83] }) (hs:a.eval s=v) (hx:a.eval x=.slice (some ⟨H,0,none⟩) 1 1)
  (hown:bs w base v vs rows) (hu:Rw.Own EN w base u r) (hnew:∀ g,u.ownBlock=some g→∀ z ∈ vs,z.ownBlock≠some g)
  (hW:Below base W w) (hB:base≤w.heap.size) (hl:rows.length≤1000000000)
  (h:∀ v' w',bs w' base v' (vs ++ [u]) (rows ++ [r])→Below base W w'→wpList Tryz.prog ops Q rest (a.put o.dst v') w') :
  wpList Tryz.prog ops Q (o :: rest) a (w.alloc (.cells #[u] 100)):=by
 subst hH;obtain ⟨i0,hi,hz0,hz1,hz2⟩:=info_parts tX;obtain ⟨h1,h2,h3,h4⟩:=hown
 refine wpList_append_own _ hgd s x 83 ho base 100 i0 (.slice none 0 0) 1 24 Tryz.underlying83 hi hz0 hz1 hz2 rfl (by decide) v rows.length vs hs (h1.alloc _) ⟨w.heap.size,0,none⟩ 1 1 [u] hx rfl (fun j z hz=>by
  have hadd:(⟨w.heap.size,0,none⟩:Addr).add j=⟨w.heap.size,j,none⟩:=by unfold Addr.add;split <;> simp_all
  rw [hadd,World.cell?_alloc_at _ _ _ _ rfl]
  simpa using hz) (fun z hz=>by simp only [List.mem_singleton] at hz;subst hz;exact Rw.mV hu) ?_ ?_ ?_ ?_
 ·unfold maxLen;omega
 ·omega
 ·simp;omega
 intro v' w' k1 k2 _;refine h v' w' ⟨by rw [List.length_append];exact k1,by rw [List.length_append,List.length_append,h2];rfl,?_,?_⟩ ((hW.alloc hB _).grown k2 (by simp;omega) fun k hk=>(h1.lt k hk).1)
 ·have hal:∀ {z:Value} {q:List (Int × Int × Int × Int)},Rw.Own EN w base z q→Rw.Own EN w' base z q:=by
   intro z q hz;have hz':Rw.Own EN (w.alloc (.cells #[u] 100)) base z q:=World.ownsRow.alloc hz _
   refine hz'.kept k2 fun g hg=>?_
   exact gK (t1:=64) (t2:=100) hz' (World.ownsRow.alloc h1 _) (Ne.symm neN) g hg
  intro i z q hz hq
  by_cases hlt:i<vs.length
  ·rw [List.getElem?_append_left hlt] at hz
   rw [List.getElem?_append_left (by omega)] at hq;exact hal (h3 i z q hz hq)
  rw [List.getElem?_append_right (by omega)] at hz;rw [List.getElem?_append_right (by omega),←h2] at hq
  have hi0:i - vs.length=0:=by
   rcases Nat.eq_zero_or_pos (i - vs.length) with e | e
   ·exact e
   rw [List.getElem?_eq_none (by simp;omega)] at hz;cases hz
  rw [hi0] at hz hq;simp only [List.getElem?_cons_zero,Option.some.injEq] at hz hq;subst hz hq;exact hal hu
 rw [List.pairwise_append];refine ⟨h4,by simp,fun z hz z' hz' g hg hg'=>?_⟩;simp only [List.mem_singleton] at hz';subst hz';exact hnew g hg' z hz hg
theorem bs.view {w:World} {base:Nat} {v:Value} {vs:List Value} {rows:List (List (Int × Int × Int × Int))} (h:bs w base v vs rows):∃ (a:Option Addr) (cap:Nat),v=.slice a rows.length cap∧(rows.length:Int)≤9223372036854775807∧
  ∀ k,k<rows.length→∃ g u r,a=some ⟨g,0,none⟩∧g<w.heap.size∧Hid (rows[k]?=some r)∧Hid (vs[k]?=some u)∧w.cell? ⟨g,k,none⟩=some u∧Rw.Own EN w base u r:=by
 obtain ⟨⟨h1,h2⟩,h3,h4,h5⟩:=h
 rcases h2 with ⟨rfl,hn⟩ | ⟨g,cap,cur,rfl,hg,hh,hc,hm,hs,ht⟩
 ·exact ⟨none,0,by rw [hn],by omega,fun k hk=>by omega⟩
 refine ⟨some ⟨g,0,none⟩,cap,rfl,by unfold maxLen at hm;omega,fun k hk=>⟨g,vs[k]'(by omega),rows[k],rfl,(Array.getElem?_eq_some_iff.1 hh).1,List.getElem?_eq_getElem hk,List.getElem?_eq_getElem (by omega),?_,h4 k _ _ (List.getElem?_eq_getElem (by omega)) (List.getElem?_eq_getElem hk)⟩⟩;rw [cell_of_row w g k cur _ (0,0) hh];have e:vs[k]?=some (vs[k]'(by omega)):=List.getElem?_eq_getElem (by omega);generalize vs[k]'(by omega)=q at e ⊢;rw [←ht,List.getElem?_take] at e
 split at e
 ·simpa using e
 cases e
def EP:Rw.Enc (Int × Int) where
 t:=68
 k:=2
 cells:=fun q=>[.int .i64 q.1,.int .i64 q.2]
 len:=fun _=>rfl
 one:=fun x u hu=>by simp only [List.mem_cons,List.not_mem_nil,or_false] at hu;rcases hu with rfl | rfl <;> rfl
 pos:=by decide
theorem tY:(Tryz.prog.info? 68).map (fun i=>(i.zero,i.size,i.bytes))=some (some (.agg #[.int .i64 0,.int .i64 0]),2,16):=by kernel_rfl
theorem wF:Rw.Fits Tryz.prog EP 110:=⟨Tryz.underlying110,by
 obtain ⟨i0,hi,hz0,hz1,hz2⟩:=info_parts tY
 exact ⟨i0,_,hi,hz0,hz1,by omega,rfl⟩⟩
theorem tZ:(Tryz.prog.info? 110).map (fun i=>(i.zero,i.size,i.bytes))=some (some (.slice none 0 0),1,24):=by kernel_rfl
theorem neP:(110:TypeId)≠68:=by decide
def bX (w:World) (base:Nat) (v:Value) (vs:List Value) (rows:List (List (Int × Int))):Prop:=
 w.ownsRow base 110 1 v rows.length vs∧vs.length=rows.length∧(∀ (i:Nat) (u:Value) (r:List (Int × Int)),vs[i]?=some u→rows[i]?=some r→Rw.Own EP w base u r)∧
  vs.Pairwise (fun u u'=>∀ g,u.ownBlock=some g→u'.ownBlock≠some g)
theorem bX.nil (w:World) (base:Nat):bX w base (.slice none 0 0) [] []:=⟨World.ownsRow_nil w base _ 1,rfl,fun i u r h=>by simp at h,List.Pairwise.nil⟩
theorem bX.base {w:World} {base base':Nat} {v:Value} {vs:List Value} {rows:List (List (Int × Int))} (h:bX w base v vs rows) (hb:base'≤base):bX w base' v vs rows:=by
 obtain ⟨h1,h2,h3,h4⟩:=h;refine ⟨?_,h2,fun i u r hu hr=>(h3 i u r hu hr).down hb,h4⟩;obtain ⟨a1,a2⟩:=h1;refine ⟨a1,?_⟩
 rcases a2 with a2 | ⟨g,cap,cur,hv,hg,hh,r⟩
 ·exact Or.inl a2
 exact Or.inr ⟨g,cap,cur,hv,Nat.le_trans hb hg,hh,r⟩
theorem bX.below {w w':World} {base:Nat} {v:Value} {vs:List Value} {rows:List (List (Int × Int))} (h:bX w base v vs rows) (hb:Below w.heap.size w w'):bX w' base v vs rows:=by
 obtain ⟨h1,h2,h3,h4⟩:=h;exact ⟨World.ownsRow.kept h1 (cF hb none) (by cases v.ownBlock <;> simp),h2,fun i u r hu hr=>(h3 i u r hu hr).below hb,h4⟩
theorem bX.alloc {w:World} {base:Nat} {v:Value} {vs:List Value} {rows:List (List (Int × Int))} (h:bX w base v vs rows) (o:Obj):bX (w.alloc o) base v vs rows:=
 h.below ((yM _ _).alloc (yN _) _)
theorem bX.lt {w:World} {base:Nat} {v:Value} {vs:List Value} {rows:List (List (Int × Int))} (h:bX w base v vs rows):∀ z ∈ vs,∀ g,z.ownBlock=some g→base≤g∧g<w.heap.size:=by
 obtain ⟨h1,h2,h3,h4⟩:=h;intro z hz g hg;obtain ⟨i,hi⟩:=List.getElem?_of_mem hz;have hil:=(List.getElem?_eq_some_iff.1 hi).1;exact World.ownsRow.lt (h3 i z _ hi (List.getElem?_eq_getElem (by omega))) g hg
theorem bX.view {w:World} {base:Nat} {v:Value} {vs:List Value} {rows:List (List (Int × Int))} (h:bX w base v vs rows):∃ (a:Option Addr) (cap:Nat),v=.slice a rows.length cap∧(rows.length:Int)≤9223372036854775807∧
  ∀ k,k<rows.length→∃ g u r,a=some ⟨g,0,none⟩∧g<w.heap.size∧Hid (rows[k]?=some r)∧Hid (vs[k]?=some u)∧w.cell? ⟨g,k,none⟩=some u∧Rw.Own EP w base u r:=by
 obtain ⟨⟨h1,h2⟩,h3,h4,h5⟩:=h
 rcases h2 with ⟨rfl,hn⟩ | ⟨g,cap,cur,rfl,hg,hh,hc,hm,hs,ht⟩
 ·exact ⟨none,0,by rw [hn],by omega,fun k hk=>by omega⟩
 refine ⟨some ⟨g,0,none⟩,cap,rfl,by unfold maxLen at hm;omega,fun k hk=>⟨g,vs[k]'(by omega),rows[k],rfl,(Array.getElem?_eq_some_iff.1 hh).1,List.getElem?_eq_getElem hk,List.getElem?_eq_getElem (by omega),?_,h4 k _ _ (List.getElem?_eq_getElem (by omega)) (List.getElem?_eq_getElem hk)⟩⟩;rw [cell_of_row w g k cur _ (0,0) hh];have e:vs[k]?=some (vs[k]'(by omega)):=List.getElem?_eq_getElem (by omega);generalize vs[k]'(by omega)=q at e ⊢;rw [←ht,List.getElem?_take] at e
 split at e
 ·simpa using e
 cases e
namespace M
noncomputable def ent (a b:Int) (l:List Pt) (i j:Nat):Sp:=match l[i]?,l[j]? with
 | some p,some q=>if i=j then ek a b p.1 p.2.2 else if i<j then dc a b p.1 p.2.1 p.2.2 q.1 q.2.1 q.2.2 else dc a b q.1 q.2.1 q.2.2 p.1 p.2.1 p.2.2
 | _,_=>none
noncomputable def Ca (s:Sp):Int × Int × Int × Int:=(zI s,zJ s,zK s,zL s)
noncomputable def Ak (a b:Int) (l:List Pt):Bool:=(List.range l.length).all fun i=>(List.range l.length).all fun j=>(ent a b l i j).isSome
noncomputable def jE (a b:Int) (l:List Pt) (i:Nat):List (Int × Int × Int × Int):=(List.range l.length).map fun j=>Ca (ent a b l i j)
noncomputable def lN (a b:Int) (l:List Pt):List (List (Int × Int × Int × Int)):=if Ak a b l=true then (List.range l.length).map (jE a b l) else []
theorem jL (a b:Int) (l:List Pt) (i j:Nat):ent a b l i j=ent a b l j i:=by
 by_cases h:i=j
 ·subst h;rfl
 unfold ent
 cases l[i]? with
 | none=>cases l[j]? <;> rfl
 | some p=>cases l[j]? with
  | none=>rfl
  | some q=>
  simp only []
  have h':¬ j=i:=fun e=>h e.symm
  simp only [h,h',if_false]
  rcases Nat.lt_or_ge i j with q1 | q1
  ·rw [if_pos q1,if_neg (by omega)]
  rw [if_neg (by omega),if_pos (by omega)]
theorem nX {a b:Int} {l:List Pt} {i:Nat} {p:Pt} (h:l[i]?=some p):ent a b l i i=ek a b p.1 p.2.2:=by
 unfold ent;rw [h];simp
theorem nW {a b:Int} {l:List Pt} {i j:Nat} {p q:Pt} (h1:l[i]?=some p) (h2:l[j]?=some q) (h:i<j):ent a b l i j=dc a b p.1 p.2.1 p.2.2 q.1 q.2.1 q.2.2:=by
 unfold ent;rw [h1,h2];simp only [];rw [if_neg (by omega),if_pos h]
theorem tn {a b:Int} {l:List Pt} {i j:Nat} (hi:i<l.length) (hj:j<l.length) (h:ent a b l i j=none):Ak a b l=false:=by
 cases hm:Ak a b l
 ·rfl
 unfold Ak at hm;simp only [List.all_eq_true,List.mem_range] at hm;have:=hm i hi j hj;rw [h] at this;cases this
theorem qR {a b:Int} {l:List Pt} (h:∀ i,i<l.length→∀ j,j<l.length→(ent a b l i j).isSome=true):Ak a b l=true:=by
 unfold Ak;simp only [List.all_eq_true,List.mem_range];exact h
theorem tq {a b:Int} {l:List Pt} (h:Ak a b l=false):lN a b l=[]:=by
 unfold lN;rw [h];rfl
theorem lO {a b:Int} {l:List Pt} (h:Ak a b l=true):lN a b l=(List.range l.length).map (jE a b l):=by
 unfold lN;rw [h];rfl
end M
def dZ (w:World) (base:Nat) (v:Value) (rows:List (List (Int × Int × Int × Int))):Prop:=∃ vs,bs w base v vs rows
theorem dZ.below {w w':World} {base:Nat} {v:Value} {rows:List (List (Int × Int × Int × Int))} (h:dZ w base v rows) (hb:Below w.heap.size w w'):dZ w' base v rows:=h.elim fun vs k=>⟨vs,k.below hb⟩
theorem dZ.base {w:World} {base base':Nat} {v:Value} {rows:List (List (Int × Int × Int × Int))} (h:dZ w base v rows) (hb:base'≤base):dZ w base' v rows:=h.elim fun vs k=>⟨vs,k.base hb⟩
theorem dZ.nil (w:World) (base:Nat):dZ w base (.slice none 0 0) []:=⟨[],bs.nil w base⟩
theorem dZ.at {w:World} {base:Nat} {v:Value} {rows:List (List (Int × Int × Int × Int))} (h:dZ w base v rows) {i j:Nat} {r:List (Int × Int × Int × Int)} {q:Int × Int × Int × Int} (hr:rows[i]?=some r) (hq:r[j]?=some q) :
  ∃ (g cap g2 cap2:Nat),v=.slice (some ⟨g,0,none⟩) rows.length cap∧w.cell? ⟨g,i,none⟩=some (.slice (some ⟨g2,0,none⟩) r.length cap2)∧w.cell? ⟨g2,j*4,none⟩=some (.int .i64 q.1)∧w.cell? ⟨g2,j*4+1,none⟩=some (.int .i64 q.2.1)∧w.cell? ⟨g2,j*4+2,none⟩=some (.int .i64 q.2.2.1)∧w.cell? ⟨g2,j*4+3,none⟩=some (.int .i64 q.2.2.2):=by
 obtain ⟨vs,h⟩:=h;obtain ⟨a,cap,rfl,-,hv⟩:=h.view;obtain ⟨g,u,r',rfl,-,h1,-,h2,h3⟩:=hv i (List.getElem?_eq_some_iff.1 hr).1
 have e:r'=r:=by
  have:=h1.out;rw [hr] at this;exact (Option.some.inj this).symm
 subst e
 rcases h3.forms with ⟨-,h4⟩ | ⟨g2,cap2,rfl,-,-,-,-⟩
 ·rw [h4] at hq;cases hq
 have hc:=fun t (ht:t<4)=>(h3.cellAt rfl (j*4+t) _ ((Rw.flat_get EN r' j t q hq ht).trans (List.getElem?_eq_getElem (by rw [EN.len];exact ht)))).1
 exact ⟨g,cap,g2,cap2,rfl,h2,hc 0 (by decide),hc 1 (by decide),hc 2 (by decide),hc 3 (by decide)⟩
theorem fU {α:Type} (f:Nat→α) (k:Nat):(List.range (k+1)).map f=(List.range k).map f ++ [f k]:=by
 rw [List.range_succ,List.map_append];rfl
theorem oJ {α:Type} (f:Nat→α) {k n:Nat} (h:k<n):((List.range n).map f)[k]?=some (f k):=by
 rw [List.getElem?_map,List.getElem?_range h];rfl
theorem pO (a b:Int) (v:Value) (l:List Pt) (w:World) (hx:dN w v l) (hg:M.good a b=true) (hn:l.length≤4) (hp:∀ p ∈ l,M.bV a b p.1 p.2.1 p.2.2=true) :
  Calls Tryz.prog 52 #[.agg #[.int .i64 a,.int .i64 b],v] w fun e w'=>∃ mv,e=.returned (.tuple #[mv,.bool (M.Ak a b l)])∧dZ w' w.heap.size mv (M.lN a b l)∧Below w.heap.size w w':=by
 have hin:=M.bM hg;obtain ⟨sa,cap,rfl,hv⟩:=hx;have hv:=yJ hv;have hp:=yJ hp
 obtain ⟨N,hN⟩:∃ N,Hid (l.length=N):=⟨_,yJ rfl⟩
 rw [hN.out] at hn ⊢
 have hno:=yJ fun i j h1 h2 h=>M.tn (a:=a) (b:=b) (l:=l) (i:=i) (j:=j) h1 h2 h
 have hrn:=yJ fun h=>M.tq (a:=a) (b:=b) (l:=l) h
 have B:=(yM w.heap.size w).alloc (yN _) (.cells #[.int .i64 a,.int .i64 b] 29);have C:=aH.new w #[.int .i64 a,.int .i64 b] 29;generalize hw3:w.alloc (.cells #[.int .i64 a,.int .i64 b] 29)=wc at *;go_enter Tryz.func52,Tryz.ntmps52
 go_wp2
 go_loopw [6,16] (fun vo vi wr=>∃ i:Nat,i≤N∧vi=.int .i64 i∧Hid (∀ i',i'<i→∀ j,j<l.length→(M.ent a b l i' j).isSome=true)∧Hid (dZ wr wc.heap.size vo ((List.range i).map (M.jE a b l)))∧Below wc.heap.size wc wr) (fun _ vi _=>N - (intOf vi).toNat)
 case atStart=>exact ⟨0,Nat.zero_le _,rfl,yJ (fun i' h=>absurd h (by omega)),yJ (dZ.nil _ _),yM _ _⟩
 case round=>
 obtain ⟨i,hi,rfl,hall,IG,Bc⟩:=hrel;have hB0:=B.size;replace B:=i_ B Bc;replace C:=C.keep Bc
 by_cases hlt:i<N
 ·obtain ⟨x,hx⟩:∃ x,l[i]?=some x:=⟨_,List.getElem?_eq_getElem (by have:=hN.out;omega)⟩
  obtain ⟨g,rfl,hpt⟩:∃ g,sa=some ⟨g,0,none⟩∧eV w g l:=by
   rcases hv.out with h | h
   ·rw [h] at hx;cases hx
   exact h
  have hpt:=yJ hpt;obtain ⟨d0,d1,d2⟩:=(hpt.out.below B) i x hx;have hpx:=hp.out x (List.mem_of_getElem? hx);have hx:=yJ hx;obtain ⟨x1,x2,x3⟩:=x;simp only [] at d0 d1 d2 hpx;have hb1:=M.ej hin hpx
  have PS:=yJ fun W=>tU a b x1 x2 x3 W hg hb1.1 hb1.2.1 hb1.2.2.1 hb1.2.2.2.1
  clear hb1;have B1:=B.alloc B.size (.cells #[.int .i64 x1,.int .i64 x2,.int .i64 x3] 57);have B1c:=Bc.alloc Bc.size (.cells #[.int .i64 x1,.int .i64 x2,.int .i64 x3] 57);have Z:=aH.new wr #[.int .i64 x1,.int .i64 x2,.int .i64 x3] 57;have C1:=C.alloc (.cells #[.int .i64 x1,.int .i64 x2,.int .i64 x3] 57);have hwi:=yK wr (.cells #[.int .i64 x1,.int .i64 x2,.int .i64 x3] 57);have hm1:=yJ (IG.out.below ((yM _ wr).alloc (yN _) (.cells #[.int .i64 x1,.int .i64 x2,.int .i64 x3] 57)));generalize hw1:wr.alloc (.cells #[.int .i64 x1,.int .i64 x2,.int .i64 x3] 57)=wi at *;go_wp2
  go_loopw [9,23] (fun vr vk wq=>∃ k:Nat,k≤N∧vk=.int .i64 k∧Hid (∀ j,j<k→(M.ent a b l i j).isSome=true)∧Hid (Rw.Own EN wq wi.heap.size vr ((List.range k).map fun j=>M.Ca (M.ent a b l i j)))∧Below wi.heap.size wi wq) (fun _ vk _=>N - (intOf vk).toNat)
  case atStart=>exact ⟨0,Nat.zero_le _,rfl,yJ (fun j h=>absurd h (by omega)),yJ (Rw.Own.nil EN _ _),yM _ _⟩
  case round=>
  clear d0 d1 d2;obtain ⟨k,hk,rfl,An,hrow,Bq⟩:=hrel;have hsz:=B.size;have AG:=Bq.size
  by_cases hlt2:k<N
  ·obtain ⟨y,hy⟩:∃ y,l[k]?=some y:=⟨_,List.getElem?_eq_getElem (by have:=hN.out;omega)⟩
   obtain ⟨d0,d1,d2⟩:=((hpt.out.below B1).below Bq) k y hy;have hpy:=hp.out y (List.mem_of_getElem? hy);obtain ⟨y1,y2,y3⟩:=y;simp only [] at d0 d1 d2 hpy;have hy:=yJ hy;have C_:=yJ (hm1.out.below Bq);have B2:=Bq.alloc Bq.size (.cells #[.int .i64 y1,.int .i64 y2,.int .i64 y3] 57);have ZY:=aH.new wr #[.int .i64 y1,.int .i64 y2,.int .i64 y3] 57;have Z2:=(Z.keep Bq).alloc (.cells #[.int .i64 y1,.int .i64 y2,.int .i64 y3] 57);have C2:=(C1.keep Bq).alloc (.cells #[.int .i64 y1,.int .i64 y2,.int .i64 y3] 57);have hrow2:=yJ (Rw.Own.alloc hrow.out (.cells #[.int .i64 y1,.int .i64 y2,.int .i64 y3] 57));have j_:=C2.box.c0;have o_:=C2.box.c1;have ⟨z0,z1,z2⟩:=Z2.aQ;have ⟨t0,t1,t2⟩:=ZY.aQ
   have hle:((List.range k).map fun j=>M.Ca (M.ent a b l i j)).length≤4:=by rw [List.length_map,List.length_range];omega
   have hle:=yJ hle
   have Ap:(M.ent a b l i k).isSome=true→(∀ j,j<k+1→(M.ent a b l i j).isSome=true):=fun h j hj=>by
    rcases Nat.lt_or_ge j k with q | q
    ·exact An.out j q
    obtain rfl:j=k:=by omega
    exact h
   have Ap:=yJ Ap
   rcases Nat.lt_trichotomy k i with hc | hc | hc
   ·have hent:=hall.out k hc i (by have:=hN.out;omega)
    rw [M.jL] at hent;have hnx:=yJ (Ap.out hent);obtain ⟨gm,cm,g2,c2,rfl,m0,m1,m2,m3,m4⟩:=(C_.out.below ((yM _ wr).alloc (yN _) (.cells #[.int .i64 y1,.int .i64 y2,.int .i64 y3] 57))).at (oJ (M.jE a b l) hc) (show (M.jE a b l k)[i]?=some _ from oJ _ (by have:=hN.out;omega));rw [M.jL] at m1 m2 m3 m4
    have hrl:(M.jE a b l k).length=N:=by unfold M.jE;rw [List.length_map,List.length_range];exact hN.out
    rw [hrl] at m0
    have hrm:((List.range i).map (M.jE a b l)).length=i:=by rw [List.length_map,List.length_range]
    simp only [hrm];clear Ap hent hrl hrm
    obtain ⟨q,hq⟩:∃ q,Hid (M.Ca (M.ent a b l i k)=q):=⟨_,yJ rfl⟩
    rw [hq.out] at m1 m2 m3 m4;obtain ⟨q1,q2,q3,q4⟩:=q;simp only [] at m1 m2 m3 m4
    have hii:((i:Nat):Int)≤4:=by omega
    go_wp2_with (at_builtin;refine Rw.push nZ (W:=wi) wi.heap.size [(q1,q2,q3,q4)] _ _ (some ⟨wr.heap.size+1,0,none⟩) 1 1 rfl rfl (.tmp 31) (.tmp 39) rfl rfl rfl (Rw.From.lit EN _ (q1,q2,q3,q4) (wr.heap.size+1) (yK _ _)) (Rw.Own.alloc hrow2.out _) (B2.alloc B2.size _) (by rw [yK];have:=B2.size;omega) (by have:=hle.out;simp only [List.length_cons,List.length_nil];omega) ?_;intro v6 w6 hown6 hb6)
    go_roundw
    case rel=>exact ⟨k+1,by omega,by go_num,hnx,by rw [fU,hq.out];exact yJ hown6,hb6⟩
    case measure=>simp [intOf] <;> omega
   ·subst hc
    have hxy:=Option.some.inj (hx.out.symm.trans hy.out)
    injection hxy with e1 e2
    injection e2 with e2 e3
    subst e1 e2 e3;have he:=M.nX (a:=a) (b:=b) hx.out
    have PP:=fun W=>ni a b x1 x2 x3 x1 x2 x3 W hg hpx hpx
    generalize M.dc a b x1 x2 x3 x1 x2 x3=ps at *;generalize ps.isSome=fu,M.zL ps=u4,M.zK ps=u3,M.zJ ps=u2,M.zI ps=u1 at *;simp only [] at he;replace PS:=PS.out;generalize M.ek a b x1 x3=ss at *;have hni:=hno.out k k (by have:=hN.out;omega) (by have:=hN.out;omega);rw [he] at hni Ap;have Bv:=(yM wr.heap.size wr).alloc (yN _) (.cells #[.int .i64 x1,.int .i64 x2,.int .i64 x3] 57)
    cases ss with
    | none=>
     have hfin:=yJ (hni rfl);have hfr:=yJ (hrn.out hfin.out);have e9:=yJ (show M.zI none=0∧M.zJ none=0∧M.zK none=0∧M.zL none=0∧(none:M.Sp).isSome=false from ⟨rfl,rfl,rfl,rfl,rfl⟩);rw [e9.out.1,e9.out.2.1,e9.out.2.2.1,e9.out.2.2.2.1,e9.out.2.2.2.2] at PS;clear hni Ap hno hrn e9 he;replace PP:=yJ PP;replace PS:=yJ PS
     go_wp2_with first | (go_at_call 66;(with_reducible refine (PP.out _).mono ?_);rintro e w4 ⟨rfl,hb4⟩;have BF:=Nat.le_trans Bv.size hb4.size;replace Bv:=(i_ Bv hb4).alloc (Nat.le_trans Bv.size hb4.size) (.cells #[.int .i64 u1,.int .i64 u2,.int .i64 u3,.int .i64 u4] 64);replace C2:=(C2.keep hb4).alloc (.cells #[.int .i64 u1,.int .i64 u2,.int .i64 u3,.int .i64 u4] 64);replace Z2:=(Z2.keep hb4).alloc (.cells #[.int .i64 u1,.int .i64 u2,.int .i64 u3,.int .i64 u4] 64);have V:=aH.new w4 #[.int .i64 u1,.int .i64 u2,.int .i64 u3,.int .i64 u4] 64;have j_:=C2.box.c0;have o_:=C2.box.c1;(have ⟨z0,z1,z2⟩:=Z2.aQ);(have ⟨v0,v1,v2,v3,f0,f1,f2,f3,vl⟩:=V.aM)) | (go_at_call 67;(with_reducible refine (PS.out _).mono ?_);rintro e w5 ⟨rfl,hb5⟩;replace Bv:=i_ Bv hb5;replace V:=V.keep hb5;(have ⟨v0,v1,v2,v3,f0,f1,f2,f3,vl⟩:=V.aM);have G7:=yL (yL (yL (yL (Bv) (p:=⟨w4.heap.size,0,none⟩) BF (.int .i64 0)) (p:=⟨w4.heap.size,1,none⟩) BF (.int .i64 0)) (p:=⟨w4.heap.size,2,none⟩) BF (.int .i64 0)) (p:=⟨w4.heap.size,3,none⟩) BF (.int .i64 0);have V9:=V.k8 (.int .i64 0) (.int .i64 0) (.int .i64 0) (.int .i64 0);(have ⟨v0_,Jr,BR,v3_,_,_,_,_,_⟩:=V9.aM))
     go_ret2;exact ⟨_,by rw [hfin.out];rfl,by rw [hfr.out];exact dZ.nil _ _,(i_ B1 Bq).trans (G7.mono (Nat.le_trans B1.size AG))⟩
    | some q_=>
    have hnx:=yJ (Ap.out rfl)
    obtain ⟨q,hq⟩:∃ q,Hid (M.Ca (some q_)=q):=⟨_,yJ rfl⟩
    obtain ⟨q1,q2,q3,q4⟩:=q;have e1:M.zI (some q_)=q1:=congrArg (fun z=>z.1) hq.out;have e2:M.zJ (some q_)=q2:=congrArg (fun z=>z.2.1) hq.out;have e3:M.zK (some q_)=q3:=congrArg (fun z=>z.2.2.1) hq.out;have e4:M.zL (some q_)=q4:=congrArg (fun z=>z.2.2.2) hq.out;have e5:=yJ (show (some q_:M.Sp).isSome=true from rfl);rw [e1,e2,e3,e4,e5.out] at PS;have he:=yJ (he.trans rfl);clear hni Ap hno hrn e1 e2 e3 e4 e5;replace PP:=yJ PP;replace PS:=yJ PS
    go_wp2_with first | (go_at_call 66;(with_reducible refine (PP.out _).mono ?_);rintro e w4 ⟨rfl,hb4⟩;have BF:=Nat.le_trans Bv.size hb4.size;replace Bv:=(i_ Bv hb4).alloc (Nat.le_trans Bv.size hb4.size) (.cells #[.int .i64 u1,.int .i64 u2,.int .i64 u3,.int .i64 u4] 64);replace C2:=(C2.keep hb4).alloc (.cells #[.int .i64 u1,.int .i64 u2,.int .i64 u3,.int .i64 u4] 64);replace Z2:=(Z2.keep hb4).alloc (.cells #[.int .i64 u1,.int .i64 u2,.int .i64 u3,.int .i64 u4] 64);have V:=aH.new w4 #[.int .i64 u1,.int .i64 u2,.int .i64 u3,.int .i64 u4] 64;have j_:=C2.box.c0;have o_:=C2.box.c1;(have ⟨z0,z1,z2⟩:=Z2.aQ);(have ⟨v0,v1,v2,v3,f0,f1,f2,f3,vl⟩:=V.aM)) | (go_at_call 67;(with_reducible refine (PS.out _).mono ?_);rintro e w5 ⟨rfl,hb5⟩;replace Bv:=i_ Bv hb5;replace V:=V.keep hb5;(have ⟨v0,v1,v2,v3,f0,f1,f2,f3,vl⟩:=V.aM);have G7:=yL (yL (yL (yL (Bv) (p:=⟨w4.heap.size,0,none⟩) BF (.int .i64 q1)) (p:=⟨w4.heap.size,1,none⟩) BF (.int .i64 q2)) (p:=⟨w4.heap.size,2,none⟩) BF (.int .i64 q3)) (p:=⟨w4.heap.size,3,none⟩) BF (.int .i64 q4);have V9:=V.k8 (.int .i64 q1) (.int .i64 q2) (.int .i64 q3) (.int .i64 q4);(have ⟨v0_,Jr,BR,v3_,_,_,_,_,_⟩:=V9.aM)) | (at_builtin;refine Rw.push nZ (W:=wi) wi.heap.size [(q1,q2,q3,q4)] _ _ (some ⟨w5.heap.size,0,none⟩) 1 1 rfl rfl (.tmp 59) (.tmp 61) rfl rfl rfl (Rw.From.lit EN _ (q1,q2,q3,q4) (w5.heap.size) (by simp [World.setCell])) (Rw.Own.alloc (hrow.out.below G7) _) ((i_ Bq G7).alloc (Nat.le_trans AG G7.size) _) (by rw [yK];exact Nat.le_succ_of_le (Nat.le_trans AG G7.size)) (by have:=hle.out;simp only [List.length_cons,List.length_nil];omega) ?_;intro v6 w6 hown6 hb6)
    go_roundw
    case rel=>exact ⟨k+1,by omega,by go_num,hnx,by rw [fU,he.out,hq.out];exact yJ hown6,hb6⟩
    case measure=>simp [intOf] <;> omega
   have he:=M.nW (a:=a) (b:=b) hx.out hy.out hc
   have PP:=fun W=>ni a b x1 x2 x3 y1 y2 y3 W hg hpx hpy
   simp only [] at he;generalize M.dc a b x1 x2 x3 y1 y2 y3=ss at *
   have hne:((k:Int) == (i:Int))=false:=by rw [beq_eq_false_iff_ne];omega
   clear PS;have hni:=hno.out i k (by have:=hN.out;omega) (by have:=hN.out;omega);rw [he] at hni Ap;have Bv:=(yM wr.heap.size wr).alloc (yN _) (.cells #[.int .i64 y1,.int .i64 y2,.int .i64 y3] 57)
   cases ss with
   | none=>
    have hfin:=yJ (hni rfl);have hfr:=yJ (hrn.out hfin.out);have e9:=yJ (show M.zI none=0∧M.zJ none=0∧M.zK none=0∧M.zL none=0∧(none:M.Sp).isSome=false from ⟨rfl,rfl,rfl,rfl,rfl⟩);rw [e9.out.1,e9.out.2.1,e9.out.2.2.1,e9.out.2.2.2.1,e9.out.2.2.2.2] at PP;clear hni Ap hno hrn e9 he;replace PP:=yJ PP
    go_wp2_with first | (go_at_call 66;(with_reducible refine (PP.out _).mono ?_);rintro e w4 ⟨rfl,hb4⟩;have BF:=Nat.le_trans Bv.size hb4.size;replace Bv:=(i_ Bv hb4).alloc (Nat.le_trans Bv.size hb4.size) (.cells #[.int .i64 0,.int .i64 0,.int .i64 0,.int .i64 0] 64);replace C2:=(C2.keep hb4).alloc (.cells #[.int .i64 0,.int .i64 0,.int .i64 0,.int .i64 0] 64);replace Z2:=(Z2.keep hb4).alloc (.cells #[.int .i64 0,.int .i64 0,.int .i64 0,.int .i64 0] 64);have V:=aH.new w4 #[.int .i64 0,.int .i64 0,.int .i64 0,.int .i64 0] 64;have j_:=C2.box.c0;have o_:=C2.box.c1;(have ⟨z0,z1,z2⟩:=Z2.aQ);(have ⟨v0,v1,v2,v3,f0,f1,f2,f3,vl⟩:=V.aM))
    go_ret2;exact ⟨_,by rw [hfin.out];rfl,by rw [hfr.out];exact dZ.nil _ _,(i_ B1 Bq).trans (Bv.mono (Nat.le_trans B1.size AG))⟩
   | some q_=>
   have hnx:=yJ (Ap.out rfl)
   obtain ⟨q,hq⟩:∃ q,Hid (M.Ca (some q_)=q):=⟨_,yJ rfl⟩
   obtain ⟨q1,q2,q3,q4⟩:=q;have e1:M.zI (some q_)=q1:=congrArg (fun z=>z.1) hq.out;have e2:M.zJ (some q_)=q2:=congrArg (fun z=>z.2.1) hq.out;have e3:M.zK (some q_)=q3:=congrArg (fun z=>z.2.2.1) hq.out;have e4:M.zL (some q_)=q4:=congrArg (fun z=>z.2.2.2) hq.out;have e5:=yJ (show (some q_:M.Sp).isSome=true from rfl);rw [e1,e2,e3,e4,e5.out] at PP;have he:=yJ (he.trans rfl);clear hni Ap hno hrn e1 e2 e3 e4 e5;replace PP:=yJ PP
   go_wp2_with first | (go_at_call 66;(with_reducible refine (PP.out _).mono ?_);rintro e w4 ⟨rfl,hb4⟩;have BF:=Nat.le_trans Bv.size hb4.size;replace Bv:=(i_ Bv hb4).alloc (Nat.le_trans Bv.size hb4.size) (.cells #[.int .i64 q1,.int .i64 q2,.int .i64 q3,.int .i64 q4] 64);replace C2:=(C2.keep hb4).alloc (.cells #[.int .i64 q1,.int .i64 q2,.int .i64 q3,.int .i64 q4] 64);replace Z2:=(Z2.keep hb4).alloc (.cells #[.int .i64 q1,.int .i64 q2,.int .i64 q3,.int .i64 q4] 64);have V:=aH.new w4 #[.int .i64 q1,.int .i64 q2,.int .i64 q3,.int .i64 q4] 64;have j_:=C2.box.c0;have o_:=C2.box.c1;(have ⟨z0,z1,z2⟩:=Z2.aQ);(have ⟨v0,v1,v2,v3,f0,f1,f2,f3,vl⟩:=V.aM)) | (at_builtin;refine Rw.push nZ (W:=wi) wi.heap.size [(q1,q2,q3,q4)] _ _ (some ⟨w4.heap.size+1,0,none⟩) 1 1 rfl rfl (.tmp 59) (.tmp 61) rfl rfl rfl (Rw.From.lit EN _ (q1,q2,q3,q4) (w4.heap.size+1) (by simp [World.setCell])) (Rw.Own.alloc (hrow.out.below Bv) _) ((i_ Bq Bv).alloc (Nat.le_trans AG Bv.size) _) (by rw [yK];exact Nat.le_succ_of_le (Nat.le_trans AG Bv.size)) (by have:=hle.out;simp only [List.length_cons,List.length_nil];omega) ?_;intro v6 w6 hown6 hb6)
   go_roundw
   case rel=>exact ⟨k+1,by omega,by go_num,hnx,by rw [fU,he.out,hq.out];exact yJ hown6,hb6⟩
   case measure=>simp [intOf] <;> omega
  obtain rfl:k=N:=by omega
  have hkl:((List.range k).map fun j=>M.Ca (M.ent a b l i j)).length=k:=by rw [List.length_map,List.length_range]
  obtain ⟨g4,c4,hvr⟩:∃ g4 c4,_=Value.slice (some ⟨g4,0,none⟩) k c4:=by
   rcases hrow.out.forms with ⟨-,h4⟩ | ⟨g4,c4,h4,-⟩
   ·rw [h4] at hkl;simp only [List.length_nil] at hkl;omega
   rw [hkl] at h4;exact ⟨g4,c4,h4⟩
  subst hvr;clear hkl;obtain ⟨vs,hvs⟩:=hm1.out;have NO:=hvs.below Bq;have hrw:=hrow.out.down (show wc.heap.size≤wi.heap.size from B1c.size)
  have hlt3:=fun g h=>hrow.out.lt g h
  have hmr:(List.range k).map (fun j=>M.Ca (M.ent a b l i j))=M.jE a b l i:=by unfold M.jE;rw [hN.out]
  rw [hmr] at hrw
  have IH:=fun g hg z hz (e:Value.ownBlock z=some g)=>(absurd (hlt3 g hg).1 (Nat.not_le.2 (hvs.lt z hz g e).2):False)
  have hrm:((List.range i).map (M.jE a b l)).length=i:=by rw [List.length_map,List.length_range]
  have hal:∀ i',i'<i+1→∀ j,j<l.length→(M.ent a b l i' j).isSome=true:=fun i' h j hj=>by
   rcases Nat.lt_or_ge i' i with q | q
   ·exact hall.out i' q j hj
   obtain rfl:i'=i:=by omega
   exact An.out j (by have:=hN.out;omega)
  have hal:=yJ hal;have Bw:=i_ B1c Bq
  go_wp2_with (at_builtin;refine ri (W:=wc) wc.heap.size _ _ vs _ _ wr.heap.size rfl rfl (.tmp 64) (.tmp 66) rfl rfl rfl NO hrw IH Bw Bw.size (by rw [hrm];omega) ?_;intro v7 w7 IJ yh)
  go_roundw
  case rel=>exact ⟨i+1,by omega,by go_num,hal,yJ ⟨_,by rw [fU];exact IJ⟩,yh⟩
  case measure=>simp [intOf] <;> omega
 obtain rfl:i=N:=by omega
 have hyes:=yJ (M.qR (a:=a) (b:=b) (l:=l) (fun i' h=>hall.out i' (by have:=hN.out;omega)));have hrows:=yJ (M.lO hyes.out);go_wp2;go_ret2;exact ⟨_,by rw [hyes.out];rfl,by rw [hrows.out,hN.out];exact IG.out.base hB0,B⟩
end
section
namespace M
abbrev zQ:=List (List (Int × Int))
def cM (m:zQ) (c:Nat):zQ:=m.tail.map fun r=>r.take c ++ r.drop (c+1)
def dy (s part:Sp) (c:Nat):Sp:=if c % 2=0 then eu s part else cW s part
def ch:Nat→zQ→Sp
 | 0,_=>none
 | 1,m=>(m.headD []).head?
 | n+2,m=>(List.range (m.headD []).length).foldl (fun s c=>dy s (fI ((m.headD [])[c]?) (ch (n+1) (cM m c))) c) (some (0,0))
def dj (n:Nat) (m:zQ) (k:Nat):Sp:=(List.range k).foldl (fun s c=>dy s (fI ((m.headD [])[c]?) (ch (n+1) (cM m c))) c) (some (0,0))
theorem jK (n:Nat) (m:zQ):ch (n+2) m=dj n m (m.headD []).length:=rfl
theorem gM (n:Nat) (m:zQ) (k:Nat):dj n m (k+1)=dy (dj n m k) (fI ((m.headD [])[k]?) (ch (n+1) (cM m k))) k:=by
 unfold dj;rw [List.range_succ,List.foldl_append];rfl
theorem kY (p:Sp) (c:Nat):dy none p c=none:=by
 unfold dy
 split <;> rfl
theorem el (s:Sp) (c:Nat):dy s none c=none:=by
 unfold dy
 cases s <;> split <;> rfl
theorem lX {n:Nat} {m:zQ} {k:Nat} (h:dj n m k=none):∀ j,k≤j→dj n m j=none
 | 0,hj=>by
  obtain rfl:k=0:=by omega
  exact h
 | j+1,hj=>by
  rcases Nat.lt_or_ge j k with q | q
  ·obtain rfl:k=j+1:=by omega
   exact h
  rw [gM,lX h j q,kY]
def Gk (m:zQ):Prop:=∀ r ∈ m,∀ q ∈ r,aN q.1 q.2=true
theorem lQ {m:zQ} {c:Nat} (h:Gk m):Gk (cM m c):=by
 intro r hr q hq;obtain ⟨s,hs,rfl⟩:=List.mem_map.1 hr
 rcases List.mem_append.1 hq with h1 | h1
 ·exact h s (List.mem_of_mem_tail hs) q (List.mem_of_mem_take h1)
 exact h s (List.mem_of_mem_tail hs) q (List.mem_of_mem_drop h1)
theorem uA {s p:Sp} {c:Nat}:AU (dy s p c):=by
 unfold dy
 split
 ·exact qT
 exact jU
theorem mS {n:Nat} {m:zQ}:∀ k,AU (dj n m k)
 | 0=>fun p hp=>by
  have:(0,0)=p:=Option.some.inj hp;subst this
  decide
 | k+1=>by
  rw [gM];exact uA
theorem jT {m:zQ} (h:Gk m):∀ n,AU (ch n m)
 | 0=>eQ
 | 1=>fun p hp=>by
  cases m with
  | nil=>cases hp
  | cons r m=>
  cases r with
  | nil=>cases hp
  | cons q r=>
  have:q=p:=Option.some.inj hp;subst this;exact h _ (List.mem_cons_self ..) _ (List.mem_cons_self ..)
 | n+2=>by
  rw [jK];exact mS _
def square (n:Nat) (m:zQ):Prop:=m.length=n∧∀ r ∈ m,r.length=n
theorem iI {n:Nat} {m:zQ} {c:Nat} (h:square (n+1) m) (hc:c<n+1):square n (cM m c):=by
 refine ⟨by unfold cM;rw [List.length_map,List.length_tail,h.1];rfl,fun r hr=>?_⟩;obtain ⟨s,hs,rfl⟩:=List.mem_map.1 hr;rw [List.length_append,List.length_take,List.length_drop,h.2 s (List.mem_of_mem_tail hs)];omega
end M
end
section
open Go.RowKit
namespace M
theorem uC {n:Int} (h1:-144≤n) (h2:n≤144):pn (n*4096)=n∧pd (n*4096)=1:=by
 have hg:M.gcd (n*4096) 4096=4096:=by
  unfold M.gcd Int.gcd;rw [Int.natAbs_mul]
  show ((Nat.gcd (n.natAbs*4096) 4096:Nat):Int)=4096
  rw [Nat.gcd_mul_left_left];rfl
 have hf:=mH (a:=n*4096) (g:=4096) (q:=1) (n:=n) hg (by decide) (by decide) rfl
 have ho:d8 n 1=true:=by
  unfold d8;simp [M.ins,M.gcd]
  omega
 rw [ho,if_pos rfl] at hf;unfold pn pd;rw [hf];exact ⟨rfl,rfl⟩
end M
def dz (w:World) (base:Nat) (v:Value) (rows:M.zQ):Prop:=∃ vs,bX w base v vs rows
theorem dz.below {w w':World} {base:Nat} {v:Value} {rows:M.zQ} (h:dz w base v rows) (hb:Below w.heap.size w w'):dz w' base v rows:=h.elim fun vs k=>⟨vs,k.below hb⟩
theorem dz.base {w:World} {base base':Nat} {v:Value} {rows:M.zQ} (h:dz w base v rows) (hb:base'≤base):dz w base' v rows:=h.elim fun vs k=>⟨vs,k.base hb⟩
theorem dz.nil (w:World) (base:Nat):dz w base (.slice none 0 0) []:=⟨[],bX.nil w base⟩
theorem dz.at {w:World} {base:Nat} {v:Value} {rows:M.zQ} (h:dz w base v rows) {i j:Nat} {r:List (Int × Int)} {q:Int × Int} (hr:rows[i]?=some r) (hq:r[j]?=some q) :
  ∃ (g cap g2 cap2:Nat),v=.slice (some ⟨g,0,none⟩) rows.length cap∧w.cell? ⟨g,i,none⟩=some (.slice (some ⟨g2,0,none⟩) r.length cap2)∧w.cell? ⟨g2,j*2,none⟩=some (.int .i64 q.1)∧w.cell? ⟨g2,j*2+1,none⟩=some (.int .i64 q.2):=by
 obtain ⟨vs,h⟩:=h;obtain ⟨a,cap,rfl,-,hv⟩:=h.view;obtain ⟨g,u,r',rfl,-,h1,-,h2,h3⟩:=hv i (List.getElem?_eq_some_iff.1 hr).1
 have e:r'=r:=by
  have:=h1.out;rw [hr] at this;exact (Option.some.inj this).symm
 subst e
 rcases h3.forms with ⟨-,h4⟩ | ⟨g2,cap2,rfl,-,-,-,-⟩
 ·rw [h4] at hq;cases hq
 have hc:=fun t (ht:t<2)=>(h3.cellAt rfl (j*2+t) _ ((Rw.flat_get EP r' j t q hq ht).trans (List.getElem?_eq_getElem (by rw [EP.len];exact ht)))).1
 exact ⟨g,cap,g2,cap2,rfl,h2,hc 0 (by decide),hc 1 (by decide)⟩
def bq (xs:List (Int × Int)):Array Value:=(xs.flatMap EP.cells).toArray
def eG (W:World) (gm n:Nat) (rows:M.zQ):Prop:=
 rows.length=n∧aH W gm 110 ((List.range n).map fun i=>Value.slice (some ⟨gm+1+i,0,none⟩) n n).toArray∧∀ (i:Nat) (r:List (Int × Int)),rows[i]?=some r→r.length=n∧aH W (gm+1+i) 68 (bq r)
theorem eG.below {W W':World} {gm n:Nat} {rows:M.zQ} (h:eG W gm n rows) (hb:Below W.heap.size W W'):eG W' gm n rows:=
 ⟨h.1,h.2.1.keep hb,fun i r hr=>⟨(h.2.2 i r hr).1,(h.2.2 i r hr).2.keep hb⟩⟩
theorem eG.row {W:World} {gm n:Nat} {rows:M.zQ} (h:eG W gm n rows) {i:Nat} (hi:i<n):W.cell? ⟨gm,i,none⟩=some (.slice (some ⟨gm+1+i,0,none⟩) n n):=by
 refine (h.2.1.cell i).trans ?_;rw [List.getElem?_toArray,List.getElem?_map,List.getElem?_range hi];rfl
theorem eG.mat {W:World} {gm n base:Nat} {rows:M.zQ} (h:eG W gm n rows) (hb:base≤gm) (hn:n≤1000000):dz W base (.slice (some ⟨gm,0,none⟩) n n) rows:=by
 obtain ⟨h1,h2,h3⟩:=h;refine ⟨(List.range n).map fun i=>Value.slice (some ⟨gm+1+i,0,none⟩) n n,?_,?_,?_,?_⟩
 ·rw [h1]
  refine ⟨by simp,Or.inr ⟨gm,n,_,rfl,hb,h2,yN _,by unfold maxLen;omega,by simp,List.take_of_length_le (by simp)⟩⟩
 ·simp [h1]
 ·intro i u r hu hr
  have hi:i<n:=by rw [←h1];exact (List.getElem?_eq_some_iff.1 hr).1
  rw [List.getElem?_map,List.getElem?_range hi] at hu;have hu:Value.slice (some ⟨gm+1+i,0,none⟩) n n=u:=Option.some.inj hu;subst hu;obtain ⟨k1,k2⟩:=h3 i r hr;refine ⟨Rw.cI EP r,Or.inr ⟨gm+1+i,n,_,by rw [k1],by omega,k2,by omega,by unfold maxLen;omega,?_,?_⟩⟩
  ·unfold bq;rw [List.size_toArray,Rw.cI,k1]
  exact List.take_of_length_le (Nat.le_of_eq (Rw.cI EP r))
 rw [List.pairwise_map];refine List.Pairwise.imp ?_ (List.nodup_range (n:=n));intro a b hab g hg hg';simp only [Value.ownBlock,Option.some.injEq] at hg hg';exact hab (by omega)
theorem mb {r:List (Int × Int)} {j:Nat} (q:Int × Int) (hj:j<r.length):((bq r).setIfInBounds (j*2) (.int .i64 q.1)).setIfInBounds (j*2+1) (.int .i64 q.2)=bq (r.set j q):=by
 have hl:(r.flatMap EP.cells).length=r.length*2:=Rw.cI EP r;have hz:(bq r).size=r.length*2:=hl
 apply Array.ext_getElem?
 intro t;have hs:=Rw.j9 EP r j q hj t;have hk:EP.k=2:=rfl;rw [hk] at hs
 show _=(bq (r.set j q))[t]?
 have e1:(bq (r.set j q))[t]?=((r.set j q).flatMap EP.cells)[t]?:=List.getElem?_toArray;have e2:(bq r)[t]?=(r.flatMap EP.cells)[t]?:=List.getElem?_toArray;rw [e1,hs,Array.getElem?_setIfInBounds,Array.getElem?_setIfInBounds,Array.size_setIfInBounds,hz,e2]
 by_cases h1:j*2+1=t
 ·subst h1
  rw [if_pos rfl,if_pos (by omega),if_pos (by omega)]
  have:j*2+1 - j*2=1:=by omega
  rw [this];rfl
 rw [if_neg h1]
 by_cases h2:j*2=t
 ·subst h2
  rw [if_pos rfl,if_pos (by omega),if_pos (by omega)]
  have:j*2 - j*2=0:=by omega
  rw [this];rfl
 rw [if_neg h2,if_neg (by omega)]
theorem eG.put {W:World} {gm n:Nat} {rows:M.zQ} (h:eG W gm n rows) {i j:Nat} {r:List (Int × Int)} (hr:rows[i]?=some r) (hj:j<n) (q:Int × Int):eG ((W.setCell ⟨gm+1+i,j*2,none⟩ (.int .i64 q.1)).setCell ⟨gm+1+i,j*2+1,none⟩ (.int .i64 q.2)) gm n (rows.set i (r.set j q)):=by
 obtain ⟨h1,h2,h3⟩:=h;obtain ⟨k1,k2⟩:=h3 i r hr;refine ⟨by rw [List.length_set];exact h1,(h2.other (by omega) _).other (by omega) _,fun i' r' hr'=>?_⟩
 by_cases hi:i=i'
 ·subst hi
  rw [List.getElem?_set_self (List.getElem?_eq_some_iff.1 hr).1] at hr';have e:=Option.some.inj hr';subst e;refine ⟨by rw [List.length_set];exact k1,?_⟩;rw [←mb q (by omega)];exact (k2.set _ _).set _ _
 rw [List.getElem?_set_ne hi] at hr';obtain ⟨m1,m2⟩:=h3 i' r' hr';exact ⟨m1,(m2.other (by omega) _).other (by omega) _⟩
theorem eG.cells {W:World} {gm n:Nat} {rows:M.zQ} (h:eG W gm n rows) {i j:Nat} {r:List (Int × Int)} {q:Int × Int} (hr:rows[i]?=some r) (hq:r[j]?=some q):W.cell? ⟨gm+1+i,j*2,none⟩=some (.int .i64 q.1)∧W.cell? ⟨gm+1+i,j*2+1,none⟩=some (.int .i64 q.2)∧W.frozen? ⟨gm+1+i,j*2,none⟩=false∧W.frozen? ⟨gm+1+i,j*2+1,none⟩=false∧gm+1+i<W.heap.size:=by
 obtain ⟨k1,k2⟩:=h.2.2 i r hr
 have hc:=fun t (ht:t<2)=>(k2.cell (j*2+t)).trans ((List.getElem?_toArray (xs:=r.flatMap EP.cells) (i:=j*2+t)).trans ((Rw.flat_get EP r j t q hq ht).trans (List.getElem?_eq_getElem (by rw [EP.len];exact ht))))
 exact ⟨hc 0 (by decide),hc 1 (by decide),k2.yW _,k2.yW _,k2.lt⟩
theorem tt (n:Nat) (hn:n≤4):madeCells (Value.agg #[.int .i64 0,.int .i64 0]).cells (n*2)=bq (List.replicate n (0,0)):=by
 have hc:n=0∨n=1∨n=2∨n=3∨n=4:=by omega
 rcases hc with rfl | rfl | rfl | rfl | rfl <;> (simp [madeCells,bq,EP,Value.cells,Array.range_succ,(show Array.range 0=#[] from rfl),List.replicate])
theorem rO (n:Nat) (hn:n≤4):madeCells (Value.slice none 0 0).cells (n*1)=(List.replicate n (Value.slice none 0 0)).toArray:=by
 have hc:n=0∨n=1∨n=2∨n=3∨n=4:=by omega
 rcases hc with rfl | rfl | rfl | rfl | rfl <;> (simp [madeCells,bq,EP,Value.cells,Array.range_succ,(show Array.range 0=#[] from rfl),List.replicate])
theorem vL (w:World) (n:Nat) (hn:n≤4):(Instr.makeSlice 110 (.int .i64 (n:Int)) (.int .i64 (n:Int))).run Tryz.prog w=.ok (.slice (some ⟨w.heap.size,0,none⟩) n n) (w.alloc (.cells (bq (List.replicate n (0,0))) 68)):=by
 obtain ⟨i0,hi,hz0,hz1,hz2⟩:=info_parts tY;have hr:=run_make (P:=Tryz.prog) w 110 68 i0 _ Tryz.underlying110 hi hz0 .i64 .i64 n n (by omega) (Int.le_refl _) (by rw [hz2];omega) (by omega);rw [hz1] at hr;rw [Int.toNat_natCast,tt n hn] at hr;exact hr
theorem tu (w:World) (n:Nat) (hn:n≤4):(Instr.makeSlice 89 (.int .i64 (n:Int)) (.int .i64 (n:Int))).run Tryz.prog w=.ok (.slice (some ⟨w.heap.size,0,none⟩) n n) (w.alloc (.cells (List.replicate n (Value.slice none 0 0)).toArray 110)):=by
 obtain ⟨i0,hi,hz0,hz1,hz2⟩:=info_parts tZ;have hr:=run_make (P:=Tryz.prog) w 89 110 i0 _ Tryz.underlying89 hi hz0 .i64 .i64 n n (by omega) (Int.le_refl _) (by rw [hz2];omega) (by omega);rw [hz1] at hr;rw [Int.toNat_natCast,rO n hn] at hr;exact hr
namespace M
noncomputable def Jq (s:Sp):Int × Int:=(yx s,y_ s)
noncomputable def dx (a b:Int) (l:List Pt):zQ:=if Ak a b l=true then (List.range l.length).map (fun i=>(List.range l.length).map fun j=>Jq (ent a b l i j)) else []
end M
def eS (gm n k:Nat):Array Value:=((List.range n).map fun i=>if i<k then Value.slice (some ⟨gm+1+i,0,none⟩) n n else Value.slice none 0 0).toArray
theorem oQ (gm n:Nat):eS gm n 0=(List.replicate n (Value.slice none 0 0)).toArray:=by
 unfold eS
 congr 1
 simp [List.map_const']
theorem oP {gm n k:Nat} (hk:k<n):(eS gm n k).setIfInBounds k (.slice (some ⟨gm+1+k,0,none⟩) n n)=eS gm n (k+1):=by
 unfold eS
 apply Array.ext_getElem?
 intro t;rw [Array.getElem?_setIfInBounds];simp only [List.size_toArray,List.length_map,List.length_range,List.getElem?_toArray,List.getElem?_map]
 by_cases h:k=t
 ·subst h
  rw [if_pos rfl,if_pos hk,List.getElem?_range hk];simp
 rw [if_neg h]
 rcases Nat.lt_or_ge t n with q | q
 ·rw [List.getElem?_range q]
  simp only [Option.map_some]
  congr 1
  by_cases h2:t<k
  ·rw [if_pos h2,if_pos (by omega)]
  rw [if_neg h2,if_neg (by omega)]
 rw [List.getElem?_eq_none (by simp;omega)];rfl
theorem rk {gm n k:Nat} (hk:k<n):(eS gm n k)[k]?=some (.slice none 0 0):=by
 unfold eS;rw [List.getElem?_toArray,List.getElem?_map,List.getElem?_range hk];simp
end
section
open Go Go.RowKit
namespace Rg
variable {P:Program} {Q:Exit→Act→World→Prop}
section
variable (P) (Q) (ops:Array Oper) (a0:Act) (T:List Value) (J:Nat→World→Prop) (C:List Nat)
def pt (o:Oper) (a:Act) (t:Nat):Prop:=
 match o.after.toList.find? (fun e=>Region.binds .any e && ((ops[e.on]?).bind (·.dst)) == some t) with
 | some e=>if e.on ∈ C then True else a.tmps[t]?=some (T.getD e.on undef)
 | none=>a.tmps[t]?=a0.tmps[t]?
def bp (k:Nat) (o:Oper):Prop:=
 if k ∈ C then ∀ (a:Act) (w:World),J (C.idxOf k) w→(∀ t ∈ o.looksAt ops,pt ops a0 T C o a t)→Region.wanted o (yielded ops a.tmps)=true∧o.wp P a w (fun a' w'=>(∃ v,a'=a.put o.dst v)∧J (C.idxOf k+1) w') Q
 else ∀ (a:Act) (w:World) (n:Nat),n≤C.length→J n w→(∀ t ∈ o.looksAt ops,pt ops a0 T C o a t)→Region.wanted o (yielded ops a.tmps)=true∧(execOp a.eval o).run P w=.ok (.value (T.getD k undef)) w
def sM:List Oper→Nat→Prop
 | [],_=>True
 | o :: os,k=>bp P Q ops a0 T J C k o∧sM os (k+1)
def xY (l:Nat→Bool) (vals:Nat→Value) (w:World):Prop:=
 J (cnt l C) w∧∀ i,i ∉ C→l i=true→vals i=T.getD i undef
end
theorem pG {l:Nat→Bool}:∀ C:List Nat,cnt l C≤C.length
 | []=>yN _
 | c :: cs=>by
  unfold cnt;have:=pG (l:=l) cs
  split
  ·simp only [List.length_cons];omega
  omega
theorem uO {ops:Array Oper} {a0:Act} {T:List Value} {J:Nat→World→Prop} {C:List Nat} (hC:dR ops C=true) :
  ∀ (os:List Oper) (k:Nat),(∀ i,os[i]?=ops[k+i]?)→sM P Q ops a0 T J C os k→fo P Q .any ops (xY T J C) a0 os k
 | [],_,_,_=>trivial
 | o :: os,k,hos,h=>by
  refine ⟨fun a w l vals hI hl hc zl hr=>?_,uO hC os (k+1) (fun i=>by rw [show k+1+i=k+(i+1) by omega,←hos (i+1)];rfl) h.2⟩;obtain ⟨hB,hv⟩:=hI;have ho:ops[k]?=some o:=(hos 0).symm
  have hQ:∀ t ∈ o.looksAt ops,pt ops a0 T C o a t:=fun t ht=>by
   have:=hr t ht;unfold rd at this;unfold pt
   split
   ·rename_i e he
    rw [he] at this;have h2:=List.find?_some he;rw [Bool.and_eq_true] at h2
    split
    ·trivial
    rename_i n1
    replace this:a.tmps[t]?=some (vals e.on):=this;rw [this,hv _ n1 (zl e (Array.mem_toList_iff.1 (List.mem_of_find?_eq_some he)) h2.1)]
   rename_i he
   rw [he] at this;exact this
  have hko:∀ j,j≠k→upd l k j=l j:=fun j hj=>if_neg hj
  have h1:=h.1;unfold bp at h1;unfold jj
  have rest:∀ v,(k ∉ C→v=T.getD k undef)→∀ i,i ∉ C→upd l k i=true→br vals k v i=T.getD i undef:=fun v hvk i n1 hi=>by
   by_cases hik:i=k
   ·subst hik
    have:br vals i v i=v:=if_pos rfl;rw [this];exact hvk n1
   rw [hko i hik] at hi;have:br vals k v i=vals i:=if_neg hik;rw [this];exact hv i n1 hi
  by_cases e3:k ∈ C
  ·rw [if_pos e3] at h1
   obtain ⟨q1,q2⟩:=gv hc hl (fun c hcd=>eN ho zl hcd) C hC e3;rw [q1] at hB;obtain ⟨hw,hwp⟩:=h1 a w hB hQ;rw [if_pos hw];refine Oper.wp_mono ?_ hwp;rintro a' w' ⟨⟨v,e⟩,h2⟩;exact ⟨v,e,by rw [q2];exact h2,rest v (fun h=>absurd e3 h)⟩
  rw [if_neg e3] at h1;obtain ⟨hw,hwp⟩:=h1 a w _ (pG C) hB hQ;rw [if_pos hw];unfold Oper.wp;rw [hwp];exact ⟨_,rfl,by rw [fP C e3];exact hB,rest _ (fun _=>rfl)⟩
theorem wQ {id:Nat} {ops:Array Oper} {a0:Act} {w:World} (J:Nat→World→Prop) (C:List Nat) (T:List Value)
  (hm:P.follows .mixedOrders=true) (hok:dw .any ops a0.tmps.size=true) (hC:dR ops C=true) (hcl:∀ c ∈ C,c<ops.size) (h0:J 0 { w with drawn:=w.drawn+1 })
  (hR:sM P Q ops a0 T J C ops.toList 0)
  (hF:∀ (vals:Nat→Value) (w':World),J C.length w'→(∀ i,i<ops.size→i ∉ C→vals i=T.getD i undef)→Q .normal (fill (fun _=>true) vals ops.toList 0 a0) w'):(Code.region id ops true).wp P Q a0 w:=by
 have c0:∀ C:List Nat,cnt (fun _=>false) C=0:=fun C=>by cases C <;> rfl
 have cl:∀ (l:Nat→Bool) (C:List Nat),(∀ c ∈ C,l c=true)→cnt l C=C.length:=fun l C=>by
  induction C with
  | nil=>intro _;rfl
  | cons c cs ih=>
  intro h;unfold cnt;rw [if_pos (h c (List.mem_cons_self ..)),ih (fun x hx=>h x (List.mem_cons_of_mem _ hx))];rfl
 refine iE (xY T J C) hm hok (fun vals=>⟨?_,(fun _ _ h=>absurd h (by simp))⟩) (uO hC ops.toList 0 (fun i=>by rw [Nat.zero_add];exact Array.getElem?_toList) hR) ?_
 ·rw [c0]
  exact h0
 intro l vals w' hl hI;obtain ⟨h1,h2⟩:=hI;rw [cl l C (fun c hc=>hl c (hcl c hc))] at h1;exact hF vals w' h1 (fun i hi n1=>h2 i n1 (hl i hi))
end Rg
namespace Rg
variable {P:Program} {Q:Exit→Act→World→Prop}
section
variable (P) (Q) (ops:Array Oper) (a0:Act) (T:List Val) (w1:World) (ka ks:Nat) (Tn:TypeId) (xs ys:Array Value)
def be (k:Nat) (o:Oper):Prop:=
 if k=ka then ∀ (a:Act) (w:World),Region.wanted o (yielded ops a.tmps)=true∧o.wp P a w (fun a' w'=>a'=a.put o.dst (.pointer (some ⟨w.heap.size,0,none⟩))∧w'=w.alloc (.cells xs Tn)) Q
 else if k=ks then ∀ (a:Act) (w:World) (h:Nat),w1.heap.size≤h→aH w h Tn xs→(∀ t ∈ o.looksAt ops,pr ops a0 T ka ks h o a w t)→Region.wanted o (yielded ops a.tmps)=true∧o.wp P a w (fun a' w'=>(∃ v,a'=a.put o.dst v)∧aH w' h Tn ys∧Below w1.heap.size w w') Q
 else ∀ (a:Act) (w:World),Below w1.heap.size w1 w→(∀ t ∈ o.looksAt ops,jg ops a0 T ka ks o a w t)→Does P ops Q (AJ T k) o a w
def sK:List Oper→Nat→Prop
 | [],_=>True
 | o :: os,k=>be P Q ops a0 T w1 ka ks Tn xs ys k o∧sK os (k+1)
def wS (l:Nat→Bool) (vals:Nat→Value) (w:World):Prop:=
 Below w1.heap.size w1 w∧(∀ i,i≠ka→i≠ks→l i=true→(AJ T i).ok (vals i) w)∧(l ka=true→∃ h,w1.heap.size≤h∧vals ka=.pointer (some ⟨h,0,none⟩)∧aH w h Tn (if l ks=true then ys else xs))
end
theorem uM {ops:Array Oper} {a0:Act} {T:List Val} {w1:World} {ka ks:Nat} {Tn:TypeId} {xs ys:Array Value}
  (hp:∀ j,j≠ka→j≠ks→(AJ T j).pure=true) (hne:ka≠ks) (hE:fw ops ka ks=true) :
  ∀ (os:List Oper) (k:Nat),(∀ i,os[i]?=ops[k+i]?)→sK P Q ops a0 T w1 ka ks Tn xs ys os k→fo P Q .any ops (wS T w1 ka ks Tn xs ys) a0 os k
 | [],_,_,_=>trivial
 | o :: os,k,hos,h=>by
  refine ⟨fun a w l vals hI hl hc zl hr=>?_,uM hp hne hE os (k+1) (fun i=>by rw [show k+1+i=k+(i+1) by omega,←hos (i+1)];rfl) h.2⟩;obtain ⟨hB,hv,hn⟩:=hI;have ho:ops[k]?=some o:=(hos 0).symm;have hsz:w1.heap.size≤w.heap.size:=hB.size
  have hQ:∀ t ∈ o.looksAt ops,jg ops a0 T ka ks o a w t:=fun t ht=>by
   have:=hr t ht;unfold rd at this;unfold jg
   split
   ·rename_i e he
    rw [he] at this;have h2:=List.find?_some he;rw [Bool.and_eq_true] at h2
    split
    ·trivial
    split
    ·trivial
    rename_i n1 n2
    exact ⟨_,this,hv _ n1 n2 (zl e (Array.mem_toList_iff.1 (List.mem_of_find?_eq_some he)) h2.1)⟩
   rename_i he
   rw [he] at this;exact this
  have hko:∀ j,j≠k→upd l k j=l j:=fun j hj=>if_neg hj
  have hkk:upd l k k=true:=if_pos rfl;have h1:=h.1;unfold be at h1;unfold jj
  by_cases e1:k=ka
  ·rw [if_pos e1] at h1
   obtain ⟨hw,hwp⟩:=h1 a w;rw [if_pos hw];refine Oper.wp_mono ?_ hwp;rintro a' w' ⟨rfl,rfl⟩;subst e1
   have hls:l ks=false:=by
    cases q:l ks
    ·rfl
    rw [cQ hc hE q] at hl;cases hl
   refine ⟨_,rfl,?_,?_,fun _=>⟨w.heap.size,hsz,if_pos rfl,?_⟩⟩
   ·exact hB.alloc hsz _
   ·intro i n1 n2 hi
    rw [hko i n1] at hi;have:br vals k (.pointer (some ⟨w.heap.size,0,none⟩)) i=vals i:=if_neg n1;rw [this];exact Val.dg (hp i n1 n2) (hv i n1 n2 hi)
   rw [hko ks (fun e=>hne e.symm),hls];exact aH.new w xs Tn
  rw [if_neg e1] at h1
  by_cases e2:k=ks
  ·rw [if_pos e2] at h1
   subst e2;obtain ⟨hh,A9,As,hh3⟩:=hn (eN ho zl hE);rw [hl] at hh3
   obtain ⟨hw,hwp⟩:=h1 a w hh A9 hh3 (fun t ht=>by
    have:=hr t ht;unfold rd at this;unfold pr
    split
    ·rename_i e he
     rw [he] at this;have h2:=List.find?_some he;rw [Bool.and_eq_true] at h2
     split
     ·rename_i q
      replace this:a.tmps[t]?=some (vals e.on):=this;rw [q,As] at this;exact this
     split
     ·trivial
     rename_i n1 n2
     exact ⟨_,this,hv _ n1 n2 (zl e (Array.mem_toList_iff.1 (List.mem_of_find?_eq_some he)) h2.1)⟩
    rename_i he
    rw [he] at this
    exact this)
   rw [if_pos hw];refine Oper.wp_mono ?_ hwp;rintro a' w' ⟨⟨v,e⟩,h2,h3⟩;refine ⟨v,e,?_,?_,fun _=>⟨hh,A9,?_,?_⟩⟩
   ·exact hB.trans h3
   ·intro i n1 n2 hi
    rw [hko i n2] at hi;have:br vals k v i=vals i:=if_neg n2;rw [this];exact Val.dg (hp i n1 n2) (hv i n1 n2 hi)
   ·have:br vals k v ka=vals ka:=if_neg hne
    rw [this];exact As
   rw [hkk];exact h2
  rw [if_neg e2] at h1
  have rest:∀ (v:Value) (w':World),(AJ T k).ok v w'→Below w.heap.size w w'→wS T w1 ka ks Tn xs ys (upd l k) (br vals k v) w':=by
   intro v w' h2 h3;refine ⟨hB.trans (h3.mono hsz),?_,?_⟩
   ·intro i n1 n2 hi
    by_cases hik:i=k
    ·subst hik
     have:br vals i v i=v:=if_pos rfl;rw [this];exact h2
    rw [hko i hik] at hi;have:br vals k v i=vals i:=if_neg hik;rw [this];exact Val.dg (hp i n1 n2) (hv i n1 n2 hi)
   intro hi;rw [hko ka (fun e=>e1 e.symm)] at hi;obtain ⟨hh,A9,As,hh3⟩:=hn hi;refine ⟨hh,A9,?_,?_⟩
   ·have:br vals k v ka=vals ka:=if_neg (fun e=>e1 e.symm)
    rw [this];exact As
   rw [hko ks (fun e=>e2 e.symm)];exact hh3.keep h3
  have hd:=h1 a w hB hQ;unfold Does at hd
  split
  ·rename_i hw
   rw [if_pos hw] at hd;refine Oper.wp_mono ?_ hd;rintro a' w' ⟨v,e,h2,h3⟩;exact ⟨v,e,rest v w' h2 h3⟩
  rename_i hw
  rw [if_neg hw] at hd;exact rest undef w hd (yM _ _)
theorem wO {id:Nat} {ops:Array Oper} {a0:Act} {w:World} (ka ks:Nat) (Tn:TypeId) (xs ys:Array Value) (T:List Val)
  (hm:P.follows .mixedOrders=true) (hok:dw .any ops a0.tmps.size=true) (hC:(fw ops ka ks && decide (ka<ops.size) && decide (ks<ops.size))=true)
  (hp:∀ j,j≠ka→j≠ks→(AJ T j).pure=true) (hne:ka≠ks)
  (hR:sK P Q ops a0 T w ka ks Tn xs ys ops.toList 0)
  (hF:∀ (vals:Nat→Value) (w':World) (h:Nat),w.heap.size≤h→aH w' h Tn ys→vals ka=.pointer (some ⟨h,0,none⟩)→Below w.heap.size w w'→(∀ i,i<ops.size→i≠ka→i≠ks→(AJ T i).ok (vals i) w')→Q .normal (fill (fun _=>true) vals ops.toList 0 a0) w'):(Code.region id ops true).wp P Q a0 w:=by
 rw [Bool.and_eq_true,Bool.and_eq_true,decide_eq_true_eq,decide_eq_true_eq] at hC;obtain ⟨⟨hE,ha⟩,hs⟩:=hC;refine iE (wS T w ka ks Tn xs ys) hm hok (fun vals=>⟨?_,(fun _ _ _ h=>absurd h (by simp)),(fun h=>absurd h (by simp))⟩) (uM hp hne hE ops.toList 0 (fun i=>by rw [Nat.zero_add];exact Array.getElem?_toList) hR) ?_
 ·exact (yM _ w).drew
 intro l vals w' hl hI;obtain ⟨h1,h2,h3⟩:=hI;obtain ⟨h,q1,q2,q3⟩:=h3 (hl ka ha);rw [hl ks hs,if_pos rfl] at q3;exact hF vals w' h q1 q3 q2 h1 (fun i hi n1 n2=>h2 i n1 n2 (hl i hi))
end Rg
end
section
open Go.RowKit
namespace M
def done (i k:Nat) (x y:Nat):Bool:=decide (min x y<i) || (decide (min x y=i) && decide (max x y<k))
def dG (n:Nat) (p:Nat→Bool) (f:Nat→Int × Int):List (Int × Int):=(List.range n).map fun j=>if p j then f j else (0,0)
def dF (n:Nat) (P:Nat→Nat→Bool) (f:Nat→Nat→Int × Int):zQ:=(List.range n).map fun i=>dG n (P i) (f i)
noncomputable def fe (a b:Int) (l:List Pt) (i j:Nat):Int × Int:=Jq (ent a b l i j)
theorem fV (n:Nat) (p:Nat→Bool) (f:Nat→Int × Int):(dG n p f).length=n:=by unfold dG;rw [List.length_map,List.length_range]
theorem iK (n:Nat) (P:Nat→Nat→Bool) (f:Nat→Nat→Int × Int):(dF n P f).length=n:=by unfold dF;rw [List.length_map,List.length_range]
theorem dY {n i:Nat} (P:Nat→Nat→Bool) (f:Nat→Nat→Int × Int) (h:i<n):(dF n P f)[i]?=some (dG n (P i) (f i)):=by
 unfold dF;rw [List.getElem?_map,List.getElem?_range h];rfl
theorem eF {n j:Nat} (p:Nat→Bool) (f:Nat→Int × Int) (h:j<n):(dG n p f)[j]?=some (if p j then f j else (0,0)):=by
 unfold dG;rw [List.getElem?_map,List.getElem?_range h];rfl
theorem kd {n:Nat} {p q:Nat→Bool} {f:Nat→Int × Int} (h:∀ j,j<n→p j=q j):dG n p f=dG n q f:=by
 unfold dG
 refine List.map_congr_left fun j hj=>?_
 rw [h j (List.mem_range.1 hj)]
theorem ub {n:Nat} {P Q:Nat→Nat→Bool} {f:Nat→Nat→Int × Int} (h:∀ i,i<n→∀ j,j<n→P i j=Q i j):dF n P f=dF n Q f:=by
 unfold dF
 refine List.map_congr_left fun i hi=>?_
 exact kd (h i (List.mem_range.1 hi))
theorem ph {n j:Nat} {p q:Nat→Bool} {f:Nat→Int × Int} (hj:j<n) (h1:q j=true) (h2:∀ t,t≠j→t<n→q t=p t):(dG n p f).set j (f j)=dG n q f:=by
 apply List.ext_getElem?
 intro t
 rcases Nat.lt_or_ge t n with q1 | q1
 ·rw [eF q f q1]
  by_cases e:j=t
  ·subst e
   rw [List.getElem?_set_self (by rw [fV];exact q1),if_pos h1]
  rw [List.getElem?_set_ne e,eF p f q1,h2 t (fun h=>e h.symm) q1]
 rw [List.getElem?_eq_none (by rw [List.length_set,fV];exact q1),List.getElem?_eq_none (by rw [fV];exact q1)]
theorem kc {n i j:Nat} {P Q:Nat→Nat→Bool} {f:Nat→Nat→Int × Int} (hi:i<n) (hj:j<n) (h1:Q i j=true) (h2:∀ x y,¬ (x=i∧y=j)→x<n→y<n→Q x y=P x y):(dF n P f).set i ((dG n (P i) (f i)).set j (f i j))=dF n Q f:=by
 rw [ph (p:=P i) (q:=Q i) (f:=f i) hj h1 (fun t ht htn=>h2 i t (fun h=>ht h.2) hi htn)]
 apply List.ext_getElem?
 intro t
 rcases Nat.lt_or_ge t n with q1 | q1
 ·rw [dY Q f q1]
  by_cases e:i=t
  ·subst e
   rw [List.getElem?_set_self (by rw [iK];exact q1)]
  rw [List.getElem?_set_ne e,dY P f q1,kd (p:=P t) (q:=Q t) (fun y hy=>(h2 t y (fun h=>e h.1.symm) q1 hy).symm)]
 rw [List.getElem?_eq_none (by rw [List.length_set,iK];exact q1),List.getElem?_eq_none (by rw [iK];exact q1)]
theorem ru (n:Nat) (f:Nat→Nat→Int × Int):List.replicate n (List.replicate n ((0:Int),(0:Int)))=dF n (done 0 0) f:=by
 apply List.ext_getElem?
 intro t
 rcases Nat.lt_or_ge t n with q1 | q1
 ·rw [dY _ f q1,List.getElem?_replicate,if_pos q1]
  congr 1
  apply List.ext_getElem?
  intro y
  rcases Nat.lt_or_ge y n with q2 | q2
  ·rw [eF _ _ q2,List.getElem?_replicate,if_pos q2]
   simp [done]
  rw [List.getElem?_eq_none (by rw [List.length_replicate];exact q2),List.getElem?_eq_none (by rw [fV];exact q2)]
 rw [List.getElem?_eq_none (by rw [List.length_replicate];exact q1),List.getElem?_eq_none (by rw [iK];exact q1)]
def half (i k:Nat) (x y:Nat):Bool:=done i k x y || (decide (x=i) && decide (y=k))
def yH (i k:Nat):Nat→Nat→Nat→Bool
 | 0=>done i k
 | 1=>half i k
 | _=>done i (k+1)
theorem uH {n i:Nat} (f:Nat→Nat→Int × Int) (hi:i<n):(dF n (done i i) f).set i ((dG n (done i i i) (f i)).set i (f i i))=dF n (done i (i+1)) f:=by
 refine kc hi hi (by simp [done]) fun x y h _ _=>?_
 unfold done
 by_cases h1:min x y<i
 ·simp [h1]
 have h3:¬ (min x y=i∧max x y<i+1):=fun ⟨a1,a2⟩=>h ⟨by omega,by omega⟩
 have h4:¬ (min x y=i∧max x y<i):=fun ⟨a1,a2⟩=>by omega
 simp only [h1,decide_false,Bool.false_or,←Bool.decide_and,h3,h4]
theorem vU {n i k:Nat} (f:Nat→Nat→Int × Int) (hi:i<k) (hk:k<n):(dF n (done i k) f).set i ((dG n (done i k i) (f i)).set k (f i k))=dF n (half i k) f:=
 kc (by omega) hk (by simp [half]) fun x y h _ _=>by
  unfold half
  have:(decide (x=i) && decide (y=k))=false:=by rw [←Bool.decide_and,decide_eq_false_iff_not];exact h
  rw [this,Bool.or_false]
theorem vV {n i k:Nat} (f:Nat→Nat→Int × Int) (hs:f k i=f i k) (hi:i<k) (hk:k<n):(dF n (half i k) f).set k ((dG n (half i k k) (f k)).set i (f i k))=dF n (done i (k+1)) f:=by
 rw [←hs]
 refine kc hk (by omega) (by simp [done];omega) fun x y h _ _=>?_
 unfold half done
 by_cases h1:min x y<i
 ·simp [h1]
 by_cases h2:x=i∧y=k
 ·obtain ⟨rfl,rfl⟩:=h2
  have e1:min x y=x:=by omega
  have e2:max x y<y+1:=by omega
  simp [e1,e2]
 have h3:(min x y=i∧max x y<k+1) ↔ (min x y=i∧max x y<k):=⟨fun ⟨a1,a2⟩=>⟨a1,by omega⟩,fun ⟨a1,a2⟩=>⟨a1,by omega⟩⟩
 simp only [h1,decide_false,Bool.false_or,←Bool.decide_and,h2,Bool.or_false,h3]
theorem q9 {n i:Nat} (f:Nat→Nat→Int × Int):dF n (done i n) f=dF n (done (i+1) (i+1)) f:=by
 refine ub fun x hx y hy=>?_
 unfold done
 have h2:¬ (min x y=i+1∧max x y<i+1):=by omega
 have h1:(min x y<i∨(min x y=i∧max x y<n)) ↔ min x y<i+1:=by omega
 simp only [←Bool.decide_and,←Bool.decide_or,h2,decide_false,Bool.or_false,h1]
theorem tH {n:Nat} (f:Nat→Nat→Int × Int):dF n (done n n) f=(List.range n).map fun i=>(List.range n).map fun j=>f i j:=by
 unfold dF dG
 refine List.map_congr_left fun i hi=>List.map_congr_left fun j hj=>?_
 have:=List.mem_range.1 hi;have:=List.mem_range.1 hj;rw [if_pos];unfold done;rw [decide_eq_true (by omega:min i j<n)];rfl
theorem xA (a b:Int) (l:List Pt) (i j:Nat):fe a b l i j=fe a b l j i:=by unfold fe;rw [jL]
theorem uB {a b:Int} {l:List Pt} (h:Ak a b l=false):dx a b l=[]:=by unfold dx;rw [h];rfl
theorem rT {a b:Int} {l:List Pt} (h:Ak a b l=true):dx a b l=dF l.length (done l.length l.length) (fe a b l):=by rw [tH];unfold dx;rw [h];rfl
end M
theorem eG.size {W:World} {gm n:Nat} {rows:M.zQ} (h:eG W gm n rows) (hn:0<n):gm+1+n≤W.heap.size:=by
 obtain ⟨h1,h2,h3⟩:=h
 have hl:n - 1<rows.length:=by omega
 have:=(h3 (n - 1) _ (List.getElem?_eq_getElem hl)).2.lt;omega
def da (w:World) (N:Nat) (a b x1 x2 x3:Int) (pb:Nat) (rows:M.zQ) (W:World):Prop:=
 eG W (w.heap.size+1) N rows∧aH W w.heap.size 29 #[.int .i64 a,.int .i64 b]∧(w.heap.size+1+1+N≤pb∧aH W pb 57 #[.int .i64 x1,.int .i64 x2,.int .i64 x3])∧Below w.heap.size w W
def es (w:World) (N sb:Nat) (q:Int × Int) (W:World):Prop:=w.heap.size+1+1+N≤sb∧aH W sb 68 #[.int .i64 q.1,.int .i64 q.2]
theorem da.below {w W W':World} {N:Nat} {a b x1 x2 x3:Int} {pb:Nat} {rows:M.zQ} (h:da w N a b x1 x2 x3 pb rows W) (hb:Below W.heap.size W W'):da w N a b x1 x2 x3 pb rows W':=
 ⟨h.1.below hb,h.2.1.keep hb,⟨h.2.2.1.1,h.2.2.1.2.keep hb⟩,h.2.2.2.trans (hb.mono h.2.2.2.size)⟩
theorem es.below {w W W':World} {N sb:Nat} {q:Int × Int} (h:es w N sb q W) (hb:Below W.heap.size W W'):es w N sb q W':=⟨h.1,h.2.keep hb⟩
theorem da.put {w W:World} {N:Nat} {a b x1 x2 x3:Int} {pb:Nat} {rows rows':M.zQ} {i j:Nat} {r:List (Int × Int)} {q:Int × Int} (h:da w N a b x1 x2 x3 pb rows W) (hr:rows[i]?=some r) (hj:j<N) (he:rows.set i (r.set j q)=rows'):da w N a b x1 x2 x3 pb rows' ((W.setCell ⟨w.heap.size+1+1+i,j*2,none⟩ (.int .i64 q.1)).setCell ⟨w.heap.size+1+1+i,j*2+1,none⟩ (.int .i64 q.2)):=by
 subst he
 have hi:i<N:=by rw [←h.1.1];exact (List.getElem?_eq_some_iff.1 hr).1
 have hp:=h.2.2.1.1;exact ⟨h.1.put hr hj q,(h.2.1.other (by omega) _).other (by omega) _,⟨hp,(h.2.2.1.2.other (by omega) _).other (by omega) _⟩,yL (yL h.2.2.2 (by show w.heap.size≤w.heap.size+1+1+i;omega) _) (by show w.heap.size≤w.heap.size+1+1+i;omega) _⟩
theorem es.put {w W:World} {N sb i j1 j2:Nat} {q:Int × Int} {u v:Value} (h:es w N sb q W) (hi:i<N):es w N sb q ((W.setCell ⟨w.heap.size+1+1+i,j1,none⟩ u).setCell ⟨w.heap.size+1+1+i,j2,none⟩ v):=by
 have hp:=h.1;exact ⟨hp,(h.2.other (by omega) _).other (by omega) _⟩
end
end Go.Proofs.YtgfkcoablfjbcaaGreat
