/-
  Joined texts: contracts and plain lemmas.
-/
import Derived.Test.YtkalaljcbmkbmaaGreatB1
import Derived.Test.YtkalaljcbmkbmaaGreatB12
import Derived.Test.YtkalaljcbmkbmaaGreatB9
import Derived.Test.YtkalaljcbmkbmaaGreatB4
import Derived.Test.YtkalaljcbmkbmaaGreatB11
import Derived.Test.YtkalaljcbmkbmaaGreatB8
set_option linter.unusedSimpArgs false
set_option linter.unusedVariables false
set_option maxRecDepth 100000
set_option maxHeartbeats 8000000
namespace Go.Proofs.YtkalaljcbmkbmaaGreat
section
open Go.RowKit
abbrev Pt:=Int × Int × Int
def gQ (W:World) (v:Value) (l:List Pt):Prop:=∃ (a:Option Addr) (cap:Nat),v=.slice a l.length cap/\(l=[]∨∃ g,a=some ⟨g,0,none⟩/\fL W g l)
theorem gQ.below {w w':World} {v:Value} {l:List Pt} (h:gQ w v l) (hb:Below w.heap.size w w'):gQ w' v l:=by
 obtain ⟨a,cap,e,h⟩:=h;refine ⟨a,cap,e,?_⟩
 rcases h with h | ⟨g,e,h⟩
 ·exact Or.inl h
 exact Or.inr ⟨g,e,h.below hb⟩
def nG (w:World) (g o:Nat) (l:List Pt):Prop:=
 ∀ (k:Nat) (p:Pt),l[k]?=some p->w.cell? ⟨g,o+k*3,none⟩=some (.int .i64 p.1)/\w.cell? ⟨g,o+k*3+1,none⟩=some (.int .i64 p.2.1)/\w.cell? ⟨g,o+k*3+2,none⟩=some (.int .i64 p.2.2)
theorem nG.below {w w':World} {g o:Nat} {l:List Pt} (h:nG w g o l) (hb:Below w.heap.size w w'):nG w' g o l:=fun k p hp=>by
 obtain ⟨h1,h2,h3⟩:=h k p hp;exact ⟨aE hb h1,aE hb h2,aE hb h3⟩
theorem fL.o {w:World} {g:Nat} {l:List Pt} (h:fL w g l):nG w g 0 l:=fun k p hp=>by
 rw [Nat.zero_add];exact h k p hp
def eA (W:World) (v:Value) (l:List Pt):Prop:=∃ (a:Option Addr) (cap:Nat),v=.slice a l.length cap/\(l=[]∨∃ g o,a=some ⟨g,o,none⟩/\nG W g o l)
theorem eA.below {w w':World} {v:Value} {l:List Pt} (h:eA w v l) (hb:Below w.heap.size w w'):eA w' v l:=by
 obtain ⟨a,cap,e,h⟩:=h;refine ⟨a,cap,e,?_⟩
 rcases h with h | ⟨g,o,e,h⟩
 ·exact Or.inl h
 exact Or.inr ⟨g,o,e,h.below hb⟩
theorem gQ.v {w:World} {v:Value} {l:List Pt} (h:gQ w v l):eA w v l:=by
 obtain ⟨a,cap,e,h⟩:=h;refine ⟨a,cap,e,?_⟩
 rcases h with h | ⟨g,e,h⟩
 ·exact Or.inl h
 exact Or.inr ⟨g,0,e,h.o⟩
def vB (g:Nat) (lb:Array Value) (p:Pt->Bool) (xs:List Pt) (w:World):Prop:=
 ∀ (x:Pt) (_:x ∈ xs) (W:World),Below w.heap.size w W->Calls Tryz.prog g (#[.agg #[x.1,x.2.1,x.2.2]] ++ lb) W fun e W'=>e=.returned (.bool (p x))/\Below W.heap.size W W'
theorem vG {p:Pt->Bool} {xs:List Pt} {k:Nat} {x:Pt} (hx:xs[k]?=some x) (h:(xs.take k).any p=false) (h':p x=false):(xs.take (k+1)).any p=false:=by
 rw [List.take_add_one,hx,List.any_append,h]
 simpa using h'
theorem Ay {p:Pt->Bool} {xs:List Pt} {k:Nat} {x:Pt} (hx:xs[k]?=some x) (h':p x=true):xs.any p=true:=
 List.any_eq_true.2 ⟨x,List.mem_of_getElem? hx,h'⟩
theorem rP (g:Nat) (lb:Array Value) (eg:∀ args w,(callFunc g args).run Tryz.prog w=.ok (.enter g args) w) (p:Pt->Bool) (v:Value) (xs:List Pt) (w:World) (hx:eA w v xs) (hn:xs.length<=4) (hp:vB g lb p xs w) :
  Calls Tryz.prog 107 #[v,.func (.func g) #[] lb] w fun e w'=>∃ r:Int,e=.returned (.int .i64 r)/\(decide (0<=r)=xs.any p/\-1<=r/\r<=4)/\Below w.heap.size w w':=by
 obtain ⟨a,cap,rfl,hv⟩:=hx;have hv:=DB hv;have hp:=DB hp
 obtain ⟨N,hN⟩:∃ N,Hid (xs.length=N):=⟨_,DB rfl⟩
 rw [hN.out] at hn ⊢;go_enter Tryz.func107,Tryz.ntmps107
 go_wp2
 go_loopw [5,8] (fun _ vi wr=>∃ k:Nat,k<=N/\vi=.int .i64 k/\Hid ((xs.take k).any p=false)/\Below w.heap.size w wr) (fun _ vi _=>N - (intOf vi).toNat)
 case atStart=>exact ⟨0,by omega,rfl,DB rfl,DE _ _⟩
 case round=>
 obtain ⟨k,hk,rfl,hall,hbr⟩:=hrel
 by_cases hlt:k<N
 ·obtain ⟨x,hx⟩:∃ x,xs[k]?=some x:=⟨_,List.getElem?_eq_getElem (by have:=hN.out;omega)⟩
  obtain ⟨b,o_,rfl,hpt⟩:∃ b o_,a=some ⟨b,o_,none⟩/\nG w b o_ xs:=by
   rcases hv.out with h | h
   ·rw [h] at hx;cases hx
   exact h
  obtain ⟨d0,d1,d2⟩:=(hpt.below hbr) k x hx;have hcall:=hp.out x (List.mem_of_getElem? hx) wr hbr
  cases hq:p x
  ·rw [hq] at hcall
   have hcall:=DB hcall;have hnx:=DB (vG hx hall.out hq);clear hx hq hpt;obtain ⟨x1,x2,x3⟩:=x;simp only [] at d0 d1 d2 hcall
   go_wp2_with (go_at_fn g;refine (hcall.out).mono ?_;rintro e w2 ⟨rfl,hb2⟩)
   go_roundw
   case rel=>exact ⟨k+1,by omega,by go_num,hnx,aR hbr hb2⟩
   case measure=>simp [intOf];omega
  rw [hq] at hcall;have hcall:=DB hcall;have hf:=DB (Ay hx hq);clear hx hq hpt;obtain ⟨x1,x2,x3⟩:=x;simp only [] at d0 d1 d2 hcall
  go_wp2_with (go_at_fn g;refine (hcall.out).mono ?_;rintro e w2 ⟨rfl,hb2⟩)
  go_ret;exact ⟨_,rfl,⟨by rw [hf.out];exact decide_eq_true (by omega),by omega,by omega⟩,aR hbr hb2⟩
 obtain rfl:k=N:=by omega
 have EB:=hall;rw [←hN.out,List.take_length] at EB;go_wp2;go_ret;exact ⟨_,rfl,⟨by rw [EB.out];rfl,by omega,by omega⟩,hbr⟩
theorem ly (g:Nat) (lb:Array Value) (eg:∀ args w,(callFunc g args).run Tryz.prog w=.ok (.enter g args) w) (p:Pt->Bool) (v:Value) (xs:List Pt) (w:World) (hx:eA w v xs) (hn:xs.length<=4) (hp:vB g lb p xs w) :
  Calls Tryz.prog 63 #[v,.func (.func g) #[] lb] w fun e w'=>e=.returned (.bool (xs.any p))/\Below w.heap.size w w':=by
 have P:=DB (rP g lb eg p v xs w hx hn hp);generalize xs.any p=t at *;clear hx hp;go_enter Tryz.func63,Tryz.ntmps63
 go_wp2_with (go_at_call 107;refine P.out.mono ?_;rintro e w2 ⟨r,rfl,⟨h1,h2,h3⟩,hb2⟩)
 go_ret;exact ⟨by rw [←h1];simp,hb2⟩
theorem q7 (a b X Y E:Int) (cb:Nat) (w:World) (C:aG w cb 25 #[a,b]) :
  Calls Tryz.prog 64 #[.agg #[X,Y,E],.pointer (some ⟨cb,0,none⟩)] w fun e w'=>e=.returned (.bool (!(M.good a b && M.aY a b X Y E)))/\Below w.heap.size w w':=by
 have PP:=DB fun W=>gy a b X Y E W
 generalize (M.good a b && M.aY a b X Y E)=t at *;have B:=(DE w.heap.size w).alloc (DF _) (.cells #[X,Y,E] 40);have C2:=C.alloc (.cells #[X,Y,E] 40);have Q:=aG.new w #[X,Y,E] 40;generalize hw3:w.alloc (.cells #[X,Y,E] 40)=wc at *;have e_:=C2.box.c0;have f_:=C2.box.c1;have ⟨q0,q1,q2⟩:=Q.aO;go_enter Tryz.func64,Tryz.ntmps64
 go_wp2_with (go_at_call 47;(with_reducible refine (PP.out _).mono ?_);rintro e w4 ⟨rfl,hb4⟩)
 go_ret;exact ⟨rfl,d_ B hb4⟩
namespace M
noncomputable def bc (a b:Int) (l:List Pt):Bool:=good a b && ins l.length 1 4 && l.all (fun p=>aY a b p.1 p.2.1 p.2.2)
theorem uW {a b:Int} {l:List Pt} (h:good a b=false):bc a b l=false:=by unfold bc;rw [h];rfl
theorem uV {a b:Int} {l:List Pt} (hg:good a b=true):(!l.any (fun x=>!(good a b && aY a b x.1 x.2.1 x.2.2)))=l.all (fun p=>aY a b p.1 p.2.1 p.2.2):=by
 rw [hg,List.not_any_eq_all_not]
 congr 1
 funext x
 simp
end M
theorem jw (a b:Int) (v:Value) (l:List Pt) (w:World) (hx:eA w v l) (hn:l.length<=4000000) :
  Calls Tryz.prog 27 #[.agg #[a,b],v] w fun e w'=>e=.returned (.bool (M.bc a b l))/\Below w.heap.size w w':=by
 have PC:=DB fun W=>mT a b W
 obtain ⟨sa,cap,rfl,hv⟩:=hx;have hx:=DB (show eA w (.slice sa l.length cap) l from ⟨sa,cap,rfl,hv⟩);clear hv
 have PF:=DB fun W (h:eA W (.slice sa l.length cap) l) (hn:l.length<=4) (C:aG W w.heap.size 25 #[a,b])=>ly 64 #[.pointer (some ⟨w.heap.size,0,none⟩)] (fun _ _=>rfl) (fun x=>!(M.good a b && M.aY a b x.1 x.2.1 x.2.2)) (.slice sa l.length cap) l W h hn (fun x _ W' hb=>q7 a b x.1 x.2.1 x.2.2 w.heap.size W' (C.keep hb))
 have PI:=DB fun W=>cQ l.length 1 4 W
 have hpl:=DB (show M.bc a b l=(M.good a b && M.ins l.length 1 4 && l.all (fun p=>M.aY a b p.1 p.2.1 p.2.2)) from rfl)
 have han:=DB fun h=>M.uV (a:=a) (b:=b) (l:=l) h
 have hbd:M.ins l.length 1 4=true->l.length<=4:=fun h=>by
  unfold M.ins at h;simp only [Bool.and_eq_true,decide_eq_true_eq] at h;omega
 have hbd:=DB hbd;have B:=(DE w.heap.size w).alloc (DF _) (.cells #[a,b] 25);have C:=aG.new w #[a,b] 25;replace hx:=DB (hx.out.below B);generalize hw3:w.alloc (.cells #[a,b] 25)=wc at *;have e_:=C.box.c0;have f_:=C.box.c1
 cases hg:M.good a b
 ·have hfin:=DB (M.uW (l:=l) hg)
  rw [hg] at PC;clear hpl han hg;generalize l.length=N,M.bc a b l=pl at *;go_enter Tryz.func27,Tryz.ntmps27
  go_wp2_with (go_at_call 62;(with_reducible refine (PC.out _).mono ?_);rintro e w4 ⟨rfl,hb4⟩;replace B:=d_ B hb4)
  go_ret;exact ⟨by rw [hfin.out];rfl,B⟩
 cases hi:M.ins l.length 1 4
 ·have hfin:=DB (show M.bc a b l=false by rw [hpl.out,hi,Bool.and_false];rfl)
  rw [hg] at PC;rw [hi] at PI;clear hpl han hg hi hbd PF hx;generalize l.length=N,M.bc a b l=pl at *;go_enter Tryz.func27,Tryz.ntmps27
  go_wp2_with first | (go_at_call 62;(with_reducible refine (PC.out _).mono ?_);rintro e w4 ⟨rfl,hb4⟩;replace B:=d_ B hb4) | (go_at_call 28;(with_reducible refine (PI.out _).mono ?_);rintro e w5 ⟨rfl,rfl⟩)
  go_ret;exact ⟨by rw [hfin.out];rfl,B⟩
 have hfin:=DB (show M.bc a b l=!l.any (fun x=>!(M.good a b && M.aY a b x.1 x.2.1 x.2.2)) by rw [han.out hg,hpl.out,hi,hg];rfl);have FB:=DB (hbd.out hi);rw [hg] at PC;rw [hi] at PI
 replace PF:=DB fun W h=>PF.out W h FB.out
 clear hpl han hg hi hbd;generalize l.length=N,M.bc a b l=pl,l.any (fun x=>!(M.good a b && M.aY a b x.1 x.2.1 x.2.2))=t at *;go_enter Tryz.func27,Tryz.ntmps27
 go_wp2_with first | (go_at_call 62;(with_reducible refine (PC.out _).mono ?_);rintro e w4 ⟨rfl,hb4⟩;replace B:=d_ B hb4;replace C:=C.keep hb4;replace hx:=DB (hx.out.below hb4)) | (go_at_call 28;(with_reducible refine (PI.out _).mono ?_);rintro e w5 ⟨rfl,rfl⟩) | (go_at_call 63;(refine (PF.out _ hx.out C).mono ?_);rintro e w6 ⟨rfl,hb6⟩;replace B:=d_ B hb6)
 go_ret;exact ⟨by rw [hfin.out];rfl,B⟩
theorem wU (a b:Int) (v:Value) (l:List Pt) (w:World) (hx:eA w v l) (hn:l.length<=4000000) :
  Calls Tryz.prog 39 #[.agg #[a,b],v] w fun e w'=>e=.returned (.bool (M.bc a b l))/\Below w.heap.size w w':=by
 have PC:=DB fun W=>pk a b W
 obtain ⟨sa,cap,rfl,hv⟩:=hx;have hv:=DB hv
 have PI:=DB fun W=>dl l.length 1 4 W
 have hpl:=DB (show M.bc a b l=(M.good a b && M.ins l.length 1 4 && l.all (fun p=>M.aY a b p.1 p.2.1 p.2.2)) from rfl);obtain ⟨wc,hw3,C,B⟩:=dD w #[a,b] 25
 obtain ⟨N,hN⟩:∃ N,Hid (l.length=N):=⟨_,DB rfl⟩
 rw [hN.out] at hn PI hpl ⊢;go_enter Tryz.func39,Tryz.ntmps39
 go_wp2
 go_loopw [9] (fun vi wr=>∃ k:Nat,k<=N/\vi=.int .i64 k/\Hid ((l.take k).all (fun p=>M.good a b && M.aY a b p.1 p.2.1 p.2.2)=true)/\aG wr w.heap.size 25 #[a,b]/\Below w.heap.size w wr) (fun vi _=>N - (intOf vi).toNat)
 case atStart=>exact ⟨0,Nat.zero_le _,rfl,DB rfl,C,B⟩
 case round=>
 clear C B hw3;obtain ⟨k,hk,rfl,hall,C,B⟩:=hrel
 by_cases hlt:k<N
 ·obtain ⟨x,hx⟩:∃ x,l[k]?=some x:=⟨_,List.getElem?_eq_getElem (by have:=hN.out;omega)⟩
  obtain ⟨g,o_,rfl,hpt⟩:∃ g o_,sa=some ⟨g,o_,none⟩/\nG w g o_ l:=by
   rcases hv.out with h | h
   ·rw [h] at hx;cases hx
   exact h
  obtain ⟨d0,d1,d2⟩:=(hpt.below B) k x hx
  have PP:=fun W=>pM a b x.1 x.2.1 x.2.2 W
  have hmem:=List.mem_of_getElem? hx
  have hnx:(M.good a b && M.aY a b x.1 x.2.1 x.2.2)=true->(l.take (k+1)).all (fun p=>M.good a b && M.aY a b p.1 p.2.1 p.2.2)=true:=fun h=>by
   rw [List.take_add_one,hx,List.all_append,hall.out]
   simpa using h
  have hbad:(M.good a b && M.aY a b x.1 x.2.1 x.2.2)=false->M.bc a b l=false:=fun h=>by
   cases hp:M.bc a b l
   ·rfl
   rw [hpl.out] at hp;simp only [Bool.and_eq_true,List.all_eq_true] at hp;have:=hp.2 x hmem;rw [hp.1.1,this] at h;cases h
  generalize (M.good a b && M.aY a b x.1 x.2.1 x.2.2)=t at *;obtain ⟨x1,x2,x3⟩:=x;simp only [] at d0 d1 d2 PP;clear hx hmem hpt;replace PP:=DB PP;replace hnx:=DB hnx;replace hbad:=DB hbad;replace B:=B.alloc B.size (.cells #[x1,x2,x3] 40);have Z:=aG.new wr #[x1,x2,x3] 40;replace C:=C.alloc (.cells #[x1,x2,x3] 40);have e_:=C.box.c0;have f_:=C.box.c1;have ⟨z0,z1,z2⟩:=Z.aO;cases t
  ·have hfin:=DB (hbad.out rfl)
   go_wp2_with (go_at_call 51;(with_reducible refine (PP.out _).mono ?_);rintro e w4 ⟨rfl,hb4⟩;replace B:=d_ B hb4)
   go_ret;exact ⟨by rw [hfin.out];rfl,B⟩
  have hny:=DB (hnx.out rfl);clear hnx
  go_wp2_with (go_at_call 51;(with_reducible refine (PP.out _).mono ?_);rintro e w4 ⟨rfl,hb4⟩;replace B:=d_ B hb4;replace C:=C.keep hb4)
  go_roundw
  case rel=>exact ⟨k+1,by omega,by simp,hny,C,B⟩
  case measure=>simp [intOf] <;> omega
 obtain rfl:k=N:=by omega
 have e0:l.take k=l:=by rw [←hN.out];exact List.take_length
 rw [e0] at hall
 have hfin:M.bc a b l=(M.good a b && M.ins (k:Int) 1 4):=by
  rw [hpl.out]
  cases hg:M.good a b
  ·rfl
  have:=hall.out;rw [hg] at this;simp only [Bool.true_and] at this;rw [this,Bool.and_true]
 have hfin:=DB hfin;clear hpl hall;have e_:=C.box.c0;have f_:=C.box.c1;generalize M.good a b=gd at *;generalize M.ins (k:Int) 1 4=ii at *;cases gd
 all_goals
  go_wp2_with first | (go_at_call 74;(with_reducible refine (PC.out _).mono ?_);rintro e w4 ⟨rfl,hb4⟩;replace B:=d_ B hb4) | (go_at_call 35;(with_reducible refine (PI.out _).mono ?_);rintro e w5 ⟨rfl,rfl⟩)
  go_ret;exact ⟨by rw [hfin.out];rfl,B⟩
theorem Rw.oW {α:Type} {E:Rw.Enc α} {v:Value} {w:World} {base:Nat} {xs:List α} (h:Rw.Own E w base v xs):v.oneCell'=true:=by
 rcases h.2 with ⟨rfl,-⟩ | ⟨g,cap,cur,rfl,-⟩ <;> rfl
def EN:Rw.Enc (Int × Int × Int × Int) where
 t:=78
 k:=4
 cells:=fun q=>[.int .i64 q.1,.int .i64 q.2.1,.int .i64 q.2.2.1,.int .i64 q.2.2.2]
 len:=fun _=>rfl
 one:=fun x u hu=>by simp only [List.mem_cons,List.not_mem_nil,or_false] at hu;rcases hu with rfl | rfl | rfl | rfl <;> rfl
 pos:=by decide
theorem Ch:(Tryz.prog.info? 78).map (fun i=>(i.zero,i.size,i.bytes))=some (some (.agg #[(0:Int),(0:Int),(0:Int),(0:Int)]),4,32):=by kernel_rfl
theorem pt:Rw.Fits Tryz.prog EN 136:=⟨Tryz.underlying136,by
 obtain ⟨i0,hi,hz0,hz1,hz2⟩:=info_parts Ch
 exact ⟨i0,_,hi,hz0,hz1,by omega,rfl⟩⟩
theorem wg:(Tryz.prog.info? 136).map (fun i=>(i.zero,i.size,i.bytes))=some (some (.slice none 0 0),1,24):=by kernel_rfl
theorem neN:(136:TypeId)≠78:=by decide
def bi (w:World) (base:Nat) (v:Value) (vs:List Value) (rows:List (List (Int × Int × Int × Int))):Prop:=
 w.ownsRow base 136 1 v rows.length vs/\vs.length=rows.length/\(∀ (i:Nat) (u:Value) (r:List (Int × Int × Int × Int)),vs[i]?=some u->rows[i]?=some r->Rw.Own EN w base u r)/\
  vs.Pairwise (fun u u'=>∀ g,u.ownBlock=some g->u'.ownBlock≠some g)
theorem bi.nil (w:World) (base:Nat):bi w base (.slice none 0 0) [] []:=⟨World.ownsRow_nil w base _ 1,rfl,fun i u r h=>by simp at h,List.Pairwise.nil⟩
theorem bi.base {w:World} {base base':Nat} {v:Value} {vs:List Value} {rows:List (List (Int × Int × Int × Int))} (h:bi w base v vs rows) (hb:base'<=base):bi w base' v vs rows:=by
 obtain ⟨h1,h2,h3,h4⟩:=h;refine ⟨?_,h2,fun i u r hu hr=>(h3 i u r hu hr).down hb,h4⟩;obtain ⟨a1,a2⟩:=h1;refine ⟨a1,?_⟩
 rcases a2 with a2 | ⟨g,cap,cur,hv,hg,hh,r⟩
 ·exact Or.inl a2
 exact Or.inr ⟨g,cap,cur,hv,Nat.le_trans hb hg,hh,r⟩
theorem bi.below {w w':World} {base:Nat} {v:Value} {vs:List Value} {rows:List (List (Int × Int × Int × Int))} (h:bi w base v vs rows) (hb:Below w.heap.size w w'):bi w' base v vs rows:=by
 obtain ⟨h1,h2,h3,h4⟩:=h;exact ⟨World.ownsRow.kept h1 (bw hb none) (by cases v.ownBlock <;> simp),h2,fun i u r hu hr=>(h3 i u r hu hr).below hb,h4⟩
theorem bi.alloc {w:World} {base:Nat} {v:Value} {vs:List Value} {rows:List (List (Int × Int × Int × Int))} (h:bi w base v vs rows) (o:Obj):bi (w.alloc o) base v vs rows:=
 h.below ((DE _ _).alloc (DF _) _)
theorem bi.lt {w:World} {base:Nat} {v:Value} {vs:List Value} {rows:List (List (Int × Int × Int × Int))} (h:bi w base v vs rows):∀ z ∈ vs,∀ g,z.ownBlock=some g->base<=g/\g<w.heap.size:=by
 obtain ⟨h1,h2,h3,h4⟩:=h;intro z hz g hg;obtain ⟨i,hi⟩:=List.getElem?_of_mem hz;have hil:=(List.getElem?_eq_some_iff.1 hi).1;exact World.ownsRow.lt (h3 i z _ hi (List.getElem?_eq_getElem (by omega))) g hg
theorem ud {ops:Array Oper} {rest:List Oper} {o:Oper} {a:Act} {Q:Exit->Act->World->Prop} {w W:World} (base:Nat) (u:Value) (r:List (Int × Int × Int × Int)) (vs:List Value) (rows:List (List (Int × Int × Int × Int))) (v:Value) (H:Nat) (hH:w.heap.size=H) (hgd:o.guard=none) (s x:Operand)
  (ho:o.op=.call { callee:=.builtin .append,args:=#[s,x],argTypes:=#[105,105] }) (hs:a.eval s=v) (hx:a.eval x=.slice (some ⟨H,0,none⟩) 1 1)
  (hown:bi w base v vs rows) (hu:Rw.Own EN w base u r) (hnew:∀ g,u.ownBlock=some g->∀ z ∈ vs,z.ownBlock≠some g)
  (hW:Below base W w) (hB:base<=w.heap.size) (hl:rows.length<=1000000000)
  (h:∀ v' w',bi w' base v' (vs ++ [u]) (rows ++ [r])->Below base W w'->wpList Tryz.prog ops Q rest (a.put o.dst v') w') :
  wpList Tryz.prog ops Q (o :: rest) a (w.alloc (.cells #[u] 136)):=by
 subst hH;obtain ⟨i0,hi,hz0,hz1,hz2⟩:=info_parts wg;obtain ⟨h1,h2,h3,h4⟩:=hown
 refine wpList_append_own _ hgd s x 105 ho base 136 i0 (.slice none 0 0) 1 24 Tryz.underlying105 hi hz0 hz1 hz2 rfl (by decide) v rows.length vs hs (h1.alloc _) ⟨w.heap.size,0,none⟩ 1 1 [u] hx rfl (fun j z hz=>by
  have hadd:(⟨w.heap.size,0,none⟩:Addr).add j=⟨w.heap.size,j,none⟩:=by unfold Addr.add;split <;> simp_all
  rw [hadd,World.cell?_alloc_at _ _ _ _ rfl]
  simpa using hz) (fun z hz=>by simp only [List.mem_singleton] at hz;subst hz;exact Rw.oW hu) ?_ ?_ ?_ ?_
 ·unfold maxLen;omega
 ·omega
 ·simp;omega
 intro v' w' k1 k2 _;refine h v' w' ⟨by rw [List.length_append];exact k1,by rw [List.length_append,List.length_append,h2];rfl,?_,?_⟩ ((hW.alloc hB _).grown k2 (by simp;omega) fun k hk=>(h1.lt k hk).1)
 ·have hal:∀ {z:Value} {q:List (Int × Int × Int × Int)},Rw.Own EN w base z q->Rw.Own EN w' base z q:=by
   intro z q hz;have hz':Rw.Own EN (w.alloc (.cells #[u] 136)) base z q:=World.ownsRow.alloc hz _
   refine hz'.kept k2 fun g hg=>?_
   exact iC (t1:=78) (t2:=136) hz' (World.ownsRow.alloc h1 _) (Ne.symm neN) g hg
  intro i z q hz hq
  by_cases hlt:i<vs.length
  ·rw [List.getElem?_append_left hlt] at hz
   rw [List.getElem?_append_left (by omega)] at hq;exact hal (h3 i z q hz hq)
  rw [List.getElem?_append_right (by omega)] at hz;rw [List.getElem?_append_right (by omega),←h2] at hq
  have hi0:i - vs.length=0:=by
   rcases Nat.eq_zero_or_pos (i - vs.length) with e | e
   ·exact e
   rw [List.getElem?_eq_none (by simp;omega)] at hz;cases hz
  rw [hi0] at hz hq;simp only [List.getElem?_cons_zero,Option.some.injEq] at hz hq;subst hz hq;exact hal hu
 rw [List.pairwise_append];refine ⟨h4,by simp,fun z hz z' hz' g hg hg'=>?_⟩;simp only [List.mem_singleton] at hz';subst hz';exact hnew g hg' z hz hg
theorem bi.view {w:World} {base:Nat} {v:Value} {vs:List Value} {rows:List (List (Int × Int × Int × Int))} (h:bi w base v vs rows):∃ (a:Option Addr) (cap:Nat),v=.slice a rows.length cap/\(rows.length:Int)<=9223372036854775807/\
  ∀ k,k<rows.length->∃ g u r,a=some ⟨g,0,none⟩/\g<w.heap.size/\Hid (rows[k]?=some r)/\Hid (vs[k]?=some u)/\w.cell? ⟨g,k,none⟩=some u/\Rw.Own EN w base u r:=by
 obtain ⟨⟨h1,h2⟩,h3,h4,h5⟩:=h
 rcases h2 with ⟨rfl,hn⟩ | ⟨g,cap,cur,rfl,hg,hh,hc,hm,hs,ht⟩
 ·exact ⟨none,0,by rw [hn],by omega,fun k hk=>by omega⟩
 refine ⟨some ⟨g,0,none⟩,cap,rfl,by unfold maxLen at hm;omega,fun k hk=>⟨g,vs[k]'(by omega),rows[k],rfl,(Array.getElem?_eq_some_iff.1 hh).1,List.getElem?_eq_getElem hk,List.getElem?_eq_getElem (by omega),?_,h4 k _ _ (List.getElem?_eq_getElem (by omega)) (List.getElem?_eq_getElem hk)⟩⟩;rw [cell_of_row w g k cur _ (0,0) hh];have e:vs[k]?=some (vs[k]'(by omega)):=List.getElem?_eq_getElem (by omega);generalize vs[k]'(by omega)=q at e ⊢;rw [←ht,List.getElem?_take] at e
 split at e
 ·simpa using e
 cases e
def EP:Rw.Enc (Int × Int) where
 t:=74
 k:=2
 cells:=fun q=>[.int .i64 q.1,.int .i64 q.2]
 len:=fun _=>rfl
 one:=fun x u hu=>by simp only [List.mem_cons,List.not_mem_nil,or_false] at hu;rcases hu with rfl | rfl <;> rfl
 pos:=by decide
theorem wh:(Tryz.prog.info? 74).map (fun i=>(i.zero,i.size,i.bytes))=some (some (.agg #[(0:Int),(0:Int)]),2,16):=by kernel_rfl
theorem AW:Rw.Fits Tryz.prog EP 130:=⟨Tryz.underlying130,by
 obtain ⟨i0,hi,hz0,hz1,hz2⟩:=info_parts wh
 exact ⟨i0,_,hi,hz0,hz1,by omega,rfl⟩⟩
theorem wj:(Tryz.prog.info? 130).map (fun i=>(i.zero,i.size,i.bytes))=some (some (.slice none 0 0),1,24):=by kernel_rfl
theorem neP:(130:TypeId)≠74:=by decide
def bQ (w:World) (base:Nat) (v:Value) (vs:List Value) (rows:List (List (Int × Int))):Prop:=
 w.ownsRow base 130 1 v rows.length vs/\vs.length=rows.length/\(∀ (i:Nat) (u:Value) (r:List (Int × Int)),vs[i]?=some u->rows[i]?=some r->Rw.Own EP w base u r)/\
  vs.Pairwise (fun u u'=>∀ g,u.ownBlock=some g->u'.ownBlock≠some g)
theorem bQ.nil (w:World) (base:Nat):bQ w base (.slice none 0 0) [] []:=⟨World.ownsRow_nil w base _ 1,rfl,fun i u r h=>by simp at h,List.Pairwise.nil⟩
theorem bQ.base {w:World} {base base':Nat} {v:Value} {vs:List Value} {rows:List (List (Int × Int))} (h:bQ w base v vs rows) (hb:base'<=base):bQ w base' v vs rows:=by
 obtain ⟨h1,h2,h3,h4⟩:=h;refine ⟨?_,h2,fun i u r hu hr=>(h3 i u r hu hr).down hb,h4⟩;obtain ⟨a1,a2⟩:=h1;refine ⟨a1,?_⟩
 rcases a2 with a2 | ⟨g,cap,cur,hv,hg,hh,r⟩
 ·exact Or.inl a2
 exact Or.inr ⟨g,cap,cur,hv,Nat.le_trans hb hg,hh,r⟩
theorem bQ.below {w w':World} {base:Nat} {v:Value} {vs:List Value} {rows:List (List (Int × Int))} (h:bQ w base v vs rows) (hb:Below w.heap.size w w'):bQ w' base v vs rows:=by
 obtain ⟨h1,h2,h3,h4⟩:=h;exact ⟨World.ownsRow.kept h1 (bw hb none) (by cases v.ownBlock <;> simp),h2,fun i u r hu hr=>(h3 i u r hu hr).below hb,h4⟩
theorem bQ.alloc {w:World} {base:Nat} {v:Value} {vs:List Value} {rows:List (List (Int × Int))} (h:bQ w base v vs rows) (o:Obj):bQ (w.alloc o) base v vs rows:=
 h.below ((DE _ _).alloc (DF _) _)
theorem bQ.lt {w:World} {base:Nat} {v:Value} {vs:List Value} {rows:List (List (Int × Int))} (h:bQ w base v vs rows):∀ z ∈ vs,∀ g,z.ownBlock=some g->base<=g/\g<w.heap.size:=by
 obtain ⟨h1,h2,h3,h4⟩:=h;intro z hz g hg;obtain ⟨i,hi⟩:=List.getElem?_of_mem hz;have hil:=(List.getElem?_eq_some_iff.1 hi).1;exact World.ownsRow.lt (h3 i z _ hi (List.getElem?_eq_getElem (by omega))) g hg
theorem bQ.view {w:World} {base:Nat} {v:Value} {vs:List Value} {rows:List (List (Int × Int))} (h:bQ w base v vs rows):∃ (a:Option Addr) (cap:Nat),v=.slice a rows.length cap/\(rows.length:Int)<=9223372036854775807/\
  ∀ k,k<rows.length->∃ g u r,a=some ⟨g,0,none⟩/\g<w.heap.size/\Hid (rows[k]?=some r)/\Hid (vs[k]?=some u)/\w.cell? ⟨g,k,none⟩=some u/\Rw.Own EP w base u r:=by
 obtain ⟨⟨h1,h2⟩,h3,h4,h5⟩:=h
 rcases h2 with ⟨rfl,hn⟩ | ⟨g,cap,cur,rfl,hg,hh,hc,hm,hs,ht⟩
 ·exact ⟨none,0,by rw [hn],by omega,fun k hk=>by omega⟩
 refine ⟨some ⟨g,0,none⟩,cap,rfl,by unfold maxLen at hm;omega,fun k hk=>⟨g,vs[k]'(by omega),rows[k],rfl,(Array.getElem?_eq_some_iff.1 hh).1,List.getElem?_eq_getElem hk,List.getElem?_eq_getElem (by omega),?_,h4 k _ _ (List.getElem?_eq_getElem (by omega)) (List.getElem?_eq_getElem hk)⟩⟩;rw [cell_of_row w g k cur _ (0,0) hh];have e:vs[k]?=some (vs[k]'(by omega)):=List.getElem?_eq_getElem (by omega);generalize vs[k]'(by omega)=q at e ⊢;rw [←ht,List.getElem?_take] at e
 split at e
 ·simpa using e
 cases e
namespace M
noncomputable def ent (a b:Int) (l:List Pt) (i j:Nat):Sp:=match l[i]?,l[j]? with
 | some p,some q=>if i=j then eD a b p.1 p.2.2 else if i<j then dN a b p.1 p.2.1 p.2.2 q.1 q.2.1 q.2.2 else dN a b q.1 q.2.1 q.2.2 p.1 p.2.1 p.2.2
 | _,_=>none
noncomputable def Fn (s:Sp):Int × Int × Int × Int:=(De s,Df s,Dh s,Di s)
noncomputable def EO (a b:Int) (l:List Pt):Bool:=(List.range l.length).all fun i=>(List.range l.length).all fun j=>(ent a b l i j).isSome
noncomputable def kA (a b:Int) (l:List Pt) (i:Nat):List (Int × Int × Int × Int):=(List.range l.length).map fun j=>Fn (ent a b l i j)
noncomputable def mb (a b:Int) (l:List Pt):List (List (Int × Int × Int × Int)):=if EO a b l=true then (List.range l.length).map (kA a b l) else []
theorem kI (a b:Int) (l:List Pt) (i j:Nat):ent a b l i j=ent a b l j i:=by
 by_cases h:i=j
 ·subst h;rfl
 unfold ent
 cases l[i]? with
 | none=>cases l[j]? <;> rfl
 | some p=>cases l[j]? with
  | none=>rfl
  | some q=>
  simp only []
  have h':¬ j=i:=fun e=>h e.symm
  simp only [h,h',if_false]
  rcases Nat.lt_or_ge i j with q1 | q1
  ·rw [if_pos q1,if_neg (by omega)]
  rw [if_neg (by omega),if_pos (by omega)]
theorem po {a b:Int} {l:List Pt} {i:Nat} {p:Pt} (h:l[i]?=some p):ent a b l i i=eD a b p.1 p.2.2:=by
 unfold ent;rw [h];simp
theorem pm {a b:Int} {l:List Pt} {i j:Nat} {p q:Pt} (h1:l[i]?=some p) (h2:l[j]?=some q) (h:i<j):ent a b l i j=dN a b p.1 p.2.1 p.2.2 q.1 q.2.1 q.2.2:=by
 unfold ent;rw [h1,h2];simp only [];rw [if_neg (by omega),if_pos h]
theorem xC {a b:Int} {l:List Pt} {i j:Nat} (hi:i<l.length) (hj:j<l.length) (h:ent a b l i j=none):EO a b l=false:=by
 cases hm:EO a b l
 ·rfl
 unfold EO at hm;simp only [List.all_eq_true,List.mem_range] at hm;have:=hm i hi j hj;rw [h] at this;cases this
theorem sv {a b:Int} {l:List Pt} (h:∀ i,i<l.length->∀ j,j<l.length->(ent a b l i j).isSome=true):EO a b l=true:=by
 unfold EO;simp only [List.all_eq_true,List.mem_range];exact h
theorem xE {a b:Int} {l:List Pt} (h:EO a b l=false):mb a b l=[]:=by
 unfold mb;rw [h];rfl
theorem mc {a b:Int} {l:List Pt} (h:EO a b l=true):mb a b l=(List.range l.length).map (kA a b l):=by
 unfold mb;rw [h];rfl
end M
def df (w:World) (base:Nat) (v:Value) (rows:List (List (Int × Int × Int × Int))):Prop:=∃ vs,bi w base v vs rows
theorem df.below {w w':World} {base:Nat} {v:Value} {rows:List (List (Int × Int × Int × Int))} (h:df w base v rows) (hb:Below w.heap.size w w'):df w' base v rows:=h.elim fun vs k=>⟨vs,k.below hb⟩
theorem df.base {w:World} {base base':Nat} {v:Value} {rows:List (List (Int × Int × Int × Int))} (h:df w base v rows) (hb:base'<=base):df w base' v rows:=h.elim fun vs k=>⟨vs,k.base hb⟩
theorem df.nil (w:World) (base:Nat):df w base (.slice none 0 0) []:=⟨[],bi.nil w base⟩
theorem df.at {w:World} {base:Nat} {v:Value} {rows:List (List (Int × Int × Int × Int))} (h:df w base v rows) {i j:Nat} {r:List (Int × Int × Int × Int)} {q:Int × Int × Int × Int} (hr:rows[i]?=some r) (hq:r[j]?=some q) :
  ∃ (g cap g2 cap2:Nat),v=.slice (some ⟨g,0,none⟩) rows.length cap/\w.cell? ⟨g,i,none⟩=some (.slice (some ⟨g2,0,none⟩) r.length cap2)/\w.cell? ⟨g2,j*4,none⟩=some (.int .i64 q.1)/\w.cell? ⟨g2,j*4+1,none⟩=some (.int .i64 q.2.1)/\w.cell? ⟨g2,j*4+2,none⟩=some (.int .i64 q.2.2.1)/\w.cell? ⟨g2,j*4+3,none⟩=some (.int .i64 q.2.2.2):=by
 obtain ⟨vs,h⟩:=h;obtain ⟨a,cap,rfl,-,hv⟩:=h.view;obtain ⟨g,u,r',rfl,-,h1,-,h2,h3⟩:=hv i (List.getElem?_eq_some_iff.1 hr).1
 have e:r'=r:=by
  have:=h1.out;rw [hr] at this;exact (Option.some.inj this).symm
 subst e
 rcases h3.forms with ⟨-,h4⟩ | ⟨g2,cap2,rfl,-,-,-,-⟩
 ·rw [h4] at hq;cases hq
 have hc:=fun t (ht:t<4)=>(h3.cellAt rfl (j*4+t) _ ((Rw.flat_get EN r' j t q hq ht).trans (List.getElem?_eq_getElem (by rw [EN.len];exact ht)))).1
 exact ⟨g,cap,g2,cap2,rfl,h2,hc 0 (by decide),hc 1 (by decide),hc 2 (by decide),hc 3 (by decide)⟩
theorem gE {α:Type} (f:Nat->α) (k:Nat):(List.range (k+1)).map f=(List.range k).map f ++ [f k]:=by
 rw [List.range_succ,List.map_append];rfl
theorem qT {α:Type} (f:Nat->α) {k n:Nat} (h:k<n):((List.range n).map f)[k]?=some (f k):=by
 rw [List.getElem?_map,List.getElem?_range h];rfl
theorem rL (a b:Int) (v:Value) (l:List Pt) (w:World) (hx:eA w v l) (hg:M.good a b=true) (hn:l.length<=4) (hp:∀ p ∈ l,M.aY a b p.1 p.2.1 p.2.2=true) :
  Calls Tryz.prog 75 #[.agg #[a,b],v] w fun e w'=>∃ mv,e=.returned (.tuple #[mv,M.EO a b l])/\df w' w.heap.size mv (M.mb a b l)/\Below w.heap.size w w':=by
 have hin:=M.aj hg;obtain ⟨sa,cap,rfl,hv⟩:=hx;have hv:=DB hv;have hp:=DB hp
 obtain ⟨N,hN⟩:∃ N,Hid (l.length=N):=⟨_,DB rfl⟩
 rw [hN.out] at hn ⊢
 have hno:=DB fun i j h1 h2 h=>M.xC (a:=a) (b:=b) (l:=l) (i:=i) (j:=j) h1 h2 h
 have hrn:=DB fun h=>M.xE (a:=a) (b:=b) (l:=l) h
 obtain ⟨wc,hw3,C,B⟩:=dD w #[a,b] 25;go_enter Tryz.func75,Tryz.ntmps75
 go_wp2
 go_loopw [6,16] (fun vo vi wr=>∃ i:Nat,i<=N/\vi=.int .i64 i/\Hid (∀ i',i'<i->∀ j,j<l.length->(M.ent a b l i' j).isSome=true)/\Hid (df wr wc.heap.size vo ((List.range i).map (M.kA a b l)))/\Below wc.heap.size wc wr) (fun _ vi _=>N - (intOf vi).toNat)
 case atStart=>exact ⟨0,Nat.zero_le _,rfl,DB (fun i' h=>absurd h (by omega)),DB (df.nil _ _),DE _ _⟩
 case round=>
 obtain ⟨i,hi,rfl,hall,LB,Bc⟩:=hrel;have hB0:=B.size;replace B:=d_ B Bc;replace C:=C.keep Bc
 by_cases hlt:i<N
 ·obtain ⟨x,hx⟩:∃ x,l[i]?=some x:=⟨_,List.getElem?_eq_getElem (by have:=hN.out;omega)⟩
  obtain ⟨g,o_,rfl,hpt⟩:∃ g o_,sa=some ⟨g,o_,none⟩/\nG w g o_ l:=by
   rcases hv.out with h | h
   ·rw [h] at hx;cases hx
   exact h
  have hpt:=DB hpt;obtain ⟨d0,d1,d2⟩:=(hpt.out.below B) i x hx;have hpx:=hp.out x (List.mem_of_getElem? hx);have hx:=DB hx;obtain ⟨x1,x2,x3⟩:=x;simp only [] at d0 d1 d2 hpx;have hb1:=M.dq hin hpx
  have PS:=DB fun W=>wV a b x1 x2 x3 W hg hb1.1 hb1.2.1 hb1.2.2.1 hb1.2.2.2.1
  clear hb1;have B1:=B.alloc B.size (.cells #[x1,x2,x3] 40);have B1c:=Bc.alloc Bc.size (.cells #[x1,x2,x3] 40);have Z:=aG.new wr #[x1,x2,x3] 40;have C1:=C.alloc (.cells #[x1,x2,x3] 40);have hwi:=DC wr (.cells #[x1,x2,x3] 40);have hm1:=DB (LB.out.below ((DE _ wr).alloc (DF _) (.cells #[x1,x2,x3] 40)));generalize hw1:wr.alloc (.cells #[x1,x2,x3] 40)=wi at *;go_wp2
  go_loopw [9,23] (fun vr vk wq=>∃ k:Nat,k<=N/\vk=.int .i64 k/\Hid (∀ j,j<k->(M.ent a b l i j).isSome=true)/\Hid (Rw.Own EN wq wi.heap.size vr ((List.range k).map fun j=>M.Fn (M.ent a b l i j)))/\Below wi.heap.size wi wq) (fun _ vk _=>N - (intOf vk).toNat)
  case atStart=>exact ⟨0,Nat.zero_le _,rfl,DB (fun j h=>absurd h (by omega)),DB (Rw.Own.nil EN _ _),DE _ _⟩
  case round=>
  clear d0 d1 d2;obtain ⟨k,hk,rfl,EB,hrow,Bq⟩:=hrel;have hsz:=B.size;have D3:=Bq.size
  by_cases hlt2:k<N
  ·obtain ⟨y,hy⟩:∃ y,l[k]?=some y:=⟨_,List.getElem?_eq_getElem (by have:=hN.out;omega)⟩
   obtain ⟨d0,d1,d2⟩:=((hpt.out.below B1).below Bq) k y hy;have hpy:=hp.out y (List.mem_of_getElem? hy);obtain ⟨y1,y2,y3⟩:=y;simp only [] at d0 d1 d2 hpy;have hy:=DB hy;have GN:=DB (hm1.out.below Bq);have B2:=Bq.alloc Bq.size (.cells #[y1,y2,y3] 40);have ZY:=aG.new wr #[y1,y2,y3] 40;have Z2:=(Z.keep Bq).alloc (.cells #[y1,y2,y3] 40);have C2:=(C1.keep Bq).alloc (.cells #[y1,y2,y3] 40);have hrow2:=DB (Rw.Own.alloc hrow.out (.cells #[y1,y2,y3] 40));have e_:=C2.box.c0;have f_:=C2.box.c1;have ⟨z0,z1,z2⟩:=Z2.aO;have ⟨t0,t1,t2⟩:=ZY.aO
   have hle:((List.range k).map fun j=>M.Fn (M.ent a b l i j)).length<=4:=by rw [List.length_map,List.length_range];omega
   have hle:=DB hle
   have EZ:(M.ent a b l i k).isSome=true->(∀ j,j<k+1->(M.ent a b l i j).isSome=true):=fun h j hj=>by
    rcases Nat.lt_or_ge j k with q | q
    ·exact EB.out j q
    obtain rfl:j=k:=by omega
    exact h
   have EZ:=DB EZ
   rcases Nat.lt_trichotomy k i with hc | hc | hc
   ·have hent:=hall.out k hc i (by have:=hN.out;omega)
    rw [M.kI] at hent;have hnx:=DB (EZ.out hent);obtain ⟨gm,cm,g2,c2,rfl,m0,m1,m2,m3,m4⟩:=(GN.out.below ((DE _ wr).alloc (DF _) (.cells #[y1,y2,y3] 40))).at (qT (M.kA a b l) hc) (show (M.kA a b l k)[i]?=some _ from qT _ (by have:=hN.out;omega));rw [M.kI] at m1 m2 m3 m4
    have hrl:(M.kA a b l k).length=N:=by unfold M.kA;rw [List.length_map,List.length_range];exact hN.out
    rw [hrl] at m0
    have hrm:((List.range i).map (M.kA a b l)).length=i:=by rw [List.length_map,List.length_range]
    simp only [hrm];clear EZ hent hrl hrm
    obtain ⟨q,hq⟩:∃ q,Hid (M.Fn (M.ent a b l i k)=q):=⟨_,DB rfl⟩
    rw [hq.out] at m1 m2 m3 m4;obtain ⟨q1,q2,q3,q4⟩:=q;simp only [] at m1 m2 m3 m4
    have hii:((i:Nat):Int)<=4:=by omega
    go_wp2_with (at_builtin;refine Rw.push pt (W:=wi) wi.heap.size [(q1,q2,q3,q4)] _ _ (some ⟨wr.heap.size+1,0,none⟩) 1 1 rfl rfl (.tmp 31) (.tmp 39) rfl rfl rfl (Rw.From.lit EN _ (q1,q2,q3,q4) (wr.heap.size+1) (DC _ _)) (Rw.Own.alloc hrow2.out _) (B2.alloc B2.size _) (by rw [DC];have:=B2.size;omega) (by have:=hle.out;simp only [List.length_cons,List.length_nil];omega) ?_;intro v6 w6 hown6 hb6)
    go_roundw
    case rel=>exact ⟨k+1,by omega,by go_num,hnx,by rw [gE,hq.out];exact DB hown6,hb6⟩
    case measure=>simp [intOf] <;> omega
   ·subst hc
    have hxy:=Option.some.inj (hx.out.symm.trans hy.out)
    injection hxy with e1 e2
    injection e2 with e2 e3
    subst e1 e2 e3;have he:=M.po (a:=a) (b:=b) hx.out
    have PP:=fun W=>qG a b x1 x2 x3 x1 x2 x3 W hg hpx hpx
    generalize M.dN a b x1 x2 x3 x1 x2 x3=ps at *;generalize ps.isSome=fu,M.Di ps=u4,M.Dh ps=u3,M.Df ps=u2,M.De ps=u1 at *;simp only [] at he;replace PS:=PS.out;generalize M.eD a b x1 x3=ss at *;have hni:=hno.out k k (by have:=hN.out;omega) (by have:=hN.out;omega);rw [he] at hni EZ;have Bv:=(DE wr.heap.size wr).alloc (DF _) (.cells #[x1,x2,x3] 40)
    cases ss with
    | none=>
     have hfin:=DB (hni rfl);have hfr:=DB (hrn.out hfin.out);have e9:=DB (show M.De none=0/\M.Df none=0/\M.Dh none=0/\M.Di none=0/\(none:M.Sp).isSome=false from ⟨rfl,rfl,rfl,rfl,rfl⟩);rw [e9.out.1,e9.out.2.1,e9.out.2.2.1,e9.out.2.2.2.1,e9.out.2.2.2.2] at PS;clear hni EZ hno hrn e9 he;replace PP:=DB PP;replace PS:=DB PS
     go_wp2_with first | (go_at_call 117;(with_reducible refine (PP.out _).mono ?_);rintro e w4 ⟨rfl,hb4⟩;have Es:=Nat.le_trans Bv.size hb4.size;replace Bv:=(d_ Bv hb4).alloc (Nat.le_trans Bv.size hb4.size) (.cells #[u1,u2,u3,u4] 78);replace C2:=(C2.keep hb4).alloc (.cells #[u1,u2,u3,u4] 78);replace Z2:=(Z2.keep hb4).alloc (.cells #[u1,u2,u3,u4] 78);have V:=aG.new w4 #[u1,u2,u3,u4] 78;have e_:=C2.box.c0;have f_:=C2.box.c1;(have ⟨z0,z1,z2⟩:=Z2.aO);(have ⟨v0,v1,v2,v3,f0,f1,f2,f3,vl⟩:=V.aL)) | (go_at_call 118;(with_reducible refine (PS.out _).mono ?_);rintro e w5 ⟨rfl,hb5⟩;replace Bv:=d_ Bv hb5;replace V:=V.keep hb5;(have ⟨v0,v1,v2,v3,f0,f1,f2,f3,vl⟩:=V.aL);have J7:=DD (DD (DD (DD (Bv) (p:=⟨w4.heap.size,0,none⟩) Es (.int .i64 0)) (p:=⟨w4.heap.size,1,none⟩) Es (.int .i64 0)) (p:=⟨w4.heap.size,2,none⟩) Es (.int .i64 0)) (p:=⟨w4.heap.size,3,none⟩) Es (.int .i64 0);have V9:=V.mJ (.int .i64 0) (.int .i64 0) (.int .i64 0) (.int .i64 0);(have ⟨v0_,v1_,v2_,v3_,_,_,_,_,_⟩:=V9.aL))
     go_ret2;exact ⟨_,by rw [hfin.out];rfl,by rw [hfr.out];exact df.nil _ _,(d_ B1 Bq).trans (J7.mono (Nat.le_trans B1.size D3))⟩
    | some q_=>
    have hnx:=DB (EZ.out rfl)
    obtain ⟨q,hq⟩:∃ q,Hid (M.Fn (some q_)=q):=⟨_,DB rfl⟩
    obtain ⟨q1,q2,q3,q4⟩:=q;have e1:M.De (some q_)=q1:=congrArg (fun z=>z.1) hq.out;have e2:M.Df (some q_)=q2:=congrArg (fun z=>z.2.1) hq.out;have e3:M.Dh (some q_)=q3:=congrArg (fun z=>z.2.2.1) hq.out;have e4:M.Di (some q_)=q4:=congrArg (fun z=>z.2.2.2) hq.out;have e5:=DB (show (some q_:M.Sp).isSome=true from rfl);rw [e1,e2,e3,e4,e5.out] at PS;have he:=DB (he.trans rfl);clear hni EZ hno hrn e1 e2 e3 e4 e5;replace PP:=DB PP;replace PS:=DB PS
    go_wp2_with first | (go_at_call 117;(with_reducible refine (PP.out _).mono ?_);rintro e w4 ⟨rfl,hb4⟩;have Es:=Nat.le_trans Bv.size hb4.size;replace Bv:=(d_ Bv hb4).alloc (Nat.le_trans Bv.size hb4.size) (.cells #[u1,u2,u3,u4] 78);replace C2:=(C2.keep hb4).alloc (.cells #[u1,u2,u3,u4] 78);replace Z2:=(Z2.keep hb4).alloc (.cells #[u1,u2,u3,u4] 78);have V:=aG.new w4 #[u1,u2,u3,u4] 78;have e_:=C2.box.c0;have f_:=C2.box.c1;(have ⟨z0,z1,z2⟩:=Z2.aO);(have ⟨v0,v1,v2,v3,f0,f1,f2,f3,vl⟩:=V.aL)) | (go_at_call 118;(with_reducible refine (PS.out _).mono ?_);rintro e w5 ⟨rfl,hb5⟩;replace Bv:=d_ Bv hb5;replace V:=V.keep hb5;(have ⟨v0,v1,v2,v3,f0,f1,f2,f3,vl⟩:=V.aL);have J7:=DD (DD (DD (DD (Bv) (p:=⟨w4.heap.size,0,none⟩) Es (.int .i64 q1)) (p:=⟨w4.heap.size,1,none⟩) Es (.int .i64 q2)) (p:=⟨w4.heap.size,2,none⟩) Es (.int .i64 q3)) (p:=⟨w4.heap.size,3,none⟩) Es (.int .i64 q4);have V9:=V.mJ (.int .i64 q1) (.int .i64 q2) (.int .i64 q3) (.int .i64 q4);(have ⟨v0_,v1_,v2_,v3_,_,_,_,_,_⟩:=V9.aL)) | (at_builtin;refine Rw.push pt (W:=wi) wi.heap.size [(q1,q2,q3,q4)] _ _ (some ⟨w5.heap.size,0,none⟩) 1 1 rfl rfl (.tmp 59) (.tmp 61) rfl rfl rfl (Rw.From.lit EN _ (q1,q2,q3,q4) (w5.heap.size) (by simp [World.setCell])) (Rw.Own.alloc (hrow.out.below J7) _) ((d_ Bq J7).alloc (Nat.le_trans D3 J7.size) _) (by rw [DC];exact Nat.le_succ_of_le (Nat.le_trans D3 J7.size)) (by have:=hle.out;simp only [List.length_cons,List.length_nil];omega) ?_;intro v6 w6 hown6 hb6)
    go_roundw
    case rel=>exact ⟨k+1,by omega,by go_num,hnx,by rw [gE,he.out,hq.out];exact DB hown6,hb6⟩
    case measure=>simp [intOf] <;> omega
   have he:=M.pm (a:=a) (b:=b) hx.out hy.out hc
   have PP:=fun W=>qG a b x1 x2 x3 y1 y2 y3 W hg hpx hpy
   simp only [] at he;generalize M.dN a b x1 x2 x3 y1 y2 y3=ss at *
   have hne:((k:Int) == (i:Int))=false:=by rw [beq_eq_false_iff_ne];omega
   clear PS;have hni:=hno.out i k (by have:=hN.out;omega) (by have:=hN.out;omega);rw [he] at hni EZ;have Bv:=(DE wr.heap.size wr).alloc (DF _) (.cells #[y1,y2,y3] 40)
   cases ss with
   | none=>
    have hfin:=DB (hni rfl);have hfr:=DB (hrn.out hfin.out);have e9:=DB (show M.De none=0/\M.Df none=0/\M.Dh none=0/\M.Di none=0/\(none:M.Sp).isSome=false from ⟨rfl,rfl,rfl,rfl,rfl⟩);rw [e9.out.1,e9.out.2.1,e9.out.2.2.1,e9.out.2.2.2.1,e9.out.2.2.2.2] at PP;clear hni EZ hno hrn e9 he;replace PP:=DB PP
    go_wp2_with first | (go_at_call 117;(with_reducible refine (PP.out _).mono ?_);rintro e w4 ⟨rfl,hb4⟩;have Es:=Nat.le_trans Bv.size hb4.size;replace Bv:=(d_ Bv hb4).alloc (Nat.le_trans Bv.size hb4.size) (.cells #[(0:Int),(0:Int),(0:Int),(0:Int)] 78);replace C2:=(C2.keep hb4).alloc (.cells #[(0:Int),(0:Int),(0:Int),(0:Int)] 78);replace Z2:=(Z2.keep hb4).alloc (.cells #[(0:Int),(0:Int),(0:Int),(0:Int)] 78);have V:=aG.new w4 #[(0:Int),(0:Int),(0:Int),(0:Int)] 78;have e_:=C2.box.c0;have f_:=C2.box.c1;(have ⟨z0,z1,z2⟩:=Z2.aO);(have ⟨v0,v1,v2,v3,f0,f1,f2,f3,vl⟩:=V.aL))
    go_ret2;exact ⟨_,by rw [hfin.out];rfl,by rw [hfr.out];exact df.nil _ _,(d_ B1 Bq).trans (Bv.mono (Nat.le_trans B1.size D3))⟩
   | some q_=>
   have hnx:=DB (EZ.out rfl)
   obtain ⟨q,hq⟩:∃ q,Hid (M.Fn (some q_)=q):=⟨_,DB rfl⟩
   obtain ⟨q1,q2,q3,q4⟩:=q;have e1:M.De (some q_)=q1:=congrArg (fun z=>z.1) hq.out;have e2:M.Df (some q_)=q2:=congrArg (fun z=>z.2.1) hq.out;have e3:M.Dh (some q_)=q3:=congrArg (fun z=>z.2.2.1) hq.out;have e4:M.Di (some q_)=q4:=congrArg (fun z=>z.2.2.2) hq.out;have e5:=DB (show (some q_:M.Sp).isSome=true from rfl);rw [e1,e2,e3,e4,e5.out] at PP;have he:=DB (he.trans rfl);clear hni EZ hno hrn e1 e2 e3 e4 e5;replace PP:=DB PP
   go_wp2_with first | (go_at_call 117;(with_reducible refine (PP.out _).mono ?_);rintro e w4 ⟨rfl,hb4⟩;have Es:=Nat.le_trans Bv.size hb4.size;replace Bv:=(d_ Bv hb4).alloc (Nat.le_trans Bv.size hb4.size) (.cells #[q1,q2,q3,q4] 78);replace C2:=(C2.keep hb4).alloc (.cells #[q1,q2,q3,q4] 78);replace Z2:=(Z2.keep hb4).alloc (.cells #[q1,q2,q3,q4] 78);have V:=aG.new w4 #[q1,q2,q3,q4] 78;have e_:=C2.box.c0;have f_:=C2.box.c1;(have ⟨z0,z1,z2⟩:=Z2.aO);(have ⟨v0,v1,v2,v3,f0,f1,f2,f3,vl⟩:=V.aL)) | (at_builtin;refine Rw.push pt (W:=wi) wi.heap.size [(q1,q2,q3,q4)] _ _ (some ⟨w4.heap.size+1,0,none⟩) 1 1 rfl rfl (.tmp 59) (.tmp 61) rfl rfl rfl (Rw.From.lit EN _ (q1,q2,q3,q4) (w4.heap.size+1) (by simp [World.setCell])) (Rw.Own.alloc (hrow.out.below Bv) _) ((d_ Bq Bv).alloc (Nat.le_trans D3 Bv.size) _) (by rw [DC];exact Nat.le_succ_of_le (Nat.le_trans D3 Bv.size)) (by have:=hle.out;simp only [List.length_cons,List.length_nil];omega) ?_;intro v6 w6 hown6 hb6)
   go_roundw
   case rel=>exact ⟨k+1,by omega,by go_num,hnx,by rw [gE,he.out,hq.out];exact DB hown6,hb6⟩
   case measure=>simp [intOf] <;> omega
  obtain rfl:k=N:=by omega
  have hkl:((List.range k).map fun j=>M.Fn (M.ent a b l i j)).length=k:=by rw [List.length_map,List.length_range]
  obtain ⟨g4,c4,hvr⟩:∃ g4 c4,_=Value.slice (some ⟨g4,0,none⟩) k c4:=by
   rcases hrow.out.forms with ⟨-,h4⟩ | ⟨g4,c4,h4,-⟩
   ·rw [h4] at hkl;simp only [List.length_nil] at hkl;omega
   rw [hkl] at h4;exact ⟨g4,c4,h4⟩
  subst hvr;clear hkl;obtain ⟨vs,hvs⟩:=hm1.out;have Qu:=hvs.below Bq;have hrw:=hrow.out.down (show wc.heap.size<=wi.heap.size from B1c.size)
  have hlt3:=fun g h=>hrow.out.lt g h
  have hmr:(List.range k).map (fun j=>M.Fn (M.ent a b l i j))=M.kA a b l i:=by unfold M.kA;rw [hN.out]
  rw [hmr] at hrw
  have LC:=fun g hg z hz (e:Value.ownBlock z=some g)=>(absurd (hlt3 g hg).1 (Nat.not_le.2 (hvs.lt z hz g e).2):False)
  have hrm:((List.range i).map (M.kA a b l)).length=i:=by rw [List.length_map,List.length_range]
  have hal:∀ i',i'<i+1->∀ j,j<l.length->(M.ent a b l i' j).isSome=true:=fun i' h j hj=>by
   rcases Nat.lt_or_ge i' i with q | q
   ·exact hall.out i' q j hj
   obtain rfl:i'=i:=by omega
   exact EB.out j (by have:=hN.out;omega)
  have hal:=DB hal;have Bw:=d_ B1c Bq
  go_wp2_with (at_builtin;refine ud (W:=wc) wc.heap.size _ _ vs _ _ wr.heap.size rfl rfl (.tmp 64) (.tmp 66) rfl rfl rfl Qu hrw LC Bw Bw.size (by rw [hrm];omega) ?_;intro v7 w7 LE DL)
  go_roundw
  case rel=>exact ⟨i+1,by omega,by go_num,hal,DB ⟨_,by rw [gE];exact LE⟩,DL⟩
  case measure=>simp [intOf] <;> omega
 obtain rfl:i=N:=by omega
 have hyes:=DB (M.sv (a:=a) (b:=b) (l:=l) (fun i' h=>hall.out i' (by have:=hN.out;omega)));have hrows:=DB (M.mc hyes.out);go_wp2;go_ret2;exact ⟨_,by rw [hyes.out];rfl,by rw [hrows.out,hN.out];exact LB.out.base hB0,B⟩
theorem pQ (x:Int) (w:World) :
  Calls Tryz.prog 71 #[x] w fun e w'=>e=.returned (.bool (!(M.ins x (-12) 12)))/\Below w.heap.size w w':=by
 have PP:=DB fun W=>cQ x (-12) 12 W
 generalize M.ins x (-12) 12=t at *;go_enter Tryz.func71,Tryz.ntmps71
 go_wp2_with (go_at_call 28;(with_reducible refine (PP.out _).mono ?_);rintro e w4 ⟨rfl,rfl⟩)
 go_ret;exact ⟨rfl,DE _ _⟩
namespace M
def fits (n:List Int) (m:Nat):Bool:=((n.length:Int) == (m:Int)) && n.all (fun x=>ins x (-12) 12)
theorem wM {n:List Int}:(!n.any (fun x=>!(ins x (-12) 12)))=n.all (fun x=>ins x (-12) 12):=by
 rw [List.not_any_eq_all_not]
 congr 1
 funext x
 simp
end M
end
section
namespace M
abbrev Dm:=List (List (Int × Int))
def bW (m:Dm) (c:Nat):Dm:=m.tail.map fun r=>r.take c ++ r.drop (c+1)
def d9 (s part:Sp) (c:Nat):Sp:=if c % 2=0 then fW s part else cR s part
def cV:Nat->Dm->Sp
 | 0,_=>none
 | 1,m=>(m.headD []).head?
 | n+2,m=>(List.range (m.headD []).length).foldl (fun s c=>d9 s (fI ((m.headD [])[c]?) (cV (n+1) (bW m c))) c) (some (0,0))
def dS (n:Nat) (m:Dm) (k:Nat):Sp:=(List.range k).foldl (fun s c=>d9 s (fI ((m.headD [])[c]?) (cV (n+1) (bW m c))) c) (some (0,0))
theorem f9 (n:Nat) (m:Dm):cV (n+2) m=dS n m (m.headD []).length:=rfl
theorem fo (n:Nat) (m:Dm) (k:Nat):dS n m (k+1)=d9 (dS n m k) (fI ((m.headD [])[k]?) (cV (n+1) (bW m k))) k:=by
 unfold dS;rw [List.range_succ,List.foldl_append];rfl
theorem ie (p:Sp) (c:Nat):d9 none p c=none:=by
 unfold d9
 split <;> rfl
theorem dR (s:Sp) (c:Nat):d9 s none c=none:=by
 unfold d9
 cases s <;> split <;> rfl
theorem mr {n:Nat} {m:Dm} {k:Nat} (h:dS n m k=none):∀ j,k<=j->dS n m j=none
 | 0,hj=>by
  obtain rfl:k=0:=by omega
  exact h
 | j+1,hj=>by
  rcases Nat.lt_or_ge j k with q | q
  ·obtain rfl:k=j+1:=by omega
   exact h
  rw [fo,mr h j q,ie]
def Jk (m:Dm):Prop:=∀ r ∈ m,∀ q ∈ r,aJ q.1 q.2=true
theorem mf {m:Dm} {c:Nat} (h:Jk m):Jk (bW m c):=by
 intro r hr q hq;obtain ⟨s,hs,rfl⟩:=List.mem_map.1 hr
 rcases List.mem_append.1 hq with h1 | h1
 ·exact h s (List.mem_of_mem_tail hs) q (List.mem_of_mem_take h1)
 exact h s (List.mem_of_mem_tail hs) q (List.mem_of_mem_drop h1)
theorem xN {s p:Sp} {c:Nat}:EI (d9 s p c):=by
 unfold d9
 split
 ·exact sy
 exact kP
theorem oP {n:Nat} {m:Dm}:∀ k,EI (dS n m k)
 | 0=>fun p hp=>by
  have:(0,0)=p:=Option.some.inj hp;subst this
  decide
 | k+1=>by
  rw [fo];exact xN
theorem kN {m:Dm} (h:Jk m):∀ n,EI (cV n m)
 | 0=>fF
 | 1=>fun p hp=>by
  cases m with
  | nil=>cases hp
  | cons r m=>
  cases r with
  | nil=>cases hp
  | cons q r=>
  have:q=p:=Option.some.inj hp;subst this;exact h _ (List.mem_cons_self ..) _ (List.mem_cons_self ..)
 | n+2=>by
  rw [f9];exact oP _
def square (n:Nat) (m:Dm):Prop:=m.length=n/\∀ r ∈ m,r.length=n
theorem jF {n:Nat} {m:Dm} {c:Nat} (h:square (n+1) m) (hc:c<n+1):square n (bW m c):=by
 refine ⟨by unfold bW;rw [List.length_map,List.length_tail,h.1];rfl,fun r hr=>?_⟩;obtain ⟨s,hs,rfl⟩:=List.mem_map.1 hr;rw [List.length_append,List.length_take,List.length_drop,h.2 s (List.mem_of_mem_tail hs)];omega
end M
namespace M
open Dt
def HM (m:Dm) (T:Nat->Nat->Nat->Int):Prop:=∀ (i j:Nat) (r:List (Int × Int)) (p:Int × Int),m[i]?=some r->r[j]?=some p->D_ (fun n=>T n i j) p.1 p.2
theorem HM.minor {m:Dm} {T:Nat->Nat->Nat->Int} (h:HM m T) (c:Nat) (hw:∀ r ∈ m,c<r.length):HM (bW m c) (fun n=>mn (T n) c):=by
 intro i j r p hr hp;unfold bW at hr;rw [List.getElem?_map] at hr;obtain ⟨s,hs,rfl⟩:=Option.map_eq_some_iff.1 hr;rw [List.getElem?_tail] at hs;have hc:=hw s (List.mem_of_getElem? hs);refine h (i+1) (skip c j) s p hs ?_;unfold skip;rw [List.getElem?_append,List.length_take,Nat.min_eq_left (by omega),List.getElem?_take,List.getElem?_drop] at hp
 split
 ·rename_i hj
  rw [if_pos hj,if_pos hj] at hp;exact hp
 rename_i hj
 rw [if_neg hj] at hp;rw [show j+1=c+1+(j - c) by omega];exact hp
theorem rT {l h:Int} {p:Int × Int} (e:mkS l h=some p):p=(l,h):=by
 unfold mkS at e
 split at e
 ·exact (Option.some.inj e).symm
 cases e
theorem vw:∀ (k:Nat) (m:Dm) (T:Nat->Nat->Nat->Int) (p:Int × Int),m.length=k+1->(∀ r ∈ m,r.length=k+1)->HM m T->cV (k+1) m=some p->HK k (fun n=>Dq (k+1) (T n)) p.1 p.2
 | 0,m,T,p,hl,hw,h,e=>by
  obtain ⟨r,rfl⟩:∃ r,m=[r]:=List.length_eq_one_iff.1 hl;have e:r.head?=some p:=e
  have hp:r[0]?=some p:=by rw [←List.head?_eq_getElem?];exact e
  have:=HK.of (h 0 0 r p rfl hp)
  have e2:(fun n=>T n 0 0)=(fun n=>Dq 1 (T n)):=funext fun n=>by
   show T n 0 0=0+sg 0*(T n 0 0*1)
   rw [show sg 0=1 from rfl];omega
  rw [e2] at this;exact this
 | k+1,m,T,p,hl,hw,h,e=>by
  obtain ⟨r0,ms,rfl⟩:∃ r ms,m=r :: ms:=by
   cases m with
   | nil=>cases hl
   | cons r ms=>exact ⟨r,ms,rfl⟩
  have hr0:r0.length=k+2:=hw r0 (List.mem_cons_self)
  have part:∀ j,j<=k+2->∀ q,dS k (r0 :: ms) j=some q->HK (k+1) (fun n=>Dt.sm j fun c=>sg c*(T n 0 c*Dq (k+1) (mn (T n) c))) q.1 q.2:=by
   intro j
   induction j with
   | zero=>
    intro _ q hq;have:(0,0)=q:=Option.some.inj hq;subst this;exact HK.zero (k+1)
   | succ j ih=>
   intro hj q hq;rw [fo] at hq
   cases hs:dS k (r0 :: ms) j with
   | none=>rw [hs,ie] at hq;cases hq
   | some s=>
   have I:=ih (by omega) s hs;rw [hs] at hq
   have hx:∃ x,r0[j]?=some x:=⟨_,List.getElem?_eq_getElem (by omega)⟩
   obtain ⟨x,hx⟩:=hx;have hh:((r0 :: ms).headD [])[j]?=some x:=hx;rw [hh] at hq
   cases hd:cV (k+1) (bW (r0 :: ms) j) with
   | none=>
    rw [hd] at hq;rw [show fI (some x) none=none from rfl,dR] at hq;cases hq
   | some d=>
   rw [hd] at hq
   have hwm:∀ r ∈ (r0 :: ms),j<r.length:=fun r hr=>by rw [hw r hr];omega
   have D:=vw k (bW (r0 :: ms) j) (fun n=>mn (T n) j) d (by
    unfold bW;rw [List.length_map,List.length_tail,hl]
    rfl) (fun r hr=>by
    obtain ⟨s,hs,rfl⟩:=List.mem_map.1 hr;have:=hw s (List.mem_of_mem_tail hs);rw [List.length_append,List.length_take,List.length_drop]
    omega) (h.minor j hwm) hd
   have X:=HK.mul (h 0 j r0 x rfl hx) D
   cases hmu:fI (some x) (some d) with
   | none=>rw [hmu,dR] at hq;cases hq
   | some y=>
   rw [hmu] at hq;have hy:=rT hmu;unfold d9 at hq
   split at hq
   ·rename_i hc
    have hq':=rT hq;subst hq' hy
    have e2:(fun n=>(Dt.sm j fun c=>sg c*(T n 0 c*Dq (k+1) (mn (T n) c)))+T n 0 j*Dq (k+1) (mn (T n) j))=fun n=>Dt.sm (j+1) fun c=>sg c*(T n 0 c*Dq (k+1) (mn (T n) c)):=funext fun n=>by
     show _=(Dt.sm j fun c=>sg c*(T n 0 c*Dq (k+1) (mn (T n) c)))+sg j*(T n 0 j*Dq (k+1) (mn (T n) j))
     rw [show sg j=1 from if_pos hc,Int.one_mul]
    have Y:HK (k+1) (fun n=>(Dt.sm j fun c=>sg c*(T n 0 c*Dq (k+1) (mn (T n) c)))+T n 0 j*Dq (k+1) (mn (T n) j)) _ _:=I.add X;rw [e2] at Y;exact Y
   rename_i hc
   have hq':=rT hq;subst hq' hy
   have e2:(fun n=>(Dt.sm j fun c=>sg c*(T n 0 c*Dq (k+1) (mn (T n) c))) - T n 0 j*Dq (k+1) (mn (T n) j))=fun n=>Dt.sm (j+1) fun c=>sg c*(T n 0 c*Dq (k+1) (mn (T n) c)):=funext fun n=>by
    show _=(Dt.sm j fun c=>sg c*(T n 0 c*Dq (k+1) (mn (T n) c)))+sg j*(T n 0 j*Dq (k+1) (mn (T n) j))
    rw [show sg j=-1 from if_neg hc];omega
   have Y:HK (k+1) (fun n=>(Dt.sm j fun c=>sg c*(T n 0 c*Dq (k+1) (mn (T n) c))) - T n 0 j*Dq (k+1) (mn (T n) j)) _ _:=I.sub X;rw [e2] at Y;exact Y
  have e:dS k (r0 :: ms) r0.length=some p:=e;rw [hr0] at e;exact part (k+2) (DF _) p e
end M
namespace M
open Dt
def Bd (k:Nat) (s:Nat->Int):Prop:=∃ C:Int,0<=C/\∀ n:Nat,-(C*(4 ^ n) ^ k)<=s n/\s n<=C*(4 ^ n) ^ k
theorem Bd.zero (k:Nat):Bd k (fun _=>0):=⟨0,Int.le_refl _,fun n=>by simp⟩
theorem Bd.add {k:Nat} {s t:Nat->Int} (h:Bd k s) (h':Bd k t):Bd k (fun n=>s n+t n):=by
 obtain ⟨c,c0,h⟩:=h;obtain ⟨d,d0,h'⟩:=h';refine ⟨c+d,by omega,fun n=>?_⟩;have:=h n;have:=h' n;rw [Int.add_mul]
 show _<=s n+t n/\s n+t n<=_
 omega
theorem Bd.mul {k l:Nat} {s t:Nat->Int} (h:Bd k s) (h':Bd l t):Bd (k+l) (fun n=>s n*t n):=by
 obtain ⟨c,c0,h⟩:=h;obtain ⟨d,d0,h'⟩:=h';refine ⟨c*d,Int.mul_nonneg c0 d0,fun n=>?_⟩;have h1:=h n;have h2:=h' n;have e:=M.aH h1.1 h1.2 h2.1 h2.2
 have q:c*(4 ^ n) ^ k*(d*(4 ^ n) ^ l)=c*d*(4 ^ n) ^ (k+l):=by
  rw [Int.pow_add]
  grind
 rw [q] at e;exact e
theorem Bd.sg {k:Nat} {s:Nat->Int} (c:Nat) (h:Bd k s):Bd k (fun n=>sg c*s n):=by
 obtain ⟨d,d0,h⟩:=h;refine ⟨d,d0,fun n=>?_⟩;have:=h n
 show -(d*(4 ^ n) ^ k)<=Dt.sg c*s n/\Dt.sg c*s n<=d*(4 ^ n) ^ k
 unfold Dt.sg
 split <;> omega
theorem Bd.sm {k:Nat} {f:Nat->Nat->Int}:∀ N,(∀ c,c<N->Bd k (fun n=>f n c))->Bd k (fun n=>Dt.sm N (f n))
 | 0,_=>Bd.zero k
 | N+1,h=>(Bd.sm N fun c hc=>h c (by omega)).add (h N (by omega))
theorem vj:∀ (k:Nat) (T:Nat->Nat->Nat->Int),(∀ i j,Bd 1 (fun n=>T n i j))->Bd k (fun n=>Dq k (T n))
 | 0,_,_=>⟨1,by decide,fun n=>by simp [Dq]⟩
 | k
   + 1,T,h=>Bd.sm (k+1) fun c _=>Bd.sg c (by
   have:=(h 0 c).mul (vj k (fun n=>mn (T n) c) fun i j=>h (i+1) (skip c j))
   rwa [Nat.add_comm] at this)
theorem z6 (c q:Nat):skip c q≠c:=by
 unfold skip
 split <;> omega
theorem tN {c j q:Nat} (h:c≠j):skip c q=j ↔ q=un c j:=by
 unfold skip un
 split <;> split <;> omega
theorem vm:∀ (k:Nat) (T:Nat->Nat->Nat->Int) (j:Nat),j<k+1->(∀ i q,q≠j->Bd 1 (fun n=>T n i q))->(∀ i,Bd 0 (fun n=>T n i j))->Bd k (fun n=>Dq (k+1) (T n))
 | 0,T,j,hj,_,h0=>by
  obtain rfl:j=0:=by omega
  refine (show (fun n=>T n 0 0)=(fun n=>Dq 1 (T n)) from funext fun n=>?_) ▸ h0 0;simp [Dq,Dt.sm,Dt.sg]
 | k
   + 1,T,j,hj,h1,h0=>Bd.sm (k+2) fun c hc=>Bd.sg c (by
   by_cases e:c=j
   ·have:=(h0 0).mul (vj (k+1) (fun n=>mn (T n) j) fun i q=>h1 (i+1) (skip j q) (z6 j q))
    rw [Nat.zero_add] at this;rw [e];exact this
   have:=(h1 0 c e).mul (vm k (fun n=>mn (T n) c) (un c j) (Ah hc hj e) (fun i q hq=>h1 (i+1) (skip c q) fun x=>hq ((tN e).1 x)) fun i=>by
    have:=h0 (i+1);rw [←(tN e).2 rfl] at this
    exact this)
   rwa [Nat.add_comm] at this)
theorem HK.kernel {k:Nat} {T:Nat->Nat->Nat->Int} {l h:Int} {v:Nat->Int} {j:Nat} (p:HK k (fun n=>Dq (k+1) (T n)) l h) (hj:j<k+1) (hv:v j≠0) (h1:∀ i q,Bd 1 (fun n=>T n i q)) (h0:∀ i,Bd 0 (fun n=>Dt.sm (k+1) fun q=>v q*T n i q)):l<=0:=by
 obtain ⟨C,C0,b⟩:=vm k (fun n=>col (T n) j fun i=>Dt.sm (k+1) fun q=>v q*T n i q) j hj (fun i q hq=>by
  simp only [col,if_neg hq]
  exact h1 i q) (fun i=>by
  simp only [col,if_pos]
  exact h0 i)
 refine p.small (c:=C) hv fun n=>?_
 show -(C*(4 ^ n) ^ k)<=v j*Dq (k+1) (T n)/\v j*Dq (k+1) (T n)<=C*(4 ^ n) ^ k
 rw [BA (k+1) (T n) j hj v];exact b n
end M
namespace M
def In (C:Int) (s:Nat->Int):Prop:=∀ n,1<=s n/\4*s n<=s (n+1)+C+3/\s (n+1)<=4*s n+C
theorem In.lo {C:Int} {s:Nat->Int} (h:In C s) (n:Nat):∀ k:Nat,4 ^ k*(3*(s n - 1) - C)<=3*(s (n+k) - 1) - C
 | 0=>by simp
 | k+1=>by
  have ih:=h.lo n k;have:=h (n+k);rw [Int.pow_succ,show n+(k+1)=n+k+1 by omega]
  have e:4 ^ k*4*(3*(s n - 1) - C)=4*(4 ^ k*(3*(s n - 1) - C)):=by grind
  rw [e];generalize 4 ^ k*(3*(s n - 1) - C)=x at *;omega
theorem In.hi {C:Int} {s:Nat->Int} (h:In C s) (n:Nat):∀ k:Nat,3*s (n+k)+C<=4 ^ k*(3*s n+C)
 | 0=>by simp
 | k+1=>by
  have ih:=h.hi n k;have:=h (n+k);rw [Int.pow_succ,show n+(k+1)=n+k+1 by omega]
  have e:4 ^ k*4*(3*s n+C)=4*(4 ^ k*(3*s n+C)):=by grind
  rw [e];generalize 4 ^ k*(3*s n+C)=x at *;omega
theorem In.hld {C:Nat} {s:Nat->Int} (h:In C s) (n:Nat):D_ s (max 0 (3*(s n - 1) - C)*4096 / p4 n) (-(-((3*s n+C)*4096) / p4 n)):=by
 have hT:=fT n
 have MP:(0:Int)<p4 n:=by unfold p4;omega
 have l1:max 0 (3*(s n - 1) - C)*4096 / p4 n*p4 n<=max 0 (3*(s n - 1) - C)*4096:=Int.ediv_mul_le _ (by omega);have l2:-((3*s n+C)*4096) / p4 n*p4 n<=-((3*s n+C)*4096):=Int.ediv_mul_le _ (by omega);have l0:0<=max 0 (3*(s n - 1) - C)*4096 / p4 n:=Int.ediv_nonneg (by omega) (by omega)
 have l3:-((3*s n+C)*4096) / p4 n<=0:=by
  have:=(h n).1;have:=Int.ediv_le_ediv (c:=p4 n) MP (show -((3*s n+C)*4096)<=0 by omega)
  simpa using this
 generalize hL:max 0 (3*(s n - 1) - C)*4096 / p4 n=L at *;generalize hH:-((3*s n+C)*4096) / p4 n=H at *;clear hL hH;unfold p4 at l1 l2;refine ⟨L*4 ^ n+4096*(3+2*C+3*s n),fun N=>?_⟩;have hs:=(h N).1;have hsn:=(h n).1
 rcases Nat.lt_or_ge N n with hN | hN
 ·obtain ⟨k,rfl⟩:∃ k,n=N+k:=⟨n - N,by omega⟩
  have hk:=fT k;have hP:=fT N;have w:=h.lo N k;have e:(4:Int) ^ (N+k)=4 ^ N*4 ^ k:=Int.pow_add ..
  constructor
  ·have:L*4 ^ N<=L*4 ^ (N+k):=by
    rw [e];refine Int.mul_le_mul_of_nonneg_left ?_ l0;have:(4:Int) ^ N*1<=4 ^ N*4 ^ k:=Int.mul_le_mul_of_nonneg_left hk (by omega);omega
   omega
  have h1:3*(s N - 1) - C<=max 0 (3*(s (N+k) - 1) - C):=by
   rcases Int.lt_or_le 0 (3*(s N - 1) - C) with q | q
   ·have:1*(3*(s N - 1) - C)<=4 ^ k*(3*(s N - 1) - C):=Int.mul_le_mul_of_nonneg_right hk (by omega)
    omega
   omega
  have h2:0<=-H*4 ^ N:=Int.mul_nonneg (by omega) (by omega);have h3:0<=L*4 ^ (N+k):=Int.mul_nonneg l0 (by have:=fT (N+k);omega);omega
 obtain ⟨k,rfl⟩:∃ k,N=n+k:=⟨N - n,by omega⟩
 have hk:=fT k;have w1:=h.lo n k;have w2:=h.hi n k;have e:(4:Int) ^ (n+k)=4 ^ n*4 ^ k:=Int.pow_add ..;have h0:0<=L*4 ^ n:=Int.mul_nonneg l0 (by omega)
 constructor
 ·-- from below
  have h1:3*(L*4 ^ (n+k))<=3*(4096*s (n+k)):=by
   rw [e]
   have e2:3*(L*(4 ^ n*4 ^ k))=4 ^ k*(L*(3*4 ^ n)):=by grind
   rw [e2];refine Int.le_trans (Int.mul_le_mul_of_nonneg_left l1 (by omega)) ?_
   rcases Int.lt_or_le 0 (3*(s n - 1) - C) with q | q
   ·rw [Int.max_eq_right (by omega)]
    have e3:4 ^ k*((3*(s n - 1) - (C:Int))*4096)=4096*(4 ^ k*(3*(s n - 1) - C)):=by grind
    rw [e3];omega
   rw [Int.max_eq_left (by omega)];simp
   omega
  omega
 have h1:3*(4096*s (n+k))<=3*(-H*4 ^ (n+k)):=by
  rw [e]
  have e2:3*(-H*(4 ^ n*4 ^ k))=4 ^ k*(-(H*(3*4 ^ n))):=by grind
  rw [e2]
  have e3:3*(4096*s (n+k))<=4 ^ k*((3*s n+C)*4096):=by
   have e4:4 ^ k*((3*s n+(C:Int))*4096)=4096*(4 ^ k*(3*s n+C)):=by grind
   rw [e4];omega
  exact Int.le_trans e3 (Int.mul_le_mul_of_nonneg_left (by omega) (by omega))
 omega
theorem rM {a b:Int} (hd:aS a b≠0) {P:i_} (h:i_.On a b P):In (hC a b) (i_.hs a P):=fun n=>⟨i_.BS a P n,(i_.wX hd h n).1,(i_.wX hd h n).2⟩
theorem yW {a:Int} {P:i_} {n:Nat} {u v:Int} (h:pO (i_.DY a n P) (.val u v)):du (.val u v)=i_.hs a P n:=by
 obtain ⟨h1,h2⟩:=(h:i_.px _=u/\i_.pz _=v)
 unfold i_.hs i_.hp hb hh;rw [h1,h2,←A1]
 show max ((Wh.bl u.natAbs:Nat):Int) ((Wh.bl v.natAbs:Nat):Int)=_
 omega
theorem ut {s:Nat->Int} (h:∃ c:Int,∀ n,0<=s n/\s n<=c):D_ s 0 0:=by
 obtain ⟨c,h⟩:=h;exact ⟨4096*c,fun n=>by have:=h n;omega⟩
theorem pj {a:Rat} {P:i_} {n:Nat} (h:i_.DY a n P=.O):∀ k,i_.DY a (n+k) P=.O
 | 0=>h
 | k+1=>by
  show i_.add a (i_.DY a (n+k) P) (i_.DY a (n+k) P)=.O
  rw [pj h k];rfl
theorem BR {a b:Int} (hd:aS a b≠0) {P:i_} (h:i_.On a b P) {n:Nat} (hO:i_.DY a n P=.O):∃ c:Int,∀ k,0<=i_.hs a P k/\i_.hs a P k<=c:=by
 have W:=rM hd h
 have e1:i_.hs a P n=1:=by unfold i_.hs;rw [hO];decide
 refine ⟨2+hC a b,fun k=>⟨by have:=(W k).1;omega,?_⟩⟩
 rcases Nat.lt_or_ge k n with hk | hk
 ·obtain ⟨j,rfl⟩:∃ j,n=k+j:=⟨n - k,by omega⟩
  have w:=W.lo k j;rw [e1] at w;have hj:=fT j
  rcases Int.lt_or_le 0 (3*(i_.hs a P k - 1) - hC a b) with q | q
  ·have:1*(3*(i_.hs a P k - 1) - hC a b)<=4 ^ j*(3*(i_.hs a P k - 1) - hC a b):=Int.mul_le_mul_of_nonneg_right hj (by omega)
   omega
  omega
 obtain ⟨j,rfl⟩:∃ j,k=n+j:=⟨k - n,by omega⟩
 have:i_.hs a P (n+j)=1:=by unfold i_.hs;rw [pj hO j];decide
 omega
theorem tD {a b X Y E:Int} (hd:aS a b≠0) (h:aY a b X Y E=true) (n:Nat) (ho:isOk (aZ a b X E n)=true):D_ (i_.hs a (cW X Y E)) (hL (hC a b) n (aZ a b X E n)) (hH (hC a b) n (aZ a b X E n)):=by
 have hon:=eP h;have hi:=Be hd h n
 cases hq:aZ a b X E n with
 | bad=>rw [hq] at ho;cases ho
 | inf=>
  rw [hq] at hi;exact ut (BR hd hon hi)
 | val u v=>
 rw [hq] at hi;have:=(rM hd hon).hld n;rw [←yW hi] at this;exact this
theorem mU {a b X E:Int}:∀ {n k:Nat},k<=n->isOk (aZ a b X E n)=true->isOk (aZ a b X E k)=true
 | 0,k,hk,h=>by
  obtain rfl:k=0:=by omega
  exact h
 | n+1,k,hk,h=>by
  by_cases e:k=n+1
  ·exact e ▸ h
  refine mU (n:=n) (by omega) ?_;unfold aZ at *
  split
  ·rfl
  rename_i hE
  rw [if_neg hE] at h;have h:isOk (nx a b (run a b n (.val X (E*E))))=true:=h
  cases hr:run a b n (.val X (E*E)) with
  | bad=>rw [hr] at h;cases h
  | inf=>rfl
  | val u v=>rfl
theorem AS {a b X Y E:Int} (hd:aS a b≠0) (h:aY a b X Y E=true):∀ n:Nat,isOk (aZ a b X E n)=true->D_ (i_.hs a (cW X Y E)) (bL a b X E n) (bH a b X E n)
 | 0,ho=>tD hd h 0 ho
 | n+1,ho=>(AS hd h n (mU (Nat.le_succ n) ho)).common (tD hd h (n+1) ho)
theorem vK {a b X E:Int}:∀ f k:Nat,isOk (aZ a b X E k)=true->isOk (aZ a b X E (GJ a b X E f k))=true
 | 0,k,h=>h
 | f+1,k,h=>by
  unfold GJ
  split
  ·rename_i h1
   exact vK f (k+1) h1
  exact h
theorem CR (a b X E:Int):isOk (aZ a b X E (bN a b X E))=true:=by
 refine vK 5 0 ?_;unfold aZ
 split <;> rfl
theorem dt {a b X Y E:Int} (hd:aS a b≠0) (h:aY a b X Y E=true):D_ (i_.hs a (cW X Y E)) (bL a b X E (bN a b X E)) (bH a b X E (bN a b X E)):=AS hd h _ (CR a b X E)
end M
namespace M
theorem dA {k x y:Rat} (hk:k≠0) (h:k*x=k*y):x=y:=by
 have:k*(x - y)=0:=by grind
 rcases Rat.mul_eq_zero.1 this with h | h
 ·exact absurd h hk
 grind
theorem oh {X Y E:Int} (hE:E≠0):∃ x y:Rat,cW X Y E=.fin x y/\x*((E:Rat)*E)=X/\y*((E:Rat)*E*E)=Y:=by
 refine ⟨_,_,if_neg hE,?_,?_⟩
 ·push_cast
  exact Rat.div_mul_cancel (by have:=dc hE;grind)
 push_cast
 exact Rat.div_mul_cancel (by have:=dc hE;grind)
theorem Cx {x:Int} (h:(x:Rat)=0):x=0:=by exact_mod_cast h
theorem xv {a b X1 Y1 E1 X2 Y2 E2:Int} (h1:aY a b X1 Y1 E1=true) (h2:aY a b X2 Y2 E2=true) (e1:E1≠0) (e2:E2≠0) (h0:sD X1 Y1 E1 X2 Y2 E2≠0) {x1 y1 x2 y2:Rat}
  (k1:x1*((E1:Rat)*E1)=X1) (k2:y1*((E1:Rat)*E1*E1)=Y1) (k3:x2*((E2:Rat)*E2)=X2) (k4:y2*((E2:Rat)*E2*E2)=Y2)
  (o1:y1*y1=x1*x1*x1+a*x1+b) (o2:y2*y2=x2*x2*x2+a*x2+b) :
  ∃ l:Rat,i_.Slp a x1 y1 x2 y2 l/\l*(sD X1 Y1 E1 X2 Y2 E2:Int)=(sN a X1 Y1 E1 X2 Y2 E2:Int):=by
 have z1:=dc e1;have z2:=dc e2
 by_cases hc:X1=X2/\Y1=Y2/\E1=E2
 ·unfold sD at h0
  rw [if_pos hc] at h0
  have hy:y1≠0:=fun h=>by
   rw [h,Rat.zero_mul] at k2;have:=Cx k2.symm;subst this;simp at h0
  unfold sD sN;rw [if_pos hc,if_pos hc];obtain ⟨rfl,rfl,rfl⟩:=hc;have ex:x1=x2:=dA (k:=(E1:Rat)*E1) (by grind) (by grind);have ey:y1=y2:=dA (k:=(E1:Rat)*E1*E1) (by grind) (by grind);subst ex ey;refine ⟨(3*x1*x1+a) / (2*y1),⟨by grind,?_⟩,?_⟩
  ·have:=Rat.div_mul_cancel (a:=3*x1*x1+a) (b:=2*y1) (by grind)
   grind
  have:=Rat.div_mul_cancel (a:=3*x1*x1+a) (b:=2*y1) (by grind);generalize (3*x1*x1+(a:Rat)) / (2*y1)=l at *
  push_cast
  rw [←k1,←k2];clear k1 k2 k3 k4 o1 o2;generalize (E1:Rat)=e at *
  have:l*(2*(y1*(e*e*e))*e)=(l*(2*y1))*(e*e*e*e):=by grind
  grind
 unfold sD at h0;rw [if_neg hc] at h0;unfold sD sN;rw [if_neg hc,if_neg hc]
 have hx:x2 - x1≠0:=fun h=>by
  apply h0
  have:(X2*E1*E1 - X1*E2*E2:Int)=0:=by
   apply Cx
   push_cast
   rw [←k1,←k3];clear k2 k4 o1 o2
   grind
  rw [this,Int.mul_zero]
 have hd:=Rat.div_mul_cancel (a:=y2 - y1) hx;refine ⟨(y2 - y1) / (x2 - x1),⟨by grind,?_⟩,?_⟩
 ·generalize (y2 - y1) / (x2 - x1)=l at *
  refine dA hx ?_
  have:(x2 - x1)*(l*(y1+y2))=(y2 - y1)*(y1+y2):=by rw [←hd];grind
  rw [this];clear this hd k1 k2 k3 k4
  grind
 generalize (y2 - y1) / (x2 - x1)=l at *
 push_cast
 rw [←k1,←k2,←k3,←k4];clear k1 k2 k3 k4 o1 o2;generalize (E1:Rat)=e at *;generalize (E2:Rat)=f at *
 have:l*(e*f*(x2*(f*f)*e*e - x1*(e*e)*f*f))=(l*(x2 - x1))*(e*e*e*f*f*f):=by grind
 rw [this,hd]
 grind
theorem dY {a b:Int} (h:good a b=true):aS a b≠0:=by
 unfold good at h;rw [Bool.and_eq_true] at h
 simpa using h.2
theorem zC {a b X1 Y1 E1 X2 Y2 E2:Int} (hg:good a b=true) (h1:aY a b X1 Y1 E1=true) (h2:aY a b X2 Y2 E2=true) (e1:E1≠0) (e2:E2≠0) (h0:sD X1 Y1 E1 X2 Y2 E2≠0) :
  ∃ u v:Rat,i_.add a (cW X1 Y1 E1) (cW X2 Y2 E2)=.fin u v/\
   (∀ (x:Int) (e:Int),e≠0->(u*((e:Rat)*e)=x ↔ bot (Dz a X1 Y1 E1 X2 Y2 E2) E1 E2*x=top (EC a X1 Y1 E1 X2 Y2 E2) (Dz a X1 Y1 E1 X2 Y2 E2) X1 E1 X2 E2*(e*e)))/\
   ∀ (x y e:Int),e≠0->u*((e:Rat)*e)=x->e*fi (EC a X1 Y1 E1 X2 Y2 E2) (Dz a X1 Y1 E1 X2 Y2 E2) X1 Y1 E1 x e=Dz a X1 Y1 E1 X2 Y2 E2*E1*E1*E1*y->v*((e:Rat)*e*e)=y:=by
 obtain ⟨x1,y1,k0,k1,k2⟩:=oh (X:=X1) (Y:=Y1) e1;obtain ⟨x2,y2,k3,k4,k5⟩:=oh (X:=X2) (Y:=Y2) e2;have o1:=eP h1;have o2:=eP h2;rw [k0] at o1 ⊢;rw [k3] at o2 ⊢;obtain ⟨l,hl,hn⟩:=xv h1 h2 e1 e2 h0 k1 k2 k4 k5 o1 o2;obtain ⟨hs,hd0,-⟩:=tO (a:=a) h0
 have hln:l*(Dz a X1 Y1 E1 X2 Y2 E2:Int)=(EC a X1 Y1 E1 X2 Y2 E2:Int):=by
  refine dA (k:=(sD X1 Y1 E1 X2 Y2 E2:Rat)) (dc h0) ?_
  have:((EC a X1 Y1 E1 X2 Y2 E2*sD X1 Y1 E1 X2 Y2 E2:Int):Rat)=((Dz a X1 Y1 E1 X2 Y2 E2*sN a X1 Y1 E1 X2 Y2 E2:Int):Rat):=by rw [hs]
  push_cast at this
  rw [←hn] at this
  grind
 have hm:=dc (E:=Dz a X1 Y1 E1 X2 Y2 E2) (by omega);generalize Dz a X1 Y1 E1 X2 Y2 E2=m,EC a X1 Y1 E1 X2 Y2 E2=n at *;refine ⟨_,_,i_.cY (i_.cN (dY hg)) o1 o2 hl,fun x e he=>?_,fun x y e he hx hy=>?_⟩
 ·have hxr:(bot m E1 E2*x=top n m X1 E1 X2 E2*(e*e)) ↔ ((m:Rat)*m*(E1*E1*E2*E2)*x=((n:Rat)*n*(E1*E1*E2*E2) - m*m*(X1*E2*E2+X2*E1*E1))*(e*e)):=by
   unfold bot top
   constructor
   ·intro h
    exact_mod_cast h
   intro h
   exact_mod_cast h
  rw [hxr,←k1,←k4,←hln];have z1:=dc e1;have z2:=dc e2;have z3:=dc he;clear k0 k1 k2 k3 k4 k5 o1 o2 hn hln hxr hl;generalize (E1:Rat)=e1 at *;generalize (E2:Rat)=e2 at *;generalize (e:Rat)=e at *;generalize (m:Rat)=m at *;generalize (x:Rat)=x at *
  have e0:(l*m*(l*m)*(e1*e1*e2*e2) - m*m*(x1*(e1*e1)*e2*e2+x2*(e2*e2)*e1*e1))*(e*e)=(m*m*(e1*e1*e2*e2))*((l*l - x1 - x2)*(e*e)):=by grind
  rw [e0]
  constructor
  ·intro h
   rw [h]
  intro h;exact (dA (k:=m*m*(e1*e1*e2*e2)) (by grind) h).symm
 have MW:((e:Rat)*(n*(X1*e*e - x*E1*E1)*E1 - Y1*m*e*e))=m*E1*E1*E1*y:=by
  unfold fi at hy
  exact_mod_cast hy
 rw [←k1,←k2,←hln,←hx] at MW;have z1:=dc e1;have z3:=dc he;clear k0 k1 k2 k3 k4 k5 o1 o2 hn hln hl hx hy;generalize (E1:Rat)=e1 at *;generalize (e:Rat)=e at *;generalize (m:Rat)=m at *;generalize (y:Rat)=y at *;refine dA (k:=m*e1*e1*e1) (by grind) ?_;rw [←MW];generalize l*l - x1 - x2=u
 grind
theorem nI {a b X1 Y1 E1 X2 Y2 E2:Int} (hg:good a b=true) (h1:aY a b X1 Y1 E1=true) (h2:aY a b X2 Y2 E2=true) (hk:cX a X1 Y1 E1 X2 Y2 E2=true) :
  cW (dV a X1 Y1 E1 X2 Y2 E2) (fH a X1 Y1 E1 X2 Y2 E2) (dU a X1 Y1 E1 X2 Y2 E2)=i_.add a (cW X1 Y1 E1) (cW X2 Y2 E2):=by
 unfold cX at hk;unfold dV fH dU
 by_cases e1:E1=0
 ·subst e1
  rw [if_pos rfl,if_pos rfl,if_pos rfl];rfl
 rw [if_neg e1] at hk;rw [if_neg e1,if_neg e1,if_neg e1]
 by_cases e2:E2=0
 ·subst e2
  rw [if_pos rfl,if_pos rfl,if_pos rfl];exact (i_.jo _ _).symm
 rw [if_neg e2] at hk;rw [if_neg e2,if_neg e2,if_neg e2];obtain ⟨p1,p2,p3,p4⟩:=gj h1 e1;obtain ⟨r1,r2,r3,r4⟩:=gj h2 e2
 by_cases h0:sD X1 Y1 E1 X2 Y2 E2=0
 ·obtain ⟨q1,q2,q3⟩:=(tA p4 r4 p2.1 r2.1 p3 r3).1 h0
  unfold FP Fi Ev;rw [if_pos h0,if_pos h0,if_pos h0];subst q1 q2 q3;unfold cW;rw [if_pos rfl,if_neg e1,if_neg e1]
  symm
  refine i_.b7 ⟨rfl,?_⟩
  push_cast
  rw [Rat.div_def,Rat.div_def,Rat.neg_mul]
 obtain ⟨u,v,k1,k2,k3⟩:=zC hg h1 h2 e1 e2 h0;obtain ⟨-,-,H⟩:=nj (n:=EC a X1 Y1 E1 X2 Y2 E2) (m:=Dz a X1 Y1 E1 X2 Y2 E2) p4 r4 p1.2 r1.2 p2.1 p2.2 r2.1 r2.2 h0 (Or.inl ⟨rfl,rfl⟩);obtain ⟨c1,c2,c3,c4,c5,c6,c7,c8,-⟩:=H hk _ _ _ rfl rfl rfl
 have hE:Ev a X1 Y1 E1 X2 Y2 E2≠0:=by omega
 have hu:=(k2 _ _ hE).2 c6;have hv:=k3 _ _ _ hE hu c7;rw [k1];obtain ⟨x,y,l1,l2,l3⟩:=oh (X:=FP a X1 Y1 E1 X2 Y2 E2) (Y:=Fi a X1 Y1 E1 X2 Y2 E2) hE;have z:=dc hE;rw [l1]
 congr 1
 ·exact dA (k:=(Ev a X1 Y1 E1 X2 Y2 E2:Rat)*Ev a X1 Y1 E1 X2 Y2 E2) (by grind) (by grind)
 exact dA (k:=(Ev a X1 Y1 E1 X2 Y2 E2:Rat)*Ev a X1 Y1 E1 X2 Y2 E2*Ev a X1 Y1 E1 X2 Y2 E2) (by grind) (by grind)
theorem xW (X Y E:Int):cW X (-Y) E=i_.neg (cW X Y E):=by
 unfold cW
 split
 ·rfl
 show i_.fin _ _=i_.fin _ _
 congr 1
 push_cast
 rw [Rat.div_def,Rat.div_def,Rat.neg_mul]
theorem lV {a b X Y E:Int} (h:aY a b X Y E=true):aY a b X (-Y) E=true:=by
 unfold aY at *
 split
 ·rename_i hE
  rw [if_pos hE] at h;simp only [Bool.and_eq_true,decide_eq_true_eq] at *;omega
 rename_i hE
 rw [if_neg hE] at h;simp only [Bool.and_eq_true,decide_eq_true_eq] at *;exact ⟨h.1,by rw [show -Y*-Y=Y*Y by grind];exact h.2⟩
end M
end
section
open Go.RowKit
namespace M
theorem q8 {X E:Int} (hX1:-10000<=X) (hX2:X<=10000) (hE1:0<=E) (hE2:E<=20):du (.val X (E*E))<=14:=by
 have h1:Wh.bl X.natAbs<=14:=Wh.pT (by omega)
 have Kv:0<=E*E/\E*E<=400:=⟨Int.mul_nonneg hE1 hE1,by have:=Int.mul_le_mul hE2 hE2 hE1 (by omega);omega⟩
 have h2:Wh.bl (E*E).natAbs<=14:=Wh.pT (by omega)
 show max ((Wh.bl X.natAbs:Nat):Int) ((Wh.bl (E*E).natAbs:Nat):Int)<=14
 omega
theorem iQ {a b X Y E:Int} (hg:good a b=true) (h:aY a b X Y E=true) (k:Nat):0<=bL a b X E k/\bH a b X E k<=150000:=by
 have hin:=aj hg;obtain ⟨x1,x2,e1,e2,-⟩:=dq hin h;have hm:=qz (a:=a) (b:=b) (X:=X) (E:=E) (k:=0) k (Nat.zero_le _);have hCb:=mQ hin;have hb:=q8 x1 x2 e1 e2
 have h0:0<=bL a b X E 0/\bH a b X E 0<=150000:=by
  show 0<=hL (hC a b) 0 (aZ a b X E 0)/\hH (hC a b) 0 (aZ a b X E 0)<=150000
  unfold aZ
  split
  ·exact ⟨Int.le_refl _,by show (0:Int)<=150000;decide⟩
  show 0<=max 0 (3*(du (.val X (E*E)) - 1) - (hC a b:Int))*4096 / p4 0/\-(-((3*du (.val X (E*E))+(hC a b:Int))*4096) / p4 0)<=150000
  have e:p4 0=3:=rfl;rw [e];omega
 omega
theorem el {a b X Y E:Int} (hg:good a b=true) (h:aY a b X Y E=true):bO a b X E=some (bL a b X E (bN a b X E),bH a b X E (bN a b X E)):=by
 have hs:=iQ hg h (bN a b X E);have hv:=(dt (dY hg) h).valid;unfold bO EA
 have:aJ (bL a b X E (bN a b X E)) (bH a b X E (bN a b X E))=true:=by
  unfold aJ;simp only [Bool.and_eq_true,decide_eq_true_eq];omega
 rw [if_pos this]
structure HB (a b X Y E l h:Int):Prop where
 is:bO a b X E=some (l,h)
 lo:0<=l
 hi:h<=150000
 le:l<=h
 hld:D_ (i_.hs a (cW X Y E)) l h
theorem HB.ex {a b X Y E:Int} (hg:good a b=true) (h:aY a b X Y E=true):∃ l u,HB a b X Y E l u/\l=bL a b X E (bN a b X E)/\u=bH a b X E (bN a b X E):=
 ⟨_,_,⟨el hg h,(iQ hg h _).1,(iQ hg h _).2,(dt (dY hg) h).valid,dt (dY hg) h⟩,rfl,rfl⟩
end M
end
section
namespace M
theorem rU {l h:Int} {p:Int × Int} (e:mkS l h=some p):p=(l,h):=by
 unfold mkS at e
 split at e
 ·exact (Option.some.inj e).symm
 cases e
theorem qQ {a b X1 Y1 E1 X2 Y2 E2:Int} {p:Int × Int} (hg:good a b=true) (h1:aY a b X1 Y1 E1=true) (h2:aY a b X2 Y2 E2=true) (e:dN a b X1 Y1 E1 X2 Y2 E2=some p):D_ (i_.pr a (cW X1 Y1 E1) (cW X2 Y2 E2)) p.1 p.2:=by
 unfold dN at e
 split at e
 ·rename_i hk
  have hs:=jL (aj hg) h1 h2;have hd:=dY hg;rw [el hg hs,el hg h1,el hg h2] at e;have H:=((dt hd hs).sub (dt hd h1)).sub (dt hd h2);rw [nI hg h1 h2 hk] at H;generalize bH a b (dV a X1 Y1 E1 X2 Y2 E2) (dU a X1 Y1 E1 X2 Y2 E2) (bN a b (dV a X1 Y1 E1 X2 Y2 E2) (dU a X1 Y1 E1 X2 Y2 E2))=u0,bL a b (dV a X1 Y1 E1 X2 Y2 E2) (dU a X1 Y1 E1 X2 Y2 E2) (bN a b (dV a X1 Y1 E1 X2 Y2 E2) (dU a X1 Y1 E1 X2 Y2 E2))=l0 at *
  cases hq:cR (some (l0,u0)) (some (bL a b X1 E1 (bN a b X1 E1),bH a b X1 E1 (bN a b X1 E1))) with
  | none=>rw [hq] at e;cases e
  | some q=>
  rw [hq] at e;have q1:=rU hq;have q2:=rU e;subst q2 q1;exact H
 cases e
theorem xp {a b X Y E:Int} {p:Int × Int} (hg:good a b=true) (h:aY a b X Y E=true) (e:eD a b X E=some p):D_ (i_.pr a (cW X Y E) (cW X Y E)) p.1 p.2:=by
 have hd:=dY hg;unfold eD at e;rw [el hg h] at e;have q:=rU e;subst q;have H:=(dt hd h).add (dt hd h);refine H.cl ((i_.Cl.of fun n=>?_).trans (i_.zT hd (eP h)).symm);omega
theorem Bd.neg {k:Nat} {s:Nat->Int} (h:Bd k s):Bd k (fun n=>-s n):=by
 obtain ⟨c,c0,h⟩:=h;refine ⟨c,c0,fun n=>?_⟩;have:=h n
 show -(c*(4 ^ n) ^ k)<=-s n/\-s n<=c*(4 ^ n) ^ k
 omega
theorem wW {a b:Int} (hd:aS a b≠0) {P:i_} (h:i_.On a b P):Bd 1 (i_.hs a P):=by
 have W:=rM hd h;refine ⟨3*i_.hs a P 0+(hC a b:Nat),by have:=(W 0).1;omega,fun n=>?_⟩;have q:=W.hi 0 n;rw [Nat.zero_add,Int.mul_comm (4 ^ n)] at q;have:=(W n).1;rw [Int.pow_succ,Int.pow_zero,Int.one_mul];omega
theorem AY {a b:Int} (hd:aS a b≠0) {P Q:i_} (h1:i_.On a b P) (h2:i_.On a b Q):Bd 1 (i_.pr a P Q):=
 ((wW hd (i_.dJ (i_.cN hd) h1 h2)).add (wW hd h1).neg).add (wW hd h2).neg
theorem Bd.cl {f:Nat->Int} {c:Int} (h:i_.Cl f (fun _=>c)):Bd 0 f:=by
 obtain ⟨d,h⟩:=h;refine ⟨((c.natAbs+d.natAbs:Nat):Int),by omega,fun n=>?_⟩;have:-d<=f n - c/\f n - c<=d:=h n;rw [Int.pow_zero,Int.mul_one];omega
end M
namespace M
open i_
def IR (a:Int) (P:Nat->i_) (v:Nat->Int):Nat->i_
 | 0=>.O
 | n+1=>i_.add a (IR a P v n) (qs a (v n) (P n))
theorem rD {a b:Int} (hd:aS a b≠0) {P:Nat->i_} (h:∀ i,On a b (P i)) (v:Nat->Int):∀ n,On a b (IR a P v n)
 | 0=>trivial
 | n+1=>dJ (cN hd) (rD hd h v n) (i_.tY (cN hd) (h n) _)
theorem xR {a b:Int} (hd:aS a b≠0) {P:Nat->i_} (h:∀ i,On a b (P i)) (v:Nat->Int) {R:i_} (hR:On a b R):∀ N,Cl (pr a (IR a P v N) R) (fun n=>Dt.sm N fun q=>v q*pr a (P q) R n)
 | 0=>⟨1,fun n=>by
  have:=zR a R n
  show -1<=pr a .O R n - 0/\pr a .O R n - 0<=1
  omega⟩
 | N+1=>(rg hd (rD hd h v N) (i_.tY (cN hd) (h N) _) hR).trans ((xR hd h v hR N).add (zU hd (h N) hR (v N)))
theorem BX {a b:Int} (hd:aS a b≠0) {P:Nat->i_} (h:∀ i,On a b (P i)) {v:Nat->Int} {R:i_} (hR:On a b R) {N m:Nat} (hm:m≠0) (h0:i_.mul a m (IR a P v N)=.O):Bd 0 (fun n=>Dt.sm N fun q=>v q*pr a (P q) R n):=
 Bd.cl (c:=0) ((xR hd h v hR N).symm.trans (xS hd (rD hd h v N) hR hm h0))
theorem zp {a b:Int} (hd:aS a b≠0) {P:Nat->i_} (h:∀ i,On a b (P i)) {v:Nat->Int} {k j m:Nat} (hm:m≠0) (h0:i_.mul a m (IR a P v (k+1))=.O) (hj:j<k+1) (hv:v j≠0) {l u:Int} (p:HK k (fun n=>Dt.Dq (k+1) fun i q=>pr a (P q) (P i) n) l u):l<=0:=
 HK.kernel (T:=fun n i q=>pr a (P q) (P i) n) p hj hv (fun i q=>AY hd (h q) (h i)) fun i=>BX hd h (h i) hm h0
theorem yO {a b:Int} (hd:aS a b≠0) {P:Nat->i_} (h:∀ i,On a b (P i)) {k j m:Nat} (hj:j<k+1) (hm:m≠0) (h0:i_.mul a m (P j)=.O) {l u:Int} (p:HK k (fun n=>Dt.Dq (k+1) fun i q=>pr a (P q) (P i) n) l u):l<=0:=by
 refine HK.kernel (T:=fun n i q=>pr a (P q) (P i) n) (v:=fun q=>if q=j then 1 else 0) (j:=j) p hj (by simp) (fun i q=>AY hd (h q) (h i)) fun i=>?_
 have e:(fun n=>Dt.sm (k+1) fun q=>(if q=j then 1 else 0)*pr a (P q) (P i) n)=fun n=>pr a (P j) (P i) n:=by
  funext n
  rw [Dt.pB (j:=j) (k+1) hj fun c _ hc=>by rw [if_neg hc,Int.zero_mul],if_pos rfl,Int.one_mul]
 rw [e];exact Bd.cl (c:=0) (xS hd (h j) (h i) hm h0)
end M
namespace M
namespace i_
def Xk (x:Int):Nat->Int
 | 0=>x
 | k+1=>Xk x k*Xk x k*Xk x k*Xk x k
def Yk (x:Int):Nat->Int
 | 0=>1
 | k+1=>4*Yk x k*(Xk x k*Xk x k*Xk x k)
theorem AQ (x:Int):∀ k:Nat,x*Yk x k=4 ^ k*Xk x k
 | 0=>by show x*1=4 ^ 0*x;omega
 | k+1=>by
  have ih:=AQ x k
  show x*(4*Yk x k*(Xk x k*Xk x k*Xk x k))=4 ^ (k+1)*(Xk x k*Xk x k*Xk x k*Xk x k)
  rw [Int.pow_succ];generalize (4:Int) ^ k=p at *
  grind
theorem vD {x z:Int} (h:Int.gcd x z=1):∀ k,Int.gcd (Xk x k) z=1
 | 0=>h
 | k+1=>by
  have ih:=vD h k
  show Int.gcd (Xk x k*Xk x k*Xk x k*Xk x k) z=1
  unfold Int.gcd at *;rw [Int.natAbs_mul,Int.natAbs_mul,Int.natAbs_mul];exact Nat.Coprime.mul_left (Nat.Coprime.mul_left (Nat.Coprime.mul_left ih ih) ih) ih
theorem CC (a b X z s W:Int):∃ s',Wh.am a b (X+z*z*s) (z*W)=X*X*X*X+z*z*s':=by
 unfold Wh.am;refine ⟨4*X*X*X*s+6*X*X*z*z*s*s+4*X*z*z*z*z*s*s*s+z*z*z*z*z*z*s*s*s*s - 2*a*(X+z*z*s)*(X+z*z*s)*W*W - 8*b*(X+z*z*s)*z*W*W*W+a*a*z*z*W*W*W*W,?_⟩
 grind
theorem A3 (a b X Y z s t:Int):∃ t',Wh.af a b (X+z*z*s) (z*(Y+z*z*t))=z*(4*Y*(X*X*X)+z*z*t'):=by
 obtain ⟨U,hU⟩:∃ U,U=X+z*z*s:=⟨_,rfl⟩
 obtain ⟨W,hW⟩:∃ W,W=Y+z*z*t:=⟨_,rfl⟩
 have hc:∃ c,U*U*U=X*X*X+z*z*c:=⟨3*X*X*s+3*X*z*z*s*s+z*z*z*z*s*s*s,by rw [hU];grind⟩
 obtain ⟨c,hc⟩:=hc;rw [←hU,←hW];refine ⟨4*(t*(U*U*U)+Y*c+W*(a*U*W*W+b*z*W*W*W)),?_⟩
 have e:Wh.af a b U (z*W)=4*z*W*(U*U*U)+4*z*W*(a*U*(z*W)*(z*W)+b*(z*W)*(z*W)*(z*W)):=by unfold Wh.af;grind
 have e2:4*z*W*(U*U*U)=4*z*(Y+z*z*t)*(U*U*U):=by rw [hW]
 have e3:Y*(U*U*U)=Y*(X*X*X)+z*z*(Y*c):=by rw [hc];grind
 clear hU hW hc;generalize U*U*U=u3 at *
 have e4:4*z*(Y+z*z*t)*u3=4*z*(Y*u3)+4*z*(z*z)*t*u3:=by grind
 rw [e,e2,e4,e3];clear e e2 e3 e4
 grind
theorem sY {a b:Int} (hd:aS a b≠0) {P:i_} (h:On a b P):∀ k,∃ D s t:Int,D≠0/\D*px (DY a k P)=Xk (px P) k+pz P*pz P*s/\D*pz (DY a k P)=pz P*(Yk (px P) k+pz P*pz P*t)
 | 0=>⟨1,0,0,by decide,by show 1*px P=px P+_;grind,by show 1*pz P=pz P*(1+_);grind⟩
 | k+1=>by
  obtain ⟨D,s,t,hD,h1,h2⟩:=sY hd h k;obtain ⟨d,hd0,-,e1,e2⟩:=pg hd (dk (cN hd) h k)
  show ∃ D s t:Int,D≠0/\D*px (add a (DY a k P) (DY a k P))=Xk (px P) k*Xk (px P) k*Xk (px P) k*Xk (px P) k+_/\D*pz (add a (DY a k P) (DY a k P))=pz P*(4*Yk (px P) k*(Xk (px P) k*Xk (px P) k*Xk (px P) k)+_)
  generalize pz P=z,Yk (px P) k=Y,Xk (px P) k=X,pz (DY a k P)=q,px (DY a k P)=p,pz (add a (DY a k P) (DY a k P))=q',px (add a (DY a k P) (DY a k P))=p' at *;obtain ⟨s',hs⟩:=CC a b X z s (Y+z*z*t);obtain ⟨t',ht⟩:=A3 a b X Y z s t;rw [←h1,←h2] at hs ht
  have f1:Wh.am a b (D*p) (D*q)=D*D*D*D*Wh.am a b p q:=by unfold Wh.am;grind
  have f2:Wh.af a b (D*p) (D*q)=D*D*D*D*Wh.af a b p q:=by unfold Wh.af;grind
  rw [f1,e1] at hs;rw [f2,e2] at ht;refine ⟨D*D*D*D*d,s',t',Int.mul_ne_zero (Int.mul_ne_zero (Int.mul_ne_zero (Int.mul_ne_zero hD hD) hD) hD) hd0,?_,?_⟩
  ·exact (Int.mul_assoc _ _ _).trans hs
  exact (Int.mul_assoc _ _ _).trans ht
theorem vL {a b:Int} (hd:aS a b≠0) {P:i_} (h:On a b P) (hz:pz P≠0) {k:Nat} (h1:px (DY a k P)=px P) (h2:pz (DY a k P)=pz P):pz P*pz P ∣ 4 ^ k - 1:=by
 obtain ⟨D,s,t,hD,e1,e2⟩:=sY hd h k;rw [h1] at e1;rw [h2] at e2;have hc:=vD (cop P) k;have hxy:=AQ (px P) k;generalize pz P=z,px P=x,Yk (px P) k=Y,Xk (px P) k=X at *;generalize (4:Int) ^ k=p at *;have hDY:D=Y+z*z*t:=Int.eq_of_mul_eq_mul_left hz (by rw [←e2];grind)
 have hdv:z*z ∣ X*(p - 1):=⟨s - t*x,by
  have:x*D=4*0+p*X+z*z*t*x:=by rw [hDY,Int.mul_add,hxy];grind
  grind⟩
 have hcc:Int.gcd (z*z) X=1:=by
  rw [Int.gcd_comm];unfold Int.gcd at *;rw [Int.natAbs_mul];exact Nat.Coprime.mul_right hc hc
 have g1:(z*z).natAbs ∣ X.natAbs*(p - 1).natAbs:=by
  rw [←Int.natAbs_mul];exact Int.natAbs_dvd_natAbs.2 hdv
 exact Int.natAbs_dvd_natAbs.1 (Nat.Coprime.dvd_of_dvd_mul_left hcc g1)
theorem wS {a b:Int} (hd:aS a b≠0) {P:i_} (h:On a b P) (hz:pz P≠0) (h1:pz (add a P P)=0∨pz (add a P P)=1):pz P=1:=by
 obtain ⟨d,hd0,-,e1,e2⟩:=pg hd h;have hc:=cop P;have hnn:=xe P
 have fin:pz P ∣ 1->pz P=1:=fun h=>by
  have:=Int.le_of_dvd (by decide) h;omega
 have hcx:∀ n,Int.gcd (px P*n) (pz P)=1->True:=fun _ _=>trivial
 have hx3:pz P ∣ px P*px P*px P->pz P ∣ 1:=fun h=>by
  have g:(pz P).natAbs ∣ (px P).natAbs*(px P).natAbs*(px P).natAbs:=by
   rw [←Int.natAbs_mul,←Int.natAbs_mul];exact Int.natAbs_dvd_natAbs.2 h
  have cc:Nat.Coprime (pz P).natAbs (px P).natAbs:=Nat.Coprime.symm hc;have g2:=Nat.Coprime.dvd_of_dvd_mul_right cc (Nat.Coprime.dvd_of_dvd_mul_right cc g)
  exact Int.natAbs_dvd_natAbs.1 (by
   have:=Nat.dvd_gcd g2 (Nat.dvd_refl _);unfold Int.gcd at hc;rw [hc] at this
   exact this)
 have hx4:pz P ∣ px P*px P*px P*px P->pz P ∣ 1:=fun h=>by
  refine hx3 ?_
  have g:(pz P).natAbs ∣ (px P*px P*px P).natAbs*(px P).natAbs:=by
   rw [←Int.natAbs_mul];exact Int.natAbs_dvd_natAbs.2 h
  have cc:Nat.Coprime (pz P).natAbs (px P).natAbs:=Nat.Coprime.symm hc;exact Int.natAbs_dvd_natAbs.1 (Nat.Coprime.dvd_of_dvd_mul_right cc g)
 refine fin ?_;generalize pz P=z,px P=x at *
 rcases h1 with h1 | h1
 ·rw [h1,Int.mul_zero] at e2
  unfold Wh.af at e2
  rcases Int.mul_eq_zero.1 e2 with h | h
  ·exact absurd (by omega:z=0) hz
  exact hx3 ⟨-(a*x*z+b*z*z),by grind⟩
 rw [h1,Int.mul_one] at e2;refine hx4 ⟨4*(x*x*x+a*x*z*z+b*z*z*z)*px (add a P P)+2*a*x*x*z+8*b*x*z*z - a*a*z*z*z,?_⟩
 have:Wh.am a b x z=Wh.af a b x z*px (add a P P):=by rw [e1,e2]
 unfold Wh.am Wh.af at this
 grind
theorem DA {a b x y:Int} (h:y*y=x*x*x+a*x+b) {d m:Int} (e1:Wh.am a b x 1=d*m) (e2:Wh.af a b x 1=d):y*y ∣ aS a b:=by
 have hg:Wh.af a b x 1=4*(y*y):=by unfold Wh.af;rw [h];grind
 have hf:Wh.am a b x 1=(3*x*x+a)*(3*x*x+a) - 8*x*(y*y):=by unfold Wh.am;rw [h];grind
 have hk:(3*x*x+a)*(3*x*x+a)=y*y*(4*m+8*x):=by
  have:(3*x*x+a)*(3*x*x+a)=4*(y*y)*m+8*x*(y*y):=by rw [←hg,e2,←e1,hf];omega
  rw [this];grind
 refine ⟨(3*x*x+4*a)*(4*m+8*x) - 27*(x*x*x+a*x - b),?_⟩
 have hid:aS a b=(3*x*x+4*a)*((3*x*x+a)*(3*x*x+a)) - 27*(x*x*x+a*x - b)*(x*x*x+a*x+b):=by unfold aS;grind
 rw [hid,hk,←h]
 grind
theorem fB {a b:Rat} (hd:4*a*a*a+27*b*b≠0) {P:i_} (h:On a b P) (m:Nat):∀ n,mul a (m+n) P=add a (mul a m P) (mul a n P)
 | 0=>(jo a _).symm
 | n+1=>by
  show add a (mul a (m+n) P) P=add a (mul a m P) (add a (mul a n P) P)
  rw [fB hd h m n,add_assoc hd (iZ hd h m) (iZ hd h n) h]
theorem oK {a b:Rat} (hd:4*a*a*a+27*b*b≠0) {P:i_} (h:On a b P):∀ n,mul a n (add a P P)=mul a (n+n) P
 | 0=>rfl
 | n+1=>by
  show add a (mul a n (add a P P)) (add a P P)=_
  rw [oK hd h n,show n+1+(n+1)=(n+n)+2 from by omega,fB hd h (n+n) 2];rfl
theorem sZ {a b:Rat} (hd:4*a*a*a+27*b*b≠0) {P:i_} (h:On a b P):∀ k,DY a k P=mul a (2 ^ k) P
 | 0=>rfl
 | k+1=>by
  show add a (DY a k P) (DY a k P)=_
  rw [sZ hd h k,←fB hd h,Nat.pow_succ,Nat.mul_two]
theorem BU {a b:Rat} (hd:4*a*a*a+27*b*b≠0) {P Q:i_} (h1:On a b P) (h2:On a b Q) (h:add a P Q=O):P=neg Q:=by
 have h3:=q9 hd h2 h1;rw [add_comm hd h2 h1,h,jo] at h3;exact h3.symm
theorem qN {a b:Rat} (hd:4*a*a*a+27*b*b≠0) {P:i_} (h:On a b P) {m:Nat} (hm:mul a m P=O):∀ n,mul a (m*n) P=O
 | 0=>rfl
 | n+1=>by rw [Nat.mul_succ,fB hd h,qN hd h hm n,hm];rfl
theorem zi {a b:Int} {P:i_} (h:On a b P) (hz:pz P≠0):∃ d:Int,pz P*pz P*pz P=d*d:=by
 cases P with
 | O=>exact absurd rfl hz
 | fin x y=>
 have hx:=ol x;have hy:=ol y;have cx:Int.gcd x.num x.den=1:=x.reduced;have cy:Int.gcd y.num y.den=1:=y.reduced
 have dx:(0:Int)<x.den:=by have:=x.den_pos;omega
 have dy:(0:Int)<y.den:=by have:=y.den_pos;omega
 have hq:(y.num:Rat)*y.num*((x.den:Int):Rat)*((x.den:Int):Rat)*((x.den:Int):Rat)=((x.num:Rat)*x.num*x.num+a*x.num*((x.den:Int):Rat)*((x.den:Int):Rat)+b*((x.den:Int):Rat)*((x.den:Int):Rat)*((x.den:Int):Rat))*((y.den:Int):Rat)*((y.den:Int):Rat):=by
  have ho:y*y=x*x*x+a*x+b:=h;rw [←hx,←hy];generalize ((x.den:Int):Rat)=z at *;generalize ((y.den:Int):Rat)=d at *
  have:y*d*(y*d)*z*z*z=(y*y)*d*d*z*z*z:=by grind
  rw [this,ho]
  grind
 show ∃ d:Int,(x.den:Int)*x.den*x.den=d*d
 refine ⟨y.den,?_⟩
 have hi:y.num*y.num*(x.den:Int)*(x.den:Int)*(x.den:Int)=(x.num*x.num*x.num+a*x.num*(x.den:Int)*(x.den:Int)+b*(x.den:Int)*(x.den:Int)*(x.den:Int))*(y.den:Int)*(y.den:Int):=by exact_mod_cast hq
 clear hq hx hy h;generalize (x.den:Int)=z at *;generalize (y.den:Int)=d at *;generalize y.num=n,x.num=u at *
 have hN:Int.gcd (u*u*u+a*u*z*z+b*z*z*z) z=1:=by
  have e:u*u*u+a*u*z*z+b*z*z*z=u*u*u+(a*u*z+b*z*z)*z:=by grind
  rw [e,Int.gcd_add_mul_right_left];unfold Int.gcd at *;rw [Int.natAbs_mul,Int.natAbs_mul];exact Nat.Coprime.mul_left (Nat.Coprime.mul_left cx cx) cx
 generalize u*u*u+a*u*z*z+b*z*z*z=N at *
 have c1:Nat.Coprime (z*z*z).natAbs N.natAbs:=by
  rw [Int.natAbs_mul,Int.natAbs_mul];have:Nat.Coprime z.natAbs N.natAbs:=Nat.Coprime.symm hN;exact Nat.Coprime.mul_left (Nat.Coprime.mul_left this this) this
 have c2:Nat.Coprime (d*d).natAbs (n*n).natAbs:=by
  rw [Int.natAbs_mul,Int.natAbs_mul];have:Nat.Coprime d.natAbs n.natAbs:=Nat.Coprime.symm cy;exact Nat.Coprime.mul_left (Nat.Coprime.mul_right this this) (Nat.Coprime.mul_right this this)
 have d1:(z*z*z).natAbs ∣ (d*d).natAbs:=by
  refine Nat.Coprime.dvd_of_dvd_mul_left c1 ?_;rw [←Int.natAbs_mul];exact Int.natAbs_dvd_natAbs.2 ⟨n*n,by rw [←Int.mul_assoc,←hi];grind⟩
 have d2:(d*d).natAbs ∣ (z*z*z).natAbs:=by
  refine Nat.Coprime.dvd_of_dvd_mul_left c2 ?_;rw [←Int.natAbs_mul]
  have e1:n*n*(z*z*z)=n*n*z*z*z:=by grind
  exact Int.natAbs_dvd_natAbs.2 ⟨N,by rw [e1,hi];grind⟩
 have e:=Nat.dvd_antisymm d1 d2;have p1:0<=z*z*z:=Int.mul_nonneg (Int.mul_nonneg (by omega) (by omega)) (by omega);have p2:0<=d*d:=Int.mul_nonneg (by omega) (by omega);omega
theorem yD {z N:Int} (hz:0<z) (h:z*z ∣ N) (hN:0<N) (Kz:N<=1023):∃ m:Nat,m<32/\z=m/\m*m ∣ N.toNat:=by
 obtain ⟨m,rfl⟩:=Int.eq_ofNat_of_zero_le (Int.le_of_lt hz);obtain ⟨M,rfl⟩:=Int.eq_ofNat_of_zero_le (Int.le_of_lt hN)
 have hd:m*m ∣ M:=by exact_mod_cast h
 refine ⟨m,?_,rfl,by simpa using hd⟩;have hle:=Nat.le_of_dvd (by omega) hd
 rcases Nat.lt_or_ge m 32 with q | q
 ·exact q
 have:=Nat.mul_le_mul q q;omega
theorem zJ {a b:Int} (hd:aS a b≠0) {P:i_} (h:On a b P) (hz:pz P≠0) {k m:Nat} (hk:k=1∨k=2∨k=3∨k=5) (hm:mul a m P=O) (hs:2 ^ k+1=m∨2 ^ k=m+1):pz P=1:=by
 have hdb:DY (a:Rat) k P=P∨DY (a:Rat) k P=neg P:=by
  rw [sZ (cN hd) h]
  rcases hs with hs | hs
  ·refine Or.inr (BU (cN hd) (iZ (cN hd) h _) h ?_)
   have:=fB (cN hd) h (2 ^ k) 1;rw [hs,hm] at this;exact this.symm
  refine Or.inl ?_;rw [hs,fB (cN hd) h m 1,hm];rfl
 have hx:px (DY (a:Rat) k P)=px P/\pz (DY (a:Rat) k P)=pz P:=by
  rcases hdb with e | e <;> rw [e]
  ·exact ⟨rfl,rfl⟩
  exact ⟨Bo P,Bp P⟩
 have hdv:=vL hd h hz hx.1 hx.2;have hnn:=xe P;obtain ⟨d,hcu⟩:=zi h hz
 have h3:pz P≠3:=fun e=>by
  rw [e] at hcu
  have h1:d*d=27:=by omega
  rcases Int.lt_or_le d 6 with q | q
  ·rcases Int.lt_or_le (-6) d with q2 | q2
   ·have:=M.aH (x:=d) (y:=d) (m:=5) (n:=5)
    omega
   have:=Int.mul_le_mul (show 6<=-d by omega) (show 6<=-d by omega) (by decide) (by omega);rw [Int.neg_mul_neg] at this;omega
  have:=Int.mul_le_mul q q (by decide) (by omega);omega
 generalize pz P=z at *
 have key:∀ N:Nat,0<N->N<=1023->z*z ∣ (N:Int)->(∀ m:Nat,m<32->m*m ∣ N->m=1∨m=3∨m=0)->z=1:=fun N h1 h2 h4 h5=>by
  obtain ⟨m,hm,rfl,hd⟩:=yD (by omega) h4 (by omega) (by omega)
  rcases h5 m hm (by simpa using hd) with e | e | e <;> omega
 rcases hk with rfl | rfl | rfl | rfl
 ·exact key 3 (by decide) (by decide) hdv (by decide)
 ·exact key 15 (by decide) (by decide) hdv (by decide)
 ·exact key 63 (by decide) (by decide) hdv (by decide)
 exact key 1023 (by decide) (by decide) hdv (by decide)
theorem AZ {P:i_} (h:P≠O):pz P≠0:=fun h0=>h (tH h0)
theorem tV {a b:Int} (hd:aS a b≠0):∀ n:Nat,1<=n->n<=12->∀ P:i_,On a b P->mul a n P=O->P=O∨pz P=1:=by
 have half:∀ m:Nat,(∀ P:i_,On a b P->mul a m P=O->P=O∨pz P=1)->∀ P:i_,On a b P->mul a (m+m) P=O->P=O∨pz P=1:=fun m ih P h hm=>by
  by_cases hO:P=O
  ·exact Or.inl hO
  refine Or.inr (wS hd h (AZ hO) ?_);rw [←oK (cN hd) h] at hm
  rcases ih _ (dJ (cN hd) h h) hm with e | e
  ·rw [e];exact Or.inl rfl
  exact Or.inr e
 have odd:∀ k m:Nat,(k=1∨k=2∨k=3∨k=5)->(2 ^ k+1=m∨2 ^ k=m+1)->∀ P:i_,On a b P->mul a m P=O->P=O∨pz P=1:=fun k m hk hs P h hm=>by
  by_cases hO:P=O
  ·exact Or.inl hO
  exact Or.inr (zJ hd h (AZ hO) hk hm hs)
 have h1:∀ P:i_,On a b P->mul a 1 P=O->P=O∨pz P=1:=fun P _ h=>Or.inl h
 have h2:=half 1 h1;have h3:=odd 1 3 (by decide) (by decide);have h4:=half 2 h2;have h5:=odd 2 5 (by decide) (by decide);have h6:=half 3 h3;have h7:=odd 3 7 (by decide) (by decide);have h8:=half 4 h4;have h9:=odd 3 9 (by decide) (by decide);have h10:=half 5 h5
 have h11:∀ P:i_,On a b P->mul a 11 P=O->P=O∨pz P=1:=fun P h hm=>odd 5 33 (by decide) (by decide) P h (qN (cN hd) h hm 3)
 have h12:=half 6 h6;intro n hn1 hn2
 match n,hn1,hn2 with
 | 1,_,_=>exact h1
 | 2,_,_=>exact h2
 | 3,_,_=>exact h3
 | 4,_,_=>exact h4
 | 5,_,_=>exact h5
 | 6,_,_=>exact h6
 | 7,_,_=>exact h7
 | 8,_,_=>exact h8
 | 9,_,_=>exact h9
 | 10,_,_=>exact h10
 | 11,_,_=>exact h11
 | 12,_,_=>exact h12
end i_
end M
end
section
open Go.RowKit
namespace M
noncomputable def iW (a b X Y E:Int):Bool:=good a b && aY a b X Y E
theorem lL {a b X Y E:Int} (h:iW a b X Y E=true):good a b=true/\aY a b X Y E=true:=by
 unfold iW at h
 rwa [Bool.and_eq_true] at h
end M
theorem aG.xr {W:World} {g:Nat} {T:TypeId} {u v x:Value} (h:aG W g T #[u,v,x]) (a b c:Value):aG (((W.setCell ⟨g,0,none⟩ a).setCell ⟨g,1,none⟩ b).setCell ⟨g,2,none⟩ c) g T #[a,b,c]:=((h.set 0 a).set 1 b).set 2 c
theorem aG.fS {W:World} {g:Nat} {T:TypeId} {u v x:Value} (h:aG W g T #[u,v,x]):W.cell? ⟨g,0,none⟩=some u/\W.cell? ⟨g,1,none⟩=some v/\W.cell? ⟨g,2,none⟩=some x/\W.frozen? ⟨g,0,none⟩=false/\W.frozen? ⟨g,1,none⟩=false/\W.frozen? ⟨g,2,none⟩=false:=⟨h.cell 0,h.cell 1,h.cell 2,h.DJ 0,h.DJ 1,h.DJ 2⟩
end
section
namespace M
theorem HB.one {a b X Y E l h l' h':Int} (p:HB a b X Y E l h) (q:HB a b X Y E l' h'):l=l'/\h=h':=by
 have:=p.is.symm.trans q.is
 injection this with e
 injection e with e1 e2
 exact ⟨e1,e2⟩
end M
end
section
open Go Go.RowKit
namespace Rg
variable {P:Program} {Q:Exit->Act->World->Prop}
section
variable (P) (Q) (ops:Array Oper) (a0:Act) (T:List Value) (J:Nat->World->Prop) (C:List Nat)
def sI (o:Oper) (a:Act) (t:Nat):Prop:=
 match o.after.toList.find? (fun e=>Region.binds .any e && ((ops[e.on]?).bind (·.dst)) == some t) with
 | some e=>if e.on ∈ C then True else a.tmps[t]?=some (T.getD e.on undef)
 | none=>a.tmps[t]?=a0.tmps[t]?
def be (k:Nat) (o:Oper):Prop:=
 if k ∈ C then ∀ (a:Act) (w:World),J (C.idxOf k) w->(∀ t ∈ o.looksAt ops,sI ops a0 T C o a t)->Region.wanted o (yielded ops a.tmps)=true/\o.wp P a w (fun a' w'=>(∃ v,a'=a.put o.dst v)/\J (C.idxOf k+1) w') Q
 else ∀ (a:Act) (w:World) (n:Nat),n<=C.length->J n w->(∀ t ∈ o.looksAt ops,sI ops a0 T C o a t)->Region.wanted o (yielded ops a.tmps)=true/\(execOp a.eval o).run P w=.ok (.value (T.getD k undef)) w
def uz:List Oper->Nat->Prop
 | [],_=>True
 | o :: os,k=>be P Q ops a0 T J C k o/\uz os (k+1)
def CK (l:Nat->Bool) (vals:Nat->Value) (w:World):Prop:=
 J (cnt l C) w/\∀ i,i ∉ C->l i=true->vals i=T.getD i undef
end
theorem rE {l:Nat->Bool}:∀ C:List Nat,cnt l C<=C.length
 | []=>DF _
 | c :: cs=>by
  unfold cnt;have:=rE (l:=l) cs
  split
  ·simp only [List.length_cons];omega
  omega
theorem xk {ops:Array Oper} {a0:Act} {T:List Value} {J:Nat->World->Prop} {C:List Nat} (hC:dW ops C=true) :
  ∀ (os:List Oper) (k:Nat),(∀ i,os[i]?=ops[k+i]?)->uz P Q ops a0 T J C os k->iJ P Q .any ops (CK T J C) a0 os k
 | [],_,_,_=>trivial
 | o :: os,k,hos,h=>by
  refine ⟨fun a w l vals hI hl hc D1 hr=>?_,xk hC os (k+1) (fun i=>by rw [show k+1+i=k+(i+1) by omega,←hos (i+1)];rfl) h.2⟩;obtain ⟨hB,hv⟩:=hI;have ho:ops[k]?=some o:=(hos 0).symm
  have hQ:∀ t ∈ o.looksAt ops,sI ops a0 T C o a t:=fun t ht=>by
   have:=hr t ht;unfold rd at this;unfold sI
   split
   ·rename_i e he
    rw [he] at this;have h2:=List.find?_some he;rw [Bool.and_eq_true] at h2
    split
    ·trivial
    rename_i n1
    replace this:a.tmps[t]?=some (vals e.on):=this;rw [this,hv _ n1 (D1 e (Array.mem_toList_iff.1 (List.mem_of_find?_eq_some he)) h2.1)]
   rename_i he
   rw [he] at this;exact this
  have hko:∀ j,j≠k->upd l k j=l j:=fun j hj=>if_neg hj
  have h1:=h.1;unfold be at h1;unfold mK
  have rest:∀ v,(k ∉ C->v=T.getD k undef)->∀ i,i ∉ C->upd l k i=true->dT vals k v i=T.getD i undef:=fun v hvk i n1 hi=>by
   by_cases hik:i=k
   ·subst hik
    have:dT vals i v i=v:=if_pos rfl;rw [this];exact hvk n1
   rw [hko i hik] at hi;have:dT vals k v i=vals i:=if_neg hik;rw [this];exact hv i n1 hi
  by_cases e3:k ∈ C
  ·rw [if_pos e3] at h1
   obtain ⟨q1,q2⟩:=ir hc hl (fun c hcd=>fY ho D1 hcd) C hC e3;rw [q1] at hB;obtain ⟨hw,hwp⟩:=h1 a w hB hQ;rw [if_pos hw];refine Oper.wp_mono ?_ hwp;rintro a' w' ⟨⟨v,e⟩,h2⟩;exact ⟨v,e,by rw [q2];exact h2,rest v (fun h=>absurd e3 h)⟩
  rw [if_neg e3] at h1;obtain ⟨hw,hwp⟩:=h1 a w _ (rE C) hB hQ;rw [if_pos hw];unfold Oper.wp;rw [hwp];exact ⟨_,rfl,by rw [f5 C e3];exact hB,rest _ (fun _=>rfl)⟩
theorem Am {id:Nat} {ops:Array Oper} {a0:Act} {w:World} (J:Nat->World->Prop) (C:List Nat) (T:List Value)
  (hm:P.follows .mixedOrders=true) (hok:fC .any ops a0.tmps.size=true) (hC:dW ops C=true) (hcl:∀ c ∈ C,c<ops.size) (h0:J 0 { w with drawn:=w.drawn+1 })
  (hR:uz P Q ops a0 T J C ops.toList 0)
  (hF:∀ (vals:Nat->Value) (w':World),J C.length w'->(∀ i,i<ops.size->i ∉ C->vals i=T.getD i undef)->Q .normal (fill (fun _=>true) vals ops.toList 0 a0) w'):(Code.region id ops true).wp P Q a0 w:=by
 have c0:∀ C:List Nat,cnt (fun _=>false) C=0:=fun C=>by cases C <;> rfl
 have cl:∀ (l:Nat->Bool) (C:List Nat),(∀ c ∈ C,l c=true)->cnt l C=C.length:=fun l C=>by
  induction C with
  | nil=>intro _;rfl
  | cons c cs ih=>
  intro h;unfold cnt;rw [if_pos (h c (List.mem_cons_self ..)),ih (fun x hx=>h x (List.mem_cons_of_mem _ hx))];rfl
 refine kR (CK T J C) hm hok (fun vals=>⟨?_,(fun _ _ h=>absurd h (by simp))⟩) (xk hC ops.toList 0 (fun i=>by rw [Nat.zero_add];exact Array.getElem?_toList) hR) ?_
 ·rw [c0]
  exact h0
 intro l vals w' hl hI;obtain ⟨h1,h2⟩:=hI;rw [cl l C (fun c hc=>hl c (hcl c hc))] at h1;exact hF vals w' h1 (fun i hi n1=>h2 i n1 (hl i hi))
end Rg
end
end Go.Proofs.YtkalaljcbmkbmaaGreat
