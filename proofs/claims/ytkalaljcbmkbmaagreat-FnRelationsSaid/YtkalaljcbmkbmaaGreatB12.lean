/-
  Joined texts: contracts and plain lemmas.
-/
import Derived.Test.YtkalaljcbmkbmaaGreatB1
import Derived.Test.YtkalaljcbmkbmaaGreatB11
import Derived.Test.YtkalaljcbmkbmaaGreatB5
import Derived.Test.YtkalaljcbmkbmaaGreatB9
import Derived.Test.YtkalaljcbmkbmaaGreatB3
set_option linter.unusedSimpArgs false
set_option linter.unusedVariables false
set_option maxRecDepth 100000
set_option maxHeartbeats 8000000
namespace Go.Proofs.YtkalaljcbmkbmaaGreat
open Tryz
section
open Go Go.RowKit open Gr M Rg Rw Wh
namespace Rg
variable {P:Program} {Q:Exit->Act->World->Prop}
theorem iD {g:Nat} {w1 w w':World} {Tb:TypeId} {x u v y:Value} (h:Below w1 (w1.setCell ⟨g,0,none⟩ x) w) (K1:aG w1 g Tb #[u]) (K:aG w g Tb #[v]) (hb:Below w (w.setCell ⟨g,0,none⟩ y) w'):Below w1 (w1.setCell ⟨g,0,none⟩ y) w':=by
 have hs:w1.heap.size<=w.heap.size:=by have:=h.size;rw [aS] at this;exact this
 refine ⟨hb.os.trans h.os,hb.tape.trans h.tape,hb.output.trans h.output,?_,fun k hk=>?_⟩
 ·rw [aS]
  have:=hb.size;rw [aS] at this;omega
 rw [hb.block k ω]
 by_cases hg:k=g
 ·subst hg
  exact (K.one y).trans (K1.one y).symm
 rw [Below.heap_setCell _ _ _ _ hg,h.block k hk,Below.heap_setCell _ _ _ _ hg,Below.heap_setCell _ _ _ _ hg]
theorem fm {g:Nat} {w w':World} {Tb:TypeId} {v:Value} (K:aG w g Tb #[v]) (hb:Below w w w'):Below w (w.setCell ⟨g,0,none⟩ v) w':=by
 refine ⟨hb.os,hb.tape,hb.output,by rw [aS];exact hb.size,fun k hk=>?_⟩;rw [hb.block k hk]
 by_cases hg:k=g
 ·subst hg;exact K.trans (K.one v).symm
 rw [Below.heap_setCell _ _ _ _ hg]
section
variable (P) (Q) (ops:Array Oper) (a0:Act) (T:List Val) (w1:World) (g:Nat) (Tb:TypeId) (F:Nat->Value) (C:List Nat) (ka ks:Nat) (Tn:TypeId) (xs ys:Array Value)
def Held (w:World):Prop:=w1.heap.size<=w.heap.size/\∀ (b:Nat) (U:TypeId) (zs:Array Value),b≠g->aG w1 b U zs->aG w b U zs
def vf (h:Nat) (o:Oper) (a:Act) (w:World) (t:Nat):Prop:=
 match o.after.toList.find? (fun e=>Region.binds .any e && ((ops[e.on]?).bind (·.dst)) == some t) with
 | some e=>if e.on=ka then a.tmps[t]?=some (.pointer (some ⟨h,0,none⟩)) else if e.on=ks then True else ∃ v,a.tmps[t]?=some v/\(JP T e.on).ok v w
 | none=>a.tmps[t]?=a0.tmps[t]?
def mr (o:Oper) (a:Act) (w:World) (t:Nat):Prop:=
 match o.after.toList.find? (fun e=>Region.binds .any e && ((ops[e.on]?).bind (·.dst)) == some t) with
 | some e=>if e.on=ka then True else if e.on=ks then True else ∃ v,a.tmps[t]?=some v/\(JP T e.on).ok v w
 | none=>a.tmps[t]?=a0.tmps[t]?
def bj (k:Nat) (o:Oper):Prop:=
 if k=ka then ∀ (a:Act) (w:World),Region.wanted o (yielded ops a.tmps)=true/\o.wp P a w (fun a' w'=>a'=a.put o.dst (.pointer (some ⟨w,0,none⟩))/\w'=w.alloc (.cells xs Tn)) Q
 else if k=ks then ∀ (a:Act) (w:World) (h:Nat),w1.heap.size<=h->aG w h Tn xs->(∀ t ∈ o.looksAt ops,vf ops a0 T ka ks h o a w t)->Region.wanted o (yielded ops a.tmps)=true/\o.wp P a w (fun a' w'=>(∃ v,a'=a.put o.dst v)/\aG w' h Tn ys/\Below w1 w w') Q
 else if k ∈ C then ∀ (a:Act) (w:World),aG w g Tb #[F (C.idxOf k)]->Held w1 g w->(∀ t ∈ o.looksAt ops,mr ops a0 T ka ks o a w t)->Region.wanted o (yielded ops a.tmps)=true/\o.wp P a w (fun a' w'=>∃ v,a'=a.put o.dst v/\(JP T k).ok v w'/\Below w (w.setCell ⟨g,0,none⟩ (F (C.idxOf k+1))) w') Q
 else ∀ (a:Act) (w:World),Held w1 g w->(∀ t ∈ o.looksAt ops,mr ops a0 T ka ks o a w t)->Does P ops Q (JP T k) o a w
def zH:List Oper->Nat->Prop
 | [],_=>True
 | o :: os,k=>bj P Q ops a0 T w1 g Tb F C ka ks Tn xs ys k o/\zH os (k+1)
def Fa (l:Nat->Bool) (vals:Nat->Value) (w:World):Prop:=
 Below w1 (w1.setCell ⟨g,0,none⟩ (F (cnt l C))) w/\(∀ i,i≠ka->i≠ks->l i=true->(JP T i).ok (vals i) w)/\(l ka=true->∃ h,w1.heap.size<=h/\vals ka=.pointer (some ⟨h,0,none⟩)/\aG w h Tn (if l ks=true then ys else xs))
end
theorem CL {ops:Array Oper} {a0:Act} {T:List Val} {w1:World} {g:Nat} {Tb:TypeId} {F:Nat->Value} {C:List Nat} {ka ks:Nat} {Tn:TypeId} {xs ys:Array Value}
  (K1:aG w1 g Tb #[F 0]) (hp:∀ j,j≠ka->j≠ks->(JP T j).pure=true) (hC:eK ops C=true) (hka:ka ∉ C) (hks:ks ∉ C) (hne:ka≠ks) (hE:gY ops ka ks=true) :
  ∀ (os:List Oper) (k:Nat),(∀ i,os[i]?=ops[k+i]?)->zH P Q ops a0 T w1 g Tb F C ka ks Tn xs ys os k->ic P Q .any ops (Fa T w1 g F C ka ks Tn xs ys) a0 os k
 | [],_,_,_=>trivial
 | o :: os,k,hos,h=>by
  refine ⟨fun a w l vals hI hl hc JQ hr=>?_,CL K1 hp hC hka hks hne hE os (k+1) (fun i=>by rw [show k+1+i=k+(i+1) by omega,←hos (i+1)];rfl) h.2⟩;obtain ⟨hB,hv,hn⟩:=hI;have ho:ops[k]?=some o:=(hos 0).symm;have hgl:g<w1.heap.size:=K1.lt
  have hsz:w1.heap.size<=w.heap.size:=by have:=hB.size;rw [aS] at this;exact this
  have K:aG w g Tb #[F (cnt l C)]:=(K1.one (F (cnt l C))).keep (bC hB)
  have hH:Held w1 g w:=⟨hsz,fun b U zs hb hz=>(hz.other hb _).keep (bC hB)⟩
  have hQ:∀ t ∈ o.looksAt ops,mr ops a0 T ka ks o a w t:=fun t ht=>by
   have:=hr t ht;unfold rd at this;unfold mr
   split
   ·rename_i e he
    rw [he] at this;have h2:=List.find?_some he;rw [Bool.and_eq_true] at h2
    split
    ·trivial
    split
    ·trivial
    rename_i n1 n2
    exact ⟨_,this,hv _ n1 n2 (JQ e (Array.mem_toList_iff.1 (List.mem_of_find?_eq_some he)) h2.1)⟩
   rename_i he
   rw [he] at this;exact this
  have hko:∀ j,j≠k->upd l k j=l j:=fun j hj=>if_neg hj
  have hkk:upd l k k=true:=if_pos rfl;have h1:=h.1;unfold bj at h1;unfold nF
  by_cases e1:k=ka
  ·rw [if_pos e1] at h1
   obtain ⟨hw,hwp⟩:=h1 a w;rw [if_pos hw];refine Oper.wp_mono ?_ hwp;rintro a' w' ⟨rfl,rfl⟩;subst e1
   have hls:l ks=false:=by
    cases q:l ks
    ·rfl
    rw [dG hc hE q] at hl;cases hl
   refine ⟨_,rfl,?_,?_,fun _=>⟨w,hsz,if_pos rfl,?_⟩⟩
   ·rw [iH C hka]
    exact hB.alloc hsz _
   ·intro i n1 n2 hi
    rw [hko i n1] at hi;have:cr vals k (.pointer (some ⟨w,0,none⟩)) i=vals i:=if_neg n1;rw [this];exact Val.eo (hp i n1 n2) (hv i n1 n2 hi)
   rw [hko ks (fun e=>hne e.symm),hls];exact aG.new w xs Tn
  rw [if_neg e1] at h1
  by_cases e2:k=ks
  ·rw [if_pos e2] at h1
   subst e2;obtain ⟨hh,Mc,Le,hh3⟩:=hn (fz ho JQ hE);rw [hl] at hh3
   obtain ⟨hw,hwp⟩:=h1 a w hh Mc hh3 (fun t ht=>by
    have:=hr t ht;unfold rd at this;unfold vf
    split
    ·rename_i e he
     rw [he] at this;have h2:=List.find?_some he;rw [Bool.and_eq_true] at h2
     split
     ·rename_i q
      replace this:a.tmps[t]?=some (vals e.on):=this;rw [q,Le] at this;exact this
     split
     ·trivial
     rename_i n1 n2
     exact ⟨_,this,hv _ n1 n2 (JQ e (Array.mem_toList_iff.1 (List.mem_of_find?_eq_some he)) h2.1)⟩
    rename_i he
    rw [he] at this
    exact this)
   rw [if_pos hw];refine Oper.wp_mono ?_ hwp;rintro a' w' ⟨⟨v,e⟩,h2,h3⟩;refine ⟨v,e,?_,?_,fun _=>⟨hh,Mc,?_,?_⟩⟩
   ·rw [iH C hks]
    exact hB.trans h3
   ·intro i n1 n2 hi
    rw [hko i n2] at hi;have:cr vals k v i=vals i:=if_neg n2;rw [this];exact Val.eo (hp i n1 n2) (hv i n1 n2 hi)
   ·have:cr vals k v ka=vals ka:=if_neg hne
    rw [this];exact Le
   rw [hkk];exact h2
  rw [if_neg e2] at h1
  have rest:∀ (v:Value) (w':World) (y:Value),y=F (cnt (upd l k) C)->(JP T k).ok v w'->Below w (w.setCell ⟨g,0,none⟩ y) w'->Fa T w1 g F C ka ks Tn xs ys (upd l k) (cr vals k v) w':=by
   intro v w' y hy h2 h3;subst hy;refine ⟨iD hB K1 K h3,?_,?_⟩
   ·intro i n1 n2 hi
    by_cases hik:i=k
    ·subst hik
     have:cr vals i v i=v:=if_pos rfl;rw [this];exact h2
    rw [hko i hik] at hi;have:cr vals k v i=vals i:=if_neg hik;rw [this];exact Val.eo (hp i n1 n2) (hv i n1 n2 hi)
   intro hi;rw [hko ka (fun e=>e1 e.symm)] at hi;obtain ⟨hh,Mc,Le,hh3⟩:=hn hi;refine ⟨hh,Mc,?_,?_⟩
   ·have:cr vals k v ka=vals ka:=if_neg (fun e=>e1 e.symm)
    rw [this];exact Le
   rw [hko ks (fun e=>e2 e.symm)];exact (hh3.other ω _).keep (bC h3)
  by_cases e3:k ∈ C
  ·rw [if_pos e3] at h1
   obtain ⟨q1,q2⟩:=kE hc hl (fun c hcd=>fz ho JQ hcd) C hC e3;rw [q1] at K;obtain ⟨hw,hwp⟩:=h1 a w K hH hQ;rw [if_pos hw];refine Oper.wp_mono ?_ hwp;rintro a' w' ⟨v,e,h2,h3⟩;exact ⟨v,e,rest v w' _ (by rw [q2]) h2 h3⟩
  rw [if_neg e3] at h1;have hd:=h1 a w hH hQ;unfold Does at hd
  split
  ·rename_i hw
   rw [if_pos hw] at hd;refine Oper.wp_mono ?_ hd;rintro a' w' ⟨v,e,h2,h3⟩;exact ⟨v,e,rest v w' _ (by rw [iH C e3]) h2 (fm K h3)⟩
  rename_i hw
  rw [if_neg hw] at hd;exact rest undef w _ (by rw [iH C e3]) hd (fm K (IX _ _))
theorem FU {id:Nat} {ops:Array Oper} {a0:Act} {w:World} (g:Nat) (Tb:TypeId) (F:Nat->Value) (C:List Nat) (ka ks:Nat) (Tn:TypeId) (xs ys:Array Value) (T:List Val)
  (hm:P.follows .mixedOrders=true) (hok:d6 .any ops a0.tmps.size=true) (hC:(eK ops C && gY ops ka ks && decide (ka<ops.size) && decide (ks<ops.size))=true)
  (hp:∀ j,j≠ka->j≠ks->(JP T j).pure=true) (hka:ka ∉ C) (hks:ks ∉ C) (hne:ka≠ks) (hcl:∀ c ∈ C,c<ops.size) (K1:aG w g Tb #[F 0])
  (hR:zH P Q ops a0 T w g Tb F C ka ks Tn xs ys ops.toList 0)
  (hF:∀ (vals:Nat->Value) (w':World) (h:Nat),w.heap.size<=h->aG w' h Tn ys->vals ka=.pointer (some ⟨h,0,none⟩)->Below w (w.setCell ⟨g,0,none⟩ (F C.length)) w'->(∀ i,i<ops.size->i≠ka->i≠ks->(JP T i).ok (vals i) w')->Q .normal (fill (fun _=>true) vals ops.toList 0 a0) w'):(Code.region id ops true).wp P Q a0 w:=by
 rw [Bool.and_eq_true,Bool.and_eq_true,Bool.and_eq_true,decide_eq_true_eq,decide_eq_true_eq] at hC;obtain ⟨⟨⟨hC,hE⟩,ha⟩,hs⟩:=hC
 have c0:∀ C:List Nat,cnt (fun _=>false) C=0:=fun C=>by cases C <;> rfl
 have cl:∀ (l:Nat->Bool) (C:List Nat),(∀ c ∈ C,l c=true)->cnt l C=C.length:=fun l C=>by
  induction C with
  | nil=>intro _;rfl
  | cons c cs ih=>
  intro h;unfold cnt;rw [if_pos (h c (List.mem_cons_self ..)),ih (fun x hx=>h x (List.mem_cons_of_mem _ hx))];rfl
 refine kZ (Fa T w g F C ka ks Tn xs ys) hm hok (fun vals=>⟨?_,(fun _ _ _ h=>absurd h σ),(fun h=>absurd h σ)⟩) (CL K1 hp hC hka hks hne hE ops.toList 0 (fun i=>by rw [Nat.zero_add];exact Array.getElem?_toList) hR) ?_
 ·rw [c0]
  exact fm K1 ((IX _ w).drew)
 intro l vals w' hl hI;obtain ⟨h1,h2,h3⟩:=hI;obtain ⟨h,q1,q2,q3⟩:=h3 (hl ka ha);rw [hl ks hs,if_pos rfl] at q3;rw [cl l C (fun c hc=>hl c (hcl c hc))] at h1;exact hF vals w' h q1 q3 q2 h1 (fun i hi n1 n2=>h2 i n1 n2 (hl i hi))
theorem HU {ops:Array Oper} {o:Oper} {a:Act} {w:World} {V:Val} {f:FuncId} {args:Array Value} {g:Nat} {y:Value} (hw:Region.wanted o (yielded ops a.tmps)=true) (h:(execOp a.eval o).run P w=.ok (.enter f args) w)
  (hc:Calls P f args w fun e w'=>∃ v,e=.returned v/\V.ok v w'/\Below w (w.setCell ⟨g,0,none⟩ y) w'):Region.wanted o (yielded ops a.tmps)=true/\o.wp P a w (fun a' w'=>∃ v,a'=a.put o.dst v/\V.ok v w'/\Below w (w.setCell ⟨g,0,none⟩ y) w') Q:=by
 refine ⟨hw,?_⟩;unfold Oper.wp;rw [h];refine Calls.mono hc ?_;rintro e w' ⟨v,rfl,h1,h2⟩;exact ⟨v,rfl,h1,h2⟩
theorem iG {ops:Array Oper} {o:Oper} {a:Act} {w:World} {v:Value} {f:FuncId} {args:Array Value} {g:Nat} {y:Value} (hw:Region.wanted o (yielded ops a.tmps)=true) (h:(execOp a.eval o).run P w=.ok (.enter f args) w)
  (hc:Calls P f args w fun e w'=>e=.returned v/\Below w (w.setCell ⟨g,0,none⟩ y) w'):Region.wanted o (yielded ops a.tmps)=true/\o.wp P a w (fun a' w'=>∃ u,a'=a.put o.dst u/\(Val.is v).ok u w'/\Below w (w.setCell ⟨g,0,none⟩ y) w') Q:=
 HU hw h (hc.mono fun _ _ ⟨e,b⟩=>⟨v,e,rfl,b⟩)
theorem nH {ops:Array Oper} {o:Oper} {a:Act} {w:World} {ob:Obj} (hw:Region.wanted o (yielded ops a.tmps)=true) (h:(execOp a.eval o).run P w=.ok (.value (.pointer (some ⟨w,0,none⟩))) (w.alloc ob)):Region.wanted o (yielded ops a.tmps)=true/\o.wp P a w (fun a' w'=>a'=a.put o.dst (.pointer (some ⟨w,0,none⟩))/\w'=w.alloc ob) Q:=by
 refine ⟨hw,?_⟩;unfold Oper.wp;rw [h];exact ⟨rfl,rfl⟩
end Rg
end
section
open Go.RowKit open Gr M Rg Rw Wh
namespace M
theorem vE (s1 s2 s3:Sp):dK (dK s1 s2) s3=gd (gd (gd (gd s1.isSome s2).isSome (dK s1 (gd s1.isSome s2))).isSome s3).isSome (dK (gd (gd s1.isSome s2).isSome (dK s1 (gd s1.isSome s2))) (gd (gd (gd s1.isSome s2).isSome (dK s1 (gd s1.isSome s2))).isSome s3)):=by
 cases s1 with
 | none=>rfl
 | some p=>cases s2 with
  | none=>rfl
  | some q=>
  show dK (dK (some p) (some q)) s3=gd (gd (gd true (dK (some p) (some q))).isSome s3).isSome (dK (gd true (dK (some p) (some q))) (gd (gd true (dK (some p) (some q))).isSome s3))
  rw [qv]
  cases dK (some p) (some q) with
  | none=>rfl
  | some u=>cases s3 <;> rfl
end M
theorem yW (a b X1 Y1 E1 X2 Y2 E2:Int) (w:World) (hg:M.good a b=true) (hp:aP a b X1 Y1 E1=true) (hq:aP a b X2 Y2 E2=true) :
  cB 111 #[.agg #[a,b],.agg #[X1,Y1,E1],.agg #[X2,Y2,E2]] w (.tuple #[.agg #[M.Iy (d7 a b X1 Y1 E1 X2 Y2 E2),M.I3 (d7 a b X1 Y1 E1 X2 Y2 E2)],.bool (d7 a b X1 Y1 E1 X2 Y2 E2).isSome]):=by
 have PA:=fun W=>dz a b X1 Y1 E1 X2 Y2 E2 W hg hp hq
 have hin:=aY hg;have hs:=ie hin hp hq;obtain ⟨p1,p2,p3,p4,-,-⟩:=eP hin hp;obtain ⟨r1,r2,r3,r4,-,-⟩:=eP hin hq;obtain ⟨s1,s2,s3,s4,-,-⟩:=eP hin hs;have hv:=IU (show d7 a b X1 Y1 E1 X2 Y2 E2=if bB a X1 Y1 E1 X2 Y2 E2=true then dK (dK (bW a b (cK a X1 Y1 E1 X2 Y2 E2) (cJ a X1 Y1 E1 X2 Y2 E2)) (bW a b X1 E1)) (bW a b X2 E2) else none from rfl);rw [hv.out];clear hv hs hp hq;generalize bB a X1 Y1 E1 X2 Y2 E2=ok,cJ a X1 Y1 E1 X2 Y2 E2=E3,dC a X1 Y1 E1 X2 Y2 E2=Y3,cK a X1 Y1 E1 X2 Y2 E2=X3 at *
 cases ok with
 | false=>
  replace PA:=IU PA;have hn:=IU (show (if (false=true) then dK (dK (bW a b X3 E3) (bW a b X1 E1)) (bW a b X2 E2) else none)=none from rfl);rw [hn.out];clear hn;obtain ⟨wc,hw3,C,Q,U,R,B⟩:=ej w #[a,b] 25 #[X1,Y1,E1] 40 #[X2,Y2,E2] 40 #[(0:Int),(0:Int)] 74;have f_:=C.box.c0;have i_:=C.box.c1;have ⟨q0,q1,q2⟩:=Q.aM;have ⟨u0,u1,u2⟩:=U.aM;go_enter func111,ntmps111
  go_wp2_with (go_at_call 50;with_reducible refine p_ (PA.out _) fun w4 hb4=>?_;have Ji:=Nat.lt_of_lt_of_le R.lt hb4.size;replace B:=((j_ B hb4).alloc (Nat.le_trans B.size hb4.size) (.cells #[X3,Y3,E3] 40)).alloc (by rw [IV];exact Nat.le_succ_of_le (Nat.le_trans B.size hb4.size)) (.cells #[false] 103);replace C:=((C.keep hb4).alloc (.cells #[X3,Y3,E3] 40)).alloc (.cells #[false] 103);replace Q:=((Q.keep hb4).alloc (.cells #[X3,Y3,E3] 40)).alloc (.cells #[false] 103);replace U:=((U.keep hb4).alloc (.cells #[X3,Y3,E3] 40)).alloc (.cells #[false] 103);replace R:=((R.keep hb4).alloc (.cells #[X3,Y3,E3] 40)).alloc (.cells #[false] 103);have S:=(aG.new w4 #[X3,Y3,E3] 40).alloc (.cells #[false] 103);have K:=aG.new (w4.alloc (.cells #[X3,Y3,E3] 40)) #[false] 103;(rw [IV] at K);(have ⟨r0,r1,zf0,zf1,rl⟩:=R.box))
  exact D_ results111 ⟨rfl,Ml B⟩
 | true=>
 rw [if_pos rfl,vE];have o1:=gA (a:=a) (b:=b) hin s1 s2 s3 s4
 have TL:=fun g_ W K=>mV g_ true a b X3 Y3 E3 W K hg s1 s2 s3 s4
 have Q7:=fun g_ ok W K=>mV g_ ok a b X1 Y1 E1 W K hg p1 p2 p3 p4
 have Q8:=fun g_ ok W K=>mV g_ ok a b X2 Y2 E2 W K hg r1 r2 r3 r4
 have o2:=gA (a:=a) (b:=b) hin p1 p2 p3 p4;have o3:=gA (a:=a) (b:=b) hin r1 r2 r3 r4;simp only [qv] at TL;generalize bW a b X3 E3=t1 at *
 replace Q7:=fun g_=>Q7 g_ t1.isSome
 generalize bW a b X1 E1=t2 at *
 obtain ⟨t3,ht3⟩:∃ t,t=M.gd t1.isSome t2:=⟨_,rfl⟩
 have o4:M.Jo t3:=by rw [ht3];exact lP o2
 have i3:t3.isSome=true->t1.isSome=true:=fun h=>by rw [ht3] at h;exact (lH h).1
 rw [←ht3] at Q7 ⊢
 have TN:=fun g_ W K=>oM g_ t3.isSome t1 t3 W K o1 o4 i3 (fun h=>h)
 obtain ⟨t4,YC⟩:∃ t,t=M.gd t3.isSome (dK t1 t3):=⟨_,rfl⟩
 have o5:M.Jo t4:=by rw [YC];exact lP mZ
 rw [←YC] at TN ⊢
 replace Q8:=fun g_=>Q8 g_ t4.isSome
 generalize bW a b X2 E2=t5 at *
 obtain ⟨t6,Tm⟩:∃ t,t=M.gd t4.isSome t5:=⟨_,rfl⟩
 have o6:M.Jo t6:=by rw [Tm];exact lP o3
 have i6:t6.isSome=true->t4.isSome=true:=fun h=>by rw [Tm] at h;exact (lH h).1
 rw [←Tm] at Q8 ⊢
 have UL:=fun g_ W K=>oM g_ t6.isSome t4 t6 W K o5 o6 i6 (fun h=>h)
 generalize M.gd t6.isSome (dK t4 t6)=t7 at *;clear ht3 YC Tm o1 o2 o3 o4 o5 o6 i3 i6 t5 t2 hg hin;generalize M.I3 t7=h7,M.Iy t7=l7,t7.isSome=f7,M.I3 t6=h6,M.Iy t6=l6,t6.isSome=f6,M.I3 t4=h4,M.Iy t4=l4,t4.isSome=f4,M.I3 t3=h3,M.Iy t3=l3,t3.isSome=f3,M.I3 t1=h1,M.Iy t1=l1,t1.isSome=f1 at *;replace PA:=IU PA;replace TL:=IU TL;replace Q7:=IU Q7;replace Q8:=IU Q8;replace TN:=IU TN;replace UL:=IU UL;obtain ⟨wc,hw3,C,Q,U,R,B⟩:=ej w #[a,b] 25 #[X1,Y1,E1] 40 #[X2,Y2,E2] 40 #[(0:Int),(0:Int)] 74;have f_:=C.box.c0;have i_:=C.box.c1;have ⟨q0,q1,q2⟩:=Q.aM;have ⟨u0,u1,u2⟩:=U.aM;go_enter func111,ntmps111
 go_upto_region 5 with (go_at_call 50;with_reducible refine p_ (PA.out _) fun w4 hb4=>?_;have Ji:=Nat.lt_of_lt_of_le R.lt hb4.size;replace B:=((j_ B hb4).alloc (Nat.le_trans B.size hb4.size) (.cells #[X3,Y3,E3] 40)).alloc (by rw [IV];exact Nat.le_succ_of_le (Nat.le_trans B.size hb4.size)) (.cells #[true] 103);replace C:=((C.keep hb4).alloc (.cells #[X3,Y3,E3] 40)).alloc (.cells #[true] 103);replace Q:=((Q.keep hb4).alloc (.cells #[X3,Y3,E3] 40)).alloc (.cells #[true] 103);replace U:=((U.keep hb4).alloc (.cells #[X3,Y3,E3] 40)).alloc (.cells #[true] 103);replace R:=((R.keep hb4).alloc (.cells #[X3,Y3,E3] 40)).alloc (.cells #[true] 103);have S:=(aG.new w4 #[X3,Y3,E3] 40).alloc (.cells #[true] 103);have K:=aG.new (w4.alloc (.cells #[X3,Y3,E3] 40)) #[true] 103;(rw [IV] at K);(have ⟨r0,r1,zf0,zf1,rl⟩:=R.box))
 generalize (w4.alloc (.cells #[X3,Y3,E3] 40)).alloc (.cells #[true] 103)=wd at *;have hsl:=S.lt;have rl2:=R.lt
 have hw4:w.heap.size+4<=w4.heap.size:=ω
 have nC:w.heap.size≠w4.heap.size+1:=ω
 have nQ:w.heap.size+1≠w4.heap.size+1:=ω
 have nU:w.heap.size+1+1≠w4.heap.size+1:=ω
 have nR:w.heap.size+1+1+1≠w4.heap.size+1:=ω
 have nS:w4.heap.size≠w4.heap.size+1:=ω
 have nB:w.heap.size<=w4.heap.size+1:=ω
 refine FU (w4.heap.size+1) 103 (fun n=>match n with | 0=>.bool true | 1=>.bool f1 | 2=>.bool f3 | 3=>.bool f4 | 4=>.bool f6 | _=>.bool f7) [5,9,10,14,15] 16 17 74 #[(0:Int),(0:Int)] #[l7,h7] [.is (.pointer (some ⟨w4.heap.size+1,0,none⟩)),.is (.pointer (some ⟨w4.heap.size+1,0,none⟩)),.is (.pointer (some ⟨w4.heap.size+1,0,none⟩)),.is (.agg #[a,b]),.is (.agg #[X3,Y3,E3]),.is (.agg #[l1,h1]),.is (.pointer (some ⟨w4.heap.size+1,0,none⟩)),.is (.agg #[a,b]),.is (.agg #[X1,Y1,E1]),.is (.agg #[l3,h3]),.is (.agg #[l4,h4]),.is (.pointer (some ⟨w4.heap.size+1,0,none⟩)),.is (.agg #[a,b]),.is (.agg #[X2,Y2,E2]),.is (.agg #[l6,h6]),.is (.agg #[l7,h7]),.is (undef),.is (undef)] κ κ κ (fun j h1 h2=>match j,h1,h2 with | 0,h1,h2=>rfl | 1,h1,h2=>rfl | 2,h1,h2=>rfl | 3,h1,h2=>rfl | 4,h1,h2=>rfl | 5,h1,h2=>rfl | 6,h1,h2=>rfl | 7,h1,h2=>rfl | 8,h1,h2=>rfl | 9,h1,h2=>rfl | 10,h1,h2=>rfl | 11,h1,h2=>rfl | 12,h1,h2=>rfl | 13,h1,h2=>rfl | 14,h1,h2=>rfl | 15,h1,h2=>rfl | 16,h1,h2=>absurd rfl h1 | 17,h1,h2=>absurd rfl h2 | n+18,_,_=>rfl) δ δ δ δ K ⟨?_,?_,?_,?_,?_,?_,?_,?_,?_,?_,?_,?_,?_,?_,?_,?_,?_,?_,trivial⟩ ?_
 ·unfold bj
  rw [if_neg δ,if_neg δ,if_neg δ];intro zZ w_ hH hr;have e10:zZ.tmps[10]?=some (.pointer (some ⟨w4.heap.size+1,0,none⟩)):=hr 10 δ;exact aU rfl γ
 ·unfold bj
  rw [if_neg δ,if_neg δ,if_neg δ];intro zZ w_ hH hr;have e10:zZ.tmps[10]?=some (.pointer (some ⟨w4.heap.size+1,0,none⟩)):=hr 10 δ;exact aU rfl γ
 ·unfold bj
  rw [if_neg δ,if_neg δ,if_neg δ];intro zZ w_ hH hr;have e10:zZ.tmps[10]?=some (.pointer (some ⟨w4.heap.size+1,0,none⟩)):=hr 10 δ;exact aU rfl γ
 ·unfold bj
  rw [if_neg δ,if_neg δ,if_neg δ];intro zZ w_ hH hr;have e3:zZ.tmps[3]?=some (.pointer (some ⟨w,0,none⟩)):=hr 3 δ;have k0:=(hH.2 _ _ _ nC C).box.c0;have k1:=(hH.2 _ _ _ nC C).box.c1;exact aU rfl γ
 ·unfold bj
  rw [if_neg δ,if_neg δ,if_neg δ];intro zZ w_ hH hr;have e8:zZ.tmps[8]?=some (.pointer (some ⟨w4,0,none⟩)):=hr 8 δ;have k0:=(hH.2 _ _ _ nS S).aM.1;have k1:=(hH.2 _ _ _ nS S).aM.2.1;have k2:=(hH.2 _ _ _ nS S).aM.2.2;exact aU rfl γ
 ·unfold bj
  rw [if_neg δ,if_neg δ,if_pos δ];intro zZ w_ K_ hH hr;replace K_:aG w_ (w4.heap.size+1) 103 #[true]:=K_;have e27:=Rg.t_ (hr 27 δ);have e28:=Rg.t_ (hr 28 δ);have e29:=Rg.t_ (hr 29 δ);have ef:=Rg.ef zZ;exact iG rfl γ (TL.out _ _ K_)
 ·unfold bj
  rw [if_neg δ,if_neg δ,if_neg δ];intro zZ w_ hH hr;have e10:zZ.tmps[10]?=some (.pointer (some ⟨w4.heap.size+1,0,none⟩)):=hr 10 δ;exact aU rfl γ
 ·unfold bj
  rw [if_neg δ,if_neg δ,if_neg δ];intro zZ w_ hH hr;have e3:zZ.tmps[3]?=some (.pointer (some ⟨w,0,none⟩)):=hr 3 δ;have k0:=(hH.2 _ _ _ nC C).box.c0;have k1:=(hH.2 _ _ _ nC C).box.c1;exact aU rfl γ
 ·unfold bj
  rw [if_neg δ,if_neg δ,if_neg δ];intro zZ w_ hH hr;have e4:zZ.tmps[4]?=some (.pointer (some ⟨w.heap.size+1,0,none⟩)):=hr 4 δ;have k0:=(hH.2 _ _ _ nQ Q).aM.1;have k1:=(hH.2 _ _ _ nQ Q).aM.2.1;have k2:=(hH.2 _ _ _ nQ Q).aM.2.2;exact aU rfl γ
 ·unfold bj
  rw [if_neg δ,if_neg δ,if_pos δ];intro zZ w_ K_ hH hr;replace K_:aG w_ (w4.heap.size+1) 103 #[f1]:=K_;have e31:=Rg.t_ (hr 31 δ);have e32:=Rg.t_ (hr 32 δ);have e33:=Rg.t_ (hr 33 δ);have ef:=Rg.ef zZ;exact iG rfl γ (Q7.out _ _ K_)
 ·unfold bj
  rw [if_neg δ,if_neg δ,if_pos δ];intro zZ w_ K_ hH hr;replace K_:aG w_ (w4.heap.size+1) 103 #[f3]:=K_;have e26:=Rg.t_ (hr 26 δ);have e30:=Rg.t_ (hr 30 δ);have e34:=Rg.t_ (hr 34 δ);have ef:=Rg.ef zZ;exact iG rfl γ (TN.out _ _ K_)
 ·unfold bj
  rw [if_neg δ,if_neg δ,if_neg δ];intro zZ w_ hH hr;have e10:zZ.tmps[10]?=some (.pointer (some ⟨w4.heap.size+1,0,none⟩)):=hr 10 δ;exact aU rfl γ
 ·unfold bj
  rw [if_neg δ,if_neg δ,if_neg δ];intro zZ w_ hH hr;have e3:zZ.tmps[3]?=some (.pointer (some ⟨w,0,none⟩)):=hr 3 δ;have k0:=(hH.2 _ _ _ nC C).box.c0;have k1:=(hH.2 _ _ _ nC C).box.c1;exact aU rfl γ
 ·unfold bj
  rw [if_neg δ,if_neg δ,if_neg δ];intro zZ w_ hH hr;have e5:zZ.tmps[5]?=some (.pointer (some ⟨w.heap.size+1+1,0,none⟩)):=hr 5 δ;have k0:=(hH.2 _ _ _ nU U).aM.1;have k1:=(hH.2 _ _ _ nU U).aM.2.1;have k2:=(hH.2 _ _ _ nU U).aM.2.2;exact aU rfl γ
 ·unfold bj
  rw [if_neg δ,if_neg δ,if_pos δ];intro zZ w_ K_ hH hr;replace K_:aG w_ (w4.heap.size+1) 103 #[f4]:=K_;have e36:=Rg.t_ (hr 36 δ);have e37:=Rg.t_ (hr 37 δ);have e38:=Rg.t_ (hr 38 δ);have ef:=Rg.ef zZ;exact iG rfl γ (Q8.out _ _ K_)
 ·unfold bj
  rw [if_neg δ,if_neg δ,if_pos δ];intro zZ w_ K_ hH hr;replace K_:aG w_ (w4.heap.size+1) 103 #[f6]:=K_;have e25:=Rg.t_ (hr 25 δ);have e35:=Rg.t_ (hr 35 δ);have e39:=Rg.t_ (hr 39 δ);have ef:=Rg.ef zZ;exact iG rfl γ (UL.out _ _ K_)
 ·unfold bj
  rw [if_pos rfl];intro zZ w_;exact nH rfl (by first | (go_simp;done) | (go_simp;rfl))
 ·unfold bj
  rw [if_neg δ,if_pos rfl];intro zZ w_ h_ hh hn hr;have e11:zZ.tmps[11]?=some (.pointer (some ⟨h_,0,none⟩)):=hr 11 δ;have e40:=Rg.t_ (hr 40 δ);have ⟨y0,y1,x0,x1,_⟩:=hn.box;refine ⟨rfl,?_⟩;unfold Oper.wp;go_simp
  exact ⟨aG.set2 hn _ _,IW (IW (IX _ _) hh _) hh _⟩
 intro vals wz h_ hh hn S8 hB hv;replace hB:Below wd (wd.setCell ⟨w4.heap.size+1,0,none⟩ (.bool f7)) wz:=hB;simp only [bD,Rg.fill,Act.put,Nat.reduceAdd];clear hv;simp only [S8];clear S8;have hB2:=bC hB;replace B:=(IW B nB (.bool f7)).trans (hB.mono B.size);replace R:=(R.other (i:=0) nR (.bool f7)).keep hB2;replace K:=(K.one (.bool f7)).keep hB2;have k0:=K.cell 0;have ⟨r0,r1,zf0,zf1,rl⟩:=R.box;have ⟨z0,z1,_,_,_⟩:=hn.box;clear hB hB2 f_ i_ q0 q1 q2 u0 u1 u2
 go_upto_region 6 with fail
 go_region
 all_goals
  go_wp2;exact D_ results111 ⟨rfl,Below.drew (Ml B)⟩
def ew (w:World) (g:Nat) (l:List (Int × Int × Int)):Prop:=
 ∀ (k:Nat) (p:Int × Int × Int),l[k]?=some p->w.cell? ⟨g,k*3,none⟩=some (.int .i64 p.1)/\w.cell? ⟨g,k*3+1,none⟩=some (.int .i64 p.2.1)/\w.cell? ⟨g,k*3+2,none⟩=some (.int .i64 p.2.2)
theorem ew.below {w w':World} {g:Nat} {l:List (Int × Int × Int)} (h:ew w g l) (hb:Below w w w'):ew w' g l:=fun k p hp=>by
 obtain ⟨h1,h2,h3⟩:=h k p hp;exact ⟨aE hb h1,aE hb h2,aE hb h3⟩
namespace M
noncomputable def dm (a b:Int) (s:Sp) (l:List (Int × Int × Int)):Sp:=l.foldl (fun s p=>dK s (bW a b p.1 p.2.2)) s
theorem jz (a b:Int):∀ l,dm a b none l=none
 | []=>rfl
 | _ :: l=>jz a b l
theorem oP {a b:Int} {s:Sp} {l:List (Int × Int × Int)} {k:Nat} {p:Int × Int × Int} (h:l[k]?=some p):dm a b s (l.take (k+1))=dK (dm a b s (l.take k)) (bW a b p.1 p.2.2):=by
 unfold dm;rw [List.take_add_one,h,List.foldl_append];rfl
theorem oQ {a b:Int} {s:Sp} {l:List (Int × Int × Int)} {k:Nat} (h:dm a b s (l.take k)=none):dm a b s l=none:=by
 have e:dm a b s l=dm a b (dm a b s (l.take k)) (l.drop k):=by
  unfold dm;rw [←List.foldl_append,List.take_append_drop]
 rw [e,h,jz]
end M
theorem aG.jC {W:World} {g k:Nat} {T:TypeId} {xs:Array Value} (h:aG W g T xs) (hk:g≠k) (x y z t:Value):aG ((((W.setCell ⟨k,0,none⟩ x).setCell ⟨k,1,none⟩ y).setCell ⟨k,2,none⟩ z).setCell ⟨k,3,none⟩ t) g T xs:=(((h.other hk x).other hk y).other hk z).other hk t
theorem BA (a b:Int) (s:Int × Int) (l:List (Int × Int × Int)) (g cap:Nat) (w:World) (hg:M.good a b=true) (hs:aJ s.1 s.2=true) (hl:ew w g l) (hn:l.length<=100) (hp:∀ p ∈ l,-10000<=p.1/\p.1<=10000/\0<=p.2.2/\p.2.2<=20) :
  cB 139 #[.agg #[a,b],.agg #[M.I9 (some s),M.I_ (some s),M.JA (some s),M.JB (some s)],.slice (some ⟨g,0,none⟩) l.length cap] w (.tuple #[.agg #[M.I9 (dm a b (some s) l),M.I_ (dm a b (some s) l),M.JA (dm a b (some s) l),M.JB (dm a b (some s) l)],.bool (dm a b (some s) l).isSome]):=by
 have hin:=aY hg;have hl:=IU hl;have hp:=IU hp;obtain ⟨wc,hw3,C,I,R,B⟩:=dB w #[a,b] 25 #[M.I9 (some s),M.I_ (some s),M.JA (some s),M.JB (some s)] 78 #[(0:Int),(0:Int),(0:Int),(0:Int)] 78
 obtain ⟨N,hN⟩:∃ N,Hid (l.length=N):=⟨_,IU rfl⟩
 rw [hN.out] at hn ⊢;go_enter func139,ntmps139
 go_wp2
 go_loopw [16] (fun vi wr=>∃ (k:Nat) (p:Int × Int),k<=N/\vi=.int .i64 k/\Hid (dm a b (some s) (l.take k)=some p)/\aG wr w 25 #[a,b]/\aG wr (w.heap.size+1) 78 #[M.I9 (some p),M.I_ (some p),M.JA (some p),M.JB (some p)]/\aG wr (w.heap.size+1+1) 78 #[(0:Int),(0:Int),(0:Int),(0:Int)]/\Below w w wr) (fun vi _=>N - (intOf vi).toNat)
 case atStart=>exact ⟨0,s,Nat.zero_le _,rfl,IU rfl,C,I,R,B⟩
 case round=>
 clear C I R B hw3;obtain ⟨k,p,hk,rfl,hcur,C,I,R,B⟩:=hrel
 have hpo:M.Jo (some p):=by
  rw [←hcur.out]
  cases k with
  | zero=>intro q hq;injection hq with hq;subst hq;exact hs
  | succ k=>
  obtain ⟨z,hz⟩:∃ z,l[k]?=some z:=⟨_,List.getElem?_eq_getElem (by have:=hN.out;omega)⟩
  rw [oP hz];exact mZ
 have hps:=hpo p rfl;have f_:=C.box.c0;have i_:=C.box.c1
 by_cases hlt:k<N
 ·obtain ⟨z,hz⟩:∃ z,l[k]?=some z:=⟨_,List.getElem?_eq_getElem (by have:=hN.out;omega)⟩
  obtain ⟨d0,d1,d2⟩:=(hl.out.below B) k z hz;obtain ⟨b1,b2,b3,b4⟩:=hp.out z (List.mem_of_getElem? hz);have hnx:=oP (a:=a) (b:=b) (s:=some s) hz;rw [hcur.out] at hnx;obtain ⟨X,Y,E⟩:=z;simp only [] at d0 d1 d2 b1 b2 b3 b4 hnx
  have PH:=fun W=>ir a b X Y E W hg b1 b2 b3 b4
  have hto:=gA (a:=a) (b:=b) hin b1 b2 b3 b4;generalize bW a b X E=t at *;clear b1 b2 b3 b4 hz hcur;replace B:=B.alloc B.size (.cells #[X,Y,E] 40);have Z:=aG.new wr #[X,Y,E] 40;replace C:=C.alloc (.cells #[X,Y,E] 40);replace I:=I.alloc (.cells #[X,Y,E] 40);replace R:=R.alloc (.cells #[X,Y,E] 40);have f_:=C.box.c0;have i_:=C.box.c1;have ⟨z0,z1,z2⟩:=Z.aM
  cases t with
  | none=>
   have hfin:dm a b (some s) l=none:=oQ (k:=k+1) (by rw [hnx];rfl);have e1:=IU (show M.I9 none=0/\M.I_ none=0/\M.JA none=0/\M.JB none=0/\(none:M.Sp).isSome=false from ⟨rfl,rfl,rfl,rfl,rfl⟩);rw [e1.out.1,e1.out.2.1,e1.out.2.2.1,e1.out.2.2.2.1,e1.out.2.2.2.2] at PH;have hfin:=IU hfin;clear hnx hpo hps hto;replace PH:=IU PH;generalize M.JB (some p)=i4_,M.JA (some p)=i3_,M.I_ (some p)=i2_,M.I9 (some p)=i1_ at *
   go_wp2_with (go_at_call 138;with_reducible refine p_ (PH.out _) fun w4 hb4=>?_;replace ⟨B,C,I,R⟩:=Ip hb4 B C I R;replace R:=R.alloc (.cells #[(0:Int),(0:Int),(0:Int),(0:Int)] 78);replace C:=C.alloc (.cells #[(0:Int),(0:Int),(0:Int),(0:Int)] 78);replace I:=I.alloc (.cells #[(0:Int),(0:Int),(0:Int),(0:Int)] 78);replace B:=B.alloc B.size (.cells #[(0:Int),(0:Int),(0:Int),(0:Int)] 78);have V:=aG.new w4 #[(0:Int),(0:Int),(0:Int),(0:Int)] 78;(have ⟨r0,r1,r2,r3,y0,y1,y2,y3,rl⟩:=R.aK);(have ⟨i0,i1,i2,i3,s0,s1,s2,s3,il⟩:=I.aK);(have ⟨v0,v1,v2,v3,_,_,_,_,vl⟩:=V.aK))
   exact D_ (v:=.tuple #[.agg #[(0:Int),(0:Int),(0:Int),(0:Int)],false]) results139 ⟨by rw [hfin.out,e1.out.1,e1.out.2.1,e1.out.2.2.1,e1.out.2.2.2.1,e1.out.2.2.2.2],Jk B⟩
  | some q=>
  have PI:=fun W=>tN p q W hps (hto q rfl)
  have e2:=IU (show (some q:M.Sp).isSome=true from rfl);rw [e2.out] at PH;clear e2;generalize dK (some p) (some q)=u at *;have hnx:=IU hnx;generalize M.JB (some q)=k4,M.JA (some q)=k3,M.I_ (some q)=k2,M.I9 (some q)=k1 at *;replace PH:=IU PH;clear hto hps hpo
  cases u with
  | none=>
   have hfin:=IU (show dm a b (some s) l=none from oQ (k:=k+1) hnx.out);have e1:=IU (show M.I9 none=0/\M.I_ none=0/\M.JA none=0/\M.JB none=0/\(none:M.Sp).isSome=false from ⟨rfl,rfl,rfl,rfl,rfl⟩);rw [e1.out.1,e1.out.2.1,e1.out.2.2.1,e1.out.2.2.2.1,e1.out.2.2.2.2] at PI;replace PI:=IU PI;clear hnx;generalize M.JB (some p)=i4_,M.JA (some p)=i3_,M.I_ (some p)=i2_,M.I9 (some p)=i1_ at *
   go_wp2_with first | (go_at_call 138;with_reducible refine p_ (PH.out _) fun w4 hb4=>?_;replace ⟨B,C,I,R⟩:=Ip hb4 B C I R;replace R:=R.alloc (.cells #[k1,k2,k3,k4] 78);replace C:=C.alloc (.cells #[k1,k2,k3,k4] 78);replace I:=I.alloc (.cells #[k1,k2,k3,k4] 78);replace B:=B.alloc B.size (.cells #[k1,k2,k3,k4] 78);have V:=aG.new w4 #[k1,k2,k3,k4] 78;(have ⟨r0,r1,r2,r3,y0,y1,y2,y3,rl⟩:=R.aK);(have ⟨i0,i1,i2,i3,s0,s1,s2,s3,il⟩:=I.aK);(have ⟨v0,v1,v2,v3,_,_,_,_,vl⟩:=V.aK)) | (go_at_call 123;with_reducible refine p_ (PI.out _) fun w5 hb5=>?_;replace ⟨B,C,I,R⟩:=Ip hb5 B C I R;replace R:=R.alloc (.cells #[(0:Int),(0:Int),(0:Int),(0:Int)] 78);replace C:=C.alloc (.cells #[(0:Int),(0:Int),(0:Int),(0:Int)] 78);replace I:=I.alloc (.cells #[(0:Int),(0:Int),(0:Int),(0:Int)] 78);replace B:=B.alloc B.size (.cells #[(0:Int),(0:Int),(0:Int),(0:Int)] 78);have V:=aG.new w5 #[(0:Int),(0:Int),(0:Int),(0:Int)] 78;(have ⟨r0,r1,r2,r3,y0,y1,y2,y3,rl⟩:=R.aK);(have ⟨i0,i1,i2,i3,s0,s1,s2,s3,il⟩:=I.aK);(have ⟨v0,v1,v2,v3,_,_,_,_,vl⟩:=V.aK))
   exact D_ (v:=.tuple #[.agg #[(0:Int),(0:Int),(0:Int),(0:Int)],false]) results139 ⟨by rw [hfin.out,e1.out.1,e1.out.2.1,e1.out.2.2.1,e1.out.2.2.2.1,e1.out.2.2.2.2],Jk B⟩
  | some r=>
  have e2:=IU (show (some r:M.Sp).isSome=true from rfl);rw [e2.out] at PI;clear e2
  obtain ⟨m1,hm1⟩:∃ m,Hid (M.I9 (some r)=m):=⟨_,IU rfl⟩
  rw [hm1.out] at PI
  obtain ⟨m2,hm2⟩:∃ m,Hid (M.I_ (some r)=m):=⟨_,IU rfl⟩
  rw [hm2.out] at PI
  obtain ⟨m3,Th⟩:∃ m,Hid (M.JA (some r)=m):=⟨_,IU rfl⟩
  rw [Th.out] at PI
  obtain ⟨m4,RD⟩:∃ m,Hid (M.JB (some r)=m):=⟨_,IU rfl⟩
  rw [RD.out] at PI;replace PI:=IU PI;generalize M.JB (some p)=i4_,M.JA (some p)=i3_,M.I_ (some p)=i2_,M.I9 (some p)=i1_ at *
  go_wp2_with first | (go_at_call 138;with_reducible refine p_ (PH.out _) fun w4 hb4=>?_;replace ⟨B,C,I,R⟩:=Ip hb4 B C I R;replace R:=R.alloc (.cells #[k1,k2,k3,k4] 78);replace C:=C.alloc (.cells #[k1,k2,k3,k4] 78);replace I:=I.alloc (.cells #[k1,k2,k3,k4] 78);replace B:=B.alloc B.size (.cells #[k1,k2,k3,k4] 78);have V:=aG.new w4 #[k1,k2,k3,k4] 78;(have ⟨r0,r1,r2,r3,y0,y1,y2,y3,rl⟩:=R.aK);(have ⟨i0,i1,i2,i3,s0,s1,s2,s3,il⟩:=I.aK);(have ⟨v0,v1,v2,v3,_,_,_,_,vl⟩:=V.aK)) | (go_at_call 123;with_reducible refine p_ (PI.out _) fun w5 hb5=>?_;replace ⟨B,C,I,R⟩:=Ip hb5 B C I R;replace R:=R.alloc (.cells #[m1,m2,m3,m4] 78);replace C:=C.alloc (.cells #[m1,m2,m3,m4] 78);replace I:=I.alloc (.cells #[m1,m2,m3,m4] 78);replace B:=B.alloc B.size (.cells #[m1,m2,m3,m4] 78);have V:=aG.new w5 #[m1,m2,m3,m4] 78;(have ⟨r0,r1,r2,r3,y0,y1,y2,y3,rl⟩:=R.aK);(have ⟨i0,i1,i2,i3,s0,s1,s2,s3,il⟩:=I.aK);(have ⟨v0,v1,v2,v3,_,_,_,_,vl⟩:=V.aK))
  go_roundw
  case rel=>exact ⟨k+1,r,ω,σ,hnx,C.jC ω _ _ _ _,by rw [hm1.out,hm2.out,Th.out,RD.out];exact I.pR _ _ _ _,R.jC ω _ _ _ _,IW (IW (IW (IW B σ _) σ _) σ _) σ _⟩
  case measure=>simp [intOf] <;> omega
 obtain rfl:k=N:=ω
 have hfin:=hcur
 have e0:l.take k=l:=by rw [←hN.out];exact List.take_length
 rw [e0] at hfin;have ⟨i0,i1,i2,i3,s0,s1,s2,s3,il⟩:=I.aK;have ⟨r0,r1,r2,r3,y0,y1,y2,y3,rl⟩:=R.aK;go_wp2;exact D_ (v:=.tuple #[.agg #[M.I9 (some p),M.I_ (some p),M.JA (some p),M.JB (some p)],true]) results139 ⟨by rw [hfin.out];rfl,Jk B⟩
theorem ew.two {W:World} {g:Nat} {T:TypeId} {X1 Y1 E1 X2 Y2 E2:Int} (h:aG W g T #[X1,Y1,E1,X2,Y2,E2]):ew W g [(X1,Y1,E1),(X2,Y2,E2)]:=by
 intro k p hp
 match k,hp with
 | 0,hp=>injection hp with hp;subst hp;exact ⟨h.cell 0,h.cell 1,h.cell 2⟩
 | 1,hp=>injection hp with hp;subst hp;exact ⟨h.cell 3,h.cell 4,h.cell 5⟩
 | k+2,hp=>cases hp
theorem tE (a b X1 Y1 E1 X2 Y2 E2:Int) (w:World) (hg:M.good a b=true) (hp:aP a b X1 Y1 E1=true) (hq:aP a b X2 Y2 E2=true) :
  cB 117 #[.agg #[a,b],.agg #[X1,Y1,E1],.agg #[X2,Y2,E2]] w (.tuple #[.agg #[M.I9 (d7 a b X1 Y1 E1 X2 Y2 E2),M.I_ (d7 a b X1 Y1 E1 X2 Y2 E2),M.JA (d7 a b X1 Y1 E1 X2 Y2 E2),M.JB (d7 a b X1 Y1 E1 X2 Y2 E2)],.bool (d7 a b X1 Y1 E1 X2 Y2 E2).isSome]):=by
 have PA:=fun W=>kV a b X1 Y1 E1 X2 Y2 E2 W hg hp hq
 have hin:=aY hg;have hs:=ie hin hp hq;obtain ⟨p1,p2,p3,p4,-,-⟩:=eP hin hp;obtain ⟨r1,r2,r3,r4,-,-⟩:=eP hin hq;obtain ⟨s1,s2,s3,s4,-,-⟩:=eP hin hs;have hv:=IU (show (d7 a b X1 Y1 E1 X2 Y2 E2)=if bB a X1 Y1 E1 X2 Y2 E2=true then dm a b (bW a b (cK a X1 Y1 E1 X2 Y2 E2) (cJ a X1 Y1 E1 X2 Y2 E2)) [(X1,Y1,E1),(X2,Y2,E2)] else none from rfl);rw [hv.out];clear hv hs hp hq;generalize bB a X1 Y1 E1 X2 Y2 E2=ok,cJ a X1 Y1 E1 X2 Y2 E2=E3,dC a X1 Y1 E1 X2 Y2 E2=Y3,cK a X1 Y1 E1 X2 Y2 E2=X3 at *
 have PH:=fun W=>ir a b X3 Y3 E3 W hg s1 s2 s3 s4
 have hto:=gA (a:=a) (b:=b) hin s1 s2 s3 s4
 have PL:=fun s g W h1 h2=>BA a b s [(X1,Y1,E1),(X2,Y2,E2)] g 2 W hg h1 h2 σ (by
  intro p hp
  rcases List.mem_cons.1 hp with rfl | hp
  ·exact ⟨p1,p2,p3,p4⟩
  rcases List.mem_cons.1 hp with rfl | hp
  ·exact ⟨r1,r2,r3,r4⟩
  cases hp)
 generalize bW a b X3 E3=t at *;clear hg hin s1 s2 s3 s4 p1 p2 p3 p4 r1 r2 r3 r4
 cases ok with
 | false=>
  have e1:=IU (show M.I9 none=0/\M.I_ none=0/\M.JA none=0/\M.JB none=0/\(none:M.Sp).isSome=false from ⟨rfl,rfl,rfl,rfl,rfl⟩);have e2:=IU (show (if (false=true) then dm a b t [(X1,Y1,E1),(X2,Y2,E2)] else none)=none from rfl);rw [e2.out,e1.out.1,e1.out.2.1,e1.out.2.2.1,e1.out.2.2.2.1,e1.out.2.2.2.2];clear e1 e2 PH PL hto;replace PA:=IU PA;obtain ⟨wc,hw3,C,Q,U,R,B⟩:=ej w #[a,b] 25 #[X1,Y1,E1] 40 #[X2,Y2,E2] 40 #[(0:Int),(0:Int),(0:Int),(0:Int)] 78;have f_:=C.box.c0;have i_:=C.box.c1;have ⟨q0,q1,q2⟩:=Q.aM;have ⟨u0,u1,u2⟩:=U.aM;go_enter func117,ntmps117
  go_wp2_with (go_at_call 55;with_reducible refine p_ (PA.out _) fun w4 hb4=>?_;replace ⟨B,C,Q,U,R⟩:=KU hb4 B C Q U R;replace B:=B.alloc B.size (.cells #[X3,Y3,E3] 40);replace C:=C.alloc (.cells #[X3,Y3,E3] 40);replace Q:=Q.alloc (.cells #[X3,Y3,E3] 40);replace U:=U.alloc (.cells #[X3,Y3,E3] 40);replace R:=R.alloc (.cells #[X3,Y3,E3] 40);have S:=aG.new w4 #[X3,Y3,E3] 40;(have ⟨z0,z1,z2⟩:=S.aM);have f_:=C.box.c0;have i_:=C.box.c1;(have ⟨q0,q1,q2⟩:=Q.aM);(have ⟨u0,u1,u2⟩:=U.aM);(have ⟨r0,r1,r2,r3,y0,y1,y2,y3,rl⟩:=R.aK))
  exact D_ results117 ⟨rfl,Jk B⟩
 | true=>
 rw [if_pos rfl];replace PA:=IU PA
 cases t with
 | none=>
  have e1:=IU (show M.I9 none=0/\M.I_ none=0/\M.JA none=0/\M.JB none=0/\(none:M.Sp).isSome=false from ⟨rfl,rfl,rfl,rfl,rfl⟩);rw [jz,e1.out.1,e1.out.2.1,e1.out.2.2.1,e1.out.2.2.2.1,e1.out.2.2.2.2];rw [e1.out.1,e1.out.2.1,e1.out.2.2.1,e1.out.2.2.2.1,e1.out.2.2.2.2] at PH;clear e1 PL hto;replace PH:=IU PH;obtain ⟨wc,hw3,C,Q,U,R,B⟩:=ej w #[a,b] 25 #[X1,Y1,E1] 40 #[X2,Y2,E2] 40 #[(0:Int),(0:Int),(0:Int),(0:Int)] 78;have f_:=C.box.c0;have i_:=C.box.c1;have ⟨q0,q1,q2⟩:=Q.aM;have ⟨u0,u1,u2⟩:=U.aM;go_enter func117,ntmps117
  go_wp2_with first | (go_at_call 55;with_reducible refine p_ (PA.out _) fun w4 hb4=>?_;replace ⟨B,C,Q,U,R⟩:=KU hb4 B C Q U R;replace B:=B.alloc B.size (.cells #[X3,Y3,E3] 40);replace C:=C.alloc (.cells #[X3,Y3,E3] 40);replace Q:=Q.alloc (.cells #[X3,Y3,E3] 40);replace U:=U.alloc (.cells #[X3,Y3,E3] 40);replace R:=R.alloc (.cells #[X3,Y3,E3] 40);have S:=aG.new w4 #[X3,Y3,E3] 40;(have ⟨z0,z1,z2⟩:=S.aM);have f_:=C.box.c0;have i_:=C.box.c1;(have ⟨q0,q1,q2⟩:=Q.aM);(have ⟨u0,u1,u2⟩:=U.aM);(have ⟨r0,r1,r2,r3,y0,y1,y2,y3,rl⟩:=R.aK)) | (go_at_call 138;with_reducible refine p_ (PH.out _) fun w5 hb5=>?_;replace ⟨B,C,Q,U,R⟩:=KU hb5 B C Q U R;replace B:=B.alloc B.size (.cells #[(0:Int),(0:Int),(0:Int),(0:Int)] 78);replace C:=C.alloc (.cells #[(0:Int),(0:Int),(0:Int),(0:Int)] 78);replace Q:=Q.alloc (.cells #[(0:Int),(0:Int),(0:Int),(0:Int)] 78);replace U:=U.alloc (.cells #[(0:Int),(0:Int),(0:Int),(0:Int)] 78);replace R:=R.alloc (.cells #[(0:Int),(0:Int),(0:Int),(0:Int)] 78);have V:=aG.new w5 #[(0:Int),(0:Int),(0:Int),(0:Int)] 78;(have ⟨v0,v1,v2,v3,_,_,_,_,vl⟩:=V.aK);have f_:=C.box.c0;have i_:=C.box.c1;(have ⟨q0,q1,q2⟩:=Q.aM);(have ⟨u0,u1,u2⟩:=U.aM);(have ⟨r0,r1,r2,r3,y0,y1,y2,y3,rl⟩:=R.aK))
  exact D_ results117 ⟨rfl,Jk B⟩
 | some s=>
 replace PL:=fun g W h2=>PL s g W (hto s rfl) h2
 have e1:=IU (show (some s:M.Sp).isSome=true from rfl);rw [e1.out] at PH;clear e1 hto;have e2:=IU (show [(X1,Y1,E1),(X2,Y2,E2)].length=2 from rfl);rw [e2.out] at PL;clear e2;generalize M.JB (some s)=i4,M.JA (some s)=i3,M.I_ (some s)=i2,M.I9 (some s)=i1,dm a b (some s) [(X1,Y1,E1),(X2,Y2,E2)]=r at *;generalize r.isSome=fr,M.JB r=k4,M.JA r=k3,M.I_ r=k2,M.I9 r=k1 at *;replace PH:=IU PH;replace PL:=IU PL;obtain ⟨wc,hw3,C,Q,U,R,B⟩:=ej w #[a,b] 25 #[X1,Y1,E1] 40 #[X2,Y2,E2] 40 #[(0:Int),(0:Int),(0:Int),(0:Int)] 78;have f_:=C.box.c0;have i_:=C.box.c1;have ⟨q0,q1,q2⟩:=Q.aM;have ⟨u0,u1,u2⟩:=U.aM;go_enter func117,ntmps117
 go_wp2_with first | (go_at_call 55;with_reducible refine p_ (PA.out _) fun w4 hb4=>?_;replace ⟨B,C,Q,U,R⟩:=KU hb4 B C Q U R;replace B:=B.alloc B.size (.cells #[X3,Y3,E3] 40);replace C:=C.alloc (.cells #[X3,Y3,E3] 40);replace Q:=Q.alloc (.cells #[X3,Y3,E3] 40);replace U:=U.alloc (.cells #[X3,Y3,E3] 40);replace R:=R.alloc (.cells #[X3,Y3,E3] 40);have S:=aG.new w4 #[X3,Y3,E3] 40;(have ⟨z0,z1,z2⟩:=S.aM);have f_:=C.box.c0;have i_:=C.box.c1;(have ⟨q0,q1,q2⟩:=Q.aM);(have ⟨u0,u1,u2⟩:=U.aM);(have ⟨r0,r1,r2,r3,y0,y1,y2,y3,rl⟩:=R.aK)) | (go_at_call 138;with_reducible refine p_ (PH.out _) fun w5 hb5=>?_;replace ⟨B,C,Q,U,R⟩:=KU hb5 B C Q U R;replace B:=B.alloc B.size (.cells #[i1,i2,i3,i4] 78);replace C:=C.alloc (.cells #[i1,i2,i3,i4] 78);replace Q:=Q.alloc (.cells #[i1,i2,i3,i4] 78);replace U:=U.alloc (.cells #[i1,i2,i3,i4] 78);replace R:=R.alloc (.cells #[i1,i2,i3,i4] 78);have V:=aG.new w5 #[i1,i2,i3,i4] 78;(have ⟨v0,v1,v2,v3,_,_,_,_,vl⟩:=V.aK);have f_:=C.box.c0;have i_:=C.box.c1;(have ⟨q0,q1,q2⟩:=Q.aM);(have ⟨u0,u1,u2⟩:=U.aM);(have ⟨r0,r1,r2,r3,y0,y1,y2,y3,rl⟩:=R.aK);replace R:=R.alloc (.cells #[X1,Y1,E1,X2,Y2,E2] 40);have L:=aG.new (w5.alloc (.cells #[i1,i2,i3,i4] 78)) #[X1,Y1,E1,X2,Y2,E2] 40;(rw [IV] at L);replace L:=IU (ew.two L)) | (go_at_call 139;with_reducible refine p_ (PL.out _ _ L.out) fun w6 hb6=>?_;replace B:=(B.alloc B.size (.cells #[X1,Y1,E1,X2,Y2,E2] 40)).trans (hb6.mono (B.alloc B.size (.cells #[X1,Y1,E1,X2,Y2,E2] 40)).size);replace R:=R.keep hb6;(have ⟨r0,r1,r2,r3,y0,y1,y2,y3,rl⟩:=R.aK))
 exact D_ results117 ⟨rfl,Jk B⟩
abbrev Pt:=Int × Int × Int
def eD (W:World) (v:Value) (l:List Pt):Prop:=∃ (a:Option Addr) (cap:Nat),v=.slice a l.length cap/\(l=[]∨∃ g,a=some ⟨g,0,none⟩/\ew W g l)
theorem eD.below {w w':World} {v:Value} {l:List Pt} (h:eD w v l) (hb:Below w w w'):eD w' v l:=by
 obtain ⟨a,cap,e,h⟩:=h;refine ⟨a,cap,e,?_⟩
 rcases h with h | ⟨g,e,h⟩
 ·exact Or.inl h
 exact Or.inr ⟨g,e,h.below hb⟩
def qN (w:World) (g o:Nat) (l:List Pt):Prop:=
 ∀ (k:Nat) (p:Pt),l[k]?=some p->w.cell? ⟨g,o+k*3,none⟩=some (.int .i64 p.1)/\w.cell? ⟨g,o+k*3+1,none⟩=some (.int .i64 p.2.1)/\w.cell? ⟨g,o+k*3+2,none⟩=some (.int .i64 p.2.2)
theorem qN.below {w w':World} {g o:Nat} {l:List Pt} (h:qN w g o l) (hb:Below w w w'):qN w' g o l:=fun k p hp=>by
 obtain ⟨h1,h2,h3⟩:=h k p hp;exact ⟨aE hb h1,aE hb h2,aE hb h3⟩
theorem ew.o {w:World} {g:Nat} {l:List Pt} (h:ew w g l):qN w g 0 l:=fun k p hp=>by
 rw [Nat.zero_add];exact h k p hp
def dj (W:World) (v:Value) (l:List Pt):Prop:=∃ (a:Option Addr) (cap:Nat),v=.slice a l.length cap/\(l=[]∨∃ g o,a=some ⟨g,o,none⟩/\qN W g o l)
theorem dj.below {w w':World} {v:Value} {l:List Pt} (h:dj w v l) (hb:Below w w w'):dj w' v l:=by
 obtain ⟨a,cap,e,h⟩:=h;refine ⟨a,cap,e,?_⟩
 rcases h with h | ⟨g,o,e,h⟩
 ·exact Or.inl h
 exact Or.inr ⟨g,o,e,h.below hb⟩
theorem eD.v {w:World} {v:Value} {l:List Pt} (h:eD w v l):dj w v l:=by
 obtain ⟨a,cap,e,h⟩:=h;refine ⟨a,cap,e,?_⟩
 rcases h with h | ⟨g,e,h⟩
 ·exact Or.inl h
 exact Or.inr ⟨g,0,e,h.o⟩
def zP (g:Nat) (lb:Array Value) (p:Pt->Bool) (xs:List Pt) (w:World):Prop:=
 ∀ (x:Pt) (_:x ∈ xs) (W:World),Below w w W->Calls prog g (#[.agg #[x.1,x.2.1,x.2.2]] ++ lb) W fun e W'=>e=.returned (.bool (p x))/\Below W W W'
theorem zZ {p:Pt->Bool} {xs:List Pt} {k:Nat} {x:Pt} (hx:xs[k]?=some x) (h:(xs.take k).any p=false) (h':p x=false):(xs.take (k+1)).any p=false:=by
 rw [List.take_add_one,hx,List.any_append,h]
 simpa using h'
theorem Fk {p:Pt->Bool} {xs:List Pt} {k:Nat} {x:Pt} (hx:xs[k]?=some x) (h':p x=true):xs.any p=true:=
 List.any_eq_true.2 ⟨x,List.mem_of_getElem? hx,h'⟩
theorem um (g:Nat) (lb:Array Value) (eg:∀ args w,(callFunc g args).run prog w=.ok (.enter g args) w) (p:Pt->Bool) (v:Value) (xs:List Pt) (w:World) (hx:dj w v xs) (hn:xs.length<=4) (hp:zP g lb p xs w) :
  Calls prog 107 #[v,.func (.func g) #[] lb] w fun e w'=>∃ r:Int,e=.returned (.int .i64 r)/\(decide (0<=r)=xs.any p/\-1<=r/\r<=4)/\Below w w w':=by
 obtain ⟨a,cap,rfl,hv⟩:=hx;have hv:=IU hv;have hp:=IU hp
 obtain ⟨N,hN⟩:∃ N,Hid (xs.length=N):=⟨_,IU rfl⟩
 rw [hN.out] at hn ⊢;go_enter func107,ntmps107
 go_wp2
 go_loopw [5,8] (fun _ vi wr=>∃ k:Nat,k<=N/\vi=.int .i64 k/\Hid ((xs.take k).any p=false)/\Below w w wr) (fun _ vi _=>N - (intOf vi).toNat)
 case atStart=>exact ⟨0,ω,rfl,IU rfl,IX _ _⟩
 case round=>
 obtain ⟨k,hk,rfl,hall,hbr⟩:=hrel
 by_cases hlt:k<N
 ·obtain ⟨x,hx⟩:∃ x,xs[k]?=some x:=⟨_,List.getElem?_eq_getElem (by have:=hN.out;omega)⟩
  obtain ⟨b,o_,rfl,hpt⟩:∃ b o_,a=some ⟨b,o_,none⟩/\qN w b o_ xs:=by
   rcases hv.out with h | h
   ·rw [h] at hx;cases hx
   exact h
  obtain ⟨d0,d1,d2⟩:=(hpt.below hbr) k x hx;have hcall:=hp.out x (List.mem_of_getElem? hx) wr hbr
  cases hq:p x
  ·rw [hq] at hcall
   have hcall:=IU hcall;have hnx:=IU (zZ hx hall.out hq);clear hx hq hpt;obtain ⟨x1,x2,x3⟩:=x;simp only [] at d0 d1 d2 hcall
   go_wp2_with (go_at_fn g;refine (hcall.out).mono ?_;rintro e w2 ⟨rfl,hb2⟩)
   go_roundw
   case rel=>exact ⟨k+1,ω,ν,hnx,bE hbr hb2⟩
   case measure=>simp [intOf];omega
  rw [hq] at hcall;have hcall:=IU hcall;have hf:=IU (Fk hx hq);clear hx hq hpt;obtain ⟨x1,x2,x3⟩:=x;simp only [] at d0 d1 d2 hcall
  go_wp2_with (go_at_fn g;refine (hcall.out).mono ?_;rintro e w2 ⟨rfl,hb2⟩)
  go_ret;exact ⟨_,rfl,⟨by rw [hf.out];exact decide_eq_true ω,ω,ω⟩,bE hbr hb2⟩
 obtain rfl:k=N:=ω
 have Jn:=hall;rw [←hN.out,List.take_length] at Jn;go_wp2;go_ret;exact ⟨_,rfl,⟨by rw [Jn.out];rfl,ω,ω⟩,hbr⟩
theorem pG (g:Nat) (lb:Array Value) (eg:∀ args w,(callFunc g args).run prog w=.ok (.enter g args) w) (p:Pt->Bool) (v:Value) (xs:List Pt) (w:World) (hx:dj w v xs) (hn:xs.length<=4) (hp:zP g lb p xs w) :
  cB 63 #[v,.func (.func g) #[] lb] w (xs.any p):=by
 have P:=IU (um g lb eg p v xs w hx hn hp);generalize xs.any p=t at *;clear hx hp;go_enter func63,ntmps63
 go_wp2_with (go_at_call 107;refine P.out.mono ?_;rintro e w2 ⟨r,rfl,⟨h1,h2,h3⟩,hb2⟩)
 go_ret;exact ⟨by rw [←h1];simp,hb2⟩
theorem uX (a b X Y E:Int) (cb:Nat) (w:World) (C:aG w cb 25 #[a,b]) :
  cB 64 #[.agg #[X,Y,E],.pointer (some ⟨cb,0,none⟩)] w (!(M.good a b && aP a b X Y E)):=by
 have PP:=IU fun W=>jP a b X Y E W
 generalize (M.good a b && aP a b X Y E)=t at *;have B:=(IX w w).alloc (IY _) (.cells #[X,Y,E] 40);have C2:=C.alloc (.cells #[X,Y,E] 40);have Q:=aG.new w #[X,Y,E] 40;generalize hw3:w.alloc (.cells #[X,Y,E] 40)=wc at *;have f_:=C2.box.c0;have i_:=C2.box.c1;have ⟨q0,q1,q2⟩:=Q.aM;go_enter func64,ntmps64
 go_wp2_with (go_at_call 47;with_reducible refine p_ (PP.out _) fun w4 hb4=>?_)
 go_ret;exact ⟨rfl,j_ B hb4⟩
namespace M
noncomputable def bP (a b:Int) (l:List Pt):Bool:=good a b && ins l.length 1 4 && l.all (fun p=>aP a b p.1 p.2.1 p.2.2)
theorem yZ {a b:Int} {l:List Pt} (h:good a b=false):bP a b l=false:=by unfold bP;rw [h];rfl
theorem yY {a b:Int} {l:List Pt} (hg:good a b=true):(!l.any (fun x=>!(good a b && aP a b x.1 x.2.1 x.2.2)))=l.all (fun p=>aP a b p.1 p.2.1 p.2.2):=by
 rw [hg,List.not_any_eq_all_not]
 congr 1
 funext x
 simp
end M
theorem jF (a b:Int) (v:Value) (l:List Pt) (w:World) (hx:dj w v l) (hn:l.length<=4000000) :
  cB 27 #[.agg #[a,b],v] w (bP a b l):=by
 have PC:=IU fun W=>pi a b W
 obtain ⟨sa,cap,rfl,hv⟩:=hx;have hx:=IU (show dj w (.slice sa l.length cap) l from ⟨sa,cap,rfl,hv⟩);clear hv
 have PF:=IU fun W (h:dj W (.slice sa l.length cap) l) (hn:l.length<=4) (C:aG W w 25 #[a,b])=>pG 64 #[.pointer (some ⟨w,0,none⟩)] (fun _ _=>rfl) (fun x=>!(M.good a b && aP a b x.1 x.2.1 x.2.2)) (.slice sa l.length cap) l W h hn (fun x _ W' hb=>uX a b x.1 x.2.1 x.2.2 w W' (C.keep hb))
 have PI:=IU fun W=>dV l.length 1 4 W
 have hpl:=IU (show bP a b l=(M.good a b && M.ins l.length 1 4 && l.all (fun p=>aP a b p.1 p.2.1 p.2.2)) from rfl)
 have han:=IU fun h=>yY (a:=a) (b:=b) (l:=l) h
 have hbd:M.ins l.length 1 4=true->l.length<=4:=fun h=>by
  unfold M.ins at h;simp only [Bool.and_eq_true,decide_eq_true_eq] at h;omega
 have hbd:=IU hbd;have B:=(IX w w).alloc (IY _) (.cells #[a,b] 25);have C:=aG.new w #[a,b] 25;replace hx:=IU (hx.out.below B);generalize hw3:w.alloc (.cells #[a,b] 25)=wc at *;have f_:=C.box.c0;have i_:=C.box.c1
 cases hg:M.good a b
 ·have hfin:=IU (yZ (l:=l) hg)
  rw [hg] at PC;clear hpl han hg;generalize l.length=N,bP a b l=pl at *;go_enter func27,ntmps27
  go_wp2_with (go_at_call 62;with_reducible refine p_ (PC.out _) fun w4 hb4=>?_;replace B:=j_ B hb4)
  go_ret;exact ⟨by rw [hfin.out];rfl,B⟩
 cases hi:M.ins l.length 1 4
 ·have hfin:=IU (show bP a b l=false by rw [hpl.out,hi,Bool.and_false];rfl)
  rw [hg] at PC;rw [hi] at PI;clear hpl han hg hi hbd PF hx;generalize l.length=N,bP a b l=pl at *;go_enter func27,ntmps27
  go_wp2_with first | (go_at_call 62;with_reducible refine p_ (PC.out _) fun w4 hb4=>?_;replace B:=j_ B hb4) | (go_at_call 28;with_reducible refine Id (PI.out _) ?_)
  go_ret;exact ⟨by rw [hfin.out];rfl,B⟩
 have hfin:=IU (show bP a b l=!l.any (fun x=>!(M.good a b && aP a b x.1 x.2.1 x.2.2)) by rw [han.out hg,hpl.out,hi,hg];rfl);have SO:=IU (hbd.out hi);rw [hg] at PC;rw [hi] at PI
 replace PF:=IU fun W h=>PF.out W h SO.out
 clear hpl han hg hi hbd;generalize l.length=N,bP a b l=pl,l.any (fun x=>!(M.good a b && aP a b x.1 x.2.1 x.2.2))=t at *;go_enter func27,ntmps27
 go_wp2_with first | (go_at_call 62;with_reducible refine p_ (PC.out _) fun w4 hb4=>?_;replace ⟨B,C⟩:=Im hb4 B C;replace hx:=IU (hx.out.below hb4)) | (go_at_call 28;with_reducible refine Id (PI.out _) ?_) | (go_at_call 63;(refine (PF.out _ hx.out C).mono ?_);rintro e w6 ⟨rfl,hb6⟩;replace B:=j_ B hb6)
 go_ret;exact ⟨by rw [hfin.out];rfl,B⟩
theorem ny (a b:Int) (v:Value) (l:List Pt) (w:World) (hx:dj w v l) (hn:l.length<=4000000) :
  cB 39 #[.agg #[a,b],v] w (bP a b l):=by
 have PC:=IU fun W=>io a b W
 obtain ⟨sa,cap,rfl,hv⟩:=hx;have hv:=IU hv
 have PI:=IU fun W=>dW l.length 1 4 W
 have hpl:=IU (show bP a b l=(M.good a b && M.ins l.length 1 4 && l.all (fun p=>aP a b p.1 p.2.1 p.2.2)) from rfl);obtain ⟨wc,hw3,C,B⟩:=cf w #[a,b] 25
 obtain ⟨N,hN⟩:∃ N,Hid (l.length=N):=⟨_,IU rfl⟩
 rw [hN.out] at hn PI hpl ⊢;go_enter func39,ntmps39
 go_wp2
 go_loopw [9] (fun vi wr=>∃ k:Nat,k<=N/\vi=.int .i64 k/\Hid ((l.take k).all (fun p=>M.good a b && aP a b p.1 p.2.1 p.2.2)=true)/\aG wr w 25 #[a,b]/\Below w w wr) (fun vi _=>N - (intOf vi).toNat)
 case atStart=>exact ⟨0,Nat.zero_le _,rfl,IU rfl,C,B⟩
 case round=>
 clear C B hw3;obtain ⟨k,hk,rfl,hall,C,B⟩:=hrel
 by_cases hlt:k<N
 ·obtain ⟨x,hx⟩:∃ x,l[k]?=some x:=⟨_,List.getElem?_eq_getElem (by have:=hN.out;omega)⟩
  obtain ⟨g,o_,rfl,hpt⟩:∃ g o_,sa=some ⟨g,o_,none⟩/\qN w g o_ l:=by
   rcases hv.out with h | h
   ·rw [h] at hx;cases hx
   exact h
  obtain ⟨d0,d1,d2⟩:=(hpt.below B) k x hx
  have PP:=fun W=>gI a b x.1 x.2.1 x.2.2 W
  have hmem:=List.mem_of_getElem? hx
  have hnx:(M.good a b && aP a b x.1 x.2.1 x.2.2)=true->(l.take (k+1)).all (fun p=>M.good a b && aP a b p.1 p.2.1 p.2.2)=true:=fun h=>by
   rw [List.take_add_one,hx,List.all_append,hall.out]
   simpa using h
  have hbad:(M.good a b && aP a b x.1 x.2.1 x.2.2)=false->bP a b l=false:=fun h=>by
   cases hp:bP a b l
   ·rfl
   rw [hpl.out] at hp;simp only [Bool.and_eq_true,List.all_eq_true] at hp;have:=hp.2 x hmem;rw [hp.1.1,this] at h;cases h
  generalize (M.good a b && aP a b x.1 x.2.1 x.2.2)=t at *;obtain ⟨x1,x2,x3⟩:=x;simp only [] at d0 d1 d2 PP;clear hx hmem hpt;replace PP:=IU PP;replace hnx:=IU hnx;replace hbad:=IU hbad;replace B:=B.alloc B.size (.cells #[x1,x2,x3] 40);have Z:=aG.new wr #[x1,x2,x3] 40;replace C:=C.alloc (.cells #[x1,x2,x3] 40);have f_:=C.box.c0;have i_:=C.box.c1;have ⟨z0,z1,z2⟩:=Z.aM;cases t
  ·have hfin:=IU (hbad.out rfl)
   go_wp2_with (go_at_call 51;with_reducible refine p_ (PP.out _) fun w4 hb4=>?_;replace B:=j_ B hb4)
   go_ret;exact ⟨by rw [hfin.out];rfl,B⟩
  have hny:=IU (hnx.out rfl);clear hnx
  go_wp2_with (go_at_call 51;with_reducible refine p_ (PP.out _) fun w4 hb4=>?_;replace ⟨B,C⟩:=Im hb4 B C)
  go_roundw
  case rel=>exact ⟨k+1,ω,σ,hny,C,B⟩
  case measure=>simp [intOf] <;> omega
 obtain rfl:k=N:=ω
 have e0:l.take k=l:=by rw [←hN.out];exact List.take_length
 rw [e0] at hall
 have hfin:bP a b l=(M.good a b && M.ins (k:Int) 1 4):=by
  rw [hpl.out]
  cases hg:M.good a b
  ·rfl
  have:=hall.out;rw [hg] at this;simp only [Bool.true_and] at this;rw [this,Bool.and_true]
 have hfin:=IU hfin;clear hpl hall;have f_:=C.box.c0;have i_:=C.box.c1;generalize M.good a b=gd at *;generalize M.ins (k:Int) 1 4=ii at *;cases gd
 all_goals
  go_wp2_with first | (go_at_call 74;with_reducible refine p_ (PC.out _) fun w4 hb4=>?_;replace B:=j_ B hb4) | (go_at_call 35;with_reducible refine Id (PI.out _) ?_)
  go_ret;exact ⟨by rw [hfin.out];rfl,B⟩
theorem Rw.rJ {α:Type} {E:Rw.Enc α} {v:Value} {w:World} {base:Nat} {xs:List α} (h:Rw.Own E w base v xs):v.oneCell'=true:=by
 rcases h.2 with ⟨rfl,-⟩ | ⟨g,cap,cur,rfl,-⟩ <;> rfl
def EN:Rw.Enc (Int × Int × Int × Int) where
 t:=78
 k:=4
 cells:=fun q=>[.int .i64 q.1,.int .i64 q.2.1,.int .i64 q.2.2.1,.int .i64 q.2.2.2]
 len:=fun _=>rfl
 one:=fun x u hu=>by simp only [List.mem_cons,List.not_mem_nil,or_false] at hu;rcases hu with rfl | rfl | rfl | rfl <;> rfl
 pos:=δ
theorem Ho:(prog.info? 78).map (fun i=>(i.zero,i.size,i.bytes))=some (some (.agg #[(0:Int),(0:Int),(0:Int),(0:Int)]),4,32):=κ
theorem sp:Rw.Fits prog EN 136:=⟨Tryz.underlying136,by
 obtain ⟨i0,hi,hz0,hz1,hz2⟩:=info_parts Ho
 exact ⟨i0,_,hi,hz0,hz1,ω,rfl⟩⟩
theorem BI:(prog.info? 136).map (fun i=>(i.zero,i.size,i.bytes))=some (some (.slice none 0 0),1,24):=κ
theorem neN:(136:TypeId)≠78:=δ
def b9 (w:World) (base:Nat) (v:Value) (vs:List Value) (rows:List (List (Int × Int × Int × Int))):Prop:=
 w.ownsRow base 136 1 v rows.length vs/\vs.length=rows.length/\(∀ (i:Nat) (u:Value) (r:List (Int × Int × Int × Int)),vs[i]?=some u->rows[i]?=some r->Rw.Own EN w base u r)/\
  vs.Pairwise (fun u u'=>∀ g,u.ownBlock=some g->u'.ownBlock≠some g)
theorem b9.nil (w:World) (base:Nat):b9 w base (.slice none 0 0) [] []:=⟨World.ownsRow_nil w base _ 1,rfl,fun i u r h=>by simp at h,List.Pairwise.nil⟩
theorem b9.base {w:World} {base base':Nat} {v:Value} {vs:List Value} {rows:List (List (Int × Int × Int × Int))} (h:b9 w base v vs rows) (hb:base'<=base):b9 w base' v vs rows:=by
 obtain ⟨h1,h2,h3,h4⟩:=h;refine ⟨?_,h2,fun i u r hu hr=>(h3 i u r hu hr).down hb,h4⟩;obtain ⟨a1,a2⟩:=h1;refine ⟨a1,?_⟩
 rcases a2 with a2 | ⟨g,cap,cur,hv,hg,hh,r⟩
 ·exact Or.inl a2
 exact Or.inr ⟨g,cap,cur,hv,Nat.le_trans hb hg,hh,r⟩
theorem b9.below {w w':World} {base:Nat} {v:Value} {vs:List Value} {rows:List (List (Int × Int × Int × Int))} (h:b9 w base v vs rows) (hb:Below w w w'):b9 w' base v vs rows:=by
 obtain ⟨h1,h2,h3,h4⟩:=h;exact ⟨World.ownsRow.kept h1 (bO hb none) (by cases v.ownBlock <;> simp),h2,fun i u r hu hr=>(h3 i u r hu hr).below hb,h4⟩
theorem b9.alloc {w:World} {base:Nat} {v:Value} {vs:List Value} {rows:List (List (Int × Int × Int × Int))} (h:b9 w base v vs rows) (o:Obj):b9 (w.alloc o) base v vs rows:=
 h.below ((IX _ _).alloc (IY _) _)
theorem b9.lt {w:World} {base:Nat} {v:Value} {vs:List Value} {rows:List (List (Int × Int × Int × Int))} (h:b9 w base v vs rows):∀ z ∈ vs,∀ g,z.ownBlock=some g->base<=g/\g<w.heap.size:=by
 obtain ⟨h1,h2,h3,h4⟩:=h;intro z hz g hg;obtain ⟨i,hi⟩:=List.getElem?_of_mem hz;have hil:=(List.getElem?_eq_some_iff.1 hi).1;exact World.ownsRow.lt (h3 i z _ hi (List.getElem?_eq_getElem ω)) g hg
theorem yj {ops:Array Oper} {rest:List Oper} {o:Oper} {a:Act} {Q:Exit->Act->World->Prop} {w W:World} (base:Nat) (u:Value) (r:List (Int × Int × Int × Int)) (vs:List Value) (rows:List (List (Int × Int × Int × Int))) (v:Value) (H:Nat) (hH:w.heap.size=H) (hgd:o.guard=none) (s x:Operand)
  (ho:o.op=.call { callee:=.builtin .append,args:=#[s,x],argTypes:=#[105,105] }) (hs:a.eval s=v) (hx:a.eval x=.slice (some ⟨H,0,none⟩) 1 1)
  (hown:b9 w base v vs rows) (hu:Rw.Own EN w base u r) (hnew:∀ g,u.ownBlock=some g->∀ z ∈ vs,z.ownBlock≠some g)
  (hW:Below base W w) (hB:base<=w.heap.size) (hl:rows.length<=1000000000)
  (h:∀ v' w',b9 w' base v' (vs ++ [u]) (rows ++ [r])->Below base W w'->wpList prog ops Q rest (a.put o.dst v') w') :
  wpList prog ops Q (o :: rest) a (w.alloc (.cells #[u] 136)):=by
 subst hH;obtain ⟨i0,hi,hz0,hz1,hz2⟩:=info_parts BI;obtain ⟨h1,h2,h3,h4⟩:=hown
 refine wpList_append_own _ hgd s x 105 ho base 136 i0 (.slice none 0 0) 1 24 Tryz.underlying105 hi hz0 hz1 hz2 rfl δ v rows.length vs hs (h1.alloc _) ⟨w,0,none⟩ 1 1 [u] hx rfl (fun j z hz=>by
  have hadd:(⟨w,0,none⟩:Addr).add j=⟨w,j,none⟩:=by unfold Addr.add;split <;> simp_all
  rw [hadd,World.cell?_alloc_at _ _ _ _ rfl]
  simpa using hz) (fun z hz=>by simp only [List.mem_singleton] at hz;subst hz;exact rJ hu) ?_ ?_ ?_ ?_
 ·unfold maxLen;omega
 ·omega
 ·simp;omega
 intro v' w' k1 k2 _;refine h v' w' ⟨by rw [List.length_append];exact k1,by rw [List.length_append,List.length_append,h2];rfl,?_,?_⟩ ((hW.alloc hB _).grown k2 (by simp;omega) fun k hk=>(h1.lt k hk).1)
 ·have hal:∀ {z:Value} {q:List (Int × Int × Int × Int)},Rw.Own EN w base z q->Rw.Own EN w' base z q:=by
   intro z q hz;have hz':Rw.Own EN (w.alloc (.cells #[u] 136)) base z q:=World.ownsRow.alloc hz _
   refine hz'.kept k2 fun g hg=>?_
   exact jS (t1:=78) (t2:=136) hz' (World.ownsRow.alloc h1 _) (Ne.symm neN) g hg
  intro i z q hz hq
  by_cases hlt:i<vs.length
  ·rw [List.getElem?_append_left hlt] at hz
   rw [List.getElem?_append_left ω] at hq;exact hal (h3 i z q hz hq)
  rw [List.getElem?_append_right ω] at hz;rw [List.getElem?_append_right ω,←h2] at hq
  have hi0:i - vs.length=0:=by
   rcases Nat.eq_zero_or_pos (i - vs.length) with e | e
   ·exact e
   rw [List.getElem?_eq_none (by simp;omega)] at hz;cases hz
  rw [hi0] at hz hq;simp only [List.getElem?_cons_zero,Option.some.injEq] at hz hq;subst hz hq;exact hal hu
 rw [List.pairwise_append];refine ⟨h4,σ,fun z hz z' hz' g hg hg'=>?_⟩;simp only [List.mem_singleton] at hz';subst hz';exact hnew g hg' z hz hg
theorem b9.view {w:World} {base:Nat} {v:Value} {vs:List Value} {rows:List (List (Int × Int × Int × Int))} (h:b9 w base v vs rows):∃ (a:Option Addr) (cap:Nat),v=.slice a rows.length cap/\(rows.length:Int)<=9223372036854775807/\
  ∀ k,k<rows.length->∃ g u r,a=some ⟨g,0,none⟩/\g<w.heap.size/\Hid (rows[k]?=some r)/\Hid (vs[k]?=some u)/\w.cell? ⟨g,k,none⟩=some u/\Rw.Own EN w base u r:=by
 obtain ⟨⟨h1,h2⟩,h3,h4,h5⟩:=h
 rcases h2 with ⟨rfl,hn⟩ | ⟨g,cap,cur,rfl,hg,hh,hc,hm,hs,ht⟩
 ·exact ⟨none,0,by rw [hn],ω,fun k hk=>ω⟩
 refine ⟨some ⟨g,0,none⟩,cap,rfl,by unfold maxLen at hm;omega,fun k hk=>⟨g,vs[k]' ω,rows[k],rfl,(Array.getElem?_eq_some_iff.1 hh).1,List.getElem?_eq_getElem hk,List.getElem?_eq_getElem ω,?_,h4 k _ _ (List.getElem?_eq_getElem ω) (List.getElem?_eq_getElem hk)⟩⟩;rw [cell_of_row w g k cur _ (0,0) hh];have e:vs[k]?=some (vs[k]' ω):=List.getElem?_eq_getElem ω;generalize vs[k]' ω=q at e ⊢;rw [←ht,List.getElem?_take] at e
 split at e
 ·simpa using e
 cases e
def EP:Rw.Enc (Int × Int) where
 t:=74
 k:=2
 cells:=fun q=>[.int .i64 q.1,.int .i64 q.2]
 len:=fun _=>rfl
 one:=fun x u hu=>by simp only [List.mem_cons,List.not_mem_nil,or_false] at hu;rcases hu with rfl | rfl <;> rfl
 pos:=δ
theorem BJ:(prog.info? 74).map (fun i=>(i.zero,i.size,i.bytes))=some (some (.agg #[(0:Int),(0:Int)]),2,16):=κ
theorem FA:Rw.Fits prog EP 130:=⟨Tryz.underlying130,by
 obtain ⟨i0,hi,hz0,hz1,hz2⟩:=info_parts BJ
 exact ⟨i0,_,hi,hz0,hz1,ω,rfl⟩⟩
theorem BK:(prog.info? 130).map (fun i=>(i.zero,i.size,i.bytes))=some (some (.slice none 0 0),1,24):=κ
theorem neP:(130:TypeId)≠74:=δ
def bg (w:World) (base:Nat) (v:Value) (vs:List Value) (rows:List (List (Int × Int))):Prop:=
 w.ownsRow base 130 1 v rows.length vs/\vs.length=rows.length/\(∀ (i:Nat) (u:Value) (r:List (Int × Int)),vs[i]?=some u->rows[i]?=some r->Rw.Own EP w base u r)/\
  vs.Pairwise (fun u u'=>∀ g,u.ownBlock=some g->u'.ownBlock≠some g)
theorem bg.nil (w:World) (base:Nat):bg w base (.slice none 0 0) [] []:=⟨World.ownsRow_nil w base _ 1,rfl,fun i u r h=>by simp at h,List.Pairwise.nil⟩
theorem bg.base {w:World} {base base':Nat} {v:Value} {vs:List Value} {rows:List (List (Int × Int))} (h:bg w base v vs rows) (hb:base'<=base):bg w base' v vs rows:=by
 obtain ⟨h1,h2,h3,h4⟩:=h;refine ⟨?_,h2,fun i u r hu hr=>(h3 i u r hu hr).down hb,h4⟩;obtain ⟨a1,a2⟩:=h1;refine ⟨a1,?_⟩
 rcases a2 with a2 | ⟨g,cap,cur,hv,hg,hh,r⟩
 ·exact Or.inl a2
 exact Or.inr ⟨g,cap,cur,hv,Nat.le_trans hb hg,hh,r⟩
theorem bg.below {w w':World} {base:Nat} {v:Value} {vs:List Value} {rows:List (List (Int × Int))} (h:bg w base v vs rows) (hb:Below w w w'):bg w' base v vs rows:=by
 obtain ⟨h1,h2,h3,h4⟩:=h;exact ⟨World.ownsRow.kept h1 (bO hb none) (by cases v.ownBlock <;> simp),h2,fun i u r hu hr=>(h3 i u r hu hr).below hb,h4⟩
theorem bg.alloc {w:World} {base:Nat} {v:Value} {vs:List Value} {rows:List (List (Int × Int))} (h:bg w base v vs rows) (o:Obj):bg (w.alloc o) base v vs rows:=
 h.below ((IX _ _).alloc (IY _) _)
theorem bg.lt {w:World} {base:Nat} {v:Value} {vs:List Value} {rows:List (List (Int × Int))} (h:bg w base v vs rows):∀ z ∈ vs,∀ g,z.ownBlock=some g->base<=g/\g<w.heap.size:=by
 obtain ⟨h1,h2,h3,h4⟩:=h;intro z hz g hg;obtain ⟨i,hi⟩:=List.getElem?_of_mem hz;have hil:=(List.getElem?_eq_some_iff.1 hi).1;exact World.ownsRow.lt (h3 i z _ hi (List.getElem?_eq_getElem ω)) g hg
theorem bg.view {w:World} {base:Nat} {v:Value} {vs:List Value} {rows:List (List (Int × Int))} (h:bg w base v vs rows):∃ (a:Option Addr) (cap:Nat),v=.slice a rows.length cap/\(rows.length:Int)<=9223372036854775807/\
  ∀ k,k<rows.length->∃ g u r,a=some ⟨g,0,none⟩/\g<w.heap.size/\Hid (rows[k]?=some r)/\Hid (vs[k]?=some u)/\w.cell? ⟨g,k,none⟩=some u/\Rw.Own EP w base u r:=by
 obtain ⟨⟨h1,h2⟩,h3,h4,h5⟩:=h
 rcases h2 with ⟨rfl,hn⟩ | ⟨g,cap,cur,rfl,hg,hh,hc,hm,hs,ht⟩
 ·exact ⟨none,0,by rw [hn],ω,fun k hk=>ω⟩
 refine ⟨some ⟨g,0,none⟩,cap,rfl,by unfold maxLen at hm;omega,fun k hk=>⟨g,vs[k]' ω,rows[k],rfl,(Array.getElem?_eq_some_iff.1 hh).1,List.getElem?_eq_getElem hk,List.getElem?_eq_getElem ω,?_,h4 k _ _ (List.getElem?_eq_getElem ω) (List.getElem?_eq_getElem hk)⟩⟩;rw [cell_of_row w g k cur _ (0,0) hh];have e:vs[k]?=some (vs[k]' ω):=List.getElem?_eq_getElem ω;generalize vs[k]' ω=q at e ⊢;rw [←ht,List.getElem?_take] at e
 split at e
 ·simpa using e
 cases e
namespace M
noncomputable def ent (a b:Int) (l:List Pt) (i j:Nat):Sp:=match l[i]?,l[j]? with
 | some p,some q=>if i=j then fP a b p.1 p.2.2 else if i<j then d7 a b p.1 p.2.1 p.2.2 q.1 q.2.1 q.2.2 else d7 a b q.1 q.2.1 q.2.2 p.1 p.2.1 p.2.2
 | _,_=>none
noncomputable def Lh (s:Sp):Int × Int × Int × Int:=(I9 s,I_ s,JA s,JB s)
noncomputable def J3 (a b:Int) (l:List Pt):Bool:=(List.range l.length).all fun i=>(List.range l.length).all fun j=>(ent a b l i j).isSome
noncomputable def mJ (a b:Int) (l:List Pt) (i:Nat):List (Int × Int × Int × Int):=(List.range l.length).map fun j=>Lh (ent a b l i j)
noncomputable def pu (a b:Int) (l:List Pt):List (List (Int × Int × Int × Int)):=if J3 a b l=true then (List.range l.length).map (mJ a b l) else []
theorem mR (a b:Int) (l:List Pt) (i j:Nat):ent a b l i j=ent a b l j i:=by
 by_cases h:i=j
 ·subst h;rfl
 unfold ent
 cases l[i]? with
 | none=>cases l[j]? <;> rfl
 | some p=>cases l[j]? with
  | none=>rfl
  | some q=>
  simp only []
  have h':¬ j=i:=fun e=>h e.symm
  simp only [h,h',if_false]
  rcases Nat.lt_or_ge i j with q1 | q1
  ·rw [if_pos q1,if_neg ω]
  rw [if_neg ω,if_pos ω]
theorem sn {a b:Int} {l:List Pt} {i:Nat} {p:Pt} (h:l[i]?=some p):ent a b l i i=fP a b p.1 p.2.2:=by
 unfold ent;rw [h];simp
theorem sj {a b:Int} {l:List Pt} {i j:Nat} {p q:Pt} (h1:l[i]?=some p) (h2:l[j]?=some q) (h:i<j):ent a b l i j=d7 a b p.1 p.2.1 p.2.2 q.1 q.2.1 q.2.2:=by
 unfold ent;rw [h1,h2];simp only [];rw [if_neg ω,if_pos h]
theorem BT {a b:Int} {l:List Pt} {i j:Nat} (hi:i<l.length) (hj:j<l.length) (h:ent a b l i j=none):J3 a b l=false:=by
 cases hm:J3 a b l
 ·rfl
 unfold J3 at hm;simp only [List.all_eq_true,List.mem_range] at hm;have:=hm i hi j hj;rw [h] at this;cases this
theorem wl {a b:Int} {l:List Pt} (h:∀ i,i<l.length->∀ j,j<l.length->(ent a b l i j).isSome=true):J3 a b l=true:=by
 unfold J3;simp only [List.all_eq_true,List.mem_range];exact h
theorem BV {a b:Int} {l:List Pt} (h:J3 a b l=false):pu a b l=[]:=by
 unfold pu;rw [h];rfl
theorem pv {a b:Int} {l:List Pt} (h:J3 a b l=true):pu a b l=(List.range l.length).map (mJ a b l):=by
 unfold pu;rw [h];rfl
end M
def eV (w:World) (base:Nat) (v:Value) (rows:List (List (Int × Int × Int × Int))):Prop:=∃ vs,b9 w base v vs rows
theorem eV.below {w w':World} {base:Nat} {v:Value} {rows:List (List (Int × Int × Int × Int))} (h:eV w base v rows) (hb:Below w w w'):eV w' base v rows:=h.elim fun vs k=>⟨vs,k.below hb⟩
theorem eV.base {w:World} {base base':Nat} {v:Value} {rows:List (List (Int × Int × Int × Int))} (h:eV w base v rows) (hb:base'<=base):eV w base' v rows:=h.elim fun vs k=>⟨vs,k.base hb⟩
theorem eV.nil (w:World) (base:Nat):eV w base (.slice none 0 0) []:=⟨[],b9.nil w base⟩
theorem eV.at {w:World} {base:Nat} {v:Value} {rows:List (List (Int × Int × Int × Int))} (h:eV w base v rows) {i j:Nat} {r:List (Int × Int × Int × Int)} {q:Int × Int × Int × Int} (hr:rows[i]?=some r) (hq:r[j]?=some q) :
  ∃ (g cap g2 cap2:Nat),v=.slice (some ⟨g,0,none⟩) rows.length cap/\w.cell? ⟨g,i,none⟩=some (.slice (some ⟨g2,0,none⟩) r.length cap2)/\w.cell? ⟨g2,j*4,none⟩=some (.int .i64 q.1)/\w.cell? ⟨g2,j*4+1,none⟩=some (.int .i64 q.2.1)/\w.cell? ⟨g2,j*4+2,none⟩=some (.int .i64 q.2.2.1)/\w.cell? ⟨g2,j*4+3,none⟩=some (.int .i64 q.2.2.2):=by
 obtain ⟨vs,h⟩:=h;obtain ⟨a,cap,rfl,-,hv⟩:=h.view;obtain ⟨g,u,r',rfl,-,h1,-,h2,h3⟩:=hv i (List.getElem?_eq_some_iff.1 hr).1
 have e:r'=r:=by
  have:=h1.out;rw [hr] at this;exact (Option.some.inj this).symm
 subst e
 rcases h3.forms with ⟨-,h4⟩ | ⟨g2,cap2,rfl,-,-,-,-⟩
 ·rw [h4] at hq;cases hq
 have hc:=fun t (ht:t<4)=>(h3.cellAt rfl (j*4+t) _ ((Rw.flat_get EN r' j t q hq ht).trans (List.getElem?_eq_getElem (by rw [EN.len];exact ht)))).1
 exact ⟨g,cap,g2,cap2,rfl,h2,hc 0 δ,hc 1 δ,hc 2 δ,hc 3 δ⟩
theorem iN {α:Type} (f:Nat->α) (k:Nat):(List.range (k+1)).map f=(List.range k).map f ++ [f k]:=by
 rw [List.range_succ,List.map_append];rfl
theorem ti {α:Type} (f:Nat->α) {k n:Nat} (h:k<n):((List.range n).map f)[k]?=some (f k):=by
 rw [List.getElem?_map,List.getElem?_range h];rfl
theorem uk (a b:Int) (v:Value) (l:List Pt) (w:World) (hx:dj w v l) (hg:M.good a b=true) (hn:l.length<=4) (hp:∀ p ∈ l,aP a b p.1 p.2.1 p.2.2=true) :
  Calls prog 75 #[.agg #[a,b],v] w fun e w'=>∃ mv,e=.returned (.tuple #[mv,M.J3 a b l])/\eV w' w mv (pu a b l)/\Below w w w':=by
 have hin:=aY hg;obtain ⟨sa,cap,rfl,hv⟩:=hx;have hv:=IU hv;have hp:=IU hp
 obtain ⟨N,hN⟩:∃ N,Hid (l.length=N):=⟨_,IU rfl⟩
 rw [hN.out] at hn ⊢
 have hno:=IU fun i j h1 h2 h=>BT (a:=a) (b:=b) (l:=l) (i:=i) (j:=j) h1 h2 h
 have hrn:=IU fun h=>BV (a:=a) (b:=b) (l:=l) h
 obtain ⟨wc,hw3,C,B⟩:=cf w #[a,b] 25;go_enter func75,ntmps75
 go_wp2
 go_loopw [6,16] (fun vo vi wr=>∃ i:Nat,i<=N/\vi=.int .i64 i/\Hid (∀ i',i'<i->∀ j,j<l.length->(M.ent a b l i' j).isSome=true)/\Hid (eV wr wc vo ((List.range i).map (mJ a b l)))/\Below wc wc wr) (fun _ vi _=>N - (intOf vi).toNat)
 case atStart=>exact ⟨0,Nat.zero_le _,rfl,IU (fun i' h=>absurd h ω),IU (eV.nil _ _),IX _ _⟩
 case round=>
 obtain ⟨i,hi,rfl,hall,SN,Bc⟩:=hrel;have hB0:=B.size;replace ⟨B,C⟩:=Im Bc B C
 by_cases hlt:i<N
 ·obtain ⟨x,hx⟩:∃ x,l[i]?=some x:=⟨_,List.getElem?_eq_getElem (by have:=hN.out;omega)⟩
  obtain ⟨g,o_,rfl,hpt⟩:∃ g o_,sa=some ⟨g,o_,none⟩/\qN w g o_ l:=by
   rcases hv.out with h | h
   ·rw [h] at hx;cases hx
   exact h
  have hpt:=IU hpt;obtain ⟨d0,d1,d2⟩:=(hpt.out.below B) i x hx;have hpx:=hp.out x (List.mem_of_getElem? hx);have hx:=IU hx;obtain ⟨x1,x2,x3⟩:=x;simp only [] at d0 d1 d2 hpx;have hb1:=eP hin hpx
  have PS:=IU fun W=>BC a b x1 x2 x3 W hg hb1.1 hb1.2.1 hb1.2.2.1 hb1.2.2.2.1
  clear hb1;have B1:=B.alloc B.size (.cells #[x1,x2,x3] 40);have B1c:=Bc.alloc Bc.size (.cells #[x1,x2,x3] 40);have Z:=aG.new wr #[x1,x2,x3] 40;have C1:=C.alloc (.cells #[x1,x2,x3] 40);have hwi:=IV wr (.cells #[x1,x2,x3] 40);have hm1:=IU (SN.out.below ((IX _ wr).alloc (IY _) (.cells #[x1,x2,x3] 40)));generalize hw1:wr.alloc (.cells #[x1,x2,x3] 40)=wi at *;go_wp2
  go_loopw [9,23] (fun vr vk wq=>∃ k:Nat,k<=N/\vk=.int .i64 k/\Hid (∀ j,j<k->(M.ent a b l i j).isSome=true)/\Hid (Rw.Own EN wq wi vr ((List.range k).map fun j=>M.Lh (M.ent a b l i j)))/\Below wi wi wq) (fun _ vk _=>N - (intOf vk).toNat)
  case atStart=>exact ⟨0,Nat.zero_le _,rfl,IU (fun j h=>absurd h ω),IU (Rw.Own.nil EN _ _),IX _ _⟩
  case round=>
  clear d0 d1 d2;obtain ⟨k,hk,rfl,Jn,hrow,Bq⟩:=hrel;have hsz:=B.size;have Je:=Bq.size
  by_cases hlt2:k<N
  ·obtain ⟨y,hy⟩:∃ y,l[k]?=some y:=⟨_,List.getElem?_eq_getElem (by have:=hN.out;omega)⟩
   obtain ⟨d0,d1,d2⟩:=((hpt.out.below B1).below Bq) k y hy;have hpy:=hp.out y (List.mem_of_getElem? hy);obtain ⟨y1,y2,y3⟩:=y;simp only [] at d0 d1 d2 hpy;have hy:=IU hy;have MQ:=IU (hm1.out.below Bq);have B2:=Bq.alloc Bq.size (.cells #[y1,y2,y3] 40);have ZY:=aG.new wr #[y1,y2,y3] 40;have Z2:=(Z.keep Bq).alloc (.cells #[y1,y2,y3] 40);have C2:=(C1.keep Bq).alloc (.cells #[y1,y2,y3] 40);have hrow2:=IU (Rw.Own.alloc hrow.out (.cells #[y1,y2,y3] 40));have f_:=C2.box.c0;have i_:=C2.box.c1;have ⟨z0,z1,z2⟩:=Z2.aM;have ⟨t0,t1,t2⟩:=ZY.aM
   have hle:((List.range k).map fun j=>M.Lh (M.ent a b l i j)).length<=4:=by rw [List.length_map,List.length_range];omega
   have hle:=IU hle
   have L8:(M.ent a b l i k).isSome=true->(∀ j,j<k+1->(M.ent a b l i j).isSome=true):=fun h j hj=>by
    rcases Nat.lt_or_ge j k with q | q
    ·exact Jn.out j q
    obtain rfl:j=k:=ω
    exact h
   have L8:=IU L8
   rcases Nat.lt_trichotomy k i with hc | hc | hc
   ·have hent:=hall.out k hc i (by have:=hN.out;omega)
    rw [mR] at hent;have hnx:=IU (L8.out hent);obtain ⟨gm,cm,g2,c2,rfl,m0,m1,m2,m3,m4⟩:=(MQ.out.below ((IX _ wr).alloc (IY _) (.cells #[y1,y2,y3] 40))).at (ti (mJ a b l) hc) (show (mJ a b l k)[i]?=some _ from ti _ (by have:=hN.out;omega));rw [mR] at m1 m2 m3 m4
    have hrl:(mJ a b l k).length=N:=by unfold mJ;rw [List.length_map,List.length_range];exact hN.out
    rw [hrl] at m0
    have hrm:((List.range i).map (mJ a b l)).length=i:=by rw [List.length_map,List.length_range]
    simp only [hrm]
    obtain ⟨q,hq⟩:∃ q,Hid (M.Lh (M.ent a b l i k)=q):=⟨_,IU rfl⟩
    rw [hq.out] at m1 m2 m3 m4;obtain ⟨q1,q2,q3,q4⟩:=q;simp only [] at m1 m2 m3 m4
    have hii:((i:Nat):Int)<=4:=ω
    go_wp2_with (at_builtin;refine Rw.push sp (W:=wi) wi.heap.size [(q1,q2,q3,q4)] _ _ (some ⟨wr.heap.size+1,0,none⟩) 1 1 rfl rfl (.tmp 31) (.tmp 39) rfl rfl rfl (Rw.From.lit EN _ (q1,q2,q3,q4) (wr.heap.size+1) (IV _ _)) (Rw.Own.alloc hrow2.out _) (B2.alloc B2.size _) (by rw [IV];have:=B2.size;omega) (by have:=hle.out;simp only [List.length_cons,List.length_nil];omega) ?_;intro v6 w6 hown6 hb6)
    go_roundw
    case rel=>exact ⟨k+1,ω,ν,hnx,by rw [iN,hq.out];exact IU hown6,hb6⟩
    case measure=>simp [intOf] <;> omega
   ·subst hc
    have hxy:=Option.some.inj (hx.out.symm.trans hy.out)
    injection hxy with e1 e2
    injection e2 with e2 e3
    subst e1 e2 e3;have he:=sn (a:=a) (b:=b) hx.out
    have PP:=fun W=>tE a b x1 x2 x3 x1 x2 x3 W hg hpx hpx
    generalize d7 a b x1 x2 x3 x1 x2 x3=ps at *;generalize ps.isSome=fu,M.JB ps=u4,M.JA ps=u3,M.I_ ps=u2,M.I9 ps=u1 at *;simp only [] at he;replace PS:=PS.out;generalize fP a b x1 x3=ss at *;have hni:=hno.out k k (by have:=hN.out;omega) (by have:=hN.out;omega);rw [he] at hni L8;have Bv:=(IX wr wr).alloc (IY _) (.cells #[x1,x2,x3] 40)
    cases ss with
    | none=>
     have hfin:=IU (hni rfl);have hfr:=IU (hrn.out hfin.out);have e9:=IU (show M.I9 none=0/\M.I_ none=0/\M.JA none=0/\M.JB none=0/\(none:M.Sp).isSome=false from ⟨rfl,rfl,rfl,rfl,rfl⟩);rw [e9.out.1,e9.out.2.1,e9.out.2.2.1,e9.out.2.2.2.1,e9.out.2.2.2.2] at PS;replace PP:=IU PP;replace PS:=IU PS
     go_wp2_with first | (go_at_call 117;with_reducible refine p_ (PP.out _) fun w4 hb4=>?_;have KT:=Nat.le_trans Bv.size hb4.size;replace Bv:=(j_ Bv hb4).alloc (Nat.le_trans Bv.size hb4.size) (.cells #[u1,u2,u3,u4] 78);replace C2:=(C2.keep hb4).alloc (.cells #[u1,u2,u3,u4] 78);replace Z2:=(Z2.keep hb4).alloc (.cells #[u1,u2,u3,u4] 78);have V:=aG.new w4 #[u1,u2,u3,u4] 78;have f_:=C2.box.c0;have i_:=C2.box.c1;(have ⟨z0,z1,z2⟩:=Z2.aM);(have ⟨v0,v1,v2,v3,f0,f1,f2,f3,vl⟩:=V.aK)) | (go_at_call 118;with_reducible refine p_ (PS.out _) fun w5 hb5=>?_;replace ⟨Bv,V⟩:=Im hb5 Bv V;(have ⟨v0,v1,v2,v3,f0,f1,f2,f3,vl⟩:=V.aK);have Q6:=IW (IW (IW (IW (Bv) (p:=⟨w4,0,none⟩) KT (.int .i64 0)) (p:=⟨w4,1,none⟩) KT (.int .i64 0)) (p:=⟨w4,2,none⟩) KT (.int .i64 0)) (p:=⟨w4,3,none⟩) KT (.int .i64 0);have V9:=V.pR (.int .i64 0) (.int .i64 0) (.int .i64 0) (.int .i64 0);(have ⟨v0_,v1_,v2_,v3_,_,_,_,_,_⟩:=V9.aK))
     go_ret2;exact ⟨_,by rw [hfin.out];rfl,by rw [hfr.out];exact eV.nil _ _,(j_ B1 Bq).trans (Q6.mono (Nat.le_trans B1.size Je))⟩
    | some q_=>
    have hnx:=IU (L8.out rfl)
    obtain ⟨q,hq⟩:∃ q,Hid (M.Lh (some q_)=q):=⟨_,IU rfl⟩
    obtain ⟨q1,q2,q3,q4⟩:=q;have e1:M.I9 (some q_)=q1:=congrArg (fun z=>z.1) hq.out;have e2:M.I_ (some q_)=q2:=congrArg (fun z=>z.2.1) hq.out;have e3:M.JA (some q_)=q3:=congrArg (fun z=>z.2.2.1) hq.out;have e4:M.JB (some q_)=q4:=congrArg (fun z=>z.2.2.2) hq.out;have e5:=IU (show (some q_:M.Sp).isSome=true from rfl);rw [e1,e2,e3,e4,e5.out] at PS;have he:=IU (he.trans rfl);replace PP:=IU PP;replace PS:=IU PS
    go_wp2_with first | (go_at_call 117;with_reducible refine p_ (PP.out _) fun w4 hb4=>?_;have KT:=Nat.le_trans Bv.size hb4.size;replace Bv:=(j_ Bv hb4).alloc (Nat.le_trans Bv.size hb4.size) (.cells #[u1,u2,u3,u4] 78);replace C2:=(C2.keep hb4).alloc (.cells #[u1,u2,u3,u4] 78);replace Z2:=(Z2.keep hb4).alloc (.cells #[u1,u2,u3,u4] 78);have V:=aG.new w4 #[u1,u2,u3,u4] 78;have f_:=C2.box.c0;have i_:=C2.box.c1;(have ⟨z0,z1,z2⟩:=Z2.aM);(have ⟨v0,v1,v2,v3,f0,f1,f2,f3,vl⟩:=V.aK)) | (go_at_call 118;with_reducible refine p_ (PS.out _) fun w5 hb5=>?_;replace ⟨Bv,V⟩:=Im hb5 Bv V;(have ⟨v0,v1,v2,v3,f0,f1,f2,f3,vl⟩:=V.aK);have Q6:=IW (IW (IW (IW (Bv) (p:=⟨w4,0,none⟩) KT (.int .i64 q1)) (p:=⟨w4,1,none⟩) KT (.int .i64 q2)) (p:=⟨w4,2,none⟩) KT (.int .i64 q3)) (p:=⟨w4,3,none⟩) KT (.int .i64 q4);have V9:=V.pR (.int .i64 q1) (.int .i64 q2) (.int .i64 q3) (.int .i64 q4);(have ⟨v0_,v1_,v2_,v3_,_,_,_,_,_⟩:=V9.aK)) | (at_builtin;refine Rw.push sp (W:=wi) wi.heap.size [(q1,q2,q3,q4)] _ _ (some ⟨w5,0,none⟩) 1 1 rfl rfl (.tmp 59) (.tmp 61) rfl rfl rfl (Rw.From.lit EN _ (q1,q2,q3,q4) (w5.heap.size) (by simp [World.setCell])) (Rw.Own.alloc (hrow.out.below Q6) _) ((j_ Bq Q6).alloc (Nat.le_trans Je Q6.size) _) (by rw [IV];exact Nat.le_succ_of_le (Nat.le_trans Je Q6.size)) (by have:=hle.out;simp only [List.length_cons,List.length_nil];omega) ?_;intro v6 w6 hown6 hb6)
    go_roundw
    case rel=>exact ⟨k+1,ω,ν,hnx,by rw [iN,he.out,hq.out];exact IU hown6,hb6⟩
    case measure=>simp [intOf] <;> omega
   have he:=sj (a:=a) (b:=b) hx.out hy.out hc
   have PP:=fun W=>tE a b x1 x2 x3 y1 y2 y3 W hg hpx hpy
   simp only [] at he;generalize d7 a b x1 x2 x3 y1 y2 y3=ss at *
   have hne:((k:Int) == (i:Int))=false:=by rw [beq_eq_false_iff_ne];omega
   clear PS;have hni:=hno.out i k (by have:=hN.out;omega) (by have:=hN.out;omega);rw [he] at hni L8;have Bv:=(IX wr wr).alloc (IY _) (.cells #[y1,y2,y3] 40)
   cases ss with
   | none=>
    have hfin:=IU (hni rfl);have hfr:=IU (hrn.out hfin.out);have e9:=IU (show M.I9 none=0/\M.I_ none=0/\M.JA none=0/\M.JB none=0/\(none:M.Sp).isSome=false from ⟨rfl,rfl,rfl,rfl,rfl⟩);rw [e9.out.1,e9.out.2.1,e9.out.2.2.1,e9.out.2.2.2.1,e9.out.2.2.2.2] at PP;replace PP:=IU PP
    go_wp2_with first | (go_at_call 117;with_reducible refine p_ (PP.out _) fun w4 hb4=>?_;have KT:=Nat.le_trans Bv.size hb4.size;replace Bv:=(j_ Bv hb4).alloc (Nat.le_trans Bv.size hb4.size) (.cells #[(0:Int),(0:Int),(0:Int),(0:Int)] 78);replace C2:=(C2.keep hb4).alloc (.cells #[(0:Int),(0:Int),(0:Int),(0:Int)] 78);replace Z2:=(Z2.keep hb4).alloc (.cells #[(0:Int),(0:Int),(0:Int),(0:Int)] 78);have V:=aG.new w4 #[(0:Int),(0:Int),(0:Int),(0:Int)] 78;have f_:=C2.box.c0;have i_:=C2.box.c1;(have ⟨z0,z1,z2⟩:=Z2.aM);(have ⟨v0,v1,v2,v3,f0,f1,f2,f3,vl⟩:=V.aK))
    go_ret2;exact ⟨_,by rw [hfin.out];rfl,by rw [hfr.out];exact eV.nil _ _,(j_ B1 Bq).trans (Bv.mono (Nat.le_trans B1.size Je))⟩
   | some q_=>
   have hnx:=IU (L8.out rfl)
   obtain ⟨q,hq⟩:∃ q,Hid (M.Lh (some q_)=q):=⟨_,IU rfl⟩
   obtain ⟨q1,q2,q3,q4⟩:=q;have e1:M.I9 (some q_)=q1:=congrArg (fun z=>z.1) hq.out;have e2:M.I_ (some q_)=q2:=congrArg (fun z=>z.2.1) hq.out;have e3:M.JA (some q_)=q3:=congrArg (fun z=>z.2.2.1) hq.out;have e4:M.JB (some q_)=q4:=congrArg (fun z=>z.2.2.2) hq.out;have e5:=IU (show (some q_:M.Sp).isSome=true from rfl);rw [e1,e2,e3,e4,e5.out] at PP;have he:=IU (he.trans rfl);replace PP:=IU PP
   go_wp2_with first | (go_at_call 117;with_reducible refine p_ (PP.out _) fun w4 hb4=>?_;have KT:=Nat.le_trans Bv.size hb4.size;replace Bv:=(j_ Bv hb4).alloc (Nat.le_trans Bv.size hb4.size) (.cells #[q1,q2,q3,q4] 78);replace C2:=(C2.keep hb4).alloc (.cells #[q1,q2,q3,q4] 78);replace Z2:=(Z2.keep hb4).alloc (.cells #[q1,q2,q3,q4] 78);have V:=aG.new w4 #[q1,q2,q3,q4] 78;have f_:=C2.box.c0;have i_:=C2.box.c1;(have ⟨z0,z1,z2⟩:=Z2.aM);(have ⟨v0,v1,v2,v3,f0,f1,f2,f3,vl⟩:=V.aK)) | (at_builtin;refine Rw.push sp (W:=wi) wi.heap.size [(q1,q2,q3,q4)] _ _ (some ⟨w4.heap.size+1,0,none⟩) 1 1 rfl rfl (.tmp 59) (.tmp 61) rfl rfl rfl (Rw.From.lit EN _ (q1,q2,q3,q4) (w4.heap.size+1) (by simp [World.setCell])) (Rw.Own.alloc (hrow.out.below Bv) _) ((j_ Bq Bv).alloc (Nat.le_trans Je Bv.size) _) (by rw [IV];exact Nat.le_succ_of_le (Nat.le_trans Je Bv.size)) (by have:=hle.out;simp only [List.length_cons,List.length_nil];omega) ?_;intro v6 w6 hown6 hb6)
   go_roundw
   case rel=>exact ⟨k+1,ω,ν,hnx,by rw [iN,he.out,hq.out];exact IU hown6,hb6⟩
   case measure=>simp [intOf] <;> omega
  obtain rfl:k=N:=ω
  have hkl:((List.range k).map fun j=>M.Lh (M.ent a b l i j)).length=k:=by rw [List.length_map,List.length_range]
  obtain ⟨g4,c4,hvr⟩:∃ g4 c4,_=Value.slice (some ⟨g4,0,none⟩) k c4:=by
   rcases hrow.out.forms with ⟨-,h4⟩ | ⟨g4,c4,h4,-⟩
   ·rw [h4] at hkl;simp only [List.length_nil] at hkl;omega
   rw [hkl] at h4;exact ⟨g4,c4,h4⟩
  subst hvr;obtain ⟨vs,hvs⟩:=hm1.out;have KE:=hvs.below Bq;have hrw:=hrow.out.down (show wc.heap.size<=wi.heap.size from B1c.size)
  have hlt3:=fun g h=>hrow.out.lt g h
  have hmr:(List.range k).map (fun j=>M.Lh (M.ent a b l i j))=mJ a b l i:=by unfold mJ;rw [hN.out]
  rw [hmr] at hrw
  have SP:=fun g hg z hz (e:Value.ownBlock z=some g)=>(absurd (hlt3 g hg).1 (Nat.not_le.2 (hvs.lt z hz g e).2):False)
  have hrm:((List.range i).map (mJ a b l)).length=i:=by rw [List.length_map,List.length_range]
  have hal:∀ i',i'<i+1->∀ j,j<l.length->(M.ent a b l i' j).isSome=true:=fun i' h j hj=>by
   rcases Nat.lt_or_ge i' i with q | q
   ·exact hall.out i' q j hj
   obtain rfl:i'=i:=ω
   exact Jn.out j (by have:=hN.out;omega)
  have hal:=IU hal;have Bw:=j_ B1c Bq
  go_wp2_with (at_builtin;refine yj (W:=wc) wc _ _ vs _ _ wr rfl rfl (.tmp 64) (.tmp 66) rfl rfl rfl KE hrw SP Bw Bw.size (by rw [hrm];omega) ?_;intro v7 w7 SR Ig)
  go_roundw
  case rel=>exact ⟨i+1,ω,ν,hal,IU ⟨_,by rw [iN];exact SR⟩,Ig⟩
  case measure=>simp [intOf] <;> omega
 obtain rfl:i=N:=ω
 have hyes:=IU (wl (a:=a) (b:=b) (l:=l) (fun i' h=>hall.out i' (by have:=hN.out;omega)));have hrows:=IU (pv hyes.out);go_wp2;go_ret2;exact ⟨_,by rw [hyes.out];rfl,by rw [hrows.out,hN.out];exact SN.out.base hB0,B⟩
theorem sP (x:Int) (w:World) :
  cB 71 #[x] w (!(M.ins x (-12) 12)):=by
 have PP:=IU fun W=>dV x (-12) 12 W
 generalize M.ins x (-12) 12=t at *;go_enter func71,ntmps71
 go_wp2_with (go_at_call 28;with_reducible refine Id (PP.out _) ?_)
 go_ret;exact ⟨rfl,IX _ _⟩
namespace M
def fits (n:List Int) (m:Nat):Bool:=((n.length:Int) == (m:Int)) && n.all (fun x=>ins x (-12) 12)
theorem As {n:List Int}:(!n.any (fun x=>!(ins x (-12) 12)))=n.all (fun x=>ins x (-12) 12):=by
 rw [List.not_any_eq_all_not]
 congr 1
 funext x
 simp
end M
end
section
open Gr M Rg Rw Wh
namespace M
abbrev JE:=List (List (Int × Int))
def bq (m:JE) (c:Nat):JE:=m.tail.map fun r=>r.take c ++ r.drop (c+1)
def fH (s part:Sp) (c:Nat):Sp:=if c % 2=0 then gV s part else dK s part
def dN:Nat->JE->Sp
 | 0,_=>none
 | 1,m=>(m.headD []).head?
 | n+2,m=>(List.range (m.headD []).length).foldl (fun s c=>fH s (gF ((m.headD [])[c]?) (dN (n+1) (bq m c))) c) (some (0,0))
def eJ (n:Nat) (m:JE) (k:Nat):Sp:=(List.range k).foldl (fun s c=>fH s (gF ((m.headD [])[c]?) (dN (n+1) (bq m c))) c) (some (0,0))
theorem iI (n:Nat) (m:JE):dN (n+2) m=eJ n m (m.headD []).length:=rfl
theorem g5 (n:Nat) (m:JE) (k:Nat):eJ n m (k+1)=fH (eJ n m k) (gF ((m.headD [])[k]?) (dN (n+1) (bq m k))) k:=by
 unfold eJ;rw [List.range_succ,List.foldl_append];rfl
theorem j9 (p:Sp) (c:Nat):fH none p c=none:=by
 unfold fH
 split <;> rfl
theorem eB (s:Sp) (c:Nat):fH s none c=none:=by
 unfold fH
 cases s <;> split <;> rfl
theorem qG {n:Nat} {m:JE} {k:Nat} (h:eJ n m k=none):∀ j,k<=j->eJ n m j=none
 | 0,hj=>by
  obtain rfl:k=0:=ω
  exact h
 | j+1,hj=>by
  rcases Nat.lt_or_ge j k with q | q
  ·obtain rfl:k=j+1:=ω
   exact h
  rw [g5,qG h j q,j9]
def Qh (m:JE):Prop:=∀ r ∈ m,∀ q ∈ r,aJ q.1 q.2=true
theorem p9 {m:JE} {c:Nat} (h:Qh m):Qh (bq m c):=by
 intro r hr q hq;obtain ⟨s,hs,rfl⟩:=List.mem_map.1 hr
 rcases List.mem_append.1 hq with h1 | h1
 ·exact h s (List.mem_of_mem_tail hs) q (List.mem_of_mem_take h1)
 exact h s (List.mem_of_mem_tail hs) q (List.mem_of_mem_drop h1)
theorem Bj {s p:Sp} {c:Nat}:Jo (fH s p c):=by
 unfold fH
 split
 ·exact wt
 exact mZ
theorem rH {n:Nat} {m:JE}:∀ k,Jo (eJ n m k)
 | 0=>fun p hp=>by
  have:(0,0)=p:=Option.some.inj hp;subst this
  decide
 | k+1=>by
  rw [g5];exact Bj
theorem mY {m:JE} (h:Qh m):∀ n,Jo (dN n m)
 | 0=>fF
 | 1=>fun p hp=>by
  cases m with
  | nil=>cases hp
  | cons r m=>
  cases r with
  | nil=>cases hp
  | cons q r=>
  have:q=p:=Option.some.inj hp;subst this;exact h _ (List.mem_cons_self ..) _ (List.mem_cons_self ..)
 | n+2=>by
  rw [iI];exact rH _
def square (n:Nat) (m:JE):Prop:=m.length=n/\∀ r ∈ m,r.length=n
theorem kj {n:Nat} {m:JE} {c:Nat} (h:square (n+1) m) (hc:c<n+1):square n (bq m c):=by
 refine ⟨by unfold bq;rw [List.length_map,List.length_tail,h.1];rfl,fun r hr=>?_⟩;obtain ⟨s,hs,rfl⟩:=List.mem_map.1 hr;rw [List.length_append,List.length_take,List.length_drop,h.2 s (List.mem_of_mem_tail hs)];omega
end M
end
end Go.Proofs.YtkalaljcbmkbmaaGreat
