/-
  Joined texts: contracts and plain lemmas.
-/
import Derived.Test.YtgfkcoablfjbcaaGreatDoorB1
import Derived.Test.YtgfkcoablfjbcaaGreatDoorB2
import Derived.Laws.OwnMore
import Derived.Deep.DeepCutAuto
import Derived.Deep.RegionWith
import Derived.BigQuiet
set_option linter.unusedSimpArgs false
set_option linter.unusedVariables false
set_option maxRecDepth 100000
set_option maxHeartbeats 8000000
namespace Go.Proofs.YtgfkcoablfjbcaaGreatDoor
section
open Go.RowKit
theorem px (neg:Bool) (ls:List Int) (v:Value) (w:World) (base:Nat) (hown:aF w base v ls) (h:Wh.bG ls) (hl:ls.length≤1000000) :
  Calls Tryz.prog 133 #[.bool neg,v] w fun e w'=>∃ sl,e=.returned (.agg #[.bool (decide (Wh.sgn neg (Wh.val ls)<0)),sl])∧ae w' w.heap.size sl (Wh.sgn neg (Wh.val ls))∧Below w.heap.size w w':=by
 obtain ⟨a,cap,rfl,hm,hv⟩:=hown.seen
 have hv:=uh hv
 have hgt:=uh (Wh.iM h)
 have hn:=Wh.cc h
 have hs1:=uh (Wh.oJ (neg:=neg) hn)
 have hs2:=uh (Wh.kW (neg:=neg) hn)
 have hls:=uh h
 have hcp:=hown.cap
 replace hown:=uh hown
 clear hm hn h
 have bx:=af.new w (.bool false) (.slice none 0 0) 106
 go_enter Tryz.func133,Tryz.ntmps133
 go_wp2
 go_loopw [5] (fun vl wr=>∃ k:Nat,k≤ls.length∧vl=.int .i64 k∧Wh.trim (ls.take k)=Wh.trim ls∧wr=w.alloc (.cells #[.bool false,.slice none 0 0] 106)) (fun vl _=>(intOf vl).toNat)
 case atStart=>exact ⟨ls.length,ul _,rfl,by rw [List.take_length],rfl⟩
 case round=>
 obtain ⟨k,hk,rfl,htr,rfl⟩:=hrel
 have hown2:aF (w.alloc (.cells #[.bool false,.slice none 0 0] 106)) base (.slice a k cap) (ls.take k):=(aF.uM hown.out hk).alloc _
 have fin:ls.take k=Wh.dig (Wh.val ls).toNat→Hid ((decide (Wh.sgn neg (Wh.val ls)<0)=(neg && decide (0<k)))∧∀ (W:World) (b:Nat) (vc:Value),aF W b vc (ls.take k)→ae W b vc (Wh.sgn neg (Wh.val ls))):=fun h=>uh (by
  have h2:=Wh.mG hk h
  have hn:=Wh.cc hls.out
  refine ⟨?_,fun W b vc ho=>?_⟩
  ·rw [hs1.out]
   congr 1
   rw [decide_eq_decide,←h2]
   omega
  unfold ae
  rw [hs2.out,←h]
  exact ho)
 have PC:=fun W v h=>sJ (ls.take k) v W base h (by rw [List.length_take];omega)
 have PC:=uh PC
 have hown2:=uh hown2
 have htr:=uh htr
 cases k with
 | zero=>
  have f2:=fin (by rw [←hgt.out,←htr.out];rfl)
  clear fin htr hgt
  cases neg
  all_goals
   go_wp2_with (go_at_call 147;(with_reducible refine (PC.out _ _ hown2.out).mono ?_);rintro e w2 ⟨vc,rfl,hoc,hbc⟩;obtain ⟨ac,capc,rfl,hmc,hvc⟩:=hoc.view;(have bx2:=bx.keep hbc);(have c0:=bx2.c0);(have c1:=bx2.c1);(have g0:=bx2.f0);(have g1:=bx2.f1);(clear hvc hmc))
   have hr:=pP (.bool false) hoc hbc
   exact bodyPost_ret (v:=.agg #[.bool false,.slice ac 0 capc]) (by simp [results,Tryz.results133,go_sem, *]) rfl (⟨_,by rw [f2.out.1] <;> rfl,f2.out.2 _ _ _ hr.1,hr.2⟩)
 | succ m=>
 obtain ⟨g,x,rfl,hg,hx,hcell⟩:=hv.out m (by omega)
 by_cases h0:x=0
 ·subst h0
  have hct:=uh ((Wh.mI (by omega) hx.out).symm.trans htr.out)
  clear fin htr
  go_wp2
  go_roundw
  case rel=>exact ⟨m,by omega,by go_num,hct.out,by first | rfl | trivial⟩
  case measure=>simp [intOf]
 have f2:=fin (by rw [←hgt.out,←htr.out,Wh.js hx.out h0])
 generalize ls.take (m+1)=L at *
 clear fin htr hgt
 cases neg
 ·go_wp2_with (go_at_call 147;(with_reducible refine (PC.out _ _ hown2.out).mono ?_);rintro e w2 ⟨vc,rfl,hoc,hbc⟩;obtain ⟨ac,capc,rfl,hmc,hvc⟩:=hoc.view;(have bx2:=bx.keep hbc);(have c0:=bx2.c0);(have c1:=bx2.c1);(have g0:=bx2.f0);(have g1:=bx2.f1);(clear hvc hmc))
  have hr:=pP (.bool false) hoc hbc
  exact bodyPost_ret (v:=.agg #[.bool false,.slice ac L.length capc]) (by simp [results,Tryz.results133,go_sem, *]) rfl (⟨_,by rw [f2.out.1] <;> rfl,f2.out.2 _ _ _ hr.1,hr.2⟩)
 go_wp2_with (go_at_call 147;(with_reducible refine (PC.out _ _ hown2.out).mono ?_);rintro e w2 ⟨vc,rfl,hoc,hbc⟩;obtain ⟨ac,capc,rfl,hmc,hvc⟩:=hoc.view;(have bx2:=bx.keep hbc);(have c0:=bx2.c0);(have c1:=bx2.c1);(have g0:=bx2.f0);(have g1:=bx2.f1);(clear hvc hmc))
 have hr:=pP (.bool true) hoc hbc
 exact bodyPost_ret (v:=.agg #[.bool true,.slice ac L.length capc]) (by simp [results,Tryz.results133,go_sem, *]) rfl (⟨_,by rw [f2.out.1] <;> simp,f2.out.2 _ _ _ hr.1,hr.2⟩)
theorem fJ (z:Int) (neg:Bool) (ls:List Int) (v:Value) (w:World) (base:Nat) (hown:aF w base v ls) (h:Wh.bG ls) (hl:ls.length≤1000000) (hz:Wh.sgn neg (Wh.val ls)=z) :
  Calls Tryz.prog 133 #[.bool neg,v] w fun e w'=>∃ sl,e=.returned (.agg #[.bool (decide (z<0)),sl])∧ae w' w.heap.size sl z∧Below w.heap.size w w':=by
 subst hz
 exact px neg ls v w base hown h hl
theorem gM (z:Int) (sl:Value) (w:World) (base:Nat) (ho:ae w base sl z) (hl:(Wh.dig z.natAbs).length≤1000000) :
  Calls Tryz.prog 129 #[.agg #[.bool (decide (z<0)),sl]] w fun e w'=>∃ sl',e=.returned (.agg #[.bool (decide (-z<0)),sl'])∧ae w' w.heap.size sl' (-z)∧Below w.heap.size w w':=by
 have PT:=fun W v h=>fJ (-z) (!decide (z<0)) (Wh.dig z.natAbs) v W base h (Wh.ai _) hl (by rw [Wh.bI];exact Wh.oK z)
 obtain ⟨a,cap,rfl,hm,hv⟩:=aF.view ho
 clear hm hv
 have ho:=uh (show aF _ _ _ _ from ho)
 generalize decide (z<0)=b at *
 generalize -z=y at *
 generalize decide (y<0)=b' at *
 generalize (Wh.dig z.natAbs).length=n at *
 have bz:=af.new2 w (.cells #[.bool b,.slice a n cap] 106) (.bool false) (.slice none 0 0) 106
 have hz2:=cZ w (.cells #[.bool b,.slice a n cap] 106) (.cells #[.bool false,.slice none 0 0] 106)
 cases b
 all_goals
  simp only [Bool.not_true,Bool.not_false] at PT
  have PT:=uh PT
  go_enter Tryz.func129,Tryz.ntmps129
  go_wp2_with (go_at_call 133;(with_reducible refine (PT.out _ _ (aF.alloc (aF.alloc ho.out _) _)).mono ?_);rintro e w2 ⟨vc,rfl,hoc,hbc⟩;obtain ⟨ac,capc,rfl,hmc,hvc⟩:=aF.view hoc;(have bx2:=bz.keep hbc);(have c0:=bx2.c0);(have c1:=bx2.c1);(have g0:=bx2.f0);(have g1:=bx2.f1);(clear hvc hmc))
  have hr:=cH (w:=w) (w.heap.size+1) _ (.bool b') (by omega) (by rw [hz2];omega) hoc (by repeat (first | exact uk _ _ | refine aP ?_ _ | refine aS ?_ (by assumption) | refine Below.drew ?_ | refine uj ?_ (by first | exact ul _ | exact Nat.le_add_right _ _ | (simp <;> omega)) _ | refine aK ?_ _))
  generalize (Wh.dig y.natAbs).length=n2 at *
  exact bodyPost_ret (v:=.agg #[.bool b',.slice ac n2 capc]) (by simp [results,Tryz.results129,go_sem, *]) rfl (⟨_,rfl,hr.1,hr.2⟩)
theorem iY (n:Int) (w:World) (h1:-1000000000000000000≤n) (h2:n≤1000000000000000000) :
  Calls Tryz.prog 112 #[.int .i64 n] w fun e w'=>∃ sl,e=.returned (.agg #[.bool (decide (n<0)),sl])∧ae w' w.heap.size sl n∧Below w.heap.size w w':=by
 obtain ⟨k,hk⟩:∃ k:Nat,n.natAbs=k:=⟨_,rfl⟩
 have PT:=fun (o:List Int) (W:World) (v:Value) (base:Nat) (h:aF W base v o) (hl:Wh.bG o) (hv:Wh.val o=k) (hlen:o.length≤1000000)=>fJ n (decide (n<0)) o v W base h hl hlen (by rw [hv,←hk];exact Wh.mE n)
 have PA:=fun W=>dA n W (by omega) (by omega)
 rw [hk] at PA
 have hbd:(k:Int)≤1000000000000000000:=by omega
 have bx:=af.new w (.bool false) (.slice none 0 0) 106
 by_cases hneg:n<0
 ·obtain rfl:n=-(k:Int):=by omega
  have hk0:0<(k:Int):=by omega
  have hdk:decide (-(k:Int)<0)=decide (0<k):=by rw [decide_eq_decide];omega
  rw [hdk] at PT ⊢
  clear hdk
  have PT:=uh PT
  have PA:=uh PA
  clear hk hneg h1 h2
  go_enter Tryz.func112,Tryz.ntmps112
  go_wp2_with (go_at_call 46;(with_reducible refine (PA.out _).mono ?_);rintro e w1 ⟨rfl,rfl⟩)
  go_loopw [3,4] (fun vo vn wr=>∃ (m:Nat) (o:List Int),vn=.int .i64 m∧aF wr (w.heap.size+1) vo o∧Wh.bG o∧Wh.val o+10000 ^ o.length*(m:Int)=k∧m≤1000000000000000000∧o.length≤5∧Hid (af wr w.heap.size (.bool false) (.slice none 0 0))∧Below w.heap.size w wr) (fun _ vn _=>(intOf vn).toNat)
  case atStart=>exact ⟨k,[],rfl,aF.nil _ _,(fun x hx=>by cases hx),by simp [Wh.val],by omega,by simp,uh bx,(uk _ _).alloc (ul _) _⟩
  case round=>
  clear bx
  obtain ⟨m,o,rfl,hown,hls,hvl,hm18,ho5,bxr,hbr⟩:=hrel
  have hls:=uh hls
  have hzr:w.heap.size+1≤wr.heap.size:=bxr.out.size
  by_cases hm0:0<m
  ·have hlen:=Wh.ke hls.out hvl (by omega) (by omega)
   have hst:=Wh.iO hvl (by omega)
   rw [show ((m:Int) % 10000)=((m % 10000:Nat):Int) by omega,show ((m:Int) / 10000)=((m / 10000:Nat):Int) by omega] at hst
   have hst:=uh hst
   have hrb:m % 10000<10000:=Nat.mod_lt _ (by decide)
   have hqb:m / 10000<m:=Nat.div_lt_self hm0 (by decide)
   have t1:Int.tmod (m:Int) 10000=((m % 10000:Nat):Int):=by rw [Int.tmod_eq_emod_of_nonneg (by omega)];omega
   have t2:Int.tdiv (m:Int) 10000=((m / 10000:Nat):Int):=by rw [Int.tdiv_eq_ediv_of_nonneg (by omega)];omega
   generalize m % 10000=r at *
   generalize m / 10000=q at *
   have hl2:Hid (Wh.bG (o ++ [(r:Int)])):=uh (Wh.cO hls.out fun y hy=>by rw [List.mem_singleton] at hy;subst hy;unfold Wh.lim;omega)
   have hl3:Hid ((o ++ [(r:Int)]).length≤5):=uh (by rw [List.length_append];simp;omega)
   have hown:=uh hown
   clear hvl
   go_wp2_with (at_builtin;refine cY (W:=wr) (w.heap.size+1) (r:Int) _ _ rfl (.tmp 11) (.tmp 14) rfl rfl rfl hown.out (uk _ _) (by omega) (by omega) ?_;rintro v6 w6 hown6 hb6)
   go_roundw
   case rel=>exact ⟨q,o ++ [(r:Int)],rfl,hown6,hl2.out,hst.out,by omega,hl3.out,uh (bxr.out.dI hb6 (Nat.lt_succ_self _)),hbr.trans (hb6.mono (Nat.le_succ _))⟩
   case measure=>simp [intOf];omega
  obtain rfl:m=0:=by omega
  have hvl2:Wh.val o=k:=by rw [←hvl];simp
  have hvl2:=uh hvl2
  have hown:=uh hown
  clear hvl
  go_wp2_with (go_at_call 133;(with_reducible refine (PT.out o _ _ _ hown.out hls.out hvl2.out (by omega)).mono ?_);rintro e w2 ⟨vc,rfl,hoc,hbc⟩;obtain ⟨ac,capc,rfl,hmc,hvc⟩:=aF.view hoc;(have bx2:=bxr.out.keep hbc);(have c0:=bx2.c0);(have c1:=bx2.c1);(have g0:=bx2.f0);(have g1:=bx2.f1);(clear hvc hmc))
  have hr:=cH (w:=w) w.heap.size _ (.bool (decide (0<k))) (ul _) bxr.out.size hoc (hbr.trans (hbc.mono (by omega)))
  have en:(-(k:Int)).natAbs=k:=by omega
  rw [en] at hr
  generalize (Wh.dig k).length=n2 at *
  exact bodyPost_ret (v:=.agg #[.bool (decide (0<k)),.slice ac n2 capc]) (by simp [results,Tryz.results112,go_sem, *]) rfl (⟨_,rfl,by unfold ae;rw [en];exact hr.1,hr.2⟩)
 obtain rfl:n=(k:Int):=by omega
 have PT:=uh PT
 have PA:=uh PA
 clear hk h1 h2
 have hng2:0≤(k:Int):=by omega
 go_enter Tryz.func112,Tryz.ntmps112
 go_wp2_with (go_at_call 46;(with_reducible refine (PA.out _).mono ?_);rintro e w1 ⟨rfl,rfl⟩)
 go_loopw [3,4] (fun vo vn wr=>∃ (m:Nat) (o:List Int),vn=.int .i64 m∧aF wr (w.heap.size+1) vo o∧Wh.bG o∧Wh.val o+10000 ^ o.length*(m:Int)=k∧m≤1000000000000000000∧o.length≤5∧Hid (af wr w.heap.size (.bool false) (.slice none 0 0))∧Below w.heap.size w wr) (fun _ vn _=>(intOf vn).toNat)
 case atStart=>exact ⟨k,[],rfl,aF.nil _ _,(fun x hx=>by cases hx),by simp [Wh.val],by omega,by simp,uh bx,(uk _ _).alloc (ul _) _⟩
 case round=>
 clear bx
 obtain ⟨m,o,rfl,hown,hls,hvl,hm18,ho5,bxr,hbr⟩:=hrel
 have hls:=uh hls
 have hzr:w.heap.size+1≤wr.heap.size:=bxr.out.size
 by_cases hm0:0<m
 ·have hlen:=Wh.ke hls.out hvl (by omega) (by omega)
  have hst:=Wh.iO hvl (by omega)
  rw [show ((m:Int) % 10000)=((m % 10000:Nat):Int) by omega,show ((m:Int) / 10000)=((m / 10000:Nat):Int) by omega] at hst
  have hst:=uh hst
  have hrb:m % 10000<10000:=Nat.mod_lt _ (by decide)
  have hqb:m / 10000<m:=Nat.div_lt_self hm0 (by decide)
  have t1:Int.tmod (m:Int) 10000=((m % 10000:Nat):Int):=by rw [Int.tmod_eq_emod_of_nonneg (by omega)];omega
  have t2:Int.tdiv (m:Int) 10000=((m / 10000:Nat):Int):=by rw [Int.tdiv_eq_ediv_of_nonneg (by omega)];omega
  generalize m % 10000=r at *
  generalize m / 10000=q at *
  have hl2:Hid (Wh.bG (o ++ [(r:Int)])):=uh (Wh.cO hls.out fun y hy=>by rw [List.mem_singleton] at hy;subst hy;unfold Wh.lim;omega)
  have hl3:Hid ((o ++ [(r:Int)]).length≤5):=uh (by rw [List.length_append];simp;omega)
  have hown:=uh hown
  clear hvl
  go_wp2_with (at_builtin;refine cY (W:=wr) (w.heap.size+1) (r:Int) _ _ rfl (.tmp 11) (.tmp 14) rfl rfl rfl hown.out (uk _ _) (by omega) (by omega) ?_;rintro v6 w6 hown6 hb6)
  go_roundw
  case rel=>exact ⟨q,o ++ [(r:Int)],rfl,hown6,hl2.out,hst.out,by omega,hl3.out,uh (bxr.out.dI hb6 (Nat.lt_succ_self _)),hbr.trans (hb6.mono (Nat.le_succ _))⟩
  case measure=>simp [intOf];omega
 obtain rfl:m=0:=by omega
 have hvl2:Wh.val o=k:=by rw [←hvl];simp
 have hvl2:=uh hvl2
 have hown:=uh hown
 clear hvl
 go_wp2_with (go_at_call 133;(with_reducible refine (PT.out o _ _ _ hown.out hls.out hvl2.out (by omega)).mono ?_);rintro e w2 ⟨vc,rfl,hoc,hbc⟩;obtain ⟨ac,capc,rfl,hmc,hvc⟩:=aF.view hoc;(have bx2:=bxr.out.keep hbc);(have c0:=bx2.c0);(have c1:=bx2.c1);(have g0:=bx2.f0);(have g1:=bx2.f1);(clear hvc hmc))
 have hr:=cH (w:=w) w.heap.size _ (.bool (decide ((k:Int)<0))) (ul _) bxr.out.size hoc (hbr.trans (hbc.mono (by omega)))
 have en:(k:Int).natAbs=k:=by omega
 rw [en] at hr
 generalize (Wh.dig k).length=n2 at *
 exact bodyPost_ret (v:=.agg #[.bool (decide ((k:Int)<0)),.slice ac n2 capc]) (by simp [results,Tryz.results112,go_sem, *]) rfl (⟨_,rfl,by unfold ae;rw [en];exact hr.1,hr.2⟩)
def iS (W:World) (base:Nat) (v:Value) (z:Int) (n:Nat):Prop:=∃ o,aF W base v o∧Wh.bG o∧Wh.val o=z∧o.length≤n
theorem qn (n:Nat):(madeCells (Value.int .i64 0).cells (n*1)).toList=(List.replicate n (0:Int)).map (Value.int .i64):=by
 show (madeCells #[Value.int .i64 0] (n*1)).toList=_
 rw [toList_madeCells_one,Nat.mul_one,List.map_replicate]
theorem jh (w:World) (n:Nat) (hn:n≤1000000000):∃ w1,(Instr.makeSlice 104 (.int .i64 (n:Int)) (.int .i64 (n:Int))).run Tryz.prog w=.ok (.slice (some ⟨w.heap.size,0,none⟩) n n) w1∧
  aF w1 w.heap.size (.slice (some ⟨w.heap.size,0,none⟩) n n) (List.replicate n 0)∧w.grownBy w1 none:=by
 obtain ⟨i0,hi,hz0,hz1,hz2⟩:=info_parts iu
 obtain ⟨w1,h1,h2,h3⟩:=run_make_full (P:=Tryz.prog) w w.heap.size 104 3 i0 (.int .i64 0) 1 Tryz.underlying104 hi hz0 hz1 .i64 .i64 n (by rw [hz2];omega) (by unfold maxLen;omega) (ul _)
 refine ⟨w1,h1,?_,h3⟩
 unfold aF
 rw [←qn,List.length_replicate]
 exact h2
theorem eS {w:World} {base g cap n:Nat} {l:List Int} (hl:l.length=n) (h:aF w base (.slice (some ⟨g,0,none⟩) n cap) l) (i:Nat):w.frozen? ⟨g,i,none⟩=false:=by
 unfold aF at h
 rw [hl] at h
 exact World.ownsRow.frozenAt h i
theorem mC {l:List Int} {i n:Nat} (hl:l.length=i) (hi:i<n) (x:Int):l ++ [x] ++ List.replicate (n - (i+1)) 0=(l ++ List.replicate (n - i) 0).set i x:=by
 rw [List.set_append_right _ _ (by omega),hl,Nat.sub_self,show n - i=(n - (i+1))+1 by omega,List.replicate_succ,List.set_cons_zero]
 simp
theorem lX {l:List Int} {i n:Nat} (hl:l.length=i) (hi:i<n):(l ++ List.replicate (n - i) (0:Int))[i]?=some 0:=by
 rw [List.getElem?_append_right (by omega),hl,Nat.sub_self,List.getElem?_replicate,if_pos (by omega)]
theorem lS {l:List Int} {i n:Nat} (hl:l.length=i) (hi:i≤n):(l ++ List.replicate (n - i) (0:Int)).length=n:=by
 rw [List.length_append,List.length_replicate];omega
theorem iU (xs ys:List Int) (s:Int) (va vb:Value) (w:World) (ba bb:Nat) (hs:s=1∨s=-1) (hoa:aF w ba va xs) (hob:aF w bb vb ys) (hla:Wh.bG xs) (hlb:Wh.bG ys) (hnn:0≤Wh.val xs+s*Wh.val ys) (hl1:xs.length≤100000) (hl2:ys.length≤100000) :
  Calls Tryz.prog 96 #[va,vb,.int .i64 s] w fun e w'=>∃ v,e=.returned v∧iS w' w.heap.size v (Wh.val xs+s*Wh.val ys) (xs.length+ys.length+1)∧Below w.heap.size w w':=by
 obtain ⟨aa,capa,rfl,hma,hva⟩:=hoa.seen
 obtain ⟨ab,capb,rfl,hmb,hvb⟩:=hob.seen
 have hva:=uh hva
 have hvb:=uh hvb
 have hla:=uh hla
 have hlb:=uh hlb
 have hnn:=uh hnn
 clear hma hmb hoa hob
 by_cases hab:xs.length<ys.length
 ·obtain ⟨w1,hrun,hown1,hg1⟩:=jh w (ys.length+1) (by omega)
  rw [show ((ys.length+1:Nat):Int)=(ys.length:Int)+1 by omega] at hrun
  have hb1:Below w.heap.size w w1:=cU hg1 (ul _) (fun k hk=>by cases hk)
  clear hg1
  go_enter Tryz.func96,Tryz.ntmps96
  go_wp2
  go_loopw [8,9,10,20,46,51] (fun vc _ _ vi _ _ wr=>∃ (i:Nat) (o:List Int) (c:Int),i≤ys.length+1∧vi=.int .i64 i∧vc=.int .i64 c∧aF wr w.heap.size (.slice (some ⟨w.heap.size,0,none⟩) (ys.length+1) (ys.length+1)) (o ++ List.replicate (ys.length+1 - i) 0)∧Wh.eQ xs ys s i o c∧Below w.heap.size w wr) (fun _ _ _ vi _ _ _=>ys.length+1 - (intOf vi).toNat)
  case atStart=>exact ⟨0,[],0,by omega,rfl,rfl,by simpa using hown1,Wh.eQ.start xs ys s,hb1⟩
  case round=>
  clear hown1 hb1
  obtain ⟨i,o,c,hi,rfl,rfl,hown,hai,hbr⟩:=hrel
  by_cases hlt:i<ys.length+1
  ·have hrg:=hai.rng hs hla.out hlb.out
   have hl0:=lS hai.len hi
   have hc0:=aF.cellAt hl0.symm hown (lX hai.len hlt)
   have hf0:wr.frozen? ⟨w.heap.size,i,none⟩=false:=eS hl0 hown i
   have hst:=uh fun x=>aF.set hl0.symm hown x (mC hai.len hlt x)
   have hstep:=uh fun x c' h1 h2 h3 h4=>hai.step (x:=x) (c':=c') h1 h2 h3 h4
   have hzr:=hbr.size
   have hbs2:=uh hbr
   clear hown hl0 hai
   by_cases ha:i<xs.length
   ·obtain ⟨ga,xa,ea,hga,hxa,hca⟩:=hva.out i ha
    subst ea
    have hca:=aE hbr hca
    rw [Wh.cX hxa.out] at hrg hstep
    clear hxa
    by_cases hb:i<ys.length
    ·obtain ⟨gb,xb,eb,hgb,hxb,hcb⟩:=hvb.out i hb
     subst eb
     have hcb:=aE hbr hcb
     have hlx:=hlb.out xb (List.mem_of_getElem? hxb.out)
     unfold Wh.lim at hlx
     have hsx:-9999≤s*xb∧s*xb≤9999:=by rcases hs with rfl | rfl <;> omega
     rw [Wh.cX hxb.out] at hrg hstep
     generalize hsb:s*xb=sb at *
     clear hxb hlx
     by_cases hx0:c+xa+sb<0
     ·skip
      have hS:=hstep.out (c+xa+sb+10000) (-1) ⟨by omega,by omega⟩ (by omega) (by intro h1;first | omega | (rcases hs with h | h <;> omega)) (by intro h1;first | omega | (rcases hs with h | h <;> omega))
      have hS:=uh hS
      have hO:=uh (hst.out (c+xa+sb+10000))
      clear hstep hst
      go_wp2
      go_roundw
      case rel=>exact ⟨i+1,_,_,by omega,by go_num,by go_num,hO.out.1,hS.out,hbs2.out.setCell (ul _) _⟩
      case measure=>simp [intOf];omega
     by_cases hx1:10000≤c+xa+sb
     ·skip
      have hS:=hstep.out (c+xa+sb - 10000) (1) ⟨by omega,by omega⟩ (by omega) (by intro h1;first | omega | (rcases hs with h | h <;> omega)) (by intro h1;first | omega | (rcases hs with h | h <;> omega))
      have hS:=uh hS
      have hO:=uh (hst.out (c+xa+sb - 10000))
      clear hstep hst
      go_wp2
      go_roundw
      case rel=>exact ⟨i+1,_,_,by omega,by go_num,by go_num,hO.out.1,hS.out,hbs2.out.setCell (ul _) _⟩
      case measure=>simp [intOf];omega
     skip
     have hS:=hstep.out (c+xa+sb) (0) ⟨by omega,by omega⟩ (by omega) (by intro h1;first | omega | (rcases hs with h | h <;> omega)) (by intro h1;first | omega | (rcases hs with h | h <;> omega))
     have hS:=uh hS
     have hO:=uh (hst.out (c+xa+sb))
     clear hstep hst
     go_wp2
     go_roundw
     case rel=>exact ⟨i+1,_,_,by omega,by go_num,by go_num,hO.out.1,hS.out,hbs2.out.setCell (ul _) _⟩
     case measure=>simp [intOf];omega
    rw [Wh.cW (l:=ys) (by omega),Int.mul_zero] at hrg hstep
    exfalso;omega
   rw [Wh.cW (by omega)] at hrg hstep
   by_cases hb:i<ys.length
   ·obtain ⟨gb,xb,eb,hgb,hxb,hcb⟩:=hvb.out i hb
    subst eb
    have hcb:=aE hbr hcb
    have hlx:=hlb.out xb (List.mem_of_getElem? hxb.out)
    unfold Wh.lim at hlx
    have hsx:-9999≤s*xb∧s*xb≤9999:=by rcases hs with rfl | rfl <;> omega
    rw [Wh.cX hxb.out] at hrg hstep
    generalize hsb:s*xb=sb at *
    clear hxb hlx
    by_cases hx0:c+sb<0
    ·skip
     have hS:=hstep.out (c+sb+10000) (-1) ⟨by omega,by omega⟩ (by omega) (by intro h1;first | omega | (rcases hs with h | h <;> omega)) (by intro h1;first | omega | (rcases hs with h | h <;> omega))
     have hS:=uh hS
     have hO:=uh (hst.out (c+sb+10000))
     clear hstep hst
     go_wp2
     go_roundw
     case rel=>exact ⟨i+1,_,_,by omega,by go_num,by go_num,hO.out.1,hS.out,hbs2.out.setCell (ul _) _⟩
     case measure=>simp [intOf];omega
    by_cases hx1:10000≤c+sb
    ·skip
     have hS:=hstep.out (c+sb - 10000) (1) ⟨by omega,by omega⟩ (by omega) (by intro h1;first | omega | (rcases hs with h | h <;> omega)) (by intro h1;first | omega | (rcases hs with h | h <;> omega))
     have hS:=uh hS
     have hO:=uh (hst.out (c+sb - 10000))
     clear hstep hst
     go_wp2
     go_roundw
     case rel=>exact ⟨i+1,_,_,by omega,by go_num,by go_num,hO.out.1,hS.out,hbs2.out.setCell (ul _) _⟩
     case measure=>simp [intOf];omega
    skip
    have hS:=hstep.out (c+sb) (0) ⟨by omega,by omega⟩ (by omega) (by intro h1;first | omega | (rcases hs with h | h <;> omega)) (by intro h1;first | omega | (rcases hs with h | h <;> omega))
    have hS:=uh hS
    have hO:=uh (hst.out (c+sb))
    clear hstep hst
    go_wp2
    go_roundw
    case rel=>exact ⟨i+1,_,_,by omega,by go_num,by go_num,hO.out.1,hS.out,hbs2.out.setCell (ul _) _⟩
    case measure=>simp [intOf];omega
   rw [Wh.cW (l:=ys) (by omega),Int.mul_zero] at hrg hstep
   by_cases hx0:c<0
   ·skip
    have hS:=hstep.out (c+10000) (-1) ⟨by omega,by omega⟩ (by omega) (by intro h1;first | omega | (rcases hs with h | h <;> omega)) (by intro h1;first | omega | (rcases hs with h | h <;> omega))
    have hS:=uh hS
    have hO:=uh (hst.out (c+10000))
    clear hstep hst
    go_wp2
    go_roundw
    case rel=>exact ⟨i+1,_,_,by omega,by go_num,by go_num,hO.out.1,hS.out,hbs2.out.setCell (ul _) _⟩
    case measure=>simp [intOf];omega
   by_cases hx1:10000≤c
   ·exfalso;omega
   skip
   have hS:=hstep.out (c) (0) ⟨by omega,by omega⟩ (by omega) (by intro h1;first | omega | (rcases hs with h | h <;> omega)) (by intro h1;first | omega | (rcases hs with h | h <;> omega))
   have hS:=uh hS
   have hO:=uh (hst.out (c))
   clear hstep hst
   go_wp2
   go_roundw
   case rel=>exact ⟨i+1,_,_,by omega,by go_num,by go_num,hO.out.1,hS.out,hbs2.out.setCell (ul _) _⟩
   case measure=>simp [intOf];omega
  obtain rfl:i=ys.length+1:=by omega
  have hf:=hai.fin hs (by omega) (by omega) hnn.out (Wh.sum_lt hs hla.out hlb.out (by omega) (by omega))
  have hlen:=hai.len
  rw [Nat.sub_self] at hown
  have hres:Hid (iS wr w.heap.size (.slice (some ⟨w.heap.size,0,none⟩) (ys.length+1) (ys.length+1)) (Wh.val xs+s*Wh.val ys) (xs.length+ys.length+1)):=uh ⟨o,by simpa using hown,hai.ls,hf.2,by omega⟩
  clear hown hai hf hlen
  go_wp2
  go_ret
  exact ⟨_,rfl,hres.out,hbr⟩
 obtain ⟨w1,hrun,hown1,hg1⟩:=jh w (xs.length+1) (by omega)
 rw [show ((xs.length+1:Nat):Int)=(xs.length:Int)+1 by omega] at hrun
 have hb1:Below w.heap.size w w1:=cU hg1 (ul _) (fun k hk=>by cases hk)
 clear hg1
 go_enter Tryz.func96,Tryz.ntmps96
 go_wp2
 go_loopw [8,9,10,20,46,51] (fun vc _ _ vi _ _ wr=>∃ (i:Nat) (o:List Int) (c:Int),i≤xs.length+1∧vi=.int .i64 i∧vc=.int .i64 c∧aF wr w.heap.size (.slice (some ⟨w.heap.size,0,none⟩) (xs.length+1) (xs.length+1)) (o ++ List.replicate (xs.length+1 - i) 0)∧Wh.eQ xs ys s i o c∧Below w.heap.size w wr) (fun _ _ _ vi _ _ _=>xs.length+1 - (intOf vi).toNat)
 case atStart=>exact ⟨0,[],0,by omega,rfl,rfl,by simpa using hown1,Wh.eQ.start xs ys s,hb1⟩
 case round=>
 clear hown1 hb1
 obtain ⟨i,o,c,hi,rfl,rfl,hown,hai,hbr⟩:=hrel
 by_cases hlt:i<xs.length+1
 ·have hrg:=hai.rng hs hla.out hlb.out
  have hl0:=lS hai.len hi
  have hc0:=aF.cellAt hl0.symm hown (lX hai.len hlt)
  have hf0:wr.frozen? ⟨w.heap.size,i,none⟩=false:=eS hl0 hown i
  have hst:=uh fun x=>aF.set hl0.symm hown x (mC hai.len hlt x)
  have hstep:=uh fun x c' h1 h2 h3 h4=>hai.step (x:=x) (c':=c') h1 h2 h3 h4
  have hzr:=hbr.size
  have hbs2:=uh hbr
  clear hown hl0 hai
  by_cases ha:i<xs.length
  ·obtain ⟨ga,xa,ea,hga,hxa,hca⟩:=hva.out i ha
   subst ea
   have hca:=aE hbr hca
   rw [Wh.cX hxa.out] at hrg hstep
   clear hxa
   by_cases hb:i<ys.length
   ·obtain ⟨gb,xb,eb,hgb,hxb,hcb⟩:=hvb.out i hb
    subst eb
    have hcb:=aE hbr hcb
    have hlx:=hlb.out xb (List.mem_of_getElem? hxb.out)
    unfold Wh.lim at hlx
    have hsx:-9999≤s*xb∧s*xb≤9999:=by rcases hs with rfl | rfl <;> omega
    rw [Wh.cX hxb.out] at hrg hstep
    generalize hsb:s*xb=sb at *
    clear hxb hlx
    by_cases hx0:c+xa+sb<0
    ·skip
     have hS:=hstep.out (c+xa+sb+10000) (-1) ⟨by omega,by omega⟩ (by omega) (by intro h1;first | omega | (rcases hs with h | h <;> omega)) (by intro h1;first | omega | (rcases hs with h | h <;> omega))
     have hS:=uh hS
     have hO:=uh (hst.out (c+xa+sb+10000))
     clear hstep hst
     go_wp2
     go_roundw
     case rel=>exact ⟨i+1,_,_,by omega,by go_num,by go_num,hO.out.1,hS.out,hbs2.out.setCell (ul _) _⟩
     case measure=>simp [intOf];omega
    by_cases hx1:10000≤c+xa+sb
    ·skip
     have hS:=hstep.out (c+xa+sb - 10000) (1) ⟨by omega,by omega⟩ (by omega) (by intro h1;first | omega | (rcases hs with h | h <;> omega)) (by intro h1;first | omega | (rcases hs with h | h <;> omega))
     have hS:=uh hS
     have hO:=uh (hst.out (c+xa+sb - 10000))
     clear hstep hst
     go_wp2
     go_roundw
     case rel=>exact ⟨i+1,_,_,by omega,by go_num,by go_num,hO.out.1,hS.out,hbs2.out.setCell (ul _) _⟩
     case measure=>simp [intOf];omega
    skip
    have hS:=hstep.out (c+xa+sb) (0) ⟨by omega,by omega⟩ (by omega) (by intro h1;first | omega | (rcases hs with h | h <;> omega)) (by intro h1;first | omega | (rcases hs with h | h <;> omega))
    have hS:=uh hS
    have hO:=uh (hst.out (c+xa+sb))
    clear hstep hst
    go_wp2
    go_roundw
    case rel=>exact ⟨i+1,_,_,by omega,by go_num,by go_num,hO.out.1,hS.out,hbs2.out.setCell (ul _) _⟩
    case measure=>simp [intOf];omega
   rw [Wh.cW (l:=ys) (by omega),Int.mul_zero] at hrg hstep
   by_cases hx0:c+xa<0
   ·skip
    have hS:=hstep.out (c+xa+10000) (-1) ⟨by omega,by omega⟩ (by omega) (by intro h1;first | omega | (rcases hs with h | h <;> omega)) (by intro h1;first | omega | (rcases hs with h | h <;> omega))
    have hS:=uh hS
    have hO:=uh (hst.out (c+xa+10000))
    clear hstep hst
    go_wp2
    go_roundw
    case rel=>exact ⟨i+1,_,_,by omega,by go_num,by go_num,hO.out.1,hS.out,hbs2.out.setCell (ul _) _⟩
    case measure=>simp [intOf];omega
   by_cases hx1:10000≤c+xa
   ·skip
    have hS:=hstep.out (c+xa - 10000) (1) ⟨by omega,by omega⟩ (by omega) (by intro h1;first | omega | (rcases hs with h | h <;> omega)) (by intro h1;first | omega | (rcases hs with h | h <;> omega))
    have hS:=uh hS
    have hO:=uh (hst.out (c+xa - 10000))
    clear hstep hst
    go_wp2
    go_roundw
    case rel=>exact ⟨i+1,_,_,by omega,by go_num,by go_num,hO.out.1,hS.out,hbs2.out.setCell (ul _) _⟩
    case measure=>simp [intOf];omega
   skip
   have hS:=hstep.out (c+xa) (0) ⟨by omega,by omega⟩ (by omega) (by intro h1;first | omega | (rcases hs with h | h <;> omega)) (by intro h1;first | omega | (rcases hs with h | h <;> omega))
   have hS:=uh hS
   have hO:=uh (hst.out (c+xa))
   clear hstep hst
   go_wp2
   go_roundw
   case rel=>exact ⟨i+1,_,_,by omega,by go_num,by go_num,hO.out.1,hS.out,hbs2.out.setCell (ul _) _⟩
   case measure=>simp [intOf];omega
  rw [Wh.cW (by omega)] at hrg hstep
  by_cases hb:i<ys.length
  ·obtain ⟨gb,xb,eb,hgb,hxb,hcb⟩:=hvb.out i hb
   subst eb
   have hcb:=aE hbr hcb
   have hlx:=hlb.out xb (List.mem_of_getElem? hxb.out)
   unfold Wh.lim at hlx
   have hsx:-9999≤s*xb∧s*xb≤9999:=by rcases hs with rfl | rfl <;> omega
   rw [Wh.cX hxb.out] at hrg hstep
   generalize hsb:s*xb=sb at *
   clear hxb hlx
   exfalso;omega
  rw [Wh.cW (l:=ys) (by omega),Int.mul_zero] at hrg hstep
  by_cases hx0:c<0
  ·skip
   have hS:=hstep.out (c+10000) (-1) ⟨by omega,by omega⟩ (by omega) (by intro h1;first | omega | (rcases hs with h | h <;> omega)) (by intro h1;first | omega | (rcases hs with h | h <;> omega))
   have hS:=uh hS
   have hO:=uh (hst.out (c+10000))
   clear hstep hst
   go_wp2
   go_roundw
   case rel=>exact ⟨i+1,_,_,by omega,by go_num,by go_num,hO.out.1,hS.out,hbs2.out.setCell (ul _) _⟩
   case measure=>simp [intOf];omega
  by_cases hx1:10000≤c
  ·exfalso;omega
  skip
  have hS:=hstep.out (c) (0) ⟨by omega,by omega⟩ (by omega) (by intro h1;first | omega | (rcases hs with h | h <;> omega)) (by intro h1;first | omega | (rcases hs with h | h <;> omega))
  have hS:=uh hS
  have hO:=uh (hst.out (c))
  clear hstep hst
  go_wp2
  go_roundw
  case rel=>exact ⟨i+1,_,_,by omega,by go_num,by go_num,hO.out.1,hS.out,hbs2.out.setCell (ul _) _⟩
  case measure=>simp [intOf];omega
 obtain rfl:i=xs.length+1:=by omega
 have hf:=hai.fin hs (by omega) (by omega) hnn.out (Wh.sum_lt hs hla.out hlb.out (by omega) (by omega))
 have hlen:=hai.len
 rw [Nat.sub_self] at hown
 have hres:Hid (iS wr w.heap.size (.slice (some ⟨w.heap.size,0,none⟩) (xs.length+1) (xs.length+1)) (Wh.val xs+s*Wh.val ys) (xs.length+ys.length+1)):=uh ⟨o,by simpa using hown,hai.ls,hf.2,by omega⟩
 clear hown hai hf hlen
 go_wp2
 go_ret
 exact ⟨_,rfl,hres.out,hbr⟩
noncomputable def fV (n d:Int):Bool:=M.ins d 1 1000000000 && M.ins n (-1000000000) 1000000000 && (M.gcd n d == 1)
theorem kD (n d:Int) (w:World) :
  Calls Tryz.prog 63 #[.agg #[.int .i64 n,.int .i64 d]] w fun e w'=>e=.returned (.bool (fV n d))∧Below w.heap.size w w':=by
 unfold fV
 cases h1:M.ins d 1 1000000000
 ·go_enter Tryz.func63,Tryz.ntmps63
  go_wp2_with (go_at_call 36;refine (cr _ _ _ _).mono ?_;rintro e w' ⟨rfl,rfl⟩)
  go_ret;exact ⟨cy (by simp),(by repeat (first | exact uk _ _ | refine aP ?_ _ | refine aS ?_ (by assumption) | refine Below.drew ?_ | refine uj ?_ (by first | exact ul _ | exact Nat.le_add_right _ _ | (simp <;> omega)) _ | refine aK ?_ _))⟩
 obtain ⟨d1,d2⟩:=M.el h1
 cases h2:M.ins n (-1000000000) 1000000000
 ·go_enter Tryz.func63,Tryz.ntmps63
  go_wp2_with (go_at_call 36;refine (cr _ _ _ _).mono ?_;rintro e w' ⟨rfl,rfl⟩)
  go_ret;exact ⟨cy (by simp),(by repeat (first | exact uk _ _ | refine aP ?_ _ | refine aS ?_ (by assumption) | refine Below.drew ?_ | refine uj ?_ (by first | exact ul _ | exact Nat.le_add_right _ _ | (simp <;> omega)) _ | refine aK ?_ _))⟩
 obtain ⟨n1,n2⟩:=M.el h2
 go_enter Tryz.func63,Tryz.ntmps63
 go_wp2_with (first | (go_at_call 36;refine (cr _ _ _ _).mono ?_;rintro e w' ⟨rfl,rfl⟩) | (go_at_call 57;refine (ik _ _ _ (by omega) (by omega) (by omega) (by omega)).mono ?_;rintro e w' ⟨rfl,mq,rfl⟩))
 go_ret;exact ⟨cy (by simp),(by repeat (first | exact uk _ _ | refine aP ?_ _ | refine aS ?_ (by assumption) | refine Below.drew ?_ | refine uj ?_ (by first | exact ul _ | exact Nat.le_add_right _ _ | (simp <;> omega)) _ | refine aK ?_ _))⟩
theorem de {P:Program} {f:FuncId} {args:Array Value} {w:World} {n:Nat} {v:Value} (h:Calls P f args (w.drewN n) fun e w'=>e=.returned v∧w.drewN n=w') :
  Calls P f args (w.drewN n) fun e w''=>e=.returned v∧∃ m,w''=w.drewN m:=h.mono fun _ _ ⟨he,hm⟩=>⟨he,n,hm.symm⟩
theorem dL {P:Program} {f:FuncId} {args:Array Value} {w:World} {a n:Nat} {v:Value} (h:Calls P f args (w.drewN (a+n)) fun e w'=>e=.returned v∧w.drewN (a+n)=w') :
  Calls P f args (w.drewN (a+n)) fun e w''=>e=.returned v∧∃ m,w''=w.drewN (a+m):=h.mono fun _ _ ⟨he,hm⟩=>⟨he,n,hm.symm⟩
theorem lH (n d:Int) (w:World) :
  Calls Tryz.prog 92 #[.agg #[.int .i64 n,.int .i64 d]] w fun e w'=>e=.returned (.bool (fV n d))∧Below w.heap.size w w':=by
 unfold fV
 have E1:=fun w=>dQ d 1 1000000000 w
 have E2:=fun w=>dQ n (-1000000000) 1000000000 w
 have hgg:M.gcd n.natAbs d.natAbs=M.gcd n d:=by simp [M.gcd,Int.gcd]
 cases h1:M.ins d 1 1000000000 <;> simp only [h1] at E1 <;> have E1:=uh E1
 ·have E2:=uh E2
  go_enter Tryz.func92,Tryz.ntmps92
  go_wp2
  go_quiet ((go_at_call 19;first | (with_reducible exact de (E1.out _)) | (with_reducible exact dL (E1.out _)) | (with_reducible exact de (E2.out _)) | (with_reducible exact dL (E2.out _))))
  go_wp2
  go_ret;exact ⟨cy (by simp),(by repeat (first | exact uk _ _ | refine aP ?_ _ | refine aS ?_ (by assumption) | refine Below.drew ?_ | refine uj ?_ (by first | exact ul _ | exact Nat.le_add_right _ _ | (simp <;> omega)) _ | refine aK ?_ _))⟩
 obtain ⟨d1,d2⟩:=M.el h1
 cases h2:M.ins n (-1000000000) 1000000000 <;> simp only [h2] at E2 <;> have E2:=uh E2
 ·go_enter Tryz.func92,Tryz.ntmps92
  go_wp2
  go_quiet ((go_at_call 19;first | (with_reducible exact de (E1.out _)) | (with_reducible exact dL (E1.out _)) | (with_reducible exact de (E2.out _)) | (with_reducible exact dL (E2.out _))))
  go_wp2
  go_ret;exact ⟨cy (by simp),(by repeat (first | exact uk _ _ | refine aP ?_ _ | refine aS ?_ (by assumption) | refine Below.drew ?_ | refine uj ?_ (by first | exact ul _ | exact Nat.le_add_right _ _ | (simp <;> omega)) _ | refine aK ?_ _))⟩
 obtain ⟨n1,n2⟩:=M.el h2
 have hd:(d.natAbs:Int)=d:=by omega
 rw [hd] at hgg
 have hgg:=uh hgg
 go_enter Tryz.func92,Tryz.ntmps92
 go_wp2
 go_quiet ((first | (go_at_call 19;first | (with_reducible exact de (E1.out _)) | (with_reducible exact dL (E1.out _)) | (with_reducible exact de (E2.out _)) | (with_reducible exact dL (E2.out _))) | (go_at_call 46;first | exact de (dA _ _ (by omega) (by omega)) | exact dL (dA _ _ (by omega) (by omega))) | (go_at_call 45;first | exact de (dD _ _ _ (by omega) (by omega) (by omega) (by omega)) | exact dL (dD _ _ _ (by omega) (by omega) (by omega) (by omega)))))
 go_wp2
 go_ret;exact ⟨cy (by simp [hgg.out]),(by repeat (first | exact uk _ _ | refine aP ?_ _ | refine aS ?_ (by assumption) | refine Below.drew ?_ | refine uj ?_ (by first | exact ul _ | exact Nat.le_add_right _ _ | (simp <;> omega)) _ | refine aK ?_ _))⟩
theorem lP (x:Int) (w:World):Calls Tryz.prog 140 #[.int .i64 x] w fun e w'=>e=.returned (.bool false)∧w=w':=by
 go_enter Tryz.func140,Tryz.ntmps140
 go_wp2
 go_ret;exact ⟨by simp,rfl⟩
theorem qC (x y:Int) (w:World):Calls Tryz.prog 117 #[.int .i64 x,.int .i64 y] w fun e w'=>e=.returned (.int .i64 (Wh.sg3 x y))∧w=w':=by
 unfold Wh.sg3
 by_cases h1:x<y
 ·go_enter Tryz.func117,Tryz.ntmps117
  go_wp2_with (go_at_call 140;refine (lP _ _).mono ?_;rintro e w' ⟨rfl,rfl⟩)
  go_ret;exact ⟨by simp [h1],rfl⟩
 by_cases h2:y<x
 all_goals
  go_enter Tryz.func117,Tryz.ntmps117
  go_wp2_with (go_at_call 140;refine (lP _ _).mono ?_;rintro e w' ⟨rfl,rfl⟩)
  go_ret;exact ⟨by simp [h1,h2],rfl⟩
namespace Wh
theorem si {m n:Nat} (h:(dig m).length≠(dig n).length):sg3 ((dig m).length:Int) ((dig n).length:Int)=sg3 (m:Int) (n:Int):=by
 by_cases h':(dig m).length<(dig n).length
 ·have:=ie h'
  rw [fG (by omega),fG (by omega)]
 have:=ie (m:=n) (n:=m) (by omega)
 rw [kV (by omega),kV (by omega)]
end Wh
theorem dH (m n:Nat) (b1 b2:Bool) (va vb:Value) (w:World) (ba bb:Nat) (hoa:aF w ba va (Wh.dig m)) (hob:aF w bb vb (Wh.dig n)) (hl1:(Wh.dig m).length≤100000) (hl2:(Wh.dig n).length≤100000) :
  Calls Tryz.prog 97 #[.agg #[.bool b1,va],.agg #[.bool b2,vb]] w fun e w'=>e=.returned (.int .i64 (Wh.sg3 (m:Int) (n:Int)))∧Below w.heap.size w w':=by
 obtain ⟨aa,capa,rfl,hma,hva⟩:=hoa.seen
 obtain ⟨ab,capb,rfl,hmb,hvb⟩:=hob.seen
 have hva:=uh hva
 have hvb:=uh hvb
 have hla:=uh (Wh.ai m)
 have hlb:=uh (Wh.ai n)
 have hv1:=uh (Wh.bI m)
 have hv2:=uh (Wh.bI n)
 clear hma hmb hoa hob
 have bx:=(af.new w (.bool b1) (.slice aa (Wh.dig m).length capa) 106).alloc (.cells #[.bool b2,.slice ab (Wh.dig n).length capb] 106)
 have bz:=af.new2 w (.cells #[.bool b1,.slice aa (Wh.dig m).length capa] 106) (.bool b2) (.slice ab (Wh.dig n).length capb) 106
 by_cases hne:(Wh.dig m).length=(Wh.dig n).length
 ·generalize Wh.dig m=xs at *
  generalize Wh.dig n=ys at *
  generalize hxl:xs.length=L at *
  have hyl:=hne.symm
  have hyl0:=uh hyl
  rw [←hne] at bx bz hl2 hvb ⊢
  clear hne hyl
  have hyl:Hid (ys.length=L):=uh hyl0.out
  have hxl:=uh hxl
  go_enter Tryz.func97,Tryz.ntmps97
  go_wp2
  go_loopw [5] (fun vi wr=>∃ k:Nat,k≤L∧vi=.int .i64 ((k:Int) - 1)∧(∀ q:Nat,k≤q→q<L→Wh.nth xs q=Wh.nth ys q)∧Hid (af wr w.heap.size (.bool b1) (.slice aa L capa))∧Hid (af wr (w.heap.size+1) (.bool b2) (.slice ab L capb))∧Below w.heap.size w wr) (fun vi _=>(intOf vi+1).toNat)
  case atStart=>exact ⟨L,ul _,rfl,fun q h1 h2=>by omega,uh bx,uh bz,(by repeat (first | exact uk _ _ | refine aP ?_ _ | refine aS ?_ (by assumption) | refine Below.drew ?_ | refine uj ?_ (by first | exact ul _ | exact Nat.le_add_right _ _ | (simp <;> omega)) _ | refine aK ?_ _))⟩
  case round=>
  clear bx bz
  obtain ⟨k,hk,rfl,heq,bxr,bzr,hbr⟩:=hrel
  have heq:=uh heq
  cases k with
  | zero=>
   have hz:Hid (Wh.sg3 (m:Int) (n:Int)=0):=uh (by
    rw [←hv1.out,←hv2.out]
    exact Wh.cmp_eq (n:=L) (by rw [hxl.out];exact ul _) (by rw [hyl.out];exact ul _) fun q h=>heq.out q (Nat.zero_le _) h)
   go_wp2
   go_ret
   exact ⟨by rw [hz.out] <;> rfl,hbr⟩
  | succ j=>
  obtain ⟨ga,x,ea,hga,hxa,hca⟩:=hva.out j (by omega)
  obtain ⟨gb,y,eb,hgb,hxb,hcb⟩:=hvb.out j (by omega)
  subst ea eb
  have hca:=aE hbr hca
  have hcb:=aE hbr hcb
  have d1:=bxr.out.c1
  have d2:=bzr.out.c1
  have hnx:=uh (Wh.cX hxa.out)
  have hny:=uh (Wh.cX hxb.out)
  by_cases hxy:x=y
  ·subst hxy
   have heq2:Hid (∀ q:Nat,j≤q→q<L→Wh.nth xs q=Wh.nth ys q):=uh fun q h1 h2=>by
    by_cases hq:q=j
    ·subst hq;rw [hnx.out,hny.out]
    exact heq.out q (by omega) h2
   go_wp2
   go_quiet (fail)
   go_wp2
   go_roundw
   case rel=>exact ⟨j,by omega,by go_num,heq2.out,uh (bxr.out.keep (aK (uk _ _) _)),uh (bzr.out.keep (aK (uk _ _) _)),aK hbr _⟩
   case measure=>first | (simp [intOf];done) | (simp [intOf];omega)
  have hz:Hid (Wh.sg3 (m:Int) (n:Int)=Wh.sg3 x y):=uh (by
   rw [←hv1.out,←hv2.out]
   have l1:xs.length≤L:=by rw [hxl.out];exact ul _
   have l2:ys.length≤L:=by rw [hyl.out];exact ul _
   by_cases hlt:x<y
   ·rw [Wh.fG hlt]
    exact Wh.qE hla.out hlb.out l1 l2 (i:=j) (by omega) (fun q h1 h2=>heq.out q (by omega) h2) (by rw [hnx.out,hny.out];exact hlt)
   rw [Wh.kV (x:=x) (y:=y) (by omega)]
   exact Wh.qD hla.out hlb.out l1 l2 (i:=j) (by omega) (fun q h1 h2=>heq.out q (by omega) h2) (by rw [hnx.out,hny.out];omega))
  have PC:=fun W=>qC x y W
  generalize Wh.sg3 x y=z at *
  have PC:=uh PC
  go_wp2
  go_quiet (fail)
  go_wp2
  go_quiet ((go_at_call 117;first | (with_reducible exact de (PC.out _)) | (with_reducible exact dL (PC.out _))))
  go_wp2
  go_ret
  exact ⟨by rw [hz.out] <;> rfl,aK (aK hbr _) _⟩
 have PC:=fun W=>qC (Wh.dig m).length (Wh.dig n).length W
 rw [Wh.si hne] at PC
 generalize Wh.sg3 (m:Int) (n:Int)=z at *
 generalize (Wh.dig m).length=l1 at *
 generalize (Wh.dig n).length=l2 at *
 have PC:=uh PC
 clear hva hvb hla hlb hv1 hv2
 go_enter Tryz.func97,Tryz.ntmps97
 go_wp2_with (go_at_call 117;(with_reducible refine (PC.out _).mono ?_);rintro e w1 ⟨rfl,rfl⟩)
 go_ret
 exact ⟨rfl,(by repeat (first | exact uk _ _ | refine aP ?_ _ | refine aS ?_ (by assumption) | refine Below.drew ?_ | refine uj ?_ (by first | exact ul _ | exact Nat.le_add_right _ _ | (simp <;> omega)) _ | refine aK ?_ _))⟩
end
end Go.Proofs.YtgfkcoablfjbcaaGreatDoor
