/-
  Joined texts: contracts and plain lemmas.
-/
import Derived.Test.YtgfkcoablfjbcaaGreatDoorB1
import Derived.Test.YtgfkcoablfjbcaaGreatDoorB25
set_option linter.unusedSimpArgs false
set_option linter.unusedVariables false
set_option maxRecDepth 100000
set_option maxHeartbeats 8000000
namespace Go.Proofs.YtgfkcoablfjbcaaGreatDoor
section
open Go.RowKit Go.Shelf
namespace M
noncomputable def ivQ (q:Int × Int × Int × Int):List UInt8:=ivB q.1 q.2.1 q.2.2.1 q.2.2.2
noncomputable def cL (rows:IvM):List UInt8:=rows.flatMap fun r=>r.flatMap ivQ ++ [10]
def iq (q:Int × Int × Int × Int):Prop:=-10000000000<q.1∧q.1<10000000000∧0≤q.2.1∧q.2.1<10000000000∧-10000000000<q.2.2.1∧q.2.2.1<10000000000∧0≤q.2.2.2∧q.2.2.2<10000000000
theorem lW {rows:IvM} {k:Nat} {r:List (Int × Int × Int × Int)} (h:rows[k]?=some r):cL (rows.take (k+1))=cL (rows.take k) ++ r.flatMap ivQ ++ [10]:=by
 unfold cL
 rw [eP h,List.flatMap_append,List.flatMap_singleton,List.append_assoc]
theorem lr {r:List (Int × Int × Int × Int)} {j:Nat} {q:Int × Int × Int × Int} (h:r[j]?=some q):(r.take (j+1)).flatMap ivQ=(r.take j).flatMap ivQ ++ ivQ q:=by
 rw [eP h,List.flatMap_append,List.flatMap_singleton]
theorem kF {q:Int × Int × Int × Int} (h:iq q):(ivQ q).length≤49:=by
 obtain ⟨h1,h2,h3,h4,h5,h6,h7,h8⟩:=h
 exact ry h1 h2 (by omega) h4 h5 h6 (by omega) h8
theorem iL:∀ {r:List (Int × Int × Int × Int)},(∀ q ∈ r,iq q)→(r.flatMap ivQ).length≤49*r.length
 | [],_=>by simp
 | q :: r,h=>by
  have h1:=kF (h q (List.mem_cons_self ..))
  have h2:=iL (r:=r) (fun x hx=>h x (List.mem_cons_of_mem _ hx))
  rw [List.flatMap_cons,List.length_append,List.length_cons];omega
theorem kG:∀ {rows:IvM},(∀ r ∈ rows,r.length≤4∧∀ q ∈ r,iq q)→(cL rows).length≤200*rows.length
 | [],_=>by simp [cL]
 | r :: rows,h=>by
  obtain ⟨h0,h1⟩:=h r (List.mem_cons_self ..)
  have h3:=iL h1
  have h2:=kG (rows:=rows) (fun x hx=>h x (List.mem_cons_of_mem _ hx))
  unfold cL at *
  rw [List.flatMap_cons]
  simp only [List.length_append,List.length_cons,List.length_nil];omega
theorem qT {q:Int × Int} (h:aO q.1 q.2=true):iq (ivc (some q)):=by
 obtain ⟨h1,h2,h3⟩:=bi h
 have g1:=kA (bQ (a:=q.1) h2 (by omega))
 have g2:=kA (bQ (a:=q.2) (by omega) h3)
 obtain ⟨-,p1,p2,-,-,-,-,p3,p4⟩:=g1
 obtain ⟨-,r1,r2,-,-,-,-,r3,r4⟩:=g2
 show -10000000000<pn q.1∧pn q.1<10000000000∧0≤pd q.1∧pd q.1<10000000000∧-10000000000<pn q.2∧pn q.2<10000000000∧0≤pd q.2∧pd q.2<10000000000
 exact ⟨by omega,by omega,by omega,by omega,by omega,by omega,by omega,by omega⟩
theorem ji {a b:Int} {l:List Pt} (h:dJ a b l=true):(gW a b l).length=l.length∧1≤l.length∧l.length≤4∧∀ r ∈ gW a b l,r.length=l.length∧∀ q ∈ r,iq q:=by
 rw [jC h]
 unfold dJ at h
 rw [Bool.and_eq_true] at h
 obtain ⟨-,h1,h4,-⟩:=dW h.1
 have hs:=lZ h.2
 have ho:=lY h.2
 refine ⟨by rw [nt];exact hs.1,h1,h4,fun r hr=>?_⟩
 unfold ivM at hr
 obtain ⟨s,hs1,rfl⟩:=List.mem_map.1 hr
 refine ⟨by rw [List.length_map];exact hs.2 s hs1,fun q hq=>?_⟩
 obtain ⟨t,ht,rfl⟩:=List.mem_map.1 hq
 exact qT (ho s hs1 t ht)
end M
theorem dG.form {w:World} {base:Nat} {v:Value} {rows:IvM} (h:dG w base v rows) (h1:1≤rows.length) (h2:∀ r ∈ rows,1≤r.length):∃ g cap,v=.slice (some ⟨g,0,none⟩) rows.length cap:=by
 match rows,h1,h2,h with
 | [] :: rows,_,h2,_=>have:=h2 [] (List.mem_cons_self ..);simp at this
 | (q :: r) :: rows,_,_,h=>
 obtain ⟨g,cap,-,-,e,-⟩:=h.at (i:=0) (j:=0) (r:=q :: r) (q:=q) rfl rfl
 exact ⟨g,cap,e⟩
theorem dG.rK {w:World} {base g n cap i:Nat} {rows:IvM} {r:List (Int × Int × Int × Int)} (h:dG w base (.slice (some ⟨g,0,none⟩) n cap) rows) (hr:rows[i]?=some r) (h0:1≤r.length) :
  ∃ g2 cap2,w.cell? ⟨g,i,none⟩=some (.slice (some ⟨g2,0,none⟩) r.length cap2)∧∀ j q,r[j]?=some q→w.cell? ⟨g2,j*4,none⟩=some (.int .i64 q.1)∧w.cell? ⟨g2,j*4+1,none⟩=some (.int .i64 q.2.1)∧w.cell? ⟨g2,j*4+2,none⟩=some (.int .i64 q.2.2.1)∧w.cell? ⟨g2,j*4+3,none⟩=some (.int .i64 q.2.2.2):=by
 have hq0:r[0]?=some r[0]:=List.getElem?_eq_getElem (by omega)
 obtain ⟨g',cap',g2,cap2,e,hc,-⟩:=h.at hr hq0
 injection e with e1 e2 e3
 injection e1 with e1
 injection e1 with e1
 subst e1
 refine ⟨g2,cap2,hc,fun j q hq=>?_⟩
 obtain ⟨g3,cap3,g4,cap4,e,hc4,h1,h2,h3,h4⟩:=h.at hr hq
 injection e with e1 e2 e3
 injection e1 with e1
 injection e1 with e1
 subst e1
 rw [hc] at hc4
 have hc4:=Option.some.inj hc4
 injection hc4 with e1 e2 e3
 injection e1 with e1
 injection e1 with e1
 subst e1
 exact ⟨h1,h2,h3,h4⟩
theorem gc (a b:Int) (v:Value) (l:List Pt) (w:World) (hx:fc w v l) (hn:l.length≤4000000) :
  Calls Tryz.prog 5 #[.agg #[.int .i64 a,.int .i64 b],v] w fun e w'=>e=.returned (.tuple #[.string (bs (M.cL (M.gW a b l))),.bool (M.dJ a b l)])∧Below w.heap.size w w':=by
 have e0:Hid (bs (M.cL [])=ByteArray.mk #[]):=uh rfl
 obtain ⟨wc,hw3,C,B⟩:=gu w #[.int .i64 a,.int .i64 b] 28
 have hxc:=uh (hx.below B)
 have C_c0:=C.box.c0
 have C_c1:=C.box.c1
 have PL:=fun W h=>qY a b v l W h hn
 have PM:=fun (hp:M.cQ a b l=true) W h=>(M.th hp) ▸ (M.gG hp) ▸ me a b v l W h (M.dW hp).1 (M.dW hp).2.2.1 (M.dW hp).2.2.2
 have hn0:=fun (h:M.cQ a b l=false)=>M.lV h
 have hv0:=fun (h:M.dJ a b l=false)=>M.iI h
 have hgood:=fun (h:M.dJ a b l=true)=>M.ji h
 clear hx
 cases hp:M.cQ a b l with
 | false=>
  rw [hn0 hp,hv0 (hn0 hp)]
  rw [hp] at PL
  replace PL:=uh PL
  clear PM hv0 hgood hn0 hp
  generalize bs (M.cL [])=s0 at *
  go_enter Tryz.func5,Tryz.ntmps5
  go_wp2_with (go_at_call 10;(refine (PL.out _ hxc.out).mono ?_);rintro e w3 ⟨rfl,hb3⟩;(replace B:=B.trans (hb3.mono B.size));(replace C:=C.keep hb3);(have hxd:=uh (hxc.out.below hb3));(have C_c0:=C.box.c0);(have C_c1:=C.box.c1))
  go_ret2
  exact ⟨by rw [e0.out];rfl,B⟩
 | true=>
 rw [hp] at PL
 replace PL:=uh PL
 replace PM:=PM hp
 clear hn0 hp
 cases hk:M.dJ a b l with
 | false=>
  rw [hv0 hk] at PM ⊢
  rw [hk] at PM
  replace PM:=uh PM
  clear hv0 hgood hk
  generalize bs (M.cL [])=s0 at *
  go_enter Tryz.func5,Tryz.ntmps5
  go_wp2_with first | (go_at_call 10;(refine (PL.out _ hxc.out).mono ?_);rintro e w3 ⟨rfl,hb3⟩;(replace B:=B.trans (hb3.mono B.size));(replace C:=C.keep hb3);(have hxd:=uh (hxc.out.below hb3));(have C_c0:=C.box.c0);(have C_c1:=C.box.c1)) | (go_at_call 11;(refine (PM.out _ hxd.out).mono ?_);rintro e w4 ⟨mv,rfl,hM,hb4⟩;(replace B:=B.trans (hb4.mono B.size)))
  go_ret2
  exact ⟨by rw [e0.out];rfl,B⟩
 | true=>
 obtain ⟨hl,hl1,hl4,hrows⟩:=hgood hk
 rw [hk] at PM
 clear hv0 hgood hk
 generalize M.gW a b l=V at *
 have hform:=uh fun W base mv (h:dG W base mv V)=>h.form (by omega) (fun r hr=>by have:=(hrows r hr).1;omega)
 obtain ⟨N,hN⟩:∃ N,N=V.length:=⟨_,rfl⟩
 have hN4:N≤4:=by omega
 have HR:=uh (show ∀ r ∈ V,(1≤r.length∧r.length≤4)∧∀ q ∈ r,M.iq q from fun r hr=>⟨by have:=(hrows r hr).1;omega,(hrows r hr).2⟩)
 have HL:=uh (show ∀ k,(M.cL (V.take k)).length≤1000 from fun k=>by
  have h1:=M.kG (rows:=V.take k) (fun r hr=>⟨by have:=(hrows r (List.mem_of_mem_take hr)).1;omega,(hrows r (List.mem_of_mem_take hr)).2⟩)
  have h2:(V.take k).length≤4:=by rw [List.length_take];omega
  omega)
 replace hN:=uh hN
 replace PM:=uh PM
 clear hl hl1 hl4 hrows
 go_enter Tryz.func5,Tryz.ntmps5
 go_wp2_with first | (go_at_call 10;(refine (PL.out _ hxc.out).mono ?_);rintro e w3 ⟨rfl,hb3⟩;(replace B:=B.trans (hb3.mono B.size));(replace C:=C.keep hb3);(have hxd:=uh (hxc.out.below hb3));(have C_c0:=C.box.c0);(have C_c1:=C.box.c1)) | (go_at_call 11;(refine (PM.out _ hxd.out).mono ?_);rintro e w4 ⟨mv,rfl,hM,hb4⟩;(replace B:=B.trans (hb4.mono B.size));obtain ⟨g,cap,rfl⟩:=hform.out _ _ _ hM;(replace hM:=uh hM);(rw [←hN.out] at hM ⊢))
 go_loopw [8,27] (fun vs vi wr=>∃ k:Nat,k≤N∧vi=.int .i64 k∧vs=.string (bs (M.cL (V.take k)))∧Below w4.heap.size w4 wr) (fun _ vi _=>N - (intOf vi).toNat)
 case atStart=>exact ⟨0,by omega,rfl,by rw [List.take_zero,e0.out],uk _ _⟩
 case round=>
 obtain ⟨k,hk,rfl,rfl,hbr⟩:=hrel
 have zr:=hbr.size
 by_cases hlt:k<N
 ·obtain ⟨r,hr⟩:∃ r,Hid (V[k]?=some r):=⟨_,uh (List.getElem?_eq_getElem (by have:=hN.out;omega))⟩
  obtain ⟨⟨hr1,hr4⟩,hrq⟩:=HR.out r (List.mem_of_getElem? hr.out)
  obtain ⟨g2,cap2,e1,hq⟩:=(hM.out.below hbr).rK hr.out hr1
  replace hq:=uh hq
  replace hrq:=uh hrq
  have hlk:=HL.out k
  have hrl:=uh (show ∀ j,((r.take j).flatMap M.ivQ).length≤200 from fun j=>by
   have h1:=M.iL (r:=r.take j) (fun q hq=>hrq.out q (List.mem_of_mem_take hq))
   have h2:(r.take j).length≤4:=by rw [List.length_take];omega
   omega)
  have A10:∀ W,(Op.stringOp .add (bs (M.cL (V.take k) ++ (r.take r.length).flatMap M.ivQ)) (ByteArray.mk #[10])).run Tryz.prog W=.ok (.string (bs (M.cL (V.take (k+1))))) W:=fun W=>by
   rw [M.lW hr.out,List.take_length]
   refine da (m:=[10]) ?_ W
   have:=hrl.out r.length
   rw [List.take_length] at this
   simp only [List.length_append,List.length_singleton];omega
  have hs0:=uh (show bs (M.cL (V.take k))=bs (M.cL (V.take k) ++ (r.take 0).flatMap M.ivQ) by simp)
  rw [hs0.out]
  generalize hs9:bs (M.cL (V.take (k+1)))=s9 at *
  have Hs9:=uh hs9
  clear hs9 hs0
  replace A10:=uh A10
  obtain ⟨L,hL⟩:∃ L,L=r.length:=⟨_,rfl⟩
  rw [←hL] at e1 hr4 hr1
  replace hL:=uh hL
  go_wp2
  go_loopw [8,33] (fun vs vj wq=>∃ j:Nat,j≤L∧vj=.int .i64 j∧vs=.string (bs (M.cL (V.take k) ++ (r.take j).flatMap M.ivQ))∧Below wr.heap.size wr wq) (fun _ vj _=>L - (intOf vj).toNat)
  case atStart=>exact ⟨0,by omega,rfl,rfl,uk _ _⟩
  case round=>
  obtain ⟨j,hj,rfl,rfl,hbq⟩:=hrel
  have zq:=hbq.size
  by_cases hjl:j<L
  ·obtain ⟨q,hqj⟩:∃ q,Hid (r[j]?=some q):=⟨_,uh (List.getElem?_eq_getElem (by have:=hL.out;omega))⟩
   obtain ⟨d0,d1,d2,d3⟩:=hq.out j q hqj.out
   replace d0:=aE hbq d0
   replace d1:=aE hbq d1
   replace d2:=aE hbq d2
   replace d3:=aE hbq d3
   have hgq:=hrq.out q (List.mem_of_getElem? hqj.out)
   have hl1:=hrl.out j
   have hl2:=M.kF hgq
   obtain ⟨u1,u2,u3,u4,u5,u6,u7,u8⟩:=hgq
   have IT:=fun W=>qe q.1 q.2.1 q.2.2.1 q.2.2.2 W u1 u2 u3 u4 u5 u6 u7 u8
   have A1:∀ W,(Op.stringOp .add (bs (M.cL (V.take k) ++ (r.take j).flatMap M.ivQ)) (bs (M.ivB q.1 q.2.1 q.2.2.1 q.2.2.2))).run Tryz.prog W=.ok (.string (bs (M.cL (V.take k) ++ (r.take (j+1)).flatMap M.ivQ))) W:=fun W=>by
    rw [M.lr hqj.out,←List.append_assoc]
    exact da (m:=M.ivQ q) (by simp only [List.length_append];omega) W
   generalize bs (M.cL (V.take k) ++ (r.take j).flatMap M.ivQ)=s1 at *
   generalize hs3:bs (M.cL (V.take k) ++ (r.take (j+1)).flatMap M.ivQ)=s3 at *
   have Hs3:=uh hs3
   clear hs3 hl1 hl2 u1 u2 u3 u4 u5 u6 u7 u8
   generalize bs (M.ivB q.1 q.2.1 q.2.2.1 q.2.2.2)=s2 at *
   replace IT:=uh IT
   obtain ⟨q1,q2,q3,q4⟩:=q
   simp only [] at d0 d1 d2 d3 IT
   have Bq:=hbr.trans (hbq.mono zr)
   have Ba:=(aP Bq (.cells #[.int .i64 q1,.int .i64 q2,.int .i64 q3,.int .i64 q4] 42))
   go_wp2_with (go_at_call 12;(refine (IT.out _).mono ?_);rintro e w6 ⟨rfl,hb6⟩)
   go_roundw
   case rel=>exact ⟨j+1,by omega,by go_num,by rw [Hs3.out],(aP hbq _).trans (hb6.mono (by simp;omega))⟩
   case measure=>simp [intOf];omega
  obtain rfl:j=L:=by omega
  have A10:=A10.out
  rw [←hL.out] at A10
  generalize bs (M.cL (V.take k) ++ (r.take j).flatMap M.ivQ)=s1 at *
  go_wp2
  go_roundw
  case rel=>exact ⟨k+1,by omega,by go_num,by rw [Hs9.out],hbr.trans (hbq.mono zr)⟩
  case measure=>simp [intOf];omega
 obtain rfl:k=N:=by omega
 have hend:=uh (show V.take k=V by rw [hN.out,List.take_length])
 rw [hend.out]
 generalize hs9:bs (M.cL V)=s9 at *
 have Hs9:=uh hs9
 clear hs9 hend
 go_wp2
 go_ret2
 exact ⟨by rw [Hs9.out];rfl,B.trans (hbr.mono B.size)⟩
theorem gT (a b:Int) (v:Value) (l:List Pt) (w:World) (hT:Tab w.heap.size w) (hx:fc w v l) (hn:l.length≤4000000) :
  Calls Tryz.prog 8 #[.agg #[.int .i64 a,.int .i64 b],v] w fun e w'=>e=.returned (.tuple #[.string (bs (M.cL (M.gW a b l))),.bool (M.dJ a b l)])∧Below w.heap.size w w':=by
 have e0:Hid (bs (M.cL [])=ByteArray.mk #[]):=uh rfl
 obtain ⟨wc,hw3,C,B⟩:=gu w #[.int .i64 a,.int .i64 b] 28
 have hxc:=uh (hx.below B)
 have C_c0:=C.box.c0
 have C_c1:=C.box.c1
 have HT:=uh hT
 clear hT
 have PM:=fun W h=>fW a b v l W h hn
 have hv0:=fun (h:M.dJ a b l=false)=>M.iI h
 have hgood:=fun (h:M.dJ a b l=true)=>M.ji h
 clear hx
 cases hk:M.dJ a b l with
 | false=>
  rw [hv0 hk] at PM ⊢
  rw [hk] at PM
  replace PM:=uh PM
  clear hv0 hgood hk
  generalize bs (M.cL [])=s0 at *
  go_enter Tryz.func8,Tryz.ntmps8
  go_wp2_with (go_at_call 14;(refine (PM.out _ hxc.out).mono ?_);rintro e w4 ⟨mv,rfl,hM,hb4⟩;(replace B:=B.trans (hb4.mono B.size)))
  go_ret2
  exact ⟨by rw [e0.out];rfl,B⟩
 | true=>
 obtain ⟨hl,hl1,hl4,hrows⟩:=hgood hk
 rw [hk] at PM
 clear hv0 hgood hk
 generalize M.gW a b l=V at *
 have hform:=uh fun W base mv (h:dG W base mv V)=>h.form (by omega) (fun r hr=>by have:=(hrows r hr).1;omega)
 obtain ⟨N,hN⟩:∃ N,N=V.length:=⟨_,rfl⟩
 have hN4:N≤4:=by omega
 have HR:=uh (show ∀ r ∈ V,(1≤r.length∧r.length≤4)∧∀ q ∈ r,M.iq q from fun r hr=>⟨by have:=(hrows r hr).1;omega,(hrows r hr).2⟩)
 have HL:=uh (show ∀ k,(M.cL (V.take k)).length≤1000 from fun k=>by
  have h1:=M.kG (rows:=V.take k) (fun r hr=>⟨by have:=(hrows r (List.mem_of_mem_take hr)).1;omega,(hrows r (List.mem_of_mem_take hr)).2⟩)
  have h2:(V.take k).length≤4:=by rw [List.length_take];omega
  omega)
 replace hN:=uh hN
 replace PM:=uh PM
 clear hl hl1 hl4 hrows
 go_enter Tryz.func8,Tryz.ntmps8
 go_wp2_with (go_at_call 14;(refine (PM.out _ hxc.out).mono ?_);rintro e w4 ⟨mv,rfl,hM,hb4⟩;(replace B:=B.trans (hb4.mono B.size));obtain ⟨g,cap,rfl⟩:=hform.out _ _ _ hM;(replace hM:=uh hM);(rw [←hN.out] at hM ⊢))
 have tabOn:=uh (show ∀ W,Below w4.heap.size w4 W→Tab W.heap.size W from fun W hW W' hW'=>HT.out W' ((B.trans (hW.mono B.size)).trans (hW'.mono (Nat.le_trans B.size hW.size))))
 go_loopw [8,23] (fun vs vi wr=>∃ k:Nat,k≤N∧vi=.int .i64 k∧vs=.string (bs (M.cL (V.take k)))∧Below w4.heap.size w4 wr) (fun _ vi _=>N - (intOf vi).toNat)
 case atStart=>exact ⟨0,by omega,rfl,by rw [List.take_zero,e0.out],uk _ _⟩
 case round=>
 obtain ⟨k,hk,rfl,rfl,hbr⟩:=hrel
 have zr:=hbr.size
 by_cases hlt:k<N
 ·obtain ⟨r,hr⟩:∃ r,Hid (V[k]?=some r):=⟨_,uh (List.getElem?_eq_getElem (by have:=hN.out;omega))⟩
  obtain ⟨⟨hr1,hr4⟩,hrq⟩:=HR.out r (List.mem_of_getElem? hr.out)
  obtain ⟨g2,cap2,e1,hq⟩:=(hM.out.below hbr).rK hr.out hr1
  replace hq:=uh hq
  replace hrq:=uh hrq
  have hlk:=HL.out k
  have hrl:=uh (show ∀ j,((r.take j).flatMap M.ivQ).length≤200 from fun j=>by
   have h1:=M.iL (r:=r.take j) (fun q hq=>hrq.out q (List.mem_of_mem_take hq))
   have h2:(r.take j).length≤4:=by rw [List.length_take];omega
   omega)
  have A10:∀ W,(Op.stringOp .add (bs (M.cL (V.take k) ++ (r.take r.length).flatMap M.ivQ)) (ByteArray.mk #[10])).run Tryz.prog W=.ok (.string (bs (M.cL (V.take (k+1))))) W:=fun W=>by
   rw [M.lW hr.out,List.take_length]
   refine da (m:=[10]) ?_ W
   have:=hrl.out r.length
   rw [List.take_length] at this
   simp only [List.length_append,List.length_singleton];omega
  have hs0:=uh (show bs (M.cL (V.take k))=bs (M.cL (V.take k) ++ (r.take 0).flatMap M.ivQ) by simp)
  rw [hs0.out]
  generalize hs9:bs (M.cL (V.take (k+1)))=s9 at *
  have Hs9:=uh hs9
  clear hs9 hs0
  replace A10:=uh A10
  obtain ⟨L,hL⟩:∃ L,L=r.length:=⟨_,rfl⟩
  rw [←hL] at e1 hr4 hr1
  replace hL:=uh hL
  go_wp2
  go_loopw [8,29] (fun vs vj wq=>∃ j:Nat,j≤L∧vj=.int .i64 j∧vs=.string (bs (M.cL (V.take k) ++ (r.take j).flatMap M.ivQ))∧Below wr.heap.size wr wq) (fun _ vj _=>L - (intOf vj).toNat)
  case atStart=>exact ⟨0,by omega,rfl,rfl,uk _ _⟩
  case round=>
  obtain ⟨j,hj,rfl,rfl,hbq⟩:=hrel
  have zq:=hbq.size
  by_cases hjl:j<L
  ·obtain ⟨q,hqj⟩:∃ q,Hid (r[j]?=some q):=⟨_,uh (List.getElem?_eq_getElem (by have:=hL.out;omega))⟩
   obtain ⟨d0,d1,d2,d3⟩:=hq.out j q hqj.out
   replace d0:=aE hbq d0
   replace d1:=aE hbq d1
   replace d2:=aE hbq d2
   replace d3:=aE hbq d3
   have hgq:=hrq.out q (List.mem_of_getElem? hqj.out)
   have hl1:=hrl.out j
   have hl2:=M.kF hgq
   obtain ⟨u1,u2,u3,u4,u5,u6,u7,u8⟩:=hgq
   have IT:=fun W (ht:Tab W.heap.size W)=>iv q.1 q.2.1 q.2.2.1 q.2.2.2 W ht u1 u2 u3 u4 u5 u6 u7 u8
   have A1:∀ W,(Op.stringOp .add (bs (M.cL (V.take k) ++ (r.take j).flatMap M.ivQ)) (bs (M.ivB q.1 q.2.1 q.2.2.1 q.2.2.2))).run Tryz.prog W=.ok (.string (bs (M.cL (V.take k) ++ (r.take (j+1)).flatMap M.ivQ))) W:=fun W=>by
    rw [M.lr hqj.out,←List.append_assoc]
    exact da (m:=M.ivQ q) (by simp only [List.length_append];omega) W
   generalize bs (M.cL (V.take k) ++ (r.take j).flatMap M.ivQ)=s1 at *
   generalize hs3:bs (M.cL (V.take k) ++ (r.take (j+1)).flatMap M.ivQ)=s3 at *
   have Hs3:=uh hs3
   clear hs3 hl1 hl2 u1 u2 u3 u4 u5 u6 u7 u8
   generalize bs (M.ivB q.1 q.2.1 q.2.2.1 q.2.2.2)=s2 at *
   replace IT:=uh IT
   obtain ⟨q1,q2,q3,q4⟩:=q
   simp only [] at d0 d1 d2 d3 IT
   have Bq:=hbr.trans (hbq.mono zr)
   have Ba:=(aP Bq (.cells #[.int .i64 q1,.int .i64 q2,.int .i64 q3,.int .i64 q4] 42))
   go_wp2_with (go_at_call 15;(refine (IT.out _ (tabOn.out _ Ba)).mono ?_);rintro e w6 ⟨rfl,hb6⟩)
   go_roundw
   case rel=>exact ⟨j+1,by omega,by go_num,by rw [Hs3.out],(aP hbq _).trans (hb6.mono (by simp;omega))⟩
   case measure=>simp [intOf];omega
  obtain rfl:j=L:=by omega
  have A10:=A10.out
  rw [←hL.out] at A10
  generalize bs (M.cL (V.take k) ++ (r.take j).flatMap M.ivQ)=s1 at *
  go_wp2
  go_roundw
  case rel=>exact ⟨k+1,by omega,by go_num,by rw [Hs9.out],hbr.trans (hbq.mono zr)⟩
  case measure=>simp [intOf];omega
 obtain rfl:k=N:=by omega
 have hend:=uh (show V.take k=V by rw [hN.out,List.take_length])
 rw [hend.out]
 generalize hs9:bs (M.cL V)=s9 at *
 have Hs9:=uh hs9
 clear hs9 hend
 go_wp2
 go_ret2
 exact ⟨by rw [Hs9.out];rfl,B.trans (hbr.mono B.size)⟩
theorem Tab.on2 {w w':World} (h:Tab w.heap.size w) (hb:Below w.heap.size w w'):Tab w'.heap.size w':=fun W hW=>h W (hb.trans (hW.mono hb.size))
theorem law_MatrixText (a b:Int) (_:M.I64 a) (_:M.I64 b) (v:Value) (xs:List Pt) (w:World) (hT:Tab w.heap.size w) (hx:cn w v xs) :
  Calls Tryz.prog 3 #[.agg #[.int .i64 a,.int .i64 b],v] w fun e w'=>e=.returned (.bool true)∧Below w.heap.size w w':=by
 have e1:=fun v w h hn=>gc a b v xs w h hn
 have e2:=fun v w ht h hn=>gT a b v xs w ht h hn
 generalize bs (M.cL (M.gW a b xs))=s at *
 generalize M.dJ a b xs=ok at *
 have E1:=uh e1
 have E2:=uh e2
 have HT:=uh hT
 clear e1 e2 hT
 have TCu:=uh fun w=>nF a b w
 have hd2:decide (xs=xs)=true:=by simp
 have EQ:=fun v u w h1 h2 hx hy p q=>mZ v u xs xs w h1 h2 hx hy p q
 rw [hd2] at EQ
 have EQ:=uh EQ
 clear hd2
 have Hx:=uh hx
 by_cases hn:xs.length≤1048576
 ·have hL:0≤(1048576:Int) - xs.length:=by omega
  obtain ⟨A,cap,rfl,-,-⟩:=hx
  have TC:=fun w (h:cn w (.slice A xs.length cap) xs)=>nG (.slice A xs.length cap) xs w h hn
  have TC:=uh TC
  have HS:=fun w (h:cn w (.slice A xs.length cap) xs)=>jJ (.slice A xs.length cap) xs w h
  simp only [if_pos hn] at HS
  have HS:=uh HS
  have hn4:xs.length≤4000000:=by omega
  have B:=(uk w.heap.size w).alloc (ul _) (.cells #[.int .i64 a,.int .i64 b] 23)
  have C:=aH.new w #[.int .i64 a,.int .i64 b] 23
  generalize hw3:w.alloc (.cells #[.int .i64 a,.int .i64 b] 23)=wc at *
  have k0:=C.box.c0
  have k1:=C.box.c1
  generalize xs.length=L at *
  generalize hM:(1048576:Int) - L=M0 at *
  go_enter Tryz.func3,Tryz.ntmps3
  go_wp2_with fail
  refine (HS.out _ (Hx.out.keep B)).mono ?_;rintro e w0 ⟨rfl,rfl⟩
  go_wp2_with fail
  refine (TCu.out _).mono ?_;rintro e w1 ⟨rfl,b1⟩
  replace B:=B.trans (b1.mono B.size)
  replace C:=C.keep b1
  clear k0 k1
  go_wp2_with fail
  refine (TC.out _ (Hx.out.keep B)).mono ?_;rintro e w2 ⟨v2,rfl,o2,b2⟩
  replace B:=B.trans (b2.mono B.size)
  replace C:=C.keep b2
  go_wp2_with fail
  refine (E1.out _ _ o2.seen.pts hn4).mono ?_;rintro e w3 ⟨rfl,b3⟩
  replace B:=B.trans (b3.mono B.size)
  replace C:=C.keep b3
  clear o2
  go_wp2_with fail
  refine (TC.out _ (Hx.out.keep B)).mono ?_;rintro e w4 ⟨v4,rfl,o4,b4⟩
  replace B:=B.trans (b4.mono B.size)
  replace C:=C.keep b4
  have k0:=C.box.c0
  have k1:=C.box.c1
  go_wp2_with fail
  refine (TCu.out _).mono ?_;rintro e w5 ⟨rfl,b5⟩
  replace B:=B.trans (b5.mono B.size)
  replace o4:=o4.below b5
  clear k0 k1
  go_wp2_with fail
  refine (E2.out _ _ (HT.out.on2 B) o4.seen.pts hn4).mono ?_;rintro e w6 ⟨rfl,b6⟩
  replace B:=B.trans (b6.mono B.size)
  replace o4:=o4.below b6
  go_wp2_with fail
  refine (TC.out _ (Hx.out.keep B)).mono ?_;rintro e w8 ⟨v8,rfl,o8,b8⟩
  replace B:=B.trans (b8.mono B.size)
  replace o4:=o4.below b8
  go_wp2_with fail
  refine (EQ.out _ _ _ _ _ o4.seen o8.seen (ul _) (ul _)).mono ?_;rintro e w9 ⟨rfl,b9⟩
  replace B:=B.trans (b9.mono B.size)
  go_wp2_with fail
  go_ret
  exact ⟨by simp,B⟩
 obtain ⟨A,cap,rfl,-,-⟩:=hx
 have HS:=fun w (h:cn w (.slice A xs.length cap) xs)=>jJ (.slice A xs.length cap) xs w h
 simp only [if_neg hn] at HS
 have HS:=uh HS
 have B:=(uk w.heap.size w).alloc (ul _) (.cells #[.int .i64 a,.int .i64 b] 23)
 replace Hx:=uh (Hx.out.keep B)
 generalize hw3:w.alloc (.cells #[.int .i64 a,.int .i64 b] 23)=wc at *
 generalize xs.length=L at *
 go_enter Tryz.func3,Tryz.ntmps3
 go_wp2_with fail
 refine (HS.out _ Hx.out).mono ?_;rintro e w0 ⟨rfl,rfl⟩
 go_wp2
 go_ret
 exact ⟨rfl,B⟩
end
end Go.Proofs.YtgfkcoablfjbcaaGreatDoor
