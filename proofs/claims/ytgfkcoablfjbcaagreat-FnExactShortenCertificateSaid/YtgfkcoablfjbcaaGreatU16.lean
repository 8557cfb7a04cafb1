/-
  Joined texts: contracts and plain lemmas.
-/
import Derived.Test.YtgfkcoablfjbcaaGreatU1
import Derived.Test.YtgfkcoablfjbcaaGreatU15
import Derived.Laws.IdiomCopy
import Derived.Shelf.Abstract
import Derived.Test.YtgfkcoablfjbcaaGreatU2
import Derived.Test.YtgfkcoablfjbcaaGreatU8
set_option linter.unusedSimpArgs false
set_option linter.unusedVariables false
set_option maxRecDepth 100000
set_option maxHeartbeats 8000000
namespace Go.Proofs.YtgfkcoablfjbcaaGreat
section
open Go.RowKit
theorem br.rowIs {w:World} {base:Nat} {v:Value} {vs:List Value} {rows:List (List (Int × Int × Int × Int))} (h:br w base v vs rows) {i:Nat} {r:List (Int × Int × Int × Int)} (hr:rows[i]?=some r) (hne:r≠[]) :
  ∃ (g2 cap2:Nat),vs[i]?=some (.slice (some ⟨g2,0,none⟩) r.length cap2)∧r.length≤cap2∧g2<w.heap.size:=by
 have hi:=(List.getElem?_eq_some_iff.1 hr).1;have hl:=h.2.1;have hu:vs[i]?=some (vs[i]'(by omega)):=List.getElem?_eq_getElem (by omega)
 rcases (h.2.2.1 i _ r hu hr).forms with ⟨-,h4⟩ | ⟨g2,cap2,e,hg,hg2,hc2,-⟩
 ·exact absurd h4 hne
 exact ⟨g2,cap2,by rw [hu,e],hc2,hg2⟩
theorem br.form {w:World} {base:Nat} {v:Value} {vs:List Value} {rows:List (List (Int × Int × Int × Int))} (h:br w base v vs rows) (hne:rows≠[]):∃ (g cap:Nat),v=.slice (some ⟨g,0,none⟩) rows.length cap∧rows.length≤cap∧cap≤9223372036854775807∧g<w.heap.size:=by
 rcases h.1.2 with ⟨-,h2⟩ | ⟨g,cap,cur,e,hg,hh,hc,hm,-⟩
 ·exact absurd (List.eq_nil_of_length_eq_zero h2) hne
 exact ⟨g,cap,e,hc,by unfold maxLen at hm;omega,(Array.getElem?_eq_some_iff.1 hh).1⟩
theorem br.iG {w:World} {base g n cap:Nat} {vs:List Value} {rows:List (List (Int × Int × Int × Int))} (h:br w base (.slice (some ⟨g,0,none⟩) n cap) vs rows) {i:Nat} {u:Value} (hu:vs[i]?=some u):w.cell? ⟨g,i,none⟩=some u:=by
 have hi:=(List.getElem?_eq_some_iff.1 hu).1;have hl:=h.2.1;have h1:=h.1
 rcases h1.2 with ⟨e,-⟩ | ⟨g1,c1,Cx,e,-⟩
 ·cases e
 injection e with _ e2 _
 subst e2;exact (World.ownsRow.cellAt h1 i (by omega)).trans hu
theorem br.rowFrom {w:World} {base:Nat} {v:Value} {vs:List Value} {rows:List (List (Int × Int × Int × Int))} (h:br w base v vs rows) {i g2 cap2 n2:Nat} {r:List (Int × Int × Int × Int)} (hu:vs[i]?=some (.slice (some ⟨g2,0,none⟩) n2 cap2)) (hr:rows[i]?=some r):Rw.From EN w (some ⟨g2,0,none⟩) r:=by
 have ho:=h.2.2.1 i _ r hu hr
 rcases ho.forms with ⟨e,-⟩ | ⟨g3,Li,e,hg,hg3,hc3,-⟩
 ·cases e
 injection e with e1 e2 e3
 have:=ho.uY e2 (ho.lt g2 rfl).2 (yL _ w) r.length;rw [List.take_length] at this;exact this
theorem Rw.From.at4 {w:World} {g c:Nat} {r:List (Int × Int × Int × Int)} {q:Int × Int × Int × Int} (h:Rw.From EN w (some ⟨g,0,none⟩) r) (hq:r[c]?=some q):w.cell? ⟨g,c*4,none⟩=some (.int .i64 q.1)∧w.cell? ⟨g,c*4+1,none⟩=some (.int .i64 q.2.1)∧w.cell? ⟨g,c*4+2,none⟩=some (.int .i64 q.2.2.1)∧w.cell? ⟨g,c*4+3,none⟩=some (.int .i64 q.2.2.2):=by
 have hadd:∀ b i:Nat,(⟨b,0,none⟩:Addr).add i=⟨b,i,none⟩:=fun b i=>by unfold Addr.add;split <;> simp_all
 have hc:∀ (t:Nat) (u:Value),t<4→(EN.cells q)[t]?=some u→w.cell? ⟨g,c*4+t,none⟩=some u:=fun t u ht hu=>by
  obtain ⟨ad,e,hh⟩:=h (c*4+t) u ((Rw.flat_get EN r c t q hq ht).trans hu);have:=Option.some.inj e;subst this;rw [hadd] at hh;exact hh
 exact ⟨hc 0 _ (by decide) rfl,hc 1 _ (by decide) rfl,hc 2 _ (by decide) rfl,hc 3 _ (by decide) rfl⟩
theorem Rw.iI {α:Type} {E:Rw.Enc α} {w W:World} {base:Nat} {v:Value} {xs:List α} {P:Program} {ts:TypeId} (F:Rw.Fits P E ts) (ty:TypeId) (ys:List α) (m:Nat) (hm:ys.length=m) (A:Option Addr) (c:Nat)
  (hr:Rw.From E w A ys) (hown:Rw.Own E w base v xs) (hW:Below base W w) (hB:base≤w.heap.size) (hl:xs.length+m≤100000000000) :
  ∃ v' w',(Builtin.append_ #[ts,ts] ty #[v,.slice A m c]).run P w=.ok v' w'∧Rw.Own E w' base v' (xs ++ ys)∧Below base W w':=by
 subst hm;exact Rw.oR F ty ys A c hr hown hW hB hl
abbrev FP:=List (List (Int × Int × Int × Int))
def M.fy (m:FP) (c:Nat):FP:=m.tail.map fun r=>r.take c ++ r.drop (c+1)
theorem M.rQ {m:FP} {c i:Nat} {r:List (Int × Int × Int × Int)} (h:m[i+1]?=some r):(M.fy m c)[i]?=some (r.take c ++ r.drop (c+1)):=by
 unfold M.fy;rw [List.getElem?_map,List.getElem?_tail,h];rfl
theorem M.pU {m:FP} {c n:Nat} (h:m.length=n+1):(M.fy m c).length=n:=by
 unfold M.fy;rw [List.length_map,List.length_tail,h];rfl
def wM (n:Nat) (r:List (Int × Int × Int × Int)) (c:Nat) (b2:Nat) (rows:FP) (w0 w2:World) (x1 x5 x10 NY NZ x13:Value) (w:World):Prop:=match n with
 | 0=>Below w0.heap.size w0 w
 | 1=>Rw.Own EN w w0.heap.size x1 []∧Below w0.heap.size w0 w
 | 2=>Rw.Own EN w w0.heap.size x5 (r.take c)∧Below w0.heap.size w0 w
 | 3=>Rw.Own EN w w0.heap.size x10 (r.take c ++ r.drop (c+1))∧Below w0.heap.size w0 w
 | 4=>∃ w3,w=w3.alloc (.cells #[x10] 100)∧NY=.slice (some ⟨w3.heap.size,0,none⟩) 1 1∧Rw.Own EN w3 w0.heap.size x10 (r.take c ++ r.drop (c+1))∧Below w0.heap.size w0 w3
 | 5=>dY w b2 NZ (rows ++ [r.take c ++ r.drop (c+1)])∧Below b2 w2 w
 | _=>dY w b2 x13 (rows ++ [r.take c ++ r.drop (c+1)])∧Below b2 w2 w
theorem rJ (n c:Nat) (m:FP) (v:Value) (base:Nat) (w:World) (hn:n≤2) (hml:m.length=n+2) (hmr:∀ r ∈ m,r.length=n+2) (hc:c<n+2) (hm:dY w base v m) :
  Calls Tryz.prog 69 #[v,.int .i64 (c:Int)] w fun e w'=>∃ v',e=.returned v'∧dY w' w.heap.size v' (M.fy m c)∧Below w.heap.size w w':=by
 obtain ⟨vs,hm⟩:=hm;obtain ⟨gm,Cv,rfl,hcm,hcm2,hgm⟩:=hm.form (fun h=>by rw [h] at hml;simp only [List.length_nil] at hml;omega);rw [hml] at hm hcm ⊢;have hmin:=yI (fun (i:Nat) (r:List (Int × Int × Int × Int)) (h:m[i+1]?=some r)=>M.rQ (c:=c) h);have Bz:=yI (M.pU (c:=c) (n:=n+1) hml)
 obtain ⟨mm,hmm⟩:∃ x,x=M.fy m c:=⟨_,rfl⟩
 rw [←hmm] at hmin Bz ⊢;clear hmm;have hml:=yI hml;have hmr:=yI hmr;have hm:=yI hm
 have hcap1:¬ Cv=1:=by omega
 have hn1:(n:Int)≤2:=by omega
 go_enter Tryz.func69,Tryz.ntmps69
 go_wp2
 go_loopw [5,11] (fun vo vi wi=>∃ (i:Nat) (u:Value),i≤n+1∧vi=.int .i64 (i:Int)∧u=vo∧Hid (dY wi w.heap.size u (mm.take i))∧Below w.heap.size w wi) (fun _ vi _=>n+1 - (intOf vi).toNat)
 case atStart=>exact ⟨0,_,Nat.zero_le _,rfl,rfl,yI (dY.nil _ _),yL _ _⟩
 case round=>
 obtain ⟨i,vo,hi,rfl,rfl,hrow,Bi⟩:=hrel;have Aa:=yI (hm.out.below Bi)
 by_cases hlt2:i<n+1
 ·obtain ⟨r,hr⟩:∃ r,m[i+1]?=some r:=⟨_,List.getElem?_eq_getElem (by have:=hml.out;omega)⟩
  have hrl:r.length=n+2:=hmr.out r (List.mem_of_getElem? hr);obtain ⟨gi,ym,GO,hci,hgi⟩:=Aa.out.rowIs hr (fun h=>by rw [h] at hrl;simp only [List.length_nil] at hrl;omega);have IE:=Aa.out.iG GO;rw [Nat.add_comm i 1] at IE;have FR:=Aa.out.rowFrom GO hr;rw [hrl] at IE hci;have hcell:=hmin.out i r hr;have F1:=yI (FR.cut c);have F2:=FR.qZ (c+1) ym (by omega);have hEN:EN.k=4:=rfl;rw [hEN] at F2;have F2:=yI F2
  have hl1:(r.take c).length=c:=by rw [List.length_take];omega
  have hl2:(r.drop (c+1)).length=n+2 - (c+1):=by rw [List.length_drop,hrl]
  have hl1:=yI hl1;have hl2:=yI hl2;have hnx:=yI (M.iq hcell);obtain ⟨vs2,Az⟩:=hrow.out;have Az:=yI Az
  have hlen:(mm.take i).length≤1000000000:=by rw [List.length_take];omega
  have hlen:=yI hlen;clear hEN hcell FR GO hr hrl
  have hcc:((c:Nat):Int)≤4:=by omega
  have Fv:((c:Nat):Int)≤((n+2:Nat):Int):=by omega
  have L7:((c:Nat):Int)≤((ym:Nat):Int):=by omega
  have L8:((c:Nat):Int)+1≤((n+2:Nat):Int):=by omega
  go_upto_region 5 with fail
  refine Rg.ke (fun k v w2_=>wM k r c w.heap.size (mm.take i) wr w (v 1) (v 5) (v 10) (v 11) (v 12) (v 13) w2_) [1,5,10,11,12,13] [vo,undef,.slice (some ⟨gi,0,none⟩) (n+2) ym,.int .i64 ((c:Nat):Int),.slice (some ⟨gi,0,none⟩) c ym,undef,.slice (some ⟨gi,0,none⟩) (n+2) ym,.int .i64 ((c:Nat):Int),.int .i64 ((c:Nat)+1),.slice (if ym=c+1 then some ⟨gi,0,none⟩ else some ⟨gi,(c+1)*4,none⟩) (n+2 - (c+1)) (ym - (c+1)),undef,undef,undef,undef] (by kernel_rfl) (by kernel_rfl) (by kernel_rfl) (by decide) (fun k v v2 w h hj=>by rw [←h 1 (by decide),←h 5 (by decide),←h 10 (by decide),←h 11 (by decide),←h 12 (by decide),←h 13 (by decide)];exact hj) (fun _=>(yL _ wr).drew) ⟨?_,?_,?_,?_,?_,?_,?_,?_,?_,?_,?_,?_,?_,?_,trivial⟩ ?_
  ·unfold Rg.aV
   rw [if_neg (by decide)];intro zZ w_ n_ i_ yv hJ hr;refine ⟨rfl,?_⟩;have e5:zZ.tmps[5]?=some (vo):=hr 5 (by decide)
   go_simp
  ·unfold Rg.aV
   rw [if_pos (by decide)];intro zZ w_ i_ hJ hr;refine ⟨rfl,?_⟩;have hJ:Below wr.heap.size wr w_:=hJ;refine Rg.rM (x:=.slice (some ⟨w_.heap.size,0,none⟩) 0 0) (ob:=.cells #[] 64) (by (first | (go_simp;done) | (go_simp;rfl))) ?_;exact ⟨(Rw.Own.pR EN w_ _ hJ.size:Rw.Own EN _ wr.heap.size _ []),hJ.alloc hJ.size _⟩
  ·unfold Rg.aV
   rw [if_neg (by decide)];intro zZ w_ n_ i_ yv hJ hr;refine ⟨rfl,?_⟩;have e7:zZ.tmps[7]?=some (.slice (some ⟨gi,0,none⟩) (n+2) ym):=hr 7 (by decide)
   go_simp
  ·unfold Rg.aV
   rw [if_neg (by decide)];intro zZ w_ n_ i_ yv hJ hr;refine ⟨rfl,?_⟩;have e1:zZ.tmps[1]?=some (.int .i64 ((c:Nat):Int)):=hr 1 (by decide)
   go_simp
  ·unfold Rg.aV
   rw [if_neg (by decide)];intro zZ w_ n_ i_ yv hJ hr;refine ⟨rfl,?_⟩;have e17:zZ.tmps[17]?=some (.slice (some ⟨gi,0,none⟩) (n+2) ym):=hr 17 (by decide);have e18:zZ.tmps[18]?=some (.int .i64 ((c:Nat):Int)):=hr 18 (by decide)
   (first | (go_simp;done) | (go_simp;exact Rg.wr (by omega) (by omega)) | (go_simp;omega) | (go_simp;rfl))
  ·unfold Rg.aV
   rw [if_pos (by decide)];intro zZ w_ i_ hJ hr;have e16:zZ.tmps[16]?=some (i_ 1):=hr 16 (by decide);have e19:zZ.tmps[19]?=some (.slice (some ⟨gi,0,none⟩) c ym):=hr 19 (by decide);refine ⟨rfl,?_⟩;obtain ⟨yp,AK⟩:=hJ;have yp:Rw.Own EN w_ wr.heap.size (i_ 1) []:=yp;obtain ⟨v6,w6,CE,Cj,DJ⟩:=Rw.iI nY (W:=wr) 100 (r.take c) c hl1.out (some ⟨gi,0,none⟩) ym (F1.out.below AK) yp AK AK.size (by simp only [List.length_nil];omega);refine Rg.iH (x:=v6) (w2:=w6) (Rg.fI rfl (Rg.ev e16) (Rg.ev e19) CE) ?_;exact ⟨Cj,DJ⟩
  ·unfold Rg.aV
   rw [if_neg (by decide)];intro zZ w_ n_ i_ yv hJ hr;refine ⟨rfl,?_⟩;have e7:zZ.tmps[7]?=some (.slice (some ⟨gi,0,none⟩) (n+2) ym):=hr 7 (by decide)
   go_simp
  ·unfold Rg.aV
   rw [if_neg (by decide)];intro zZ w_ n_ i_ yv hJ hr;refine ⟨rfl,?_⟩;have e1:zZ.tmps[1]?=some (.int .i64 ((c:Nat):Int)):=hr 1 (by decide)
   go_simp
  ·unfold Rg.aV
   rw [if_neg (by decide)];intro zZ w_ n_ i_ yv hJ hr;refine ⟨rfl,?_⟩;have e22:zZ.tmps[22]?=some (.int .i64 ((c:Nat):Int)):=hr 22 (by decide);have ec:=Rg.ec zZ
   (first | (go_simp;done) | (go_simp;exact Rg.wr (by omega) (by omega)) | (go_simp;omega) | (go_simp;rfl))
  ·unfold Rg.aV
   rw [if_neg (by decide)];intro zZ w_ n_ i_ yv hJ hr;refine ⟨rfl,?_⟩;have e21:zZ.tmps[21]?=some (.slice (some ⟨gi,0,none⟩) (n+2) ym):=hr 21 (by decide);have e23:zZ.tmps[23]?=some (.int .i64 ((c:Nat)+1)):=hr 23 (by decide)
   have hcN:((c:Nat):Int)+1≤((n+2:Nat):Int):=by omega
   (first | (go_simp;done) | (go_simp;exact Rg.wr (by omega) (by omega)) | (go_simp;omega) | (go_simp;rfl))
  ·unfold Rg.aV
   rw [if_pos (by decide)];intro zZ w_ i_ hJ hr;have e20:zZ.tmps[20]?=some (i_ 5):=hr 20 (by decide);have e24:zZ.tmps[24]?=some (.slice (if ym=c+1 then some ⟨gi,0,none⟩ else some ⟨gi,(c+1)*4,none⟩) (n+2 - (c+1)) (ym - (c+1))):=hr 24 (by decide);refine ⟨rfl,?_⟩;obtain ⟨yp,AK⟩:=hJ;have yp:Rw.Own EN w_ wr.heap.size (i_ 5) (r.take c):=yp;obtain ⟨v6,w6,CE,Cj,DJ⟩:=Rw.iI nY (W:=wr) 100 (r.drop (c+1)) (n+2 - (c+1)) hl2.out _ (ym - (c+1)) (F2.out.below AK) yp AK AK.size (by rw [hl1.out];omega);refine Rg.iH (x:=v6) (w2:=w6) (Rg.fI rfl (Rg.ev e20) (Rg.ev e24) CE) ?_;exact ⟨Cj,DJ⟩
  ·unfold Rg.aV
   rw [if_pos (by decide)];intro zZ w_ i_ hJ hr;have e25:zZ.tmps[25]?=some (i_ 10):=hr 25 (by decide);refine ⟨rfl,?_⟩;obtain ⟨yp,AK⟩:=hJ;have yp:Rw.Own EN w_ wr.heap.size (i_ 10) _:=yp;refine Rg.rM (x:=.slice (some ⟨w_.heap.size,0,none⟩) 1 1) (ob:=.cells #[i_ 10] 100) (by rcases yp.forms with ⟨q_,-⟩ | ⟨g_,c_,q_,-⟩ <;> rw [q_] at e25 ⊢ <;> (first | (go_simp;done) | (go_simp;rfl))) ?_;exact ⟨w_,rfl,rfl,yp,AK⟩
  ·unfold Rg.aV
   rw [if_pos (by decide)];intro zZ w_ i_ hJ hr;have e15:zZ.tmps[15]?=some (vo):=hr 15 (by decide);have e26:zZ.tmps[26]?=some (i_ 11):=hr 26 (by decide);refine ⟨rfl,?_⟩;obtain ⟨w3,M2,Ca,yp,AK⟩:=hJ;subst M2;have Ca:i_ 11=.slice (some ⟨w3.heap.size,0,none⟩) 1 1:=Ca;have yp:Rw.Own EN w3 wr.heap.size (i_ 10) _:=yp;rw [Ca] at e26;have Du:Below w.heap.size w w3:=f_ Bi AK;obtain ⟨v6,w6,CE,Cj,DJ⟩:=kq (W:=w) (w:=w3) 83 w.heap.size (i_ 10) _ vs2 _ _ (Az.out.below AK) (yp.down Bi.size) (Az.out.fresh yp (yM _)) Du Du.size hlen.out;refine Rg.iH (x:=v6) (w2:=w6) (Rg.fI rfl (Rg.ev e15) (Rg.ev e26) CE) ?_;exact ⟨⟨_,Cj⟩,DJ⟩
  ·unfold Rg.aV
   rw [if_pos (by decide)];intro zZ w_ i_ hJ hr;have e27:zZ.tmps[27]?=some (i_ 12):=hr 27 (by decide);refine ⟨rfl,?_⟩;refine Rg.iH (x:=i_ 12) (w2:=w_) (by (first | (go_simp;done) | (go_simp;rfl))) ?_;exact hJ
  intro vals wz hJ hv;simp only [Rg.ak,Rg.fill,Act.put,Nat.reduceAdd];clear hv;obtain ⟨hM2,hB2⟩:=hJ;have hM2:dY wz w.heap.size (vals 13) (mm.take i ++ [r.take c ++ r.drop (c+1)]):=hM2;rw [←hnx.out] at hM2;have hM2:=yI hM2;clear hnx Az;go_wp2
  go_roundw
  case rel=>exact ⟨i+1,_,by omega,by go_num,rfl,hM2,hB2⟩
  case measure=>simp [intOf] <;> omega
 obtain rfl:i=n+1:=by omega
 have Bl:dY wr w.heap.size vo mm:=by
  have h:=hrow.out;rw [List.take_of_length_le (by rw [Bz.out];omega)] at h;exact h
 have Bl:=yI Bl;clear hrow Aa;go_wp2;go_ret;exact ⟨_,rfl,Bl.out,Bi⟩
namespace M
noncomputable def CB (m:zL):FP:=m.map fun r=>r.map fun q=>CN (some q)
theorem rR (m:zL) (c:Nat):fy (CB m) c=CB (cL m c):=by
 unfold fy CB cL;rw [←List.map_tail,List.map_map,List.map_map]
 refine List.map_congr_left fun r _=>?_
 simp only [Function.comp,List.map_append,List.map_take,List.map_drop]
theorem wl {m:zL} {i:Nat} {r:List (Int × Int)} (h:m[i]?=some r):(CB m)[i]?=some (r.map fun q=>CN (some q)):=by
 unfold CB;rw [List.getElem?_map,h];rfl
theorem u9 (m:zL):(CB m).length=m.length:=by unfold CB;rw [List.length_map]
theorem ws {n:Nat} {m:zL} (h:square n m):∀ r ∈ CB m,r.length=n:=fun r hr=>by
 unfold CB at hr;obtain ⟨s,hs,rfl⟩:=List.mem_map.1 hr;rw [List.length_map];exact h.2 s hs
theorem tD {n:Nat} {m:zL} {c:Nat} (AC:square (n+2) m) (hc:c<n+2) (h:di n m (c+1)=none):cj (n+2) m=none:=by
 have hl:(m.headD []).length=n+2:=by
  cases m with
  | nil=>have:=AC.1;simp only [List.length_nil] at this;omega
  | cons r m=>exact AC.2 r (List.mem_cons_self ..)
 rw [jJ,hl];exact lX h _ (by omega)
theorem tE {n:Nat} {m:zL} (AC:square (n+2) m):cj (n+2) m=di n m (n+2):=by
 have hl:(m.headD []).length=n+2:=by
  cases m with
  | nil=>have:=AC.1;simp only [List.length_nil] at this;omega
  | cons r m=>exact AC.2 r (List.mem_cons_self ..)
 rw [jJ,hl]
theorem ux:zA (some (0,0))=0∧zB (some (0,0))=1∧zD (some (0,0))=0∧zH (some (0,0))=1:=by
 obtain ⟨k1,k2⟩:=uA (n:=0) (by decide) (by decide);exact ⟨k1,k2,k1,k2⟩
theorem jN:zA none=0∧zB none=0∧zD none=0∧zH none=0∧(none:Sp).isSome=false:=⟨rfl,rfl,rfl,rfl,rfl⟩
end M
theorem u7 (n:Nat):∀ (m:M.zL) (v:Value) (base:Nat) (w:World),n≤3→M.square (n+1) m→M.GV m→dY w base v (M.CB m)→
  Calls Tryz.prog 53 #[v] w fun e w'=>e=.returned (.tuple #[.agg #[.int .i64 (M.zA (M.cj (n+1) m)),.int .i64 (M.zB (M.cj (n+1) m)),.int .i64 (M.zD (M.cj (n+1) m)),.int .i64 (M.zH (M.cj (n+1) m))],.bool (M.cj (n+1) m).isSome])∧Below w.heap.size w w':=by
 induction n with
 | zero=>
  intro m v base w hn AC hok hm
  obtain ⟨q,rfl⟩:∃ q,m=[[q]]:=by
   obtain ⟨h1,h2⟩:=AC;obtain ⟨r,rfl⟩:=List.length_eq_one_iff.1 h1;obtain ⟨q,rfl⟩:=List.length_eq_one_iff.1 (h2 r (List.mem_cons_self ..));exact ⟨q,rfl⟩
  have hd:M.cj (0+1) [[q]]=some q:=rfl;rw [hd];obtain ⟨gm,cap,g2,cap2,rfl,k0,k1,k2,k3,k4⟩:=hm.at (i:=0) (j:=0) (q:=M.CN (some q)) (r:=[M.CN (some q)]) rfl rfl;have hl:(M.CB [[q]]).length=1:=rfl;simp only [Nat.zero_mul,Nat.zero_add,List.length_cons,List.length_nil,hl,M.CN] at k0 k1 k2 k3 k4 ⊢;clear hd hl hok AC hm;have e5:(some q:M.Sp).isSome=true:=rfl;rw [e5];clear e5;generalize M.zA (some q)=q1 at *;generalize M.zB (some q)=q2 at *;generalize M.zD (some q)=q3 at *;generalize M.zH (some q)=q4 at *;obtain ⟨wc,hw3,R,B⟩:=ei w #[.int .i64 0,.int .i64 0,.int .i64 0,.int .i64 0] 64;replace k0:=aE B k0;replace k1:=aE B k1;replace k2:=aE B k2;replace k3:=aE B k3;replace k4:=aE B k4;have ⟨r0,r1,r2,r3,z0,z1,z2,z3,rl⟩:=R.aM;go_enter Tryz.func53,Tryz.ntmps53
  go_wp2;exact bodyPost_ret (v:=.tuple #[.agg #[.int .i64 q1,.int .i64 q2,.int .i64 q3,.int .i64 q4],.bool true]) (by simp [results,Tryz.results53,go_sem, *]) rfl (⟨rfl,yK (yK (yK (yK B (yM _) _) (yM _) _) (yM _) _) (yM _) _⟩)
 | succ n ih=>
 intro m v base w hn AC hok hm;obtain ⟨vs,hm⟩:=hm;have hml:m.length=n+2:=AC.1
 have Dm:(M.CB m).length=n+2:=by rw [M.u9];exact hml
 obtain ⟨r0,hr0⟩:∃ r,m[0]?=some r:=⟨_,List.getElem?_eq_getElem (by omega)⟩
 have Ay:r0.length=n+2:=AC.2 r0 (List.mem_of_getElem? hr0)
 have hhd:m.headD []=r0:=by
  cases m with
  | nil=>cases hr0
  | cons x m=>exact Option.some.inj hr0
 obtain ⟨rN,H7⟩:∃ x,x=r0.map fun q=>M.CN (some q):=⟨_,rfl⟩
 have El:(M.CB m)[0]?=some rN:=by rw [H7];exact M.wl hr0
 have Em:rN.length=n+2:=by rw [H7,List.length_map];exact Ay
 obtain ⟨gm,Cv,rfl,hcm,hcm2,hgm⟩:=hm.form (fun h=>by rw [h] at Dm;simp only [List.length_nil] at Dm;omega);obtain ⟨g0,cap0,hv0,hc0,hg0⟩:=hm.rowIs El (fun h=>by rw [h] at Em;simp only [List.length_nil] at Em;omega);rw [Em] at hv0 hc0;rw [Dm] at hm hcm ⊢;have EG:=hm.iG hv0;have PMn:=yI (fun c (hc:c<n+2) W h=>rJ n c (M.CB m) (.slice (some ⟨gm,0,none⟩) (n+2) Cv) base W (by omega) Dm (M.ws AC) hc h);have hnone:=yI (fun c (hc:c<n+2) h=>M.tD (n:=n) (m:=m) (c:=c) AC hc h);have hsome:=yI (M.tE (n:=n) (m:=m) AC);have AC:=yI AC;have H7:=yI H7;have hr0:=yI hr0;have El:=yI El;have Ay:=yI Ay;have hml:=yI hml;have hhd:=yI hhd;have hok:=yI hok;have hm:=yI hm;have hv0:=yI hv0;have ih:=yI ih;clear Dm Em
 have PI:=yI fun W=>uq 0 W
 obtain ⟨wc,hw3,R,B⟩:=ei w #[.int .i64 0,.int .i64 0,.int .i64 0,.int .i64 0] 64;replace EG:=aE B EG
 have hn1:(n:Int)≤2:=by omega
 have hne1:((n:Int)+2 == 1)=false:=by rw [beq_eq_false_iff_ne];omega
 go_enter Tryz.func53,Tryz.ntmps53
 go_wp2_with (go_at_call 68;(with_reducible refine (PI.out _).mono ?_);rintro e w5 ⟨rfl,hb5⟩;replace B:=f_ B hb5;replace R:=R.keep hb5;replace EG:=aE hb5 EG;have kr1:=aE ((yL _ w5).alloc (yM _) (.cells #[.int .i64 0,.int .i64 1,.int .i64 0,.int .i64 1] 64)) EG)
 have S:=aH.new w5 #[.int .i64 0,.int .i64 1,.int .i64 0,.int .i64 1] 64;have hrl:=R.lt;replace R:=R.alloc (.cells #[.int .i64 0,.int .i64 1,.int .i64 0,.int .i64 1] 64);replace B:=B.alloc B.size (.cells #[.int .i64 0,.int .i64 1,.int .i64 0,.int .i64 1] 64);have hsl:=S.lt
 have nSR:w5.heap.size≠w.heap.size:=by omega
 have nRS:w.heap.size≠w5.heap.size:=by omega
 have hsb:w.heap.size≤w5.heap.size:=by omega
 go_loopw [28] (fun vc wq=>∃ (c:Nat) (s:Int × Int),c≤n+2∧vc=.int .i64 (c:Int)∧Hid (M.di n m c=some s)∧aH wq w5.heap.size 64 #[.int .i64 (M.zA (some s)),.int .i64 (M.zB (some s)),.int .i64 (M.zD (some s)),.int .i64 (M.zH (some s))]∧aH wq w.heap.size 64 #[.int .i64 0,.int .i64 0,.int .i64 0,.int .i64 0]∧w5.heap.size+1≤wq.heap.size∧Below w.heap.size w wq) (fun vc _=>n+2 - (intOf vc).toNat)
 case atStart=>
  obtain ⟨e1,e2,e3,e4⟩:=M.ux;exact ⟨0,(0,0),Nat.zero_le _,rfl,yI rfl,by rw [e1,e2,e3,e4];exact S,R,hsl,B⟩
 case round=>
 clear S R B EG hrl hsl;generalize w5.heap.size=sb at *;obtain ⟨c,s,hc,rfl,hs,S,R,hwz,B⟩:=hrel;generalize hwo:wr=wo at *;clear hwo
 by_cases hlt:c<n+2
 ·obtain ⟨q,hq⟩:∃ q,r0[c]?=some q:=⟨_,List.getElem?_eq_getElem (by have:=Ay.out;omega)⟩
  have hqs:M.aN q.1 q.2=true:=hok.out r0 (List.mem_of_getElem? hr0.out) _ (List.mem_of_getElem? hq)
  have hqN:rN[c]?=some (M.CN (some q)):=by rw [H7.out,List.getElem?_map,hq];rfl
  have Cr:=yI (hm.out.below B);obtain ⟨d0,d1,d2,d3⟩:=(Cr.out.rowFrom hv0.out El.out).at4 hqN;simp only [M.CN] at d0 d1 d2 d3;have hss:M.aN s.1 s.2=true:=M.mQ (n:=n) (m:=m) c s hs.out;have Dt:=M.iJ AC.out hlt;have hok1:=M.lR (c:=c) hok.out
  have PD:=fun vo b W h=>ih.out (M.cL m c) vo b W (by omega) Dt hok1 h
  have PN:=PMn.out c hlt;rw [M.rR] at PN;have hdo:=M.jQ hok1 (n+1);have hnx:=M.gN n m c;rw [hs.out,hhd.out,hq] at hnx;have hno:=hnone.out c hlt
  obtain ⟨mm,hmm⟩:∃ x,x=M.cL m c:=⟨_,rfl⟩
  obtain ⟨dd,hdd⟩:∃ x,x=M.cj (n+1) (M.cL m c):=⟨_,rfl⟩
  rw [←hdd] at PD hnx hdo;rw [←hmm] at PD PN;clear hmm hdd Dt hok1 hq hqN;have hnx:=yI hnx;have hno:=yI hno;have Bv:=(yL wo.heap.size wo).alloc (yM _) (.cells #[.int .i64 (M.zA (some q)),.int .i64 (M.zB (some q)),.int .i64 (M.zD (some q)),.int .i64 (M.zH (some q))] 64);have X:=aH.new wo #[.int .i64 (M.zA (some q)),.int .i64 (M.zB (some q)),.int .i64 (M.zD (some q)),.int .i64 (M.zH (some q))] 64;replace B:=f_ B Bv;replace S:=S.keep Bv;replace R:=R.keep Bv;have Cr:=yI (Cr.out.below Bv);generalize hw2:wo.alloc (.cells #[.int .i64 (M.zA (some q)),.int .i64 (M.zB (some q)),.int .i64 (M.zD (some q)),.int .i64 (M.zH (some q))] 64)=wb at *;clear Bv
  have hwz2:sb+1≤wb.heap.size:=by have:=S.lt;omega
  have hmw:=yI (show dY wb base (.slice (some ⟨gm,0,none⟩) (n+2) Cv) (M.CB m) from ⟨vs,Cr.out⟩)
  cases dd with
  | none=>
   have hfin:M.cj (n+1+1) m=none:=hno.out (by rw [hnx.out];exact M.eh _ _);have hfin:=yI hfin;have e9:=yI M.jN;rw [e9.out.1,e9.out.2.1,e9.out.2.2.1,e9.out.2.2.2.1,e9.out.2.2.2.2] at PD;clear e9;generalize M.zA (some q)=q1 at *;generalize M.zB (some q)=q2 at *;generalize M.zD (some q)=q3 at *;generalize M.zH (some q)=q4 at *;replace PD:=yI PD;replace PN:=yI PN;clear hno hnx hnone hsome ih
   go_wp2_with first | (go_at_call 69;(with_reducible refine (PN.out _ hmw.out).mono ?_);rintro e w4 ⟨vo,rfl,Df,hb4⟩;replace B:=f_ B hb4;replace X:=X.keep hb4;replace S:=S.keep hb4;replace R:=R.keep hb4) | (go_at_call 53;(with_reducible refine (PD.out _ _ _ Df).mono ?_);rintro e w6 ⟨rfl,hb6⟩;replace B:=(f_ B hb6).alloc (Nat.le_trans B.size hb6.size) (.cells #[.int .i64 0,.int .i64 0,.int .i64 0,.int .i64 0] 64);replace X:=(X.keep hb6).alloc (.cells #[.int .i64 0,.int .i64 0,.int .i64 0,.int .i64 0] 64);replace S:=(S.keep hb6).alloc (.cells #[.int .i64 0,.int .i64 0,.int .i64 0,.int .i64 0] 64);replace R:=(R.keep hb6).alloc (.cells #[.int .i64 0,.int .i64 0,.int .i64 0,.int .i64 0] 64);have Y:=aH.new w6 #[.int .i64 0,.int .i64 0,.int .i64 0,.int .i64 0] 64;(have ⟨IJ,IK,IL,IM,_,_,_,_,_⟩:=Y.aM);(have ⟨IF,IG,IH,II,_,_,_,_,_⟩:=X.aM);(have ⟨r0,r1,r2,r3,z0,z1,z2,z3,rl⟩:=R.aM))
   exact bodyPost_ret (v:=.tuple #[.agg #[.int .i64 0,.int .i64 0,.int .i64 0,.int .i64 0],.bool false]) (by simp [results,Tryz.results53,go_sem, *]) rfl (⟨by rw [hfin.out];rfl,yK (yK (yK (yK B (yM _) _) (yM _) _) (yM _) _) (yM _) _⟩)
  | some d=>
  have hds:M.aN d.1 d.2=true:=hdo d rfl
  have PX:=fun W=>tg q d W hqs hds
  have e5:(some d:M.Sp).isSome=true:=rfl;rw [e5] at PD;clear e5
  obtain ⟨pp,hpp⟩:∃ x,x=M.fF (some q) (some d):=⟨_,rfl⟩
  have hpo:M.AP pp:=by rw [hpp];exact M.qU
  have hnx2:=hnx.out;rw [←hpp] at hnx2 PX;replace hnx:=yI hnx2;clear hnx2 hpp;generalize M.zA (some q)=q1 at *;generalize M.zB (some q)=q2 at *;generalize M.zD (some q)=q3 at *;generalize M.zH (some q)=q4 at *;generalize M.zA (some d)=d1 at *;generalize M.zB (some d)=d2 at *;generalize M.zD (some d)=d3 at *;generalize M.zH (some d)=d4 at *;replace PD:=yI PD;replace PN:=yI PN
  cases pp with
  | none=>
   have hfin:M.cj (n+1+1) m=none:=hno.out (by rw [hnx.out];exact M.eh _ _);have hfin:=yI hfin;have e9:=yI M.jN;rw [e9.out.1,e9.out.2.1,e9.out.2.2.1,e9.out.2.2.2.1,e9.out.2.2.2.2] at PX;clear e9;replace PX:=yI PX;clear hno hnx hnone hsome ih
   go_wp2_with first | (go_at_call 69;(with_reducible refine (PN.out _ hmw.out).mono ?_);rintro e w4 ⟨vo,rfl,Df,hb4⟩;replace B:=f_ B hb4;replace X:=X.keep hb4;replace S:=S.keep hb4;replace R:=R.keep hb4) | (go_at_call 53;(with_reducible refine (PD.out _ _ _ Df).mono ?_);rintro e w6 ⟨rfl,hb6⟩;replace B:=(f_ B hb6).alloc (Nat.le_trans B.size hb6.size) (.cells #[.int .i64 d1,.int .i64 d2,.int .i64 d3,.int .i64 d4] 64);replace X:=(X.keep hb6).alloc (.cells #[.int .i64 d1,.int .i64 d2,.int .i64 d3,.int .i64 d4] 64);replace S:=(S.keep hb6).alloc (.cells #[.int .i64 d1,.int .i64 d2,.int .i64 d3,.int .i64 d4] 64);replace R:=(R.keep hb6).alloc (.cells #[.int .i64 d1,.int .i64 d2,.int .i64 d3,.int .i64 d4] 64);have Y:=aH.new w6 #[.int .i64 d1,.int .i64 d2,.int .i64 d3,.int .i64 d4] 64;(have ⟨IJ,IK,IL,IM,_,_,_,_,_⟩:=Y.aM);(have ⟨IF,IG,IH,II,_,_,_,_,_⟩:=X.aM);(have ⟨r0,r1,r2,r3,z0,z1,z2,z3,rl⟩:=R.aM)) | (go_at_call 70;(with_reducible refine (PX.out _).mono ?_);rintro e w7 ⟨rfl,yi⟩;replace B:=(f_ B yi).alloc (Nat.le_trans B.size yi.size) (.cells #[.int .i64 0,.int .i64 0,.int .i64 0,.int .i64 0] 64);replace S:=(S.keep yi).alloc (.cells #[.int .i64 0,.int .i64 0,.int .i64 0,.int .i64 0] 64);replace R:=(R.keep yi).alloc (.cells #[.int .i64 0,.int .i64 0,.int .i64 0,.int .i64 0] 64);have Z:=aH.new w7 #[.int .i64 0,.int .i64 0,.int .i64 0,.int .i64 0] 64;(have ⟨FG,FH,FI,FJ,_,_,_,_,_⟩:=Z.aM);(have ⟨Dw,Dx,Dy,Dz,_,_,_,_,_⟩:=S.aM);(have ⟨r0,r1,r2,r3,z0,z1,z2,z3,rl⟩:=R.aM))
   exact bodyPost_ret (v:=.tuple #[.agg #[.int .i64 0,.int .i64 0,.int .i64 0,.int .i64 0],.bool false]) (by simp [results,Tryz.results53,go_sem, *]) rfl (⟨by rw [hfin.out];rfl,yK (yK (yK (yK B (yM _) _) (yM _) _) (yM _) _) (yM _) _⟩)
  | some p=>
  have hps:M.aN p.1 p.2=true:=hpo p rfl;have e5:(some p:M.Sp).isSome=true:=rfl;rw [e5] at PX;clear e5
  have PA:=fun W=>np s p W hss hps
  have PS:=fun W=>ns s p W hss hps
  have hst:M.dt (some s) (some p) c=if c % 2=0 then M.es (some s) (some p) else M.cY (some s) (some p):=rfl
  have hnx2:=hnx.out;rw [hst] at hnx2;clear hst hnx hss hps hpo hds hdo hqs
  obtain ⟨ad,had⟩:∃ x,x=M.es (some s) (some p):=⟨_,rfl⟩
  obtain ⟨su,hsu⟩:∃ x,x=M.cY (some s) (some p):=⟨_,rfl⟩
  rw [←had,←hsu] at hnx2;rw [←had] at PA;rw [←hsu] at PS;clear had hsu;generalize M.zA (some p)=p1 at *;generalize M.zB (some p)=p2 at *;generalize M.zD (some p)=p3 at *;generalize M.zH (some p)=p4 at *;generalize M.zA (some s)=s1 at *;generalize M.zB (some s)=s2 at *;generalize M.zD (some s)=s3 at *;generalize M.zH (some s)=s4 at *;replace PX:=yI PX;have ht:Int.tmod ((c:Nat):Int) 2=((c % 2:Nat):Int):=(Int.ofNat_tmod c 2).symm
  rcases Nat.mod_two_eq_zero_or_one c with hp | hp
  ·rw [hp] at ht
   rw [if_pos hp] at hnx2;clear PS
   cases ad with
   | none=>
    have hfin:M.cj (n+1+1) m=none:=hno.out hnx2;have hfin:=yI hfin;have e9:=yI M.jN;rw [e9.out.1,e9.out.2.1,e9.out.2.2.1,e9.out.2.2.2.1,e9.out.2.2.2.2] at PA;clear e9;replace PA:=yI PA;clear hno hnx2 hnone hsome ih hs
    go_wp2_with first | (go_at_call 69;(with_reducible refine (PN.out _ hmw.out).mono ?_);rintro e w4 ⟨vo,rfl,Df,hb4⟩;replace B:=f_ B hb4;replace X:=X.keep hb4;replace S:=S.keep hb4;replace R:=R.keep hb4) | (go_at_call 53;(with_reducible refine (PD.out _ _ _ Df).mono ?_);rintro e w6 ⟨rfl,hb6⟩;replace B:=(f_ B hb6).alloc (Nat.le_trans B.size hb6.size) (.cells #[.int .i64 d1,.int .i64 d2,.int .i64 d3,.int .i64 d4] 64);replace X:=(X.keep hb6).alloc (.cells #[.int .i64 d1,.int .i64 d2,.int .i64 d3,.int .i64 d4] 64);replace S:=(S.keep hb6).alloc (.cells #[.int .i64 d1,.int .i64 d2,.int .i64 d3,.int .i64 d4] 64);replace R:=(R.keep hb6).alloc (.cells #[.int .i64 d1,.int .i64 d2,.int .i64 d3,.int .i64 d4] 64);have Y:=aH.new w6 #[.int .i64 d1,.int .i64 d2,.int .i64 d3,.int .i64 d4] 64;(have ⟨IJ,IK,IL,IM,_,_,_,_,_⟩:=Y.aM);(have ⟨IF,IG,IH,II,_,_,_,_,_⟩:=X.aM);(have ⟨r0,r1,r2,r3,z0,z1,z2,z3,rl⟩:=R.aM)) | (go_at_call 70;(with_reducible refine (PX.out _).mono ?_);rintro e w7 ⟨rfl,yi⟩;replace B:=(f_ B yi).alloc (Nat.le_trans B.size yi.size) (.cells #[.int .i64 p1,.int .i64 p2,.int .i64 p3,.int .i64 p4] 64);replace S:=(S.keep yi).alloc (.cells #[.int .i64 p1,.int .i64 p2,.int .i64 p3,.int .i64 p4] 64);replace R:=(R.keep yi).alloc (.cells #[.int .i64 p1,.int .i64 p2,.int .i64 p3,.int .i64 p4] 64);have Z:=aH.new w7 #[.int .i64 p1,.int .i64 p2,.int .i64 p3,.int .i64 p4] 64;(have ⟨FG,FH,FI,FJ,_,_,_,_,_⟩:=Z.aM);(have ⟨Dw,Dx,Dy,Dz,_,_,_,_,_⟩:=S.aM);(have ⟨r0,r1,r2,r3,z0,z1,z2,z3,rl⟩:=R.aM)) | (go_at_call 71;(with_reducible refine (PA.out _).mono ?_);rintro e w8 ⟨rfl,yY⟩;have H9:=yI (S.keep yY).lt;have GF:=yI (R.keep yY).lt;replace B:=(f_ B yY).alloc (Nat.le_trans B.size yY.size) (.cells #[.int .i64 0,.int .i64 0,.int .i64 0,.int .i64 0] 64);replace S:=(S.keep yY).alloc (.cells #[.int .i64 0,.int .i64 0,.int .i64 0,.int .i64 0] 64);replace R:=(R.keep yY).alloc (.cells #[.int .i64 0,.int .i64 0,.int .i64 0,.int .i64 0] 64);replace Z:=(Z.keep yY).alloc (.cells #[.int .i64 0,.int .i64 0,.int .i64 0,.int .i64 0] 64);have N:=aH.new w8 #[.int .i64 0,.int .i64 0,.int .i64 0,.int .i64 0] 64;(have ⟨IA,IB,IC,ID,IR,IU,IV,IW,nl⟩:=N.aM);(have ⟨FG,FH,FI,FJ,_,_,_,_,_⟩:=Z.aM);(have ⟨Dw,Dx,Dy,Dz,Im,In,Io,Ip,sl⟩:=S.aM);(have ⟨r0,r1,r2,r3,z0,z1,z2,z3,rl⟩:=R.aM))
    exact bodyPost_ret (v:=.tuple #[.agg #[.int .i64 0,.int .i64 0,.int .i64 0,.int .i64 0],.bool false]) (by simp [results,Tryz.results53,go_sem, *]) rfl (⟨by rw [hfin.out];rfl,yK (yK (yK (yK B (yM _) _) (yM _) _) (yM _) _) (yM _) _⟩)
   | some sx=>
   have hnx:=yI hnx2;have e5:(some sx:M.Sp).isSome=true:=rfl;rw [e5] at PA;clear e5 hnx2
   obtain ⟨x1,hx1⟩:∃ x,x=M.zA (some sx):=⟨_,rfl⟩
   obtain ⟨x2,hx2⟩:∃ x,x=M.zB (some sx):=⟨_,rfl⟩
   obtain ⟨x3,hx3⟩:∃ x,x=M.zD (some sx):=⟨_,rfl⟩
   obtain ⟨x4,hx4⟩:∃ x,x=M.zH (some sx):=⟨_,rfl⟩
   rw [←hx1,←hx2,←hx3,←hx4] at PA;replace hx1:=yI hx1;replace hx2:=yI hx2;replace hx3:=yI hx3;replace hx4:=yI hx4;replace PA:=yI PA
   go_wp2_with first | (go_at_call 69;(with_reducible refine (PN.out _ hmw.out).mono ?_);rintro e w4 ⟨vo,rfl,Df,hb4⟩;replace B:=f_ B hb4;replace X:=X.keep hb4;replace S:=S.keep hb4;replace R:=R.keep hb4) | (go_at_call 53;(with_reducible refine (PD.out _ _ _ Df).mono ?_);rintro e w6 ⟨rfl,hb6⟩;replace B:=(f_ B hb6).alloc (Nat.le_trans B.size hb6.size) (.cells #[.int .i64 d1,.int .i64 d2,.int .i64 d3,.int .i64 d4] 64);replace X:=(X.keep hb6).alloc (.cells #[.int .i64 d1,.int .i64 d2,.int .i64 d3,.int .i64 d4] 64);replace S:=(S.keep hb6).alloc (.cells #[.int .i64 d1,.int .i64 d2,.int .i64 d3,.int .i64 d4] 64);replace R:=(R.keep hb6).alloc (.cells #[.int .i64 d1,.int .i64 d2,.int .i64 d3,.int .i64 d4] 64);have Y:=aH.new w6 #[.int .i64 d1,.int .i64 d2,.int .i64 d3,.int .i64 d4] 64;(have ⟨IJ,IK,IL,IM,_,_,_,_,_⟩:=Y.aM);(have ⟨IF,IG,IH,II,_,_,_,_,_⟩:=X.aM);(have ⟨r0,r1,r2,r3,z0,z1,z2,z3,rl⟩:=R.aM)) | (go_at_call 70;(with_reducible refine (PX.out _).mono ?_);rintro e w7 ⟨rfl,yi⟩;replace B:=(f_ B yi).alloc (Nat.le_trans B.size yi.size) (.cells #[.int .i64 p1,.int .i64 p2,.int .i64 p3,.int .i64 p4] 64);replace S:=(S.keep yi).alloc (.cells #[.int .i64 p1,.int .i64 p2,.int .i64 p3,.int .i64 p4] 64);replace R:=(R.keep yi).alloc (.cells #[.int .i64 p1,.int .i64 p2,.int .i64 p3,.int .i64 p4] 64);have Z:=aH.new w7 #[.int .i64 p1,.int .i64 p2,.int .i64 p3,.int .i64 p4] 64;(have ⟨FG,FH,FI,FJ,_,_,_,_,_⟩:=Z.aM);(have ⟨Dw,Dx,Dy,Dz,_,_,_,_,_⟩:=S.aM);(have ⟨r0,r1,r2,r3,z0,z1,z2,z3,rl⟩:=R.aM)) | (go_at_call 71;(with_reducible refine (PA.out _).mono ?_);rintro e w8 ⟨rfl,yY⟩;have H9:=yI (S.keep yY).lt;have GF:=yI (R.keep yY).lt;replace B:=(f_ B yY).alloc (Nat.le_trans B.size yY.size) (.cells #[.int .i64 x1,.int .i64 x2,.int .i64 x3,.int .i64 x4] 64);replace S:=(S.keep yY).alloc (.cells #[.int .i64 x1,.int .i64 x2,.int .i64 x3,.int .i64 x4] 64);replace R:=(R.keep yY).alloc (.cells #[.int .i64 x1,.int .i64 x2,.int .i64 x3,.int .i64 x4] 64);replace Z:=(Z.keep yY).alloc (.cells #[.int .i64 x1,.int .i64 x2,.int .i64 x3,.int .i64 x4] 64);have N:=aH.new w8 #[.int .i64 x1,.int .i64 x2,.int .i64 x3,.int .i64 x4] 64;(have ⟨IA,IB,IC,ID,IR,IU,IV,IW,nl⟩:=N.aM);(have ⟨FG,FH,FI,FJ,_,_,_,_,_⟩:=Z.aM);(have ⟨Dw,Dx,Dy,Dz,Im,In,Io,Ip,sl⟩:=S.aM);(have ⟨r0,r1,r2,r3,z0,z1,z2,z3,rl⟩:=R.aM))
   go_roundw
   case rel=>exact ⟨c+1,sx,by omega,by go_num,hnx,by rw [←hx1.out,←hx2.out,←hx3.out,←hx4.out];exact aH.kz S _ _ _ _,R.fz nRS _ _ _ _,by rw [ae,ae,ae,ae];omega,yK (yK (yK (yK B hsb _) hsb _) hsb _) hsb _⟩
   case measure=>simp [intOf] <;> omega
  rw [hp] at ht;rw [if_neg (by omega)] at hnx2;generalize M.zA ad=v1 at *;generalize M.zB ad=v2 at *;generalize M.zD ad=v3 at *;generalize M.zH ad=v4 at *;generalize ad.isSome=fv at *;replace PA:=yI PA
  cases su with
  | none=>
   have hfin:M.cj (n+1+1) m=none:=hno.out hnx2;have hfin:=yI hfin;have e9:=yI M.jN;rw [e9.out.1,e9.out.2.1,e9.out.2.2.1,e9.out.2.2.2.1,e9.out.2.2.2.2] at PS;clear e9;replace PS:=yI PS;clear hno hnx2 hnone hsome ih hs
   go_wp2_with first | (go_at_call 69;(with_reducible refine (PN.out _ hmw.out).mono ?_);rintro e w4 ⟨vo,rfl,Df,hb4⟩;replace B:=f_ B hb4;replace X:=X.keep hb4;replace S:=S.keep hb4;replace R:=R.keep hb4) | (go_at_call 53;(with_reducible refine (PD.out _ _ _ Df).mono ?_);rintro e w6 ⟨rfl,hb6⟩;replace B:=(f_ B hb6).alloc (Nat.le_trans B.size hb6.size) (.cells #[.int .i64 d1,.int .i64 d2,.int .i64 d3,.int .i64 d4] 64);replace X:=(X.keep hb6).alloc (.cells #[.int .i64 d1,.int .i64 d2,.int .i64 d3,.int .i64 d4] 64);replace S:=(S.keep hb6).alloc (.cells #[.int .i64 d1,.int .i64 d2,.int .i64 d3,.int .i64 d4] 64);replace R:=(R.keep hb6).alloc (.cells #[.int .i64 d1,.int .i64 d2,.int .i64 d3,.int .i64 d4] 64);have Y:=aH.new w6 #[.int .i64 d1,.int .i64 d2,.int .i64 d3,.int .i64 d4] 64;(have ⟨IJ,IK,IL,IM,_,_,_,_,_⟩:=Y.aM);(have ⟨IF,IG,IH,II,_,_,_,_,_⟩:=X.aM);(have ⟨r0,r1,r2,r3,z0,z1,z2,z3,rl⟩:=R.aM)) | (go_at_call 70;(with_reducible refine (PX.out _).mono ?_);rintro e w7 ⟨rfl,yi⟩;replace B:=(f_ B yi).alloc (Nat.le_trans B.size yi.size) (.cells #[.int .i64 p1,.int .i64 p2,.int .i64 p3,.int .i64 p4] 64);replace S:=(S.keep yi).alloc (.cells #[.int .i64 p1,.int .i64 p2,.int .i64 p3,.int .i64 p4] 64);replace R:=(R.keep yi).alloc (.cells #[.int .i64 p1,.int .i64 p2,.int .i64 p3,.int .i64 p4] 64);have Z:=aH.new w7 #[.int .i64 p1,.int .i64 p2,.int .i64 p3,.int .i64 p4] 64;(have ⟨FG,FH,FI,FJ,_,_,_,_,_⟩:=Z.aM);(have ⟨Dw,Dx,Dy,Dz,_,_,_,_,_⟩:=S.aM);(have ⟨r0,r1,r2,r3,z0,z1,z2,z3,rl⟩:=R.aM)) | (go_at_call 71;(with_reducible refine (PA.out _).mono ?_);rintro e w8 ⟨rfl,yY⟩;have H9:=yI (S.keep yY).lt;have GF:=yI (R.keep yY).lt;replace B:=(f_ B yY).alloc (Nat.le_trans B.size yY.size) (.cells #[.int .i64 v1,.int .i64 v2,.int .i64 v3,.int .i64 v4] 64);replace S:=(S.keep yY).alloc (.cells #[.int .i64 v1,.int .i64 v2,.int .i64 v3,.int .i64 v4] 64);replace R:=(R.keep yY).alloc (.cells #[.int .i64 v1,.int .i64 v2,.int .i64 v3,.int .i64 v4] 64);replace Z:=(Z.keep yY).alloc (.cells #[.int .i64 v1,.int .i64 v2,.int .i64 v3,.int .i64 v4] 64);have N:=aH.new w8 #[.int .i64 v1,.int .i64 v2,.int .i64 v3,.int .i64 v4] 64;(have ⟨IA,IB,IC,ID,IR,IU,IV,IW,nl⟩:=N.aM);(have ⟨FG,FH,FI,FJ,_,_,_,_,_⟩:=Z.aM);(have ⟨Dw,Dx,Dy,Dz,Im,In,Io,Ip,sl⟩:=S.aM);(have ⟨r0,r1,r2,r3,z0,z1,z2,z3,rl⟩:=R.aM)) | (go_at_call 72;(with_reducible refine (PS.out _).mono ?_);rintro e w9 ⟨rfl,yZ⟩;(have NE:sb≠w8.heap.size:=by have:=H9.out;omega);(have M5:w.heap.size≤w8.heap.size:=by have:=GF.out;omega);(have zV:w.heap.size≠w8.heap.size:=by have:=GF.out;omega);replace B:=yK (yK (yK (yK (f_ B yZ) (p:=⟨w8.heap.size,0,none⟩) (by show w.heap.size≤w8.heap.size;omega) (.int .i64 0)) (p:=⟨w8.heap.size,1,none⟩) (by show w.heap.size≤w8.heap.size;omega) (.int .i64 0)) (p:=⟨w8.heap.size,2,none⟩) (by show w.heap.size≤w8.heap.size;omega) (.int .i64 0)) (p:=⟨w8.heap.size,3,none⟩) (by show w.heap.size≤w8.heap.size;omega) (.int .i64 0);replace S:=(S.keep yZ).fz NE (.int .i64 0) (.int .i64 0) (.int .i64 0) (.int .i64 0);replace R:=(R.keep yZ).fz zV (.int .i64 0) (.int .i64 0) (.int .i64 0) (.int .i64 0);replace N:=(N.keep yZ);(have ⟨IA,IB,IC,ID,IR,IU,IV,IW,nl⟩:=N.aM);replace N:=N.kz (.int .i64 0) (.int .i64 0) (.int .i64 0) (.int .i64 0);(have ⟨km0,km1,km2,km3,_,_,_,_,_⟩:=N.aM);(have ⟨Dw,Dx,Dy,Dz,Im,In,Io,Ip,sl⟩:=S.aM);(have ⟨r0,r1,r2,r3,z0,z1,z2,z3,rl⟩:=R.aM))
   exact bodyPost_ret (v:=.tuple #[.agg #[.int .i64 0,.int .i64 0,.int .i64 0,.int .i64 0],.bool false]) (by simp [results,Tryz.results53,go_sem, *]) rfl (⟨by rw [hfin.out];rfl,yK (yK (yK (yK B (yM _) _) (yM _) _) (yM _) _) (yM _) _⟩)
  | some sx=>
  have hnx:=yI hnx2;have e5:(some sx:M.Sp).isSome=true:=rfl;rw [e5] at PS;clear e5 hnx2
  obtain ⟨x1,hx1⟩:∃ x,x=M.zA (some sx):=⟨_,rfl⟩
  obtain ⟨x2,hx2⟩:∃ x,x=M.zB (some sx):=⟨_,rfl⟩
  obtain ⟨x3,hx3⟩:∃ x,x=M.zD (some sx):=⟨_,rfl⟩
  obtain ⟨x4,hx4⟩:∃ x,x=M.zH (some sx):=⟨_,rfl⟩
  rw [←hx1,←hx2,←hx3,←hx4] at PS;replace hx1:=yI hx1;replace hx2:=yI hx2;replace hx3:=yI hx3;replace hx4:=yI hx4;replace PS:=yI PS
  go_wp2_with first | (go_at_call 69;(with_reducible refine (PN.out _ hmw.out).mono ?_);rintro e w4 ⟨vo,rfl,Df,hb4⟩;replace B:=f_ B hb4;replace X:=X.keep hb4;replace S:=S.keep hb4;replace R:=R.keep hb4) | (go_at_call 53;(with_reducible refine (PD.out _ _ _ Df).mono ?_);rintro e w6 ⟨rfl,hb6⟩;replace B:=(f_ B hb6).alloc (Nat.le_trans B.size hb6.size) (.cells #[.int .i64 d1,.int .i64 d2,.int .i64 d3,.int .i64 d4] 64);replace X:=(X.keep hb6).alloc (.cells #[.int .i64 d1,.int .i64 d2,.int .i64 d3,.int .i64 d4] 64);replace S:=(S.keep hb6).alloc (.cells #[.int .i64 d1,.int .i64 d2,.int .i64 d3,.int .i64 d4] 64);replace R:=(R.keep hb6).alloc (.cells #[.int .i64 d1,.int .i64 d2,.int .i64 d3,.int .i64 d4] 64);have Y:=aH.new w6 #[.int .i64 d1,.int .i64 d2,.int .i64 d3,.int .i64 d4] 64;(have ⟨IJ,IK,IL,IM,_,_,_,_,_⟩:=Y.aM);(have ⟨IF,IG,IH,II,_,_,_,_,_⟩:=X.aM);(have ⟨r0,r1,r2,r3,z0,z1,z2,z3,rl⟩:=R.aM)) | (go_at_call 70;(with_reducible refine (PX.out _).mono ?_);rintro e w7 ⟨rfl,yi⟩;replace B:=(f_ B yi).alloc (Nat.le_trans B.size yi.size) (.cells #[.int .i64 p1,.int .i64 p2,.int .i64 p3,.int .i64 p4] 64);replace S:=(S.keep yi).alloc (.cells #[.int .i64 p1,.int .i64 p2,.int .i64 p3,.int .i64 p4] 64);replace R:=(R.keep yi).alloc (.cells #[.int .i64 p1,.int .i64 p2,.int .i64 p3,.int .i64 p4] 64);have Z:=aH.new w7 #[.int .i64 p1,.int .i64 p2,.int .i64 p3,.int .i64 p4] 64;(have ⟨FG,FH,FI,FJ,_,_,_,_,_⟩:=Z.aM);(have ⟨Dw,Dx,Dy,Dz,_,_,_,_,_⟩:=S.aM);(have ⟨r0,r1,r2,r3,z0,z1,z2,z3,rl⟩:=R.aM)) | (go_at_call 71;(with_reducible refine (PA.out _).mono ?_);rintro e w8 ⟨rfl,yY⟩;have H9:=yI (S.keep yY).lt;have GF:=yI (R.keep yY).lt;replace B:=(f_ B yY).alloc (Nat.le_trans B.size yY.size) (.cells #[.int .i64 v1,.int .i64 v2,.int .i64 v3,.int .i64 v4] 64);replace S:=(S.keep yY).alloc (.cells #[.int .i64 v1,.int .i64 v2,.int .i64 v3,.int .i64 v4] 64);replace R:=(R.keep yY).alloc (.cells #[.int .i64 v1,.int .i64 v2,.int .i64 v3,.int .i64 v4] 64);replace Z:=(Z.keep yY).alloc (.cells #[.int .i64 v1,.int .i64 v2,.int .i64 v3,.int .i64 v4] 64);have N:=aH.new w8 #[.int .i64 v1,.int .i64 v2,.int .i64 v3,.int .i64 v4] 64;(have ⟨IA,IB,IC,ID,IR,IU,IV,IW,nl⟩:=N.aM);(have ⟨FG,FH,FI,FJ,_,_,_,_,_⟩:=Z.aM);(have ⟨Dw,Dx,Dy,Dz,Im,In,Io,Ip,sl⟩:=S.aM);(have ⟨r0,r1,r2,r3,z0,z1,z2,z3,rl⟩:=R.aM)) | (go_at_call 72;(with_reducible refine (PS.out _).mono ?_);rintro e w9 ⟨rfl,yZ⟩;(have NE:sb≠w8.heap.size:=by have:=H9.out;omega);(have M5:w.heap.size≤w8.heap.size:=by have:=GF.out;omega);(have zV:w.heap.size≠w8.heap.size:=by have:=GF.out;omega);replace B:=yK (yK (yK (yK (f_ B yZ) (p:=⟨w8.heap.size,0,none⟩) (by show w.heap.size≤w8.heap.size;omega) (.int .i64 x1)) (p:=⟨w8.heap.size,1,none⟩) (by show w.heap.size≤w8.heap.size;omega) (.int .i64 x2)) (p:=⟨w8.heap.size,2,none⟩) (by show w.heap.size≤w8.heap.size;omega) (.int .i64 x3)) (p:=⟨w8.heap.size,3,none⟩) (by show w.heap.size≤w8.heap.size;omega) (.int .i64 x4);replace S:=(S.keep yZ).fz NE (.int .i64 x1) (.int .i64 x2) (.int .i64 x3) (.int .i64 x4);replace R:=(R.keep yZ).fz zV (.int .i64 x1) (.int .i64 x2) (.int .i64 x3) (.int .i64 x4);replace N:=(N.keep yZ);(have ⟨IA,IB,IC,ID,IR,IU,IV,IW,nl⟩:=N.aM);replace N:=N.kz (.int .i64 x1) (.int .i64 x2) (.int .i64 x3) (.int .i64 x4);(have ⟨km0,km1,km2,km3,_,_,_,_,_⟩:=N.aM);(have ⟨Dw,Dx,Dy,Dz,Im,In,Io,Ip,sl⟩:=S.aM);(have ⟨r0,r1,r2,r3,z0,z1,z2,z3,rl⟩:=R.aM))
  go_roundw
  case rel=>exact ⟨c+1,sx,by omega,by go_num,hnx,by rw [←hx1.out,←hx2.out,←hx3.out,←hx4.out];exact aH.kz S _ _ _ _,R.fz nRS _ _ _ _,by rw [ae,ae,ae,ae];omega,yK (yK (yK (yK B hsb _) hsb _) hsb _) hsb _⟩
  case measure=>simp [intOf] <;> omega
 obtain rfl:c=n+2:=by omega
 have hd:M.cj (n+1+1) m=some s:=by rw [←hs.out];exact hsome.out
 have hd:=yI hd
 obtain ⟨x1,hx1⟩:∃ x,x=M.zA (some s):=⟨_,rfl⟩
 obtain ⟨x2,hx2⟩:∃ x,x=M.zB (some s):=⟨_,rfl⟩
 obtain ⟨x3,hx3⟩:∃ x,x=M.zD (some s):=⟨_,rfl⟩
 obtain ⟨x4,hx4⟩:∃ x,x=M.zH (some s):=⟨_,rfl⟩
 rw [←hx1,←hx2,←hx3,←hx4] at S;replace hx1:=yI hx1;replace hx2:=yI hx2;replace hx3:=yI hx3;replace hx4:=yI hx4;have ⟨Dw,Dx,Dy,Dz,_,_,_,_,_⟩:=S.aM;have ⟨r0,r1,r2,r3,z0,z1,z2,z3,rl⟩:=R.aM;go_wp2;exact bodyPost_ret (v:=.tuple #[.agg #[.int .i64 x1,.int .i64 x2,.int .i64 x3,.int .i64 x4],.bool true]) (by simp [results,Tryz.results53,go_sem, *]) rfl (⟨by rw [hd.out,hx1.out,hx2.out,hx3.out,hx4.out];rfl,yK (yK (yK (yK B (yM _) _) (yM _) _) (yM _) _) (yM _) _⟩)
namespace M
theorem vJ {a b:Int} {l:List Pt} {i j:Nat}:AP (ent a b l i j):=by
 have hp:∀ X1 Y1 E1 X2 Y2 E2,AP (db a b X1 Y1 E1 X2 Y2 E2):=fun X1 Y1 E1 X2 Y2 E2=>by
  unfold db
  split
  ·exact jT
  exact eP
 unfold ent
 split
 ·split
  ·exact qT
  split <;> exact hp _ _ _ _ _ _
 exact eP
theorem oY {s:Sp} (h:s.isSome=true):some (JX s)=s:=by
 cases s with
 | none=>cases h
 | some p=>rfl
theorem qG {a b:Int} {l:List Pt} (h:Ah a b l=true) {i j:Nat} (hi:i<l.length) (hj:j<l.length):(ent a b l i j).isSome=true:=by
 unfold Ah at h;simp only [List.all_eq_true,List.mem_range] at h;exact h i hi j hj
theorem kQ {a b:Int} {l:List Pt} (h:Ah a b l=true):dr a b l=(List.range l.length).map (fun i=>(List.range l.length).map fun j=>JX (ent a b l i j)):=by
 unfold dr;rw [h];rfl
theorem nw {a b:Int} {l:List Pt} (h:Ah a b l=true):square l.length (dr a b l):=by
 rw [kQ h];refine ⟨by rw [List.length_map,List.length_range],fun r hr=>?_⟩;obtain ⟨i,hi,rfl⟩:=List.mem_map.1 hr;rw [List.length_map,List.length_range]
theorem kR {a b:Int} {l:List Pt} (h:Ah a b l=true):GV (dr a b l):=by
 rw [kQ h];intro r hr q hq;obtain ⟨i,hi,rfl⟩:=List.mem_map.1 hr;obtain ⟨j,hj,rfl⟩:=List.mem_map.1 hq;have:=qG h (List.mem_range.1 hi) (List.mem_range.1 hj);exact vJ (a:=a) (b:=b) (l:=l) (i:=i) (j:=j) _ (oY this).symm
theorem tn {a b:Int} {l:List Pt} (h:Ah a b l=true):lO a b l=CB (dr a b l):=by
 rw [lP h,kQ h];unfold CB jD;rw [List.map_map]
 refine List.map_congr_left fun i hi=>?_
 simp only [Function.comp,List.map_map]
 refine List.map_congr_left fun j hj=>?_
 simp only [Function.comp];rw [oY (qG h (List.mem_range.1 hi) (List.mem_range.1 hj))]
noncomputable def dA (a b:Int) (l:List Pt):Sp:=if Ah a b l=true then cj l.length (dr a b l) else none
theorem mX {a b:Int} {l:List Pt} (h:Ah a b l=false):dA a b l=none:=by unfold dA;rw [h];rfl
theorem kU {a b:Int} {l:List Pt} (h:Ah a b l=true):dA a b l=cj l.length (dr a b l):=by unfold dA;rw [h];rfl
theorem q7 (n:Nat) (m:zL):fd true n m=cj n m:=by
 unfold fd
 split
 ·rename_i h;rw [h]
 rfl
end M
theorem oM (a b:Int) (v:Value) (l:List Pt) (w:World) (hx:dc w v l) (hg:M.good a b=true) (h1:1≤l.length) (hn:l.length≤4) (hp:∀ p ∈ l,M.bS a b p.1 p.2.1 p.2.2=true) :
  Calls Tryz.prog 35 #[.agg #[.int .i64 a,.int .i64 b],v] w fun e w'=>e=.returned (.tuple #[.agg #[.int .i64 (M.yu (M.dA a b l)),.int .i64 (M.yx (M.dA a b l))],.bool (M.dA a b l).isSome])∧Below w.heap.size w w':=by
 obtain ⟨n,hl⟩:∃ n,l.length=n+1:=⟨l.length - 1,by omega⟩
 have PM:=fun W h=>jE a b v l W h hg hn hp
 have PD:=fun (h:M.Ah a b l=true) v g base W hm K=>xf n (M.dr a b l) v g base true W (by omega) (by rw [←hl];exact M.nw h) (M.kR h) hm K
 have En:=fun h=>M.kU (a:=a) (b:=b) (l:=l) h
 have hrn:=fun h=>M.mX (a:=a) (b:=b) (l:=l) h
 rw [hl] at En;generalize M.dr a b l=rows,M.dA a b l=rs at *;replace hx:=yI hx;obtain ⟨wc,hw3,C,R,B⟩:=gW w #[.int .i64 a,.int .i64 b] 29 #[.int .i64 0,.int .i64 0] 68;have hxc:=yI (hx.out.below B)
 have hzz:w.heap.size+2≤wc.heap.size:=by have:=R.lt;omega
 have j_:=C.box.c0;have l_:=C.box.c1
 cases hm:M.Ah a b l with
 | false=>
  rw [hm] at PM;have hfin:=yI (hrn hm);replace PM:=yI PM;clear PD En hrn hm;go_enter Tryz.func35,Tryz.ntmps35
  go_wp2_with (go_at_call 58;(with_reducible refine (PM.out _ hxc.out).mono ?_);rintro e w4 ⟨mv,rfl,hM,hb4⟩;replace B:=f_ B hb4;replace R:=R.keep hb4;(have ⟨r0,r1,z0,z1,rl⟩:=R.box))
  exact bodyPost_ret (v:=.tuple #[.agg #[.int .i64 0,.int .i64 0],.bool false]) (by simp [results,Tryz.results35,go_sem, *]) rfl (⟨by rw [hfin.out];rfl,yK (yK B (by simp) _) (by simp) _⟩)
 | true=>
 rw [hm] at PM;replace PD:=PD hm;simp only [M.q7,Bool.true_and] at PD;rw [←En hm] at PD;replace PM:=yI PM;replace PD:=yI PD;generalize M.yx rs=hi,M.yu rs=lo,rs.isSome=f at *;clear En hrn hm;go_enter Tryz.func35,Tryz.ntmps35
 go_wp2_with first | (go_at_call 58;(with_reducible refine (PM.out _ hxc.out).mono ?_);rintro e w4 ⟨mv,rfl,hM,hb4⟩;have Ab:=hb4.size;have Ba:=(yL w4.heap.size w4).alloc (yM _) (.cells #[.bool true] 94);have K:=aH.new w4 #[.bool true] 94;replace hM:=yI (hM.below Ba);replace R:=(R.keep hb4).keep Ba;replace B:=(f_ B hb4).trans (Ba.mono (Nat.le_trans B.size hb4.size));(have nR:w.heap.size+1≠w4.heap.size:=by omega);have hsz:=B.size;(have nB:w.heap.size≤w4.heap.size:=by omega);clear Ba j_ l_ C hxc) | (go_at_call 59;(with_reducible refine (PD.out _ _ _ _ hM.out K).mono ?_);rintro e w6 ⟨rfl,hb6⟩;have yi:=bF hb6;replace R:=(R.other (i:=0) nR (.bool f)).keep yi;replace K:=(K.one (.bool f)).keep yi;replace B:=(yK B nB (.bool f)).trans (hb6.mono hsz);have Ba:=(yL w6.heap.size w6).alloc (yM _) (.cells #[.int .i64 lo,.int .i64 hi] 68);have V:=aH.new w6 #[.int .i64 lo,.int .i64 hi] 68;replace B:=f_ B Ba;replace R:=R.keep Ba;replace K:=K.keep Ba;have k0:=K.cell 0;(have ⟨v0,v1,_,_,_⟩:=V.box);(have ⟨r0,r1,z0,z1,rl⟩:=R.box);clear hb6 yi Ba)
 go_region
 all_goals
  go_wp2;exact bodyPost_ret (v:=.tuple #[.agg #[.int .i64 lo,.int .i64 hi],.bool f]) (by simp [results,Tryz.results35,go_sem, *]) rfl (⟨rfl,Below.drew (yK (yK B (by simp) _) (by simp) _)⟩)
theorem kk (a b:Int) (v:Value) (l:List Pt) (w:World) (hx:dc w v l) (hg:M.good a b=true) (h1:1≤l.length) (hn:l.length≤4) (hp:∀ p ∈ l,M.bS a b p.1 p.2.1 p.2.2=true) :
  Calls Tryz.prog 33 #[.agg #[.int .i64 a,.int .i64 b],v] w fun e w'=>e=.returned (.tuple #[.agg #[.int .i64 (M.zA (M.dA a b l)),.int .i64 (M.zB (M.dA a b l)),.int .i64 (M.zD (M.dA a b l)),.int .i64 (M.zH (M.dA a b l))],.bool (M.dA a b l).isSome])∧Below w.heap.size w w':=by
 obtain ⟨n,hl⟩:∃ n,l.length=n+1:=⟨l.length - 1,by omega⟩
 have PM:=fun W h=>pO a b v l W h hg hn hp
 have PD:=fun (h:M.Ah a b l=true) v base W hm=>u7 n (M.dr a b l) v base W (by omega) (by rw [←hl];exact M.nw h) (M.kR h) hm
 have En:=fun h=>M.kU (a:=a) (b:=b) (l:=l) h
 have hrn:=fun h=>M.mX (a:=a) (b:=b) (l:=l) h
 have hiv:=fun h=>M.tn (a:=a) (b:=b) (l:=l) h
 rw [hl] at En;generalize M.dr a b l=rows,M.dA a b l=rs at *;replace hx:=yI hx;obtain ⟨wc,hw3,C,R,B⟩:=gW w #[.int .i64 a,.int .i64 b] 29 #[.int .i64 0,.int .i64 0,.int .i64 0,.int .i64 0] 64;have hxc:=yI (hx.out.below B);have j_:=C.box.c0;have l_:=C.box.c1
 cases hm:M.Ah a b l with
 | false=>
  rw [hm] at PM;have hfin:=yI (hrn hm);replace PM:=yI PM;clear PD En hrn hm;go_enter Tryz.func33,Tryz.ntmps33
  go_wp2_with (go_at_call 52;(with_reducible refine (PM.out _ hxc.out).mono ?_);rintro e w4 ⟨mv,rfl,hM,hb4⟩;replace B:=f_ B hb4;replace R:=R.keep hb4;(have ⟨r0,r1,r2,r3,z0,z1,z2,z3,rl⟩:=R.aM))
  exact bodyPost_ret (v:=.tuple #[.agg #[.int .i64 0,.int .i64 0,.int .i64 0,.int .i64 0],.bool false]) (by simp [results,Tryz.results33,go_sem, *]) rfl (⟨by rw [hfin.out];rfl,yK (yK (yK (yK B (by simp) _) (by simp) _) (by simp) _) (by simp) _⟩)
 | true=>
 rw [hm] at PM;replace PD:=PD hm;rw [←En hm] at PD;rw [hiv hm] at PM;replace PM:=yI PM;replace PD:=yI PD;generalize M.zH rs=i4,M.zD rs=i3,M.zB rs=i2,M.zA rs=i1,rs.isSome=f at *;clear En hrn hm hiv;go_enter Tryz.func33,Tryz.ntmps33
 go_wp2_with first | (go_at_call 52;(with_reducible refine (PM.out _ hxc.out).mono ?_);rintro e w4 ⟨mv,rfl,hM,hb4⟩;replace hM:=yI hM;replace B:=f_ B hb4;replace R:=R.keep hb4) | (go_at_call 53;(with_reducible refine (PD.out _ _ _ hM.out).mono ?_);rintro e w6 ⟨rfl,hb6⟩;replace B:=f_ B hb6;replace R:=R.keep hb6;(have ⟨r0,r1,r2,r3,z0,z1,z2,z3,rl⟩:=R.aM))
 exact bodyPost_ret (v:=.tuple #[.agg #[.int .i64 i1,.int .i64 i2,.int .i64 i3,.int .i64 i4],.bool f]) (by simp [results,Tryz.results33,go_sem, *]) rfl (⟨rfl,yK (yK (yK (yK B (by simp) _) (by simp) _) (by simp) _) (by simp) _⟩)
end
section
open Go.RowKit Go.Shelf
def yU:Rw.Enc (Int × Int × Int) where
 t:=57
 k:=3
 cells:=fun q=>[.int .i64 q.1,.int .i64 q.2.1,.int .i64 q.2.2]
 len:=fun _=>rfl
 one:=fun x u hu=>by simp only [List.mem_cons,List.not_mem_nil,or_false] at hu;rcases hu with rfl | rfl | rfl <;> rfl
 pos:=by decide
theorem pQ:(Tryz.prog.info? 57).map (fun i=>(i.zero,i.size,i.bytes))=some (some (.agg #[.int .i64 0,.int .i64 0,.int .i64 0]),3,24):=by kernel_rfl
theorem j6:Rw.Fits Tryz.prog yU 31:=⟨Tryz.underlying31,by
 obtain ⟨i0,hi,hz0,hz1,hz2⟩:=info_parts pQ
 exact ⟨i0,_,hi,hz0,hz1,by omega,rfl⟩⟩
theorem Rw.Seen.pts {w:World} {hi:Nat} {v:Value} {l:List Pt} (h:Rw.Seen yU w hi v l):dc w v l:=by
 obtain ⟨a,cap,rfl,h1,h2,h3⟩:=h;refine ⟨a,cap,rfl,?_⟩
 cases l with
 | nil=>exact Or.inl rfl
 | cons p l=>
 obtain ⟨g,x,e,-⟩:=h3 0 (by simp);refine Or.inr ⟨g,e,fun i y hy=>?_⟩;obtain ⟨g2,x2,e2,-,hx2,hc⟩:=h3 i (List.getElem?_eq_some_iff.1 hy).1;rw [e] at e2
 injection e2 with e2
 injection e2 with e2
 subst e2;rw [hy] at hx2;obtain rfl:=Option.some.inj hx2.out;exact ⟨hc 0 _ rfl,hc 1 _ rfl,hc 2 _ rfl⟩
theorem pm (a b:Int) (w:World) :
  Calls Tryz.prog 10 #[.agg #[.int .i64 a,.int .i64 b]] w fun e w'=>e=.returned (.agg #[.int .i64 a,.int .i64 b])∧Below w.heap.size w w':=by
 go_enter Tryz.func10,Tryz.ntmps10
 go_wp2;exact bodyPost_ret (v:=.agg #[.int .i64 a,.int .i64 b]) (by simp [results,Tryz.results10,go_sem, *]) rfl (⟨rfl,(by repeat (first | exact yL _ _ | refine aQ ?_ _ | refine aS ?_ (by assumption) | refine Below.drew ?_ | refine yK ?_ (by first | exact yM _ | exact Nat.le_add_right _ _ | (simp <;> omega)) _ | refine aL ?_ _))⟩)
theorem ry (a b c:Int) (w:World) :
  Calls Tryz.prog 28 #[.agg #[.int .i64 a,.int .i64 b,.int .i64 c]] w fun e w'=>e=.returned (.agg #[.int .i64 a,.int .i64 b,.int .i64 c])∧Below w.heap.size w w':=by
 go_enter Tryz.func28,Tryz.ntmps28
 go_wp2;exact bodyPost_ret (v:=.agg #[.int .i64 a,.int .i64 b,.int .i64 c]) (by simp [results,Tryz.results28,go_sem, *]) rfl (⟨rfl,(by repeat (first | exact yL _ _ | refine aQ ?_ _ | refine aS ?_ (by assumption) | refine Below.drew ?_ | refine yK ?_ (by first | exact yM _ | exact Nat.le_add_right _ _ | (simp <;> omega)) _ | refine aL ?_ _))⟩)
theorem rC (a b c d e f:Int) (w:World) :
  Calls Tryz.prog 37 #[.agg #[.int .i64 a,.int .i64 b,.int .i64 c],.agg #[.int .i64 d,.int .i64 e,.int .i64 f]] w fun r w'=>r=.returned (.bool (decide ((a,b,c)=(d,e,f))))∧Below w.heap.size w w':=by
 by_cases h1:a=d <;> by_cases h2:b=e <;> by_cases h3:c=f
 all_goals
  go_enter Tryz.func37,Tryz.ntmps37
  go_wp2;go_ret;exact ⟨dB (by simp [h1,h2,h3]),(by repeat (first | exact yL _ _ | refine aQ ?_ _ | refine aS ?_ (by assumption) | refine Below.drew ?_ | refine yK ?_ (by first | exact yM _ | exact Nat.le_add_right _ _ | (simp <;> omega)) _ | refine aL ?_ _))⟩
theorem wG {w:World} {base g n cap j:Nat} {xs:List (Int × Int × Int)} (hn:n=xs.length) (h:Rw.Own yU w base (.slice (some ⟨g,0,none⟩) n cap) xs) (hj:j<n) (c:Int × Int × Int) {ys:List (Int × Int × Int)} (hy:ys=xs.set j c) :
  Rw.Own yU (((w.setCell ⟨g,j*3,none⟩ (.int .i64 c.1)).setCell ⟨g,j*3+1,none⟩ (.int .i64 c.2.1)).setCell ⟨g,j*3+2,none⟩ (.int .i64 c.2.2)) base (.slice (some ⟨g,0,none⟩) n cap) ys∧w.grownBy (((w.setCell ⟨g,j*3,none⟩ (.int .i64 c.1)).setCell ⟨g,j*3+1,none⟩ (.int .i64 c.2.1)).setCell ⟨g,j*3+2,none⟩ (.int .i64 c.2.2)) (some g):=by
 subst hn hy;have h1:=World.ownsRow.stored (g:=g) (cap:=cap) h (j*3) (.int .i64 c.1);have h2:=World.ownsRow.stored (g:=g) (cap:=cap) h1.1 (j*3+1) (.int .i64 c.2.1);have h3:=World.ownsRow.stored (g:=g) (cap:=cap) h2.1 (j*3+2) (.int .i64 c.2.2);refine ⟨?_,cV (cV (h1.2) h2.2) h3.2⟩
 have e:(((xs.flatMap yU.cells).set (j*3) (.int .i64 c.1)).set (j*3+1) (.int .i64 c.2.1)).set (j*3+2) (.int .i64 c.2.2)=(xs.set j c).flatMap yU.cells:=by
  refine List.ext_getElem? fun t=>?_
  have hl:(xs.flatMap yU.cells).length=xs.length*3:=Rw.bp yU xs;rw [Rw.j7 yU xs j c hj];have hk:yU.k=3:=rfl;rw [hk]
  rcases (show t=j*3∨t=j*3+1∨t=j*3+2∨¬(j*3≤t∧t<j*3+3) by omega) with ht | ht | ht | ht
  ·subst ht
   rw [List.getElem?_set_ne (by omega),List.getElem?_set_ne (by omega),List.getElem?_set_self (by first | omega | (simp only [List.length_set];omega)),if_pos (by omega),show j*3 - j*3=0 from by omega];rfl
  ·subst ht
   rw [List.getElem?_set_ne (by omega),List.getElem?_set_self (by first | omega | (simp only [List.length_set];omega)),if_pos (by omega),show j*3+1 - j*3=1 from by omega];rfl
  ·subst ht
   rw [List.getElem?_set_self (by first | omega | (simp only [List.length_set];omega)),if_pos (by omega),show j*3+2 - j*3=2 from by omega];rfl
  rw [List.getElem?_set_ne (by omega),List.getElem?_set_ne (by omega),List.getElem?_set_ne (by omega),if_neg ht]
 have h9:=h3.1;rw [e] at h9;unfold Rw.Own;rw [List.length_set];exact h9
theorem sm {w:World} {base g n cap j:Nat} {xs:List (Int × Int × Int)} {c:Int × Int × Int} (hn:n=xs.length) (h:Rw.Own yU w base (.slice (some ⟨g,0,none⟩) n cap) xs) (hc:xs[j]?=some c) :
  w.cell? ⟨g,j*3,none⟩=some (.int .i64 c.1)∧w.cell? ⟨g,j*3+1,none⟩=some (.int .i64 c.2.1)∧w.cell? ⟨g,j*3+2,none⟩=some (.int .i64 c.2.2)∧w.frozen? ⟨g,j*3,none⟩=false∧w.frozen? ⟨g,j*3+1,none⟩=false∧w.frozen? ⟨g,j*3+2,none⟩=false:=by
 have e0:=h.cellAt hn (j*3) _ ((Rw.flat_get yU xs j 0 c hc (by decide)).trans rfl);have e1:=h.cellAt hn (j*3+1) _ ((Rw.flat_get yU xs j 1 c hc (by decide)).trans rfl);have e2:=h.cellAt hn (j*3+2) _ ((Rw.flat_get yU xs j 2 c hc (by decide)).trans rfl);exact ⟨e0.1,e1.1,e2.1,e0.2,e1.2,e2.2⟩
theorem pI (v u:Value) (xs ys:List (Int × Int × Int)) (w:World) (h1 h2:Nat) (hx:Rw.Seen yU w h1 v xs) (hy:Rw.Seen yU w h2 u ys) (Av:h1≤w.heap.size) (Ao:h2≤w.heap.size) :
  Calls Tryz.prog 14 #[v,u] w fun e w'=>e=.returned (.bool (decide (xs=ys)))∧Below w.heap.size w w':=by
 obtain ⟨a,cap,rfl,hm,hm2,hv⟩:=hx;obtain ⟨a',cap',rfl,hm',hm2',hv'⟩:=hy
 by_cases hl:xs.length=ys.length
 ·have hl':=yI hl
  rw [hl] at hv hm ⊢;clear hl
  obtain ⟨n,hn⟩:∃ n,n=ys.length:=⟨_,rfl⟩
  rw [←hn] at hv hv' hm hm' ⊢;have hn:=yI hn
  have hnm:(n:Int)≤9223372036854775807:=by omega
  go_enter Tryz.func14,Tryz.ntmps14
  go_wp2
  go_loopw [5] (fun vi wr=>∃ k:Nat,k≤n∧vi=.int .i64 k∧Hid (∀ j:Nat,j<k→xs[j]?=ys[j]?)∧Below w.heap.size w wr) (fun vi _=>n - (intOf vi).toNat)
  case atStart=>exact ⟨0,by omega,rfl,yI (fun j h=>by omega),yL _ _⟩
  case round=>
  obtain ⟨k,hk,rfl,G4,hbr⟩:=hrel
  by_cases hlt:k<n
  ·obtain ⟨g,x,rfl,hg,hx,hcell⟩:=hv k (by omega)
   obtain ⟨g',y,rfl,hg',hy,hcell'⟩:=hv' k hlt;have Lk:wr.cell? ⟨g,k*3,none⟩=some (.int .i64 x.1):=(hbr.cell (p:=⟨g,k*3,none⟩) (Nat.lt_of_lt_of_le hg Av)).trans (hcell 0 _ rfl);have Ll:wr.cell? ⟨g,k*3+1,none⟩=some (.int .i64 x.2.1):=(hbr.cell (p:=⟨g,k*3+1,none⟩) (Nat.lt_of_lt_of_le hg Av)).trans (hcell 1 _ rfl);have Lm:wr.cell? ⟨g,k*3+2,none⟩=some (.int .i64 x.2.2):=(hbr.cell (p:=⟨g,k*3+2,none⟩) (Nat.lt_of_lt_of_le hg Av)).trans (hcell 2 _ rfl);have Ln:wr.cell? ⟨g',k*3,none⟩=some (.int .i64 y.1):=(hbr.cell (p:=⟨g',k*3,none⟩) (Nat.lt_of_lt_of_le hg' Ao)).trans (hcell' 0 _ rfl);have Lo:wr.cell? ⟨g',k*3+1,none⟩=some (.int .i64 y.2.1):=(hbr.cell (p:=⟨g',k*3+1,none⟩) (Nat.lt_of_lt_of_le hg' Ao)).trans (hcell' 1 _ rfl);have Hi:wr.cell? ⟨g',k*3+2,none⟩=some (.int .i64 y.2.2):=(hbr.cell (p:=⟨g',k*3+2,none⟩) (Nat.lt_of_lt_of_le hg' Ao)).trans (hcell' 2 _ rfl);clear hv hv' hcell hcell';obtain ⟨x1,x2,x3⟩:=x;obtain ⟨y1,y2,y3⟩:=y;simp only [] at Lk Ll Lm Ln Lo Hi
   have HE:=fun w=>rC x1 x2 x3 y1 y2 y3 w
   have hkk:((k:Nat):Int)<((n:Nat):Int):=by omega
   by_cases hxy:(x1,x2,x3)=(y1,y2,y3)
   ·have hd:decide ((x1,x2,x3)=(y1,y2,y3))=true:=decide_eq_true hxy
    simp only [hd] at HE;have HE:=yI HE;have hxy:=yI hxy;clear hd
    go_upto_region 6 with fail
    refine Rg.bJ 10 [.is (.slice (some ⟨g,0,none⟩) n cap),.is (.int .i64 ((k:Nat):Int)),.is (.pointer (some ⟨g,k*3,none⟩)),.is (.agg #[.int .i64 x1,.int .i64 x2,.int .i64 x3]),.is (.slice (some ⟨g',0,none⟩) n cap'),.is (.int .i64 ((k:Nat):Int)),.is (.pointer (some ⟨g',k*3,none⟩)),.is (.agg #[.int .i64 y1,.int .i64 y2,.int .i64 y3]),.is (.bool true),.is (.bool false)] (by kernel_rfl) (by kernel_rfl) (by kernel_rfl) ⟨?_,?_,?_,?_,?_,?_,?_,?_,?_,?_,trivial⟩ ?_
    ·intro _ zZ w_ hB hr
     have e0:zZ.tmps[0]?=some (.slice (some ⟨g,0,none⟩) n cap):=hr 0 (by decide);exact Rg.aG rfl (by go_simp)
    ·intro _ zZ w_ hB hr
     have e5:zZ.tmps[5]?=some (.int .i64 ((k:Nat):Int)):=hr 5 (by decide);exact Rg.aG rfl (by go_simp)
    ·intro _ zZ w_ hB hr
     have e17:=Rg.a_ (hr 17 (by decide));have e18:=Rg.a_ (hr 18 (by decide));exact Rg.aG rfl (by (first | (go_simp;done) | (go_simp;omega)))
    ·intro _ zZ w_ hB hr
     have e19:=Rg.a_ (hr 19 (by decide));have k0:=aE hB Lk;have k1:=aE hB Ll;have k2:=aE hB Lm;exact Rg.aG rfl (by (first | (go_simp;done) | (go_simp;omega)))
    ·intro _ zZ w_ hB hr
     have e1:zZ.tmps[1]?=some (.slice (some ⟨g',0,none⟩) n cap'):=hr 1 (by decide);exact Rg.aG rfl (by go_simp)
    ·intro _ zZ w_ hB hr
     have e5:zZ.tmps[5]?=some (.int .i64 ((k:Nat):Int)):=hr 5 (by decide);exact Rg.aG rfl (by go_simp)
    ·intro _ zZ w_ hB hr
     have e21:=Rg.a_ (hr 21 (by decide));have e22:=Rg.a_ (hr 22 (by decide));exact Rg.aG rfl (by (first | (go_simp;done) | (go_simp;omega)))
    ·intro _ zZ w_ hB hr
     have e23:=Rg.a_ (hr 23 (by decide));have k0:=aE hB Ln;have k1:=aE hB Lo;have k2:=aE hB Hi;exact Rg.aG rfl (by (first | (go_simp;done) | (go_simp;omega)))
    ·intro _ zZ w_ hB hr
     have e20:=Rg.a_ (hr 20 (by decide));have e24:=Rg.a_ (hr 24 (by decide));have ef:=Rg.ef zZ;exact Rg.bU rfl (by go_simp) (HE.out _)
    ·intro _ zZ w_ hB hr
     have e25:=Rg.a_ (hr 25 (by decide));exact Rg.aG rfl (by go_simp)
    intro vals wz hB hv hne;have Ad:vals 9=.bool false:=hv 9 (by decide);simp only [Rg.ak,Rg.fill,Act.put,Nat.reduceAdd];clear hv;simp only [Ad];clear Ad;unfold Rg.aX;go_wp2
    go_roundw
    case rel=>exact ⟨k+1,by omega,by go_num,yI (fun j hj=>if q:j=k then by rw [q,hx.out,hy.out,hxy.out] else G4.out j (by omega)),f_ hbr hB⟩
    case measure=>simp [intOf] <;> omega
   have hd:decide ((x1,x2,x3)=(y1,y2,y3))=false:=decide_eq_false hxy;simp only [hd] at HE;have HE:=yI HE;clear hd
   have hnq:decide (xs=ys)=false:=by
    rw [decide_eq_false_iff_not];intro he;have h1:=hx.out;rw [he,hy.out] at h1;exact hxy (Option.some.inj h1).symm
   have hnq:=yI hnq;have hxy:=yI hxy
   go_upto_region 6 with fail
   refine Rg.bJ 10 [.is (.slice (some ⟨g,0,none⟩) n cap),.is (.int .i64 ((k:Nat):Int)),.is (.pointer (some ⟨g,k*3,none⟩)),.is (.agg #[.int .i64 x1,.int .i64 x2,.int .i64 x3]),.is (.slice (some ⟨g',0,none⟩) n cap'),.is (.int .i64 ((k:Nat):Int)),.is (.pointer (some ⟨g',k*3,none⟩)),.is (.agg #[.int .i64 y1,.int .i64 y2,.int .i64 y3]),.is (.bool false),.is (.bool true)] (by kernel_rfl) (by kernel_rfl) (by kernel_rfl) ⟨?_,?_,?_,?_,?_,?_,?_,?_,?_,?_,trivial⟩ ?_
   ·intro _ zZ w_ hB hr
    have e0:zZ.tmps[0]?=some (.slice (some ⟨g,0,none⟩) n cap):=hr 0 (by decide);exact Rg.aG rfl (by go_simp)
   ·intro _ zZ w_ hB hr
    have e5:zZ.tmps[5]?=some (.int .i64 ((k:Nat):Int)):=hr 5 (by decide);exact Rg.aG rfl (by go_simp)
   ·intro _ zZ w_ hB hr
    have e17:=Rg.a_ (hr 17 (by decide));have e18:=Rg.a_ (hr 18 (by decide));exact Rg.aG rfl (by (first | (go_simp;done) | (go_simp;omega)))
   ·intro _ zZ w_ hB hr
    have e19:=Rg.a_ (hr 19 (by decide));have k0:=aE hB Lk;have k1:=aE hB Ll;have k2:=aE hB Lm;exact Rg.aG rfl (by (first | (go_simp;done) | (go_simp;omega)))
   ·intro _ zZ w_ hB hr
    have e1:zZ.tmps[1]?=some (.slice (some ⟨g',0,none⟩) n cap'):=hr 1 (by decide);exact Rg.aG rfl (by go_simp)
   ·intro _ zZ w_ hB hr
    have e5:zZ.tmps[5]?=some (.int .i64 ((k:Nat):Int)):=hr 5 (by decide);exact Rg.aG rfl (by go_simp)
   ·intro _ zZ w_ hB hr
    have e21:=Rg.a_ (hr 21 (by decide));have e22:=Rg.a_ (hr 22 (by decide));exact Rg.aG rfl (by (first | (go_simp;done) | (go_simp;omega)))
   ·intro _ zZ w_ hB hr
    have e23:=Rg.a_ (hr 23 (by decide));have k0:=aE hB Ln;have k1:=aE hB Lo;have k2:=aE hB Hi;exact Rg.aG rfl (by (first | (go_simp;done) | (go_simp;omega)))
   ·intro _ zZ w_ hB hr
    have e20:=Rg.a_ (hr 20 (by decide));have e24:=Rg.a_ (hr 24 (by decide));have ef:=Rg.ef zZ;exact Rg.bU rfl (by go_simp) (HE.out _)
   ·intro _ zZ w_ hB hr
    have e25:=Rg.a_ (hr 25 (by decide));exact Rg.aG rfl (by go_simp)
   intro vals wz hB hv hne;have Ad:vals 9=.bool true:=hv 9 (by decide);simp only [Rg.ak,Rg.fill,Act.put,Nat.reduceAdd];clear hv;simp only [Ad];clear Ad;unfold Rg.aX;go_wp2;go_ret;exact ⟨dB hnq.out.symm,f_ hbr hB⟩
  obtain rfl:n=k:=by omega
  clear hv hv'
  have hall:decide (xs=ys)=true:=by
   rw [decide_eq_true_iff]
   refine List.ext_getElem? fun j=>?_
   rcases Nat.lt_or_ge j n with q | q
   ·exact G4.out j q
   rw [List.getElem?_eq_none (l:=xs) (i:=j) (by have:=hl'.out;have:=hn.out;omega),List.getElem?_eq_none (l:=ys) (i:=j) (by have:=hn.out;omega)]
  have hall:=yI hall;go_wp2;go_ret;exact ⟨dB hall.out.symm,hbr⟩
 have hne:Hid (decide (xs=ys)=false):=yI (by
  rw [decide_eq_false_iff_not]
  exact fun he=>hl (by rw [he]))
 have hl2:¬ ((xs.length:Int)=ys.length):=by omega
 clear hv hv';go_enter Tryz.func14,Tryz.ntmps14
 go_wp2;go_ret;exact ⟨dB hne.out.symm,(by repeat (first | exact yL _ _ | refine aQ ?_ _ | refine aS ?_ (by assumption) | refine Below.drew ?_ | refine yK ?_ (by first | exact yM _ | exact Nat.le_add_right _ _ | (simp <;> omega)) _ | refine aL ?_ _))⟩
def M.qX (k:Int) (i:Nat):Int × Int × Int:=(k+3*i,k+3*i+1,k+3*i+1+1)
def M.cX (k:Int) (n:Nat):List (Int × Int × Int):=(List.range n).map (M.qX k)
theorem M.eQ (k:Int) (n:Nat):(M.cX k n).length=n:=by simp [M.cX]
theorem M.pe {k:Int} {n j:Nat} (h:j<n):(M.cX k n)[j]?=some (M.qX k j):=by simp [M.cX,h]
theorem M.nz {k:Int} {j:Nat} {xs:List (Int × Int × Int)} (h:j<xs.length):(M.cX k j ++ xs.drop j).set j (M.qX k j)=M.cX k (j+1) ++ xs.drop (j+1):=by
 have hl:=M.eQ k j;rw [List.set_append_right _ _ (by omega)];rw [hl,Nat.sub_self,List.drop_eq_getElem_cons h,List.set_cons_zero];unfold M.cX;rw [List.range_succ,List.map_append];simp
theorem mN (v:Value) (xs:List (Int × Int × Int)) (k:Int) (w:World) (base:Nat) (hx:Rw.Own yU w base v xs) (h1:0≤k) (h2:k+3*xs.length≤4000000000000000000) :
  Calls Tryz.prog 15 #[v,.int .i64 k] w fun e w'=>e=.returned (.int .i64 (k+3*xs.length))∧Rw.Own yU w' base v (M.cX k xs.length)∧w.grownBy w' v.ownBlock:=by
 rcases hx.forms with ⟨rfl,rfl⟩ | ⟨g,cap,rfl,hg,hgs,hc,hc2⟩
 ·go_enter Tryz.func15,Tryz.ntmps15
  go_wp2
  go_loop [1,5] (fun vk vi=>vk=.int .i64 k∧vi=.int .i64 0) (fun _ _=>0)
  case atStart=>exact ⟨rfl,rfl⟩
  case round=>
  obtain ⟨rfl,rfl⟩:=hrel;go_wp2;go_ret;exact ⟨iz (by simp),hx,fB _ _⟩
 go_enter Tryz.func15,Tryz.ntmps15
 go_wp2
 go_loopw [1,5] (fun vk vi wr=>∃ j:Nat,j≤xs.length∧vi=.int .i64 j∧vk=.int .i64 (k+3*j)∧Rw.Own yU wr base (.slice (some ⟨g,0,none⟩) xs.length cap) (M.cX k j ++ xs.drop j)∧w.grownBy wr (some g)) (fun _ vi _=>xs.length - (intOf vi).toNat)
 case atStart=>exact ⟨0,by omega,rfl,by simp,by simpa [M.cX] using hx,fB _ _⟩
 case round=>
 obtain ⟨j,hj,rfl,rfl,hown,hgr⟩:=hrel
 have hlen:(M.cX k j ++ xs.drop j).length=xs.length:=by rw [List.length_append,M.eQ,List.length_drop];omega
 by_cases hlt:j<xs.length
 ·have hj0:(M.cX k j ++ xs.drop j)[j]?=some xs[j]:=by
   rw [List.getElem?_append_right (by rw [M.eQ];omega),M.eQ,Nat.sub_self,List.getElem?_drop];simp [hlt]
  obtain ⟨c0,c1,c2,f0,f1,f2⟩:=sm hlen.symm hown hj0;have hst:=yI (wG hlen.symm hown hlt (M.qX k j) (M.nz hlt).symm);generalize xs[j]=y at *;clear hlen hj0;go_wp2
  go_roundw
  case rel=>exact ⟨j+1,by omega,by go_num,by congr 1;omega,hst.out.1,cV hgr hst.out.2⟩
  case measure=>simp [intOf] <;> omega
 obtain rfl:j=xs.length:=by omega
 clear hlen;go_wp2;go_ret;exact ⟨rfl,by simpa using hown,hgr⟩
def cO (w:World) (v:Value) (xs:List Pt):Prop:=
 ∃ (A:Option Addr) (cap:Nat),v=.slice A xs.length cap∧(xs.length:Int)≤9223372036854775807∧
  ∀ k,k<xs.length→∃ g o x,A=some ⟨g,o,none⟩∧g<w.heap.size∧Hid (xs[k]?=some x)∧w.cell? ⟨g,o+k*3,none⟩=some (.int .i64 x.1)∧w.cell? ⟨g,o+k*3+1,none⟩=some (.int .i64 x.2.1)∧w.cell? ⟨g,o+k*3+2,none⟩=some (.int .i64 x.2.2)
theorem cO.keep {w w':World} {v:Value} {xs:List Pt} (h:cO w v xs) (hb:Below w.heap.size w w'):cO w' v xs:=by
 obtain ⟨A,cap,rfl,hm,hv⟩:=h;refine ⟨A,cap,rfl,hm,fun k hk=>?_⟩;obtain ⟨g,o,x,hA,hg,hx,h0,h1,h2⟩:=hv k hk;exact ⟨g,o,x,hA,Nat.lt_of_lt_of_le hg hb.size,hx,aE hb h0,aE hb h1,aE hb h2⟩
theorem pi (v:Value) (xs:List Pt) (w:World) (hx:cO w v xs) :
  Calls Tryz.prog 8 #[v,.int .i64 1048576] w fun e w'=>e=.returned (.int .i64 (if xs.length≤1048576 then (1048576 - xs.length:Int) else -1))∧w=w':=by
 obtain ⟨A,cap,rfl,hm,hv⟩:=hx;clear hv
 by_cases h:xs.length≤1048576
 ·rw [if_pos h]
  generalize xs.length=n at *;go_enter Tryz.func8,Tryz.ntmps8
  go_wp2;go_ret;exact ⟨rfl,rfl⟩
 rw [if_neg h];generalize xs.length=n at *;go_enter Tryz.func8,Tryz.ntmps8
 go_wp2;go_ret;exact ⟨rfl,rfl⟩
theorem pS (n:Nat):(madeCells #[.int .i64 0,.int .i64 0,.int .i64 0] (n*3)).toList=(List.replicate n ((0:Int),(0:Int),(0:Int))).flatMap yU.cells:=by
 have e:(madeCells #[.int .i64 0,.int .i64 0,.int .i64 0] (n*3))=madeCells #[Value.int .i64 0] (n*3):=by
  unfold madeCells
  congr 1
  funext i
  have:i % 3=0∨i % 3=1∨i % 3=2:=by omega
  rcases this with h | h | h <;> simp [h,Nat.mod_one]
 rw [e,toList_madeCells_one];clear e
 induction n with
 | zero=>rfl
 | succ n ih=>
 rw [List.replicate_succ,List.flatMap_cons,←ih,show (n+1)*3=n*3+1+1+1 by omega,List.replicate_succ,List.replicate_succ,List.replicate_succ];rfl
theorem qy {xs:List Pt} {n j:Nat} {x:Pt} (hn:n=xs.length) (h:xs[j]?=some x):xs.take (j+1) ++ List.replicate (n - (j+1)) ((0:Int),(0:Int),(0:Int))=(xs.take j ++ List.replicate (n - j) ((0:Int),(0:Int),(0:Int))).set j x:=by
 have hj:=(List.getElem?_eq_some_iff.1 h).1;rw [List.set_append_right _ _ (by rw [List.length_take];omega),List.length_take,show j - min j xs.length=0 by omega,show n - j=(n - (j+1))+1 by omega,List.replicate_succ,List.set_cons_zero,List.take_add_one,h];simp
theorem po (v:Value) (xs:List Pt) (w:World) (hx:cO w v xs) (hn:xs.length≤1048576) :
  Calls Tryz.prog 11 #[v] w fun e w'=>∃ v',e=.returned v'∧Rw.Own yU w' w.heap.size v' xs∧Below w.heap.size w w':=by
 obtain ⟨A,cap,rfl,hm,hv⟩:=hx;have Hv:=yI hv;clear hv;obtain ⟨i0,hi,hz0,hz1,hz2⟩:=info_parts pQ;obtain ⟨w1,hrun,hown1,hg1⟩:=run_make_full (P:=Tryz.prog) w w.heap.size 31 57 i0 (.agg #[.int .i64 0,.int .i64 0,.int .i64 0]) 3 Tryz.underlying31 hi hz0 hz1 .i64 .i64 xs.length (by rw [hz2];omega) (by unfold maxLen;omega) (yM _);go_enter Tryz.func11,Tryz.ntmps11
 go_wp2
 have hown1:Rw.Own yU w1 w.heap.size (.slice (some ⟨w.heap.size,0,none⟩) xs.length xs.length) (List.replicate xs.length ((0:Int),(0:Int),(0:Int))):=by
  unfold Rw.Own;rw [←pS,List.length_replicate];exact hown1
 have hb1:Below w.heap.size w w1:=cM hg1 (yM _) (fun k hk=>by cases hk)
 go_loopw [4] (fun vi wr=>∃ j:Nat,j≤xs.length∧vi=.int .i64 j∧Rw.Own yU wr w.heap.size (.slice (some ⟨w.heap.size,0,none⟩) xs.length xs.length) (xs.take j ++ List.replicate (xs.length - j) ((0:Int),(0:Int),(0:Int)))∧Below w.heap.size w wr) (fun vi _=>xs.length - (intOf vi).toNat)
 case atStart=>exact ⟨0,by omega,rfl,by simpa using hown1,hb1⟩
 case round=>
 obtain ⟨j,hj,rfl,hown,hbr⟩:=hrel
 have hlen:(xs.take j ++ List.replicate (xs.length - j) ((0:Int),(0:Int),(0:Int))).length=xs.length:=by rw [List.length_append,List.length_take,List.length_replicate];omega
 by_cases hlt:j<xs.length
 ·obtain ⟨g,o,x,rfl,hg,hx,h0,h1,h2⟩:=Hv.out j hlt
  have e0:=(hbr.cell (p:=⟨g,o+j*3,none⟩) hg).trans h0;have e1:=(hbr.cell (p:=⟨g,o+j*3+1,none⟩) hg).trans h1;have e2:=(hbr.cell (p:=⟨g,o+j*3+2,none⟩) hg).trans h2
  have hj0:(xs.take j ++ List.replicate (xs.length - j) ((0:Int),(0:Int),(0:Int)))[j]?=some (0,0,0):=by
   rw [List.getElem?_append_right (by rw [List.length_take];omega),List.length_take,show j - min j xs.length=0 by omega,List.getElem?_replicate];rw [if_pos (by omega)]
  have EF:=hbr.size
  go_wp2_with fail
  refine (ry x.1 x.2.1 x.2.2 _).mono ?_;rintro e w2 ⟨rfl,hb2⟩;have hown2:=hown.below hb2;obtain ⟨c0,c1,c2,f0,f1,f2⟩:=sm hlen.symm hown2 hj0;have hst:=yI (wG hlen.symm hown2 hlt x (qy rfl hx.out));clear hlen hj0 h0 h1 h2;go_wp2
  go_roundw
  case rel=>exact ⟨j+1,by omega,by go_num,hst.out.1,((hbr.trans (hb2.mono EF)).grown hst.out.2 (by have:=hb2.size;omega) (fun q hq=>by cases hq;exact yM _))⟩
  case measure=>simp [intOf] <;> omega
 obtain rfl:j=xs.length:=by omega
 clear hlen;go_wp2;go_ret;exact ⟨_,rfl,by simpa using hown,hbr⟩
theorem aH.aw {W:World} {g:Nat} {T:TypeId} {u v x y z:Value} (h:aH W g T #[u,v,x,y,z]):W.cell? ⟨g,0,none⟩=some u∧W.cell? ⟨g,1,none⟩=some v∧W.cell? ⟨g,2,none⟩=some x∧W.cell? ⟨g,3,none⟩=some y∧W.cell? ⟨g,4,none⟩=some z:=⟨h.cell 0,h.cell 1,h.cell 2,h.cell 3,h.cell 4⟩
theorem aH.dz {W:World} {g:Nat} {T:TypeId} {u v x y z:Value} (h:aH W g T #[u,v,x,y,z]):W.frozen? ⟨g,0,none⟩=false∧W.frozen? ⟨g,1,none⟩=false∧W.frozen? ⟨g,2,none⟩=false∧W.frozen? ⟨g,3,none⟩=false∧W.frozen? ⟨g,4,none⟩=false∧g<W.heap.size:=⟨h.yV 0,h.yV 1,h.yV 2,h.yV 3,h.yV 4,h.lt⟩
theorem aH.xx {W:World} {g:Nat} {T:TypeId} {u v x y z:Value} (h:aH W g T #[u,v,x,y,z]) (a b c d e:Value):aH (((((W.setCell ⟨g,0,none⟩ a).setCell ⟨g,1,none⟩ b).setCell ⟨g,2,none⟩ c).setCell ⟨g,3,none⟩ d).setCell ⟨g,4,none⟩ e) g T #[a,b,c,d,e]:=((((h.set 0 a).set 1 b).set 2 c).set 3 d).set 4 e
theorem k8 (a b:Int) (w:World) :
  Calls Tryz.prog 40 #[.agg #[.int .i64 a,.int .i64 b]] w fun e w'=>e=.returned (.agg #[.int .i64 a,.int .i64 b])∧Below w.heap.size w w':=by
 go_enter Tryz.func40,Tryz.ntmps40
 go_wp2;exact bodyPost_ret (v:=.agg #[.int .i64 a,.int .i64 b]) (by simp [results,Tryz.results40,go_sem, *]) rfl (⟨rfl,(by repeat (first | exact yL _ _ | refine aQ ?_ _ | refine aS ?_ (by assumption) | refine Below.drew ?_ | refine yK ?_ (by first | exact yM _ | exact Nat.le_add_right _ _ | (simp <;> omega)) _ | refine aL ?_ _))⟩)
theorem kj (a b c d:Int) (w:World) :
  Calls Tryz.prog 43 #[.agg #[.int .i64 a,.int .i64 b],.agg #[.int .i64 c,.int .i64 d]] w fun e w'=>e=.returned (.bool (a == c && b == d))∧Below w.heap.size w w':=by
 by_cases h1:a=c <;> by_cases h2:b=d
 all_goals
  go_enter Tryz.func43,Tryz.ntmps43
  go_wp2;go_ret;exact ⟨dB (by simp [h1,h2]),(by repeat (first | exact yL _ _ | refine aQ ?_ _ | refine aS ?_ (by assumption) | refine Below.drew ?_ | refine yK ?_ (by first | exact yM _ | exact Nat.le_add_right _ _ | (simp <;> omega)) _ | refine aL ?_ _))⟩
theorem mI (v:Value) (n:Nat) (k:Int) (w:World) (base:Nat) (hx:Rw.Own yU w base v (M.cX k n)) (h1:0≤k) (h2:k+3*n≤4000000000000000000) :
  Calls Tryz.prog 46 #[v,.int .i64 k] w fun e w'=>e=.returned (.int .i64 (k+3*n))∧Below w.heap.size w w':=by
 obtain ⟨a,cap,rfl,hm,hm2,hv⟩:=hx.seen;rw [M.eQ] at hm hv ⊢;go_enter Tryz.func46,Tryz.ntmps46
 go_wp2
 go_loop [1,5] (fun vk vi=>∃ j:Nat,j≤n∧vi=.int .i64 j∧vk=.int .i64 (k+3*j)) (fun _ vi=>n - (intOf vi).toNat)
 case atStart=>exact ⟨0,by omega,rfl,by simp⟩
 case round=>
 obtain ⟨j,hj,rfl,rfl⟩:=hrel
 by_cases hlt:j<n
 ·obtain ⟨g,x,rfl,hg,hx',hcell⟩:=hv j hlt
  rw [M.pe hlt] at hx';obtain rfl:=Option.some.inj hx'.out;have e0:w.cell? ⟨g,j*3,none⟩=some (.int .i64 (k+3*j)):=hcell 0 _ rfl;have e1:w.cell? ⟨g,j*3+1,none⟩=some (.int .i64 (k+3*j+1)):=hcell 1 _ rfl;have e2:w.cell? ⟨g,j*3+2,none⟩=some (.int .i64 (k+3*j+1+1)):=hcell 2 _ rfl;clear hv hcell;go_wp2
  go_round
  case rel=>exact ⟨j+1,by omega,by go_num,by congr 1;omega⟩
  case measure=>simp [intOf];omega
 obtain rfl:j=n:=by omega
 clear hv;go_wp2;go_ret;exact ⟨rfl,(by repeat (first | exact yL _ _ | refine aQ ?_ _ | refine aS ?_ (by assumption) | refine Below.drew ?_ | refine yK ?_ (by first | exact yM _ | exact Nat.le_add_right _ _ | (simp <;> omega)) _ | refine aL ?_ _))⟩
theorem fb (a b n d:Int) (v:Value) (xs:List Pt) (w:World) (hx:cO w v xs) :
  Calls Tryz.prog 18 #[.agg #[.int .i64 a,.int .i64 b,v,.int .i64 n,.int .i64 d],.int .i64 1048576] w fun e w'=>e=.returned (.int .i64 (if xs.length≤1048576 then (1048576 - xs.length:Int) else -1))∧Below w.heap.size w w':=by
 have SZ:=fun W h=>pi v xs W h
 obtain ⟨wc,hw3,C,B⟩:=ei w #[.int .i64 a,.int .i64 b,v,.int .i64 n,.int .i64 d] 41;have hxc:=yI (hx.keep B);have ⟨c0,c1,c2,c3,c4⟩:=C.aw;obtain ⟨A,cap,rfl,-,-⟩:=hx
 by_cases h:xs.length≤1048576
 ·simp only [if_pos h] at SZ ⊢
  replace SZ:=yI SZ;generalize xs.length=L at *
  have hL:0≤(1048576:Int) - L:=by omega
  generalize (1048576:Int) - L=M0 at *;go_enter Tryz.func18,Tryz.ntmps18
  go_wp2_with (go_at_call 8;(refine (SZ.out _ hxc.out).mono ?_);rintro e w4 ⟨rfl,rfl⟩)
  go_ret;exact ⟨rfl,B⟩
 simp only [if_neg h] at SZ ⊢;replace SZ:=yI SZ;generalize xs.length=L at *;go_enter Tryz.func18,Tryz.ntmps18
 go_wp2_with (go_at_call 8;(refine (SZ.out _ hxc.out).mono ?_);rintro e w4 ⟨rfl,rfl⟩)
 go_ret;exact ⟨rfl,B⟩
theorem iC (a b m d:Int) (v:Value) (n:Nat) (k:Int) (w:World) (base:Nat) (hx:Rw.Own yU w base v (M.cX k n)) (h1:0≤k) (h2:k+3*n≤4000000000000000000) :
  Calls Tryz.prog 26 #[.agg #[.int .i64 a,.int .i64 b,v,.int .i64 m,.int .i64 d],.int .i64 k] w fun e w'=>e=.returned (.int .i64 (k+3*n))∧Below w.heap.size w w':=by
 have HH:=fun W h=>mI v n k W base h h1 h2
 obtain ⟨wc,hw3,C,B⟩:=ei w #[.int .i64 a,.int .i64 b,v,.int .i64 m,.int .i64 d] 47;have hxc:=yI (hx.below B);have ⟨c0,c1,c2,c3,c4⟩:=C.aw
 have hk:0≤k+3*(n:Int):=by omega
 obtain ⟨A,cap,rfl,-,-⟩:=hx.seen;generalize k+3*(n:Int)=K at *;generalize (M.cX k n).length=L at *;replace HH:=yI HH;go_enter Tryz.func26,Tryz.ntmps26
 go_wp2_with (go_at_call 46;(refine (HH.out _ hxc.out).mono ?_);rintro e w4 ⟨rfl,hb4⟩;replace B:=f_ B hb4)
 go_ret;exact ⟨rfl,B⟩
theorem eU (a b m d:Int) (v:Value) (xs:List Pt) (k:Int) (w:World) (base:Nat) (hx:Rw.Own yU w base v xs) (h1:0≤k) (h2:k+3*xs.length≤4000000000000000000) :
  Calls Tryz.prog 25 #[.agg #[.int .i64 a,.int .i64 b,v,.int .i64 m,.int .i64 d],.int .i64 k] w fun e w'=>e=.returned (.int .i64 (k+3*xs.length))∧Rw.Own yU w' base v (M.cX k xs.length)∧w.grownBy w' v.ownBlock:=by
 have HH:=fun W h=>mN v xs k W base h h1 h2
 obtain ⟨wc,hw3,C,B⟩:=ei w #[.int .i64 a,.int .i64 b,v,.int .i64 m,.int .i64 d] 47;have hxc:=yI (hx.below B);have hg0:=yI (cG B v.ownBlock);have ⟨c0,c1,c2,c3,c4⟩:=C.aw;obtain ⟨A,cap,rfl,-,-⟩:=hx.seen;generalize M.cX k xs.length=ys at *;generalize k+3*(xs.length:Int)=K at *;generalize xs.length=L at *;replace HH:=yI HH;go_enter Tryz.func25,Tryz.ntmps25
 go_wp2_with (go_at_call 15;(refine (HH.out _ hxc.out).mono ?_);rintro e w4 ⟨rfl,ho,hg⟩;replace hg:=yI (cV hg0.out hg);replace ho:=yI ho)
 go_ret;exact ⟨rfl,ho.out,hg.out⟩
theorem fX (a b n d:Int) (v u:Value) (xs:List Pt) (w:World) (h1 h2:Nat) (hx:Rw.Seen yU w h1 v xs) (hy:Rw.Seen yU w h2 u xs) (Av:h1≤w.heap.size) (Ao:h2≤w.heap.size) :
  Calls Tryz.prog 22 #[.agg #[.int .i64 a,.int .i64 b,v,.int .i64 n,.int .i64 d],.agg #[.int .i64 a,.int .i64 b,u,.int .i64 n,.int .i64 d]] w fun e w'=>e=.returned (.bool true)∧Below w.heap.size w w':=by
 have EQ:=fun W p q r s=>pI v u xs xs W h1 h2 p q r s
 have hd2:decide (xs=xs)=true:=by simp
 rw [hd2] at EQ;clear hd2;obtain ⟨wc,hw3,C,D,B⟩:=gW w #[.int .i64 a,.int .i64 b,v,.int .i64 n,.int .i64 d] 47 #[.int .i64 a,.int .i64 b,u,.int .i64 n,.int .i64 d] 47;have HX:=yI (And.intro (hx.below (B.mono Av)) (hy.below (B.mono Ao)));have HH:=yI (And.intro (Nat.le_trans Av B.size) (Nat.le_trans Ao B.size));have ⟨c0,c1,c2,c3,c4⟩:=C.aw;have ⟨d0,d1,d2,d3,d4⟩:=D.aw;obtain ⟨A,cap,rfl,-,-⟩:=hx;obtain ⟨A2,cap2,rfl,-,-⟩:=hy;generalize xs.length=L at *;replace EQ:=yI EQ;clear Av Ao;go_enter Tryz.func22,Tryz.ntmps22
 go_wp2_with first
  | (go_at_call 42;(refine (rB _ _ _ _ _).mono ?_);rintro e w4 ⟨rfl,hb4⟩;replace HX:=yI (And.intro (HX.out.1.below (hb4.mono HH.out.1)) (HX.out.2.below (hb4.mono HH.out.2)));replace HH:=yI (And.intro (Nat.le_trans HH.out.1 hb4.size) (Nat.le_trans HH.out.2 hb4.size));replace C:=C.keep hb4;replace D:=D.keep hb4;replace B:=f_ B hb4;(have ⟨c0,c1,c2,c3,c4⟩:=C.aw);(have ⟨d0,d1,d2,d3,d4⟩:=D.aw))
  | (go_at_call 14;(refine (EQ.out _ HX.out.1 HX.out.2 HH.out.1 HH.out.2).mono ?_);rintro e w5 ⟨rfl,hb5⟩;replace C:=C.keep hb5;replace D:=D.keep hb5;replace B:=f_ B hb5;(have ⟨c0,c1,c2,c3,c4⟩:=C.aw);(have ⟨d0,d1,d2,d3,d4⟩:=D.aw))
  | (go_at_call 43;(refine (kj _ _ _ _ _).mono ?_);rintro e w6 ⟨rfl,hb6⟩;replace B:=f_ B hb6)
 go_ret;exact ⟨rfl,B⟩
theorem Rw.Own.dg {α:Type} {E:Rw.Enc α} {w:World} {base k i:Nat} {v:Value} {xs:List α} (h:Rw.Own E w base v xs) (hk:k<base) (x:Value):Rw.Own E (w.setCell ⟨k,i,none⟩ x) base v xs:=
 h.kept (Gr.set (World.grownBy.refl _ _) _ _) (fun g hg e=>by
  injection hg with hg
  have:=(h.lt _ e).1
  omega)
theorem jG (a b n d:Int) (v:Value) (xs:List Pt) (w:World) (hx:cO w v xs) (hn:xs.length≤1048576) :
  Calls Tryz.prog 20 #[.agg #[.int .i64 a,.int .i64 b,v,.int .i64 n,.int .i64 d]] w fun e w'=>∃ v',e=.returned (.agg #[.int .i64 a,.int .i64 b,v',.int .i64 n,.int .i64 d])∧Rw.Own yU w' w.heap.size v' xs∧Below w.heap.size w w':=by
 have TP:=fun W h=>po v xs W h hn
 obtain ⟨wc,hw3,C,R,Z,B⟩:=ou w #[.int .i64 a,.int .i64 b,v,.int .i64 n,.int .i64 d] 41 #[.int .i64 0,.int .i64 0,.slice none 0 0,.int .i64 0,.int .i64 0] 47 #[.int .i64 0,.int .i64 0,.slice none 0 0,.int .i64 0,.int .i64 0] 47;have Hx:=yI hx;have ⟨c0,c1,c2,c3,c4⟩:=C.aw;have ⟨z5,z6,z7,z8,z9,hz⟩:=Z.dz;obtain ⟨A,cap,rfl,-,-⟩:=hx;replace TP:=yI TP;go_enter Tryz.func20,Tryz.ntmps20
 go_wp2_with first
  | (go_at_call 10;(refine (pm _ _ _).mono ?_);rintro e w4 ⟨rfl,hb4⟩;replace C:=C.keep hb4;replace R:=R.keep hb4;replace Z:=Z.keep hb4;replace B:=f_ B hb4;(have ⟨z5,z6,z7,z8,z9,hz⟩:=Z.dz);(have ⟨z0,z1,z2,z3,z4⟩:=Z.aw);replace C:=(C.other (k:=w.heap.size+1+1) (i:=0) (by omega) (.int .i64 a)).other (k:=w.heap.size+1+1) (i:=1) (by omega) (.int .i64 b);replace R:=(R.other (k:=w.heap.size+1+1) (i:=0) (by omega) (.int .i64 a)).other (k:=w.heap.size+1+1) (i:=1) (by omega) (.int .i64 b);replace Z:=(Z.set 0 (.int .i64 a)).set 1 (.int .i64 b);replace B:=yK (yK (p:=⟨w.heap.size+1+1,0,none⟩) B (by show w.heap.size≤w.heap.size+1+1;omega) (.int .i64 a)) (p:=⟨w.heap.size+1+1,1,none⟩) (by show w.heap.size≤w.heap.size+1+1;omega) (.int .i64 b);(have ⟨c0,c1,c2,c3,c4⟩:=C.aw))
  | (go_at_call 11;have hlz:=Z.lt;have hlr:=R.lt;(refine (TP.out _ (Hx.out.keep B)).mono ?_);rintro e w5 ⟨v5,rfl,o5,hb5⟩;obtain ⟨A5,cap5,rfl,-⟩:=o5.seen;replace C:=C.keep hb5;replace R:=R.keep hb5;(replace Z:aH _ _ _ #[.int .i64 a,.int .i64 b,.slice none 0 0,.int .i64 0,.int .i64 0]:=Z.keep hb5);replace B:=f_ B hb5;(have ⟨z5,z6,z7,z8,z9,hz⟩:=Z.dz);(have ⟨z0,z1,z2,z3,z4⟩:=Z.aw);replace C:=C.other (k:=w.heap.size+1+1) (i:=2) (by omega) (.slice A5 xs.length cap5);replace R:=R.other (k:=w.heap.size+1+1) (i:=2) (by omega) (.slice A5 xs.length cap5);(replace Z:aH _ _ _ #[.int .i64 a,.int .i64 b,.slice A5 xs.length cap5,.int .i64 0,.int .i64 0]:=Z.set 2 (.slice A5 xs.length cap5));replace B:=yK (p:=⟨w.heap.size+1+1,2,none⟩) B (by show w.heap.size≤w.heap.size+1+1;omega) (.slice A5 xs.length cap5);replace o5:=o5.dg (i:=2) hlz (.slice A5 xs.length cap5);(have ⟨c0,c1,c2,c3,c4⟩:=C.aw))
  | (go_at_call 40;(refine (k8 _ _ _).mono ?_);rintro e w6 ⟨rfl,hb6⟩;replace C:=C.keep hb6;replace R:=R.keep hb6;replace Z:=Z.keep hb6;replace o5:=o5.below hb6;replace B:=f_ B hb6;(have ⟨z5,z6,z7,z8,z9,hz⟩:=Z.dz);(have ⟨z0,z1,z2,z3,z4⟩:=Z.aw);replace R:=R.other (k:=w.heap.size+1+1) (i:=3) (by omega) (.int .i64 n);replace R:=R.other (k:=w.heap.size+1+1) (i:=4) (by omega) (.int .i64 d);(replace Z:aH _ _ _ #[.int .i64 a,.int .i64 b,.slice A5 xs.length cap5,.int .i64 n,.int .i64 d]:=(Z.set 3 (.int .i64 n)).set 4 (.int .i64 d));replace B:=yK (p:=⟨w.heap.size+1+1,3,none⟩) B (by show w.heap.size≤w.heap.size+1+1;omega) (.int .i64 n);replace B:=yK (p:=⟨w.heap.size+1+1,4,none⟩) B (by show w.heap.size≤w.heap.size+1+1;omega) (.int .i64 d);replace o5:=(o5.dg (i:=3) hlz (.int .i64 n)).dg (i:=4) hlz (.int .i64 d);(have ⟨y0,y1,y2,y3,y4⟩:=Z.aw);(have ⟨r0,r1,r2,r3,r4⟩:=R.aw);(have ⟨r5,r6,r7,r8,r9,_⟩:=R.dz);clear C)
 exact bodyPost_ret (v:=.agg #[.int .i64 a,.int .i64 b,.slice A5 xs.length cap5,.int .i64 n,.int .i64 d]) (by simp [results,Tryz.results20,go_sem, *]) rfl (⟨_,rfl,((((((o5.dg (i:=0) hlr _).dg (i:=1) hlr _).dg (i:=2) hlr _).dg (i:=3) hlr _).dg (i:=4) hlr _).down (Nat.le_trans (by omega) (Nat.le_of_lt hlz))),yK (yK (yK (yK (yK B (by simp) _) (by simp) _) (by simp) _) (by simp) _) (by simp) _⟩)
end
section
open Go.RowKit
namespace M
theorem cP {a b:Int} {l:List Pt} (h:bs a b l=true):good a b=true∧1≤l.length∧l.length≤4∧∀ p ∈ l,bS a b p.1 p.2.1 p.2.2=true:=by
 unfold bs at h;rw [Bool.and_eq_true,Bool.and_eq_true] at h;obtain ⟨⟨h1,h2⟩,h3⟩:=h;unfold ins at h2;simp only [Bool.and_eq_true,decide_eq_true_eq] at h2;exact ⟨h1,by omega,by omega,List.all_eq_true.1 h3⟩
theorem xB {x:Int} (h1:-409600000≤x) (h2:x≤409600000):decide (pn x > 0)=decide (x > 0):=by
 obtain ⟨-,-,-,-,h3,h4,-,-,-⟩:=pK (bM h1 h2)
 have:pn x > 0 ↔ x > 0:=by
  generalize pn x=n,4096 / pd x=t at *;subst h3
  constructor
  ·intro h;exact Int.mul_pos h (by omega)
  intro h
  rcases Int.lt_or_le 0 n with q | q
  ·exact q
  have:=Int.mul_nonpos_of_nonpos_of_nonneg q (show 0≤t by omega);omega
 simp only [this]
theorem uw {s:Sp} (h:AP s):decide (zA s > 0)=decide (yu s > 0):=by
 cases s with
 | none=>rfl
 | some p=>
 obtain ⟨-,h1,h2⟩:=fP h;have h3:=(fP h).1;exact xB h1 (Int.le_trans h3 h2)
theorem qV {a b:Int} {l:List Pt}:AP (dA a b l):=by
 cases h:Ah a b l
 ·rw [mX h];exact eP
 rw [kU h];exact jQ (kR h) _
end M
end
section
open Go.RowKit Go.Shelf
theorem wU (b i:Nat):(⟨b,0,none⟩:Addr).add i=⟨b,i,none⟩:=by unfold Addr.add;split <;> simp_all
theorem eT.from' {w:World} {g:Nat} {l:List Pt} (h:eT w g l):Rw.From yU w (some ⟨g,0,none⟩) l:=by
 intro j u hu;refine ⟨_,rfl,?_⟩;rw [wU];have hlt:j<(l.flatMap yU.cells).length:=(List.getElem?_eq_some_iff.1 hu).1;rw [Rw.bp] at hlt;have hlt:j<l.length*3:=hlt
 obtain ⟨p,hp⟩:∃ p,l[j / 3]?=some p:=⟨_,List.getElem?_eq_getElem (by omega)⟩
 have hi:j % 3<yU.k:=Nat.mod_lt _ (by decide);have hf:=Rw.flat_get yU l (j / 3) (j % 3) p hp hi
 have hj:j / 3*yU.k+j % 3=j:=by show j / 3*3+j % 3=j;omega
 rw [hj,hu] at hf;obtain ⟨h1,h2,h3⟩:=h _ _ hp
 have h4:j % 3=0∨j % 3=1∨j % 3=2:=by omega
 rcases h4 with q | q | q
 ·rw [q] at hf
  obtain rfl:=Option.some.inj hf
  have e:j / 3*3=j:=by omega
  rw [e] at h1;exact h1
 ·rw [q] at hf
  obtain rfl:=Option.some.inj hf
  have e:j / 3*3+1=j:=by omega
  rw [e] at h2;exact h2
 rw [q] at hf;obtain rfl:=Option.some.inj hf
 have e:j / 3*3+2=j:=by omega
 rw [e] at h3;exact h3
theorem dc.from' {w:World} {v:Value} {l:List Pt} (h:dc w v l):∃ A cap,v=.slice A l.length cap∧∀ w',Below w.heap.size w w'→Rw.From yU w' A l:=by
 obtain ⟨a,cap,rfl,h⟩:=h;refine ⟨a,cap,rfl,fun w' hb=>?_⟩
 rcases h with rfl | ⟨g,rfl,h⟩
 ·exact Rw.From.nil yU w' a
 exact (h.below hb).from'
theorem xo {w:World} {base:Nat} (hb:base≤w.heap.size):Rw.Own yU (w.alloc (.cells #[] 57)) base (.slice (some ⟨w.heap.size,0,none⟩) 0 0) []:=Rw.Own.pR yU w base hb
theorem ju (xs:List Pt) (v:Value) (w:World) (hx:dc w v xs) (hl:xs.length≤1000000000) :
  Calls Tryz.prog 36 #[v] w fun e w'=>∃ v',e=.returned v'∧Rw.Own yU w' w.heap.size v' xs∧Below w.heap.size w w':=by
 obtain ⟨A,cap,rfl,hf⟩:=hx.from'
 clear hx;have hf:=yI hf
 cases A with
 | none=>
  have h0:xs=[]:=by
   cases xs with
   | nil=>rfl
   | cons p l=>
   obtain ⟨ad,h,-⟩:=hf.out w (yL _ _) 0 (.int .i64 p.1) rfl;cases h
  subst h0;simp only [List.length_nil];clear hf hl
  have he:∀ W:World,(binOp .eql 31 (.slice none 0 cap) (.slice none 0 0)).run Tryz.prog W=.ok (.bool true) W:=fun _=>rfl
  go_enter Tryz.func36,Tryz.ntmps36
  go_wp2;go_ret;exact ⟨_,rfl,Rw.Own.nil yU _ _,yL _ _⟩
 | some ad=>
 have he:∀ W:World,(binOp .eql 31 (.slice (some ad) xs.length cap) (.slice none 0 0)).run Tryz.prog W=.ok (.bool false) W:=fun _=>rfl
 go_enter Tryz.func36,Tryz.ntmps36
 go_wp2_with (at_builtin;refine Rw.push j6 (W:=w) w.heap.size xs [] _ (some ad) _ _ (by rfl) (by rfl) (.tmp 5) (.tmp 6) (by rfl) (by rfl) (by rfl) (hf.out _ (by repeat (first | exact yL _ _ | refine aQ ?_ _ | refine aS ?_ (by assumption) | refine Below.drew ?_ | refine yK ?_ (by first | exact yM _ | exact Nat.le_add_right _ _ | (simp <;> omega)) _ | refine aL ?_ _))) (xo (yM _)) (by repeat (first | exact yL _ _ | refine aQ ?_ _ | refine aS ?_ (by assumption) | refine Below.drew ?_ | refine yK ?_ (by first | exact yM _ | exact Nat.le_add_right _ _ | (simp <;> omega)) _ | refine aL ?_ _)) (by simp) (by simp;omega) ?_;rintro v1 w1 hown1 hb1)
 go_ret;exact ⟨_,rfl,hown1,hb1⟩
end
end Go.Proofs.YtgfkcoablfjbcaaGreat
