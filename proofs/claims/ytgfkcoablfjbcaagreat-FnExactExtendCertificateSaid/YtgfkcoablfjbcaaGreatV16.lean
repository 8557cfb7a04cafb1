/-
  Joined texts: contracts and plain lemmas.
-/
import Derived.Test.YtgfkcoablfjbcaaGreatV1
import Derived.Test.YtgfkcoablfjbcaaGreatV15
import Derived.Laws.IdiomCopy
import Derived.Shelf.Abstract
import Derived.Test.YtgfkcoablfjbcaaGreatV2
import Derived.Test.YtgfkcoablfjbcaaGreatV8
set_option linter.unusedSimpArgs false
set_option linter.unusedVariables false
set_option maxRecDepth 100000
set_option maxHeartbeats 8000000
namespace Go.Proofs.YtgfkcoablfjbcaaGreat
section
open Go.RowKit
theorem bs.rowIs {w:World} {base:Nat} {v:Value} {vs:List Value} {rows:List (List (Int × Int × Int × Int))} (h:bs w base v vs rows) {i:Nat} {r:List (Int × Int × Int × Int)} (hr:rows[i]?=some r) (hne:r≠[]) :
  ∃ (g2 cap2:Nat),vs[i]?=some (.slice (some ⟨g2,0,none⟩) r.length cap2)∧r.length≤cap2∧g2<w.heap.size:=by
 have hi:=(List.getElem?_eq_some_iff.1 hr).1;have hl:=h.2.1;have hu:vs[i]?=some (vs[i]'(by omega)):=List.getElem?_eq_getElem (by omega)
 rcases (h.2.2.1 i _ r hu hr).forms with ⟨-,h4⟩ | ⟨g2,cap2,e,hg,hg2,hc2,-⟩
 ·exact absurd h4 hne
 exact ⟨g2,cap2,by rw [hu,e],hc2,hg2⟩
theorem bs.form {w:World} {base:Nat} {v:Value} {vs:List Value} {rows:List (List (Int × Int × Int × Int))} (h:bs w base v vs rows) (hne:rows≠[]):∃ (g cap:Nat),v=.slice (some ⟨g,0,none⟩) rows.length cap∧rows.length≤cap∧cap≤9223372036854775807∧g<w.heap.size:=by
 rcases h.1.2 with ⟨-,h2⟩ | ⟨g,cap,cur,e,hg,hh,hc,hm,-⟩
 ·exact absurd (List.eq_nil_of_length_eq_zero h2) hne
 exact ⟨g,cap,e,hc,by unfold maxLen at hm;omega,(Array.getElem?_eq_some_iff.1 hh).1⟩
theorem bs.iF {w:World} {base g n cap:Nat} {vs:List Value} {rows:List (List (Int × Int × Int × Int))} (h:bs w base (.slice (some ⟨g,0,none⟩) n cap) vs rows) {i:Nat} {u:Value} (hu:vs[i]?=some u):w.cell? ⟨g,i,none⟩=some u:=by
 have hi:=(List.getElem?_eq_some_iff.1 hu).1;have hl:=h.2.1;have h1:=h.1
 rcases h1.2 with ⟨e,-⟩ | ⟨g1,c1,DE,e,-⟩
 ·cases e
 injection e with _ e2 _
 subst e2;exact (World.ownsRow.cellAt h1 i (by omega)).trans hu
theorem bs.rowFrom {w:World} {base:Nat} {v:Value} {vs:List Value} {rows:List (List (Int × Int × Int × Int))} (h:bs w base v vs rows) {i g2 cap2 n2:Nat} {r:List (Int × Int × Int × Int)} (hu:vs[i]?=some (.slice (some ⟨g2,0,none⟩) n2 cap2)) (hr:rows[i]?=some r):Rw.From EN w (some ⟨g2,0,none⟩) r:=by
 have ho:=h.2.2.1 i _ r hu hr
 rcases ho.forms with ⟨e,-⟩ | ⟨g3,L2,e,hg,hg3,hc3,-⟩
 ·cases e
 injection e with e1 e2 e3
 have:=ho.wL e2 (ho.lt g2 rfl).2 (yM _ w) r.length;rw [List.take_length] at this;exact this
theorem Rw.From.at4 {w:World} {g c:Nat} {r:List (Int × Int × Int × Int)} {q:Int × Int × Int × Int} (h:Rw.From EN w (some ⟨g,0,none⟩) r) (hq:r[c]?=some q):w.cell? ⟨g,c*4,none⟩=some (.int .i64 q.1)∧w.cell? ⟨g,c*4+1,none⟩=some (.int .i64 q.2.1)∧w.cell? ⟨g,c*4+2,none⟩=some (.int .i64 q.2.2.1)∧w.cell? ⟨g,c*4+3,none⟩=some (.int .i64 q.2.2.2):=by
 have hadd:∀ b i:Nat,(⟨b,0,none⟩:Addr).add i=⟨b,i,none⟩:=fun b i=>by unfold Addr.add;split <;> simp_all
 have hc:∀ (t:Nat) (u:Value),t<4→(EN.cells q)[t]?=some u→w.cell? ⟨g,c*4+t,none⟩=some u:=fun t u ht hu=>by
  obtain ⟨ad,e,hh⟩:=h (c*4+t) u ((Rw.flat_get EN r c t q hq ht).trans hu);have:=Option.some.inj e;subst this;rw [hadd] at hh;exact hh
 exact ⟨hc 0 _ (by decide) rfl,hc 1 _ (by decide) rfl,hc 2 _ (by decide) rfl,hc 3 _ (by decide) rfl⟩
theorem Rw.iH {α:Type} {E:Rw.Enc α} {w W:World} {base:Nat} {v:Value} {xs:List α} {P:Program} {ts:TypeId} (F:Rw.Fits P E ts) (ty:TypeId) (ys:List α) (m:Nat) (hm:ys.length=m) (A:Option Addr) (c:Nat)
  (hr:Rw.From E w A ys) (hown:Rw.Own E w base v xs) (hW:Below base W w) (hB:base≤w.heap.size) (hl:xs.length+m≤100000000000) :
  ∃ v' w',(Builtin.append_ #[ts,ts] ty #[v,.slice A m c]).run P w=.ok v' w'∧Rw.Own E w' base v' (xs ++ ys)∧Below base W w':=by
 subst hm;exact Rw.oR F ty ys A c hr hown hW hB hl
abbrev Fb:=List (List (Int × Int × Int × Int))
def M.f5 (m:Fb) (c:Nat):Fb:=m.tail.map fun r=>r.take c ++ r.drop (c+1)
theorem M.rQ {m:Fb} {c i:Nat} {r:List (Int × Int × Int × Int)} (h:m[i+1]?=some r):(M.f5 m c)[i]?=some (r.take c ++ r.drop (c+1)):=by
 unfold M.f5;rw [List.getElem?_map,List.getElem?_tail,h];rfl
theorem M.pS {m:Fb} {c n:Nat} (h:m.length=n+1):(M.f5 m c).length=n:=by
 unfold M.f5;rw [List.length_map,List.length_tail,h];rfl
def wR (n:Nat) (r:List (Int × Int × Int × Int)) (c:Nat) (b2:Nat) (rows:Fb) (w0 w2:World) (x1 x5 x10 Nx Ny x13:Value) (w:World):Prop:=match n with
 | 0=>Below w0.heap.size w0 w
 | 1=>Rw.Own EN w w0.heap.size x1 []∧Below w0.heap.size w0 w
 | 2=>Rw.Own EN w w0.heap.size x5 (r.take c)∧Below w0.heap.size w0 w
 | 3=>Rw.Own EN w w0.heap.size x10 (r.take c ++ r.drop (c+1))∧Below w0.heap.size w0 w
 | 4=>∃ w3,w=w3.alloc (.cells #[x10] 100)∧Nx=.slice (some ⟨w3.heap.size,0,none⟩) 1 1∧Rw.Own EN w3 w0.heap.size x10 (r.take c ++ r.drop (c+1))∧Below w0.heap.size w0 w3
 | 5=>dZ w b2 Ny (rows ++ [r.take c ++ r.drop (c+1)])∧Below b2 w2 w
 | _=>dZ w b2 x13 (rows ++ [r.take c ++ r.drop (c+1)])∧Below b2 w2 w
theorem rK (n c:Nat) (m:Fb) (v:Value) (base:Nat) (w:World) (hn:n≤2) (hml:m.length=n+2) (hmr:∀ r ∈ m,r.length=n+2) (hc:c<n+2) (hm:dZ w base v m) :
  Calls Tryz.prog 69 #[v,.int .i64 (c:Int)] w fun e w'=>∃ v',e=.returned v'∧dZ w' w.heap.size v' (M.f5 m c)∧Below w.heap.size w w':=by
 obtain ⟨vs,hm⟩:=hm;obtain ⟨gm,DD,rfl,hcm,hcm2,hgm⟩:=hm.form (fun h=>by rw [h] at hml;simp only [List.length_nil] at hml;omega);rw [hml] at hm hcm ⊢;have hmin:=yJ (fun (i:Nat) (r:List (Int × Int × Int × Int)) (h:m[i+1]?=some r)=>M.rQ (c:=c) h);have CM:=yJ (M.pS (c:=c) (n:=n+1) hml)
 obtain ⟨mm,hmm⟩:∃ x,x=M.f5 m c:=⟨_,rfl⟩
 rw [←hmm] at hmin CM ⊢;clear hmm;have hml:=yJ hml;have hmr:=yJ hmr;have hm:=yJ hm
 have hcap1:¬ DD=1:=by omega
 have hn1:(n:Int)≤2:=by omega
 go_enter Tryz.func69,Tryz.ntmps69
 go_wp2
 go_loopw [5,11] (fun vo vi wi=>∃ (i:Nat) (u:Value),i≤n+1∧vi=.int .i64 (i:Int)∧u=vo∧Hid (dZ wi w.heap.size u (mm.take i))∧Below w.heap.size w wi) (fun _ vi _=>n+1 - (intOf vi).toNat)
 case atStart=>exact ⟨0,_,Nat.zero_le _,rfl,rfl,yJ (dZ.nil _ _),yM _ _⟩
 case round=>
 obtain ⟨i,vo,hi,rfl,rfl,hrow,Bi⟩:=hrel;have Ae:=yJ (hm.out.below Bi)
 by_cases hlt2:i<n+1
 ·obtain ⟨r,hr⟩:∃ r,m[i+1]?=some r:=⟨_,List.getElem?_eq_getElem (by have:=hml.out;omega)⟩
  have hrl:r.length=n+2:=hmr.out r (List.mem_of_getElem? hr);obtain ⟨gi,yu,Gc,hci,hgi⟩:=Ae.out.rowIs hr (fun h=>by rw [h] at hrl;simp only [List.length_nil] at hrl;omega);have IZ:=Ae.out.iF Gc;rw [Nat.add_comm i 1] at IZ;have FR:=Ae.out.rowFrom Gc hr;rw [hrl] at IZ hci;have hcell:=hmin.out i r hr;have F1:=yJ (FR.cut c);have F2:=FR.qZ (c+1) yu (by omega);have hEN:EN.k=4:=rfl;rw [hEN] at F2;have F2:=yJ F2
  have hl1:(r.take c).length=c:=by rw [List.length_take];omega
  have hl2:(r.drop (c+1)).length=n+2 - (c+1):=by rw [List.length_drop,hrl]
  have hl1:=yJ hl1;have hl2:=yJ hl2;have hnx:=yJ (M.iq hcell);obtain ⟨vs2,BE⟩:=hrow.out;have BE:=yJ BE
  have hlen:(mm.take i).length≤1000000000:=by rw [List.length_take];omega
  have hlen:=yJ hlen;clear hEN hcell FR Gc hr hrl
  have hcc:((c:Nat):Int)≤4:=by omega
  have F9:((c:Nat):Int)≤((n+2:Nat):Int):=by omega
  have Mc:((c:Nat):Int)≤((yu:Nat):Int):=by omega
  have Md:((c:Nat):Int)+1≤((n+2:Nat):Int):=by omega
  go_upto_region 5 with fail
  refine Rg.ou (fun k v w2_=>wR k r c w.heap.size (mm.take i) wr w (v 1) (v 5) (v 10) (v 11) (v 12) (v 13) w2_) [1,5,10,11,12,13] [vo,undef,.slice (some ⟨gi,0,none⟩) (n+2) yu,.int .i64 ((c:Nat):Int),.slice (some ⟨gi,0,none⟩) c yu,undef,.slice (some ⟨gi,0,none⟩) (n+2) yu,.int .i64 ((c:Nat):Int),.int .i64 ((c:Nat)+1),.slice (if yu=c+1 then some ⟨gi,0,none⟩ else some ⟨gi,(c+1)*4,none⟩) (n+2 - (c+1)) (yu - (c+1)),undef,undef,undef,undef] (by kernel_rfl) (by kernel_rfl) (by kernel_rfl) (by decide) (fun k v v2 w h hj=>by rw [←h 1 (by decide),←h 5 (by decide),←h 10 (by decide),←h 11 (by decide),←h 12 (by decide),←h 13 (by decide)];exact hj) (fun _=>(yM _ wr).drew) ⟨?_,?_,?_,?_,?_,?_,?_,?_,?_,?_,?_,?_,?_,?_,trivial⟩ ?_
  ·unfold Rg.aj
   rw [if_neg (by decide)];intro zZ w_ n_ f_ zg hJ hr;refine ⟨rfl,?_⟩;have e5:zZ.tmps[5]?=some (vo):=hr 5 (by decide)
   go_simp
  ·unfold Rg.aj
   rw [if_pos (by decide)];intro zZ w_ f_ hJ hr;refine ⟨rfl,?_⟩;have hJ:Below wr.heap.size wr w_:=hJ;refine Rg.kL (x:=.slice (some ⟨w_.heap.size,0,none⟩) 0 0) (ob:=.cells #[] 64) (by (first | (go_simp;done) | (go_simp;rfl))) ?_;exact ⟨(Rw.Own.nv EN w_ _ hJ.size:Rw.Own EN _ wr.heap.size _ []),hJ.alloc hJ.size _⟩
  ·unfold Rg.aj
   rw [if_neg (by decide)];intro zZ w_ n_ f_ zg hJ hr;refine ⟨rfl,?_⟩;have e7:zZ.tmps[7]?=some (.slice (some ⟨gi,0,none⟩) (n+2) yu):=hr 7 (by decide)
   go_simp
  ·unfold Rg.aj
   rw [if_neg (by decide)];intro zZ w_ n_ f_ zg hJ hr;refine ⟨rfl,?_⟩;have e1:zZ.tmps[1]?=some (.int .i64 ((c:Nat):Int)):=hr 1 (by decide)
   go_simp
  ·unfold Rg.aj
   rw [if_neg (by decide)];intro zZ w_ n_ f_ zg hJ hr;refine ⟨rfl,?_⟩;have e17:zZ.tmps[17]?=some (.slice (some ⟨gi,0,none⟩) (n+2) yu):=hr 17 (by decide);have e18:zZ.tmps[18]?=some (.int .i64 ((c:Nat):Int)):=hr 18 (by decide)
   (first | (go_simp;done) | (go_simp;exact Rg.wr (by omega) (by omega)) | (go_simp;omega) | (go_simp;rfl))
  ·unfold Rg.aj
   rw [if_pos (by decide)];intro zZ w_ f_ hJ hr;have e16:zZ.tmps[16]?=some (f_ 1):=hr 16 (by decide);have e19:zZ.tmps[19]?=some (.slice (some ⟨gi,0,none⟩) c yu):=hr 19 (by decide);refine ⟨rfl,?_⟩;obtain ⟨yt,zj⟩:=hJ;have yt:Rw.Own EN w_ wr.heap.size (f_ 1) []:=yt;obtain ⟨v6,w6,CT,Cb,Cx⟩:=Rw.iH nZ (W:=wr) 100 (r.take c) c hl1.out (some ⟨gi,0,none⟩) yu (F1.out.below zj) yt zj zj.size (by simp only [List.length_nil];omega);refine Rg.ep (x:=v6) (w2:=w6) (Rg.eW rfl (Rg.ev e16) (Rg.ev e19) CT) ?_;exact ⟨Cb,Cx⟩
  ·unfold Rg.aj
   rw [if_neg (by decide)];intro zZ w_ n_ f_ zg hJ hr;refine ⟨rfl,?_⟩;have e7:zZ.tmps[7]?=some (.slice (some ⟨gi,0,none⟩) (n+2) yu):=hr 7 (by decide)
   go_simp
  ·unfold Rg.aj
   rw [if_neg (by decide)];intro zZ w_ n_ f_ zg hJ hr;refine ⟨rfl,?_⟩;have e1:zZ.tmps[1]?=some (.int .i64 ((c:Nat):Int)):=hr 1 (by decide)
   go_simp
  ·unfold Rg.aj
   rw [if_neg (by decide)];intro zZ w_ n_ f_ zg hJ hr;refine ⟨rfl,?_⟩;have e22:zZ.tmps[22]?=some (.int .i64 ((c:Nat):Int)):=hr 22 (by decide);have ec:=Rg.ec zZ
   (first | (go_simp;done) | (go_simp;exact Rg.wr (by omega) (by omega)) | (go_simp;omega) | (go_simp;rfl))
  ·unfold Rg.aj
   rw [if_neg (by decide)];intro zZ w_ n_ f_ zg hJ hr;refine ⟨rfl,?_⟩;have e21:zZ.tmps[21]?=some (.slice (some ⟨gi,0,none⟩) (n+2) yu):=hr 21 (by decide);have e23:zZ.tmps[23]?=some (.int .i64 ((c:Nat)+1)):=hr 23 (by decide)
   have hcN:((c:Nat):Int)+1≤((n+2:Nat):Int):=by omega
   (first | (go_simp;done) | (go_simp;exact Rg.wr (by omega) (by omega)) | (go_simp;omega) | (go_simp;rfl))
  ·unfold Rg.aj
   rw [if_pos (by decide)];intro zZ w_ f_ hJ hr;have e20:zZ.tmps[20]?=some (f_ 5):=hr 20 (by decide);have e24:zZ.tmps[24]?=some (.slice (if yu=c+1 then some ⟨gi,0,none⟩ else some ⟨gi,(c+1)*4,none⟩) (n+2 - (c+1)) (yu - (c+1))):=hr 24 (by decide);refine ⟨rfl,?_⟩;obtain ⟨yt,zj⟩:=hJ;have yt:Rw.Own EN w_ wr.heap.size (f_ 5) (r.take c):=yt;obtain ⟨v6,w6,CT,Cb,Cx⟩:=Rw.iH nZ (W:=wr) 100 (r.drop (c+1)) (n+2 - (c+1)) hl2.out _ (yu - (c+1)) (F2.out.below zj) yt zj zj.size (by rw [hl1.out];omega);refine Rg.ep (x:=v6) (w2:=w6) (Rg.eW rfl (Rg.ev e20) (Rg.ev e24) CT) ?_;exact ⟨Cb,Cx⟩
  ·unfold Rg.aj
   rw [if_pos (by decide)];intro zZ w_ f_ hJ hr;have e25:zZ.tmps[25]?=some (f_ 10):=hr 25 (by decide);refine ⟨rfl,?_⟩;obtain ⟨yt,zj⟩:=hJ;have yt:Rw.Own EN w_ wr.heap.size (f_ 10) _:=yt;refine Rg.kL (x:=.slice (some ⟨w_.heap.size,0,none⟩) 1 1) (ob:=.cells #[f_ 10] 100) (by rcases yt.forms with ⟨q_,-⟩ | ⟨g_,c_,q_,-⟩ <;> rw [q_] at e25 ⊢ <;> (first | (go_simp;done) | (go_simp;rfl))) ?_;exact ⟨w_,rfl,rfl,yt,zj⟩
  ·unfold Rg.aj
   rw [if_pos (by decide)];intro zZ w_ f_ hJ hr;have e15:zZ.tmps[15]?=some (vo):=hr 15 (by decide);have e26:zZ.tmps[26]?=some (f_ 11):=hr 26 (by decide);refine ⟨rfl,?_⟩;obtain ⟨w3,NP,Cn,yt,zj⟩:=hJ;subst NP;have Cn:f_ 11=.slice (some ⟨w3.heap.size,0,none⟩) 1 1:=Cn;have yt:Rw.Own EN w3 wr.heap.size (f_ 10) _:=yt;rw [Cn] at e26;have D4:Below w.heap.size w w3:=i_ Bi zj;obtain ⟨v6,w6,CT,Cb,Cx⟩:=kx (W:=w) (w:=w3) 83 w.heap.size (f_ 10) _ vs2 _ _ (BE.out.below zj) (yt.down Bi.size) (BE.out.fresh yt (yN _)) D4 D4.size hlen.out;refine Rg.ep (x:=v6) (w2:=w6) (Rg.eW rfl (Rg.ev e15) (Rg.ev e26) CT) ?_;exact ⟨⟨_,Cb⟩,Cx⟩
  ·unfold Rg.aj
   rw [if_pos (by decide)];intro zZ w_ f_ hJ hr;have e27:zZ.tmps[27]?=some (f_ 12):=hr 27 (by decide);refine ⟨rfl,?_⟩;refine Rg.ep (x:=f_ 12) (w2:=w_) (by (first | (go_simp;done) | (go_simp;rfl))) ?_;exact hJ
  intro vals wz hJ hv;simp only [Rg.ak,Rg.fill,Act.put,Nat.reduceAdd];clear hv;obtain ⟨hM2,hB2⟩:=hJ;have hM2:dZ wz w.heap.size (vals 13) (mm.take i ++ [r.take c ++ r.drop (c+1)]):=hM2;rw [←hnx.out] at hM2;have hM2:=yJ hM2;clear hnx BE;go_wp2
  go_roundw
  case rel=>exact ⟨i+1,_,by omega,by go_num,rfl,hM2,hB2⟩
  case measure=>simp [intOf] <;> omega
 obtain rfl:i=n+1:=by omega
 have CG:dZ wr w.heap.size vo mm:=by
  have h:=hrow.out;rw [List.take_of_length_le (by rw [CM.out];omega)] at h;exact h
 have CG:=yJ CG;clear hrow Ae;go_wp2;go_ret;exact ⟨_,rfl,CG.out,Bi⟩
namespace M
noncomputable def CQ (m:zQ):Fb:=m.map fun r=>r.map fun q=>Ca (some q)
theorem rR (m:zQ) (c:Nat):f5 (CQ m) c=CQ (cM m c):=by
 unfold f5 CQ cM;rw [←List.map_tail,List.map_map,List.map_map]
 refine List.map_congr_left fun r _=>?_
 simp only [Function.comp,List.map_append,List.map_take,List.map_drop]
theorem xB {m:zQ} {i:Nat} {r:List (Int × Int)} (h:m[i]?=some r):(CQ m)[i]?=some (r.map fun q=>Ca (some q)):=by
 unfold CQ;rw [List.getElem?_map,h];rfl
theorem vE (m:zQ):(CQ m).length=m.length:=by unfold CQ;rw [List.length_map]
theorem xC {n:Nat} {m:zQ} (h:square n m):∀ r ∈ CQ m,r.length=n:=fun r hr=>by
 unfold CQ at hr;obtain ⟨s,hs,rfl⟩:=List.mem_map.1 hr;rw [List.length_map];exact h.2 s hs
theorem tA {n:Nat} {m:zQ} {c:Nat} (AG:square (n+2) m) (hc:c<n+2) (h:dj n m (c+1)=none):ch (n+2) m=none:=by
 have hl:(m.headD []).length=n+2:=by
  cases m with
  | nil=>have:=AG.1;simp only [List.length_nil] at this;omega
  | cons r m=>exact AG.2 r (List.mem_cons_self ..)
 rw [jK,hl];exact lX h _ (by omega)
theorem tC {n:Nat} {m:zQ} (AG:square (n+2) m):ch (n+2) m=dj n m (n+2):=by
 have hl:(m.headD []).length=n+2:=by
  cases m with
  | nil=>have:=AG.1;simp only [List.length_nil] at this;omega
  | cons r m=>exact AG.2 r (List.mem_cons_self ..)
 rw [jK,hl]
theorem vA:zI (some (0,0))=0∧zJ (some (0,0))=1∧zK (some (0,0))=0∧zL (some (0,0))=1:=by
 obtain ⟨k1,k2⟩:=uC (n:=0) (by decide) (by decide);exact ⟨k1,k2,k1,k2⟩
theorem jO:zI none=0∧zJ none=0∧zK none=0∧zL none=0∧(none:Sp).isSome=false:=⟨rfl,rfl,rfl,rfl,rfl⟩
end M
theorem vD (n:Nat):∀ (m:M.zQ) (v:Value) (base:Nat) (w:World),n≤3→M.square (n+1) m→M.Gk m→dZ w base v (M.CQ m)→
  Calls Tryz.prog 53 #[v] w fun e w'=>e=.returned (.tuple #[.agg #[.int .i64 (M.zI (M.ch (n+1) m)),.int .i64 (M.zJ (M.ch (n+1) m)),.int .i64 (M.zK (M.ch (n+1) m)),.int .i64 (M.zL (M.ch (n+1) m))],.bool (M.ch (n+1) m).isSome])∧Below w.heap.size w w':=by
 induction n with
 | zero=>
  intro m v base w hn AG hok hm
  obtain ⟨q,rfl⟩:∃ q,m=[[q]]:=by
   obtain ⟨h1,h2⟩:=AG;obtain ⟨r,rfl⟩:=List.length_eq_one_iff.1 h1;obtain ⟨q,rfl⟩:=List.length_eq_one_iff.1 (h2 r (List.mem_cons_self ..));exact ⟨q,rfl⟩
  have hd:M.ch (0+1) [[q]]=some q:=rfl;rw [hd];obtain ⟨gm,cap,g2,cap2,rfl,k0,k1,k2,k3,k4⟩:=hm.at (i:=0) (j:=0) (q:=M.Ca (some q)) (r:=[M.Ca (some q)]) rfl rfl;have hl:(M.CQ [[q]]).length=1:=rfl;simp only [Nat.zero_mul,Nat.zero_add,List.length_cons,List.length_nil,hl,M.Ca] at k0 k1 k2 k3 k4 ⊢;clear hd hl hok AG hm;have e5:(some q:M.Sp).isSome=true:=rfl;rw [e5];clear e5;generalize M.zI (some q)=q1 at *;generalize M.zJ (some q)=q2 at *;generalize M.zK (some q)=q3 at *;generalize M.zL (some q)=q4 at *;obtain ⟨wc,hw3,R,B⟩:=gU w #[.int .i64 0,.int .i64 0,.int .i64 0,.int .i64 0] 64;replace k0:=aE B k0;replace k1:=aE B k1;replace k2:=aE B k2;replace k3:=aE B k3;replace k4:=aE B k4;have ⟨r0,r1,r2,r3,z0,z1,z2,z3,rl⟩:=R.aM;go_enter Tryz.func53,Tryz.ntmps53
  go_wp2;exact bodyPost_ret (v:=.tuple #[.agg #[.int .i64 q1,.int .i64 q2,.int .i64 q3,.int .i64 q4],.bool true]) (by simp [results,Tryz.results53,go_sem, *]) rfl (⟨rfl,yL (yL (yL (yL B (yN _) _) (yN _) _) (yN _) _) (yN _) _⟩)
 | succ n ih=>
 intro m v base w hn AG hok hm;obtain ⟨vs,hm⟩:=hm;have hml:m.length=n+2:=AG.1
 have Du:(M.CQ m).length=n+2:=by rw [M.vE];exact hml
 obtain ⟨r0,hr0⟩:∃ r,m[0]?=some r:=⟨_,List.getElem?_eq_getElem (by omega)⟩
 have BD:r0.length=n+2:=AG.2 r0 (List.mem_of_getElem? hr0)
 have hhd:m.headD []=r0:=by
  cases m with
  | nil=>cases hr0
  | cons x m=>exact Option.some.inj hr0
 obtain ⟨rN,IQ⟩:∃ x,x=r0.map fun q=>M.Ca (some q):=⟨_,rfl⟩
 have Ew:(M.CQ m)[0]?=some rN:=by rw [IQ];exact M.xB hr0
 have Ex:rN.length=n+2:=by rw [IQ,List.length_map];exact BD
 obtain ⟨gm,DD,rfl,hcm,hcm2,hgm⟩:=hm.form (fun h=>by rw [h] at Du;simp only [List.length_nil] at Du;omega);obtain ⟨g0,cap0,hv0,hc0,hg0⟩:=hm.rowIs Ew (fun h=>by rw [h] at Ex;simp only [List.length_nil] at Ex;omega);rw [Ex] at hv0 hc0;rw [Du] at hm hcm ⊢;have ES:=hm.iF hv0;have PMn:=yJ (fun c (hc:c<n+2) W h=>rK n c (M.CQ m) (.slice (some ⟨gm,0,none⟩) (n+2) DD) base W (by omega) Du (M.xC AG) hc h);have hnone:=yJ (fun c (hc:c<n+2) h=>M.tA (n:=n) (m:=m) (c:=c) AG hc h);have hsome:=yJ (M.tC (n:=n) (m:=m) AG);have AG:=yJ AG;have IQ:=yJ IQ;have hr0:=yJ hr0;have Ew:=yJ Ew;have BD:=yJ BD;have hml:=yJ hml;have hhd:=yJ hhd;have hok:=yJ hok;have hm:=yJ hm;have hv0:=yJ hv0;have ih:=yJ ih;clear Du Ex
 have PI:=yJ fun W=>uv 0 W
 obtain ⟨wc,hw3,R,B⟩:=gU w #[.int .i64 0,.int .i64 0,.int .i64 0,.int .i64 0] 64;replace ES:=aE B ES
 have hn1:(n:Int)≤2:=by omega
 have hne1:((n:Int)+2 == 1)=false:=by rw [beq_eq_false_iff_ne];omega
 go_enter Tryz.func53,Tryz.ntmps53
 go_wp2_with (go_at_call 68;(with_reducible refine (PI.out _).mono ?_);rintro e w5 ⟨rfl,hb5⟩;replace B:=i_ B hb5;replace R:=R.keep hb5;replace ES:=aE hb5 ES;have kr1:=aE ((yM _ w5).alloc (yN _) (.cells #[.int .i64 0,.int .i64 1,.int .i64 0,.int .i64 1] 64)) ES)
 have S:=aH.new w5 #[.int .i64 0,.int .i64 1,.int .i64 0,.int .i64 1] 64;have hrl:=R.lt;replace R:=R.alloc (.cells #[.int .i64 0,.int .i64 1,.int .i64 0,.int .i64 1] 64);replace B:=B.alloc B.size (.cells #[.int .i64 0,.int .i64 1,.int .i64 0,.int .i64 1] 64);have hsl:=S.lt
 have nSR:w5.heap.size≠w.heap.size:=by omega
 have nRS:w.heap.size≠w5.heap.size:=by omega
 have hsb:w.heap.size≤w5.heap.size:=by omega
 go_loopw [28] (fun vc wq=>∃ (c:Nat) (s:Int × Int),c≤n+2∧vc=.int .i64 (c:Int)∧Hid (M.dj n m c=some s)∧aH wq w5.heap.size 64 #[.int .i64 (M.zI (some s)),.int .i64 (M.zJ (some s)),.int .i64 (M.zK (some s)),.int .i64 (M.zL (some s))]∧aH wq w.heap.size 64 #[.int .i64 0,.int .i64 0,.int .i64 0,.int .i64 0]∧w5.heap.size+1≤wq.heap.size∧Below w.heap.size w wq) (fun vc _=>n+2 - (intOf vc).toNat)
 case atStart=>
  obtain ⟨e1,e2,e3,e4⟩:=M.vA;exact ⟨0,(0,0),Nat.zero_le _,rfl,yJ rfl,by rw [e1,e2,e3,e4];exact S,R,hsl,B⟩
 case round=>
 clear S R B ES hrl hsl;generalize w5.heap.size=sb at *;obtain ⟨c,s,hc,rfl,hs,S,R,hwz,B⟩:=hrel;generalize hwo:wr=wo at *;clear hwo
 by_cases hlt:c<n+2
 ·obtain ⟨q,hq⟩:∃ q,r0[c]?=some q:=⟨_,List.getElem?_eq_getElem (by have:=BD.out;omega)⟩
  have hqs:M.aN q.1 q.2=true:=hok.out r0 (List.mem_of_getElem? hr0.out) _ (List.mem_of_getElem? hq)
  have hqN:rN[c]?=some (M.Ca (some q)):=by rw [IQ.out,List.getElem?_map,hq];rfl
  have C_:=yJ (hm.out.below B);obtain ⟨d0,d1,d2,d3⟩:=(C_.out.rowFrom hv0.out Ew.out).at4 hqN;simp only [M.Ca] at d0 d1 d2 d3;have hss:M.aN s.1 s.2=true:=M.mS (n:=n) (m:=m) c s hs.out;have D3:=M.iI AG.out hlt;have hok1:=M.lQ (c:=c) hok.out
  have PD:=fun vo b W h=>ih.out (M.cM m c) vo b W (by omega) D3 hok1 h
  have PN:=PMn.out c hlt;rw [M.rR] at PN;have hdo:=M.jT hok1 (n+1);have hnx:=M.gM n m c;rw [hs.out,hhd.out,hq] at hnx;have hno:=hnone.out c hlt
  obtain ⟨mm,hmm⟩:∃ x,x=M.cM m c:=⟨_,rfl⟩
  obtain ⟨dd,hdd⟩:∃ x,x=M.ch (n+1) (M.cM m c):=⟨_,rfl⟩
  rw [←hdd] at PD hnx hdo;rw [←hmm] at PD PN;clear hmm hdd D3 hok1 hq hqN;have hnx:=yJ hnx;have hno:=yJ hno;have Bv:=(yM wo.heap.size wo).alloc (yN _) (.cells #[.int .i64 (M.zI (some q)),.int .i64 (M.zJ (some q)),.int .i64 (M.zK (some q)),.int .i64 (M.zL (some q))] 64);have X:=aH.new wo #[.int .i64 (M.zI (some q)),.int .i64 (M.zJ (some q)),.int .i64 (M.zK (some q)),.int .i64 (M.zL (some q))] 64;replace B:=i_ B Bv;replace S:=S.keep Bv;replace R:=R.keep Bv;have C_:=yJ (C_.out.below Bv);generalize hw2:wo.alloc (.cells #[.int .i64 (M.zI (some q)),.int .i64 (M.zJ (some q)),.int .i64 (M.zK (some q)),.int .i64 (M.zL (some q))] 64)=wb at *;clear Bv
  have hwz2:sb+1≤wb.heap.size:=by have:=S.lt;omega
  have hmw:=yJ (show dZ wb base (.slice (some ⟨gm,0,none⟩) (n+2) DD) (M.CQ m) from ⟨vs,C_.out⟩)
  cases dd with
  | none=>
   have hfin:M.ch (n+1+1) m=none:=hno.out (by rw [hnx.out];exact M.el _ _);have hfin:=yJ hfin;have e9:=yJ M.jO;rw [e9.out.1,e9.out.2.1,e9.out.2.2.1,e9.out.2.2.2.1,e9.out.2.2.2.2] at PD;clear e9;generalize M.zI (some q)=q1 at *;generalize M.zJ (some q)=q2 at *;generalize M.zK (some q)=q3 at *;generalize M.zL (some q)=q4 at *;replace PD:=yJ PD;replace PN:=yJ PN;clear hno hnx hnone hsome ih
   go_wp2_with first | (go_at_call 69;(with_reducible refine (PN.out _ hmw.out).mono ?_);rintro e w4 ⟨vo,rfl,Do,hb4⟩;replace B:=i_ B hb4;replace X:=X.keep hb4;replace S:=S.keep hb4;replace R:=R.keep hb4) | (go_at_call 53;(with_reducible refine (PD.out _ _ _ Do).mono ?_);rintro e w6 ⟨rfl,hb6⟩;replace B:=(i_ B hb6).alloc (Nat.le_trans B.size hb6.size) (.cells #[.int .i64 0,.int .i64 0,.int .i64 0,.int .i64 0] 64);replace X:=(X.keep hb6).alloc (.cells #[.int .i64 0,.int .i64 0,.int .i64 0,.int .i64 0] 64);replace S:=(S.keep hb6).alloc (.cells #[.int .i64 0,.int .i64 0,.int .i64 0,.int .i64 0] 64);replace R:=(R.keep hb6).alloc (.cells #[.int .i64 0,.int .i64 0,.int .i64 0,.int .i64 0] 64);have Y:=aH.new w6 #[.int .i64 0,.int .i64 0,.int .i64 0,.int .i64 0] 64;(have ⟨Ie,Ig,Ih,Ii,_,_,_,_,_⟩:=Y.aM);(have ⟨Ia,Ib,Ic,Id,_,_,_,_,_⟩:=X.aM);(have ⟨r0,r1,r2,r3,z0,z1,z2,z3,rl⟩:=R.aM))
   exact bodyPost_ret (v:=.tuple #[.agg #[.int .i64 0,.int .i64 0,.int .i64 0,.int .i64 0],.bool false]) (by simp [results,Tryz.results53,go_sem, *]) rfl (⟨by rw [hfin.out];rfl,yL (yL (yL (yL B (yN _) _) (yN _) _) (yN _) _) (yN _) _⟩)
  | some d=>
  have hds:M.aN d.1 d.2=true:=hdo d rfl
  have PX:=fun W=>th q d W hqs hds
  have e5:(some d:M.Sp).isSome=true:=rfl;rw [e5] at PD;clear e5
  obtain ⟨pp,hpp⟩:∃ x,x=M.fI (some q) (some d):=⟨_,rfl⟩
  have hpo:M.AU pp:=by rw [hpp];exact M.qU
  have hnx2:=hnx.out;rw [←hpp] at hnx2 PX;replace hnx:=yJ hnx2;clear hnx2 hpp;generalize M.zI (some q)=q1 at *;generalize M.zJ (some q)=q2 at *;generalize M.zK (some q)=q3 at *;generalize M.zL (some q)=q4 at *;generalize M.zI (some d)=d1 at *;generalize M.zJ (some d)=d2 at *;generalize M.zK (some d)=d3 at *;generalize M.zL (some d)=d4 at *;replace PD:=yJ PD;replace PN:=yJ PN
  cases pp with
  | none=>
   have hfin:M.ch (n+1+1) m=none:=hno.out (by rw [hnx.out];exact M.el _ _);have hfin:=yJ hfin;have e9:=yJ M.jO;rw [e9.out.1,e9.out.2.1,e9.out.2.2.1,e9.out.2.2.2.1,e9.out.2.2.2.2] at PX;clear e9;replace PX:=yJ PX;clear hno hnx hnone hsome ih
   go_wp2_with first | (go_at_call 69;(with_reducible refine (PN.out _ hmw.out).mono ?_);rintro e w4 ⟨vo,rfl,Do,hb4⟩;replace B:=i_ B hb4;replace X:=X.keep hb4;replace S:=S.keep hb4;replace R:=R.keep hb4) | (go_at_call 53;(with_reducible refine (PD.out _ _ _ Do).mono ?_);rintro e w6 ⟨rfl,hb6⟩;replace B:=(i_ B hb6).alloc (Nat.le_trans B.size hb6.size) (.cells #[.int .i64 d1,.int .i64 d2,.int .i64 d3,.int .i64 d4] 64);replace X:=(X.keep hb6).alloc (.cells #[.int .i64 d1,.int .i64 d2,.int .i64 d3,.int .i64 d4] 64);replace S:=(S.keep hb6).alloc (.cells #[.int .i64 d1,.int .i64 d2,.int .i64 d3,.int .i64 d4] 64);replace R:=(R.keep hb6).alloc (.cells #[.int .i64 d1,.int .i64 d2,.int .i64 d3,.int .i64 d4] 64);have Y:=aH.new w6 #[.int .i64 d1,.int .i64 d2,.int .i64 d3,.int .i64 d4] 64;(have ⟨Ie,Ig,Ih,Ii,_,_,_,_,_⟩:=Y.aM);(have ⟨Ia,Ib,Ic,Id,_,_,_,_,_⟩:=X.aM);(have ⟨r0,r1,r2,r3,z0,z1,z2,z3,rl⟩:=R.aM)) | (go_at_call 70;(with_reducible refine (PX.out _).mono ?_);rintro e w7 ⟨rfl,yh⟩;replace B:=(i_ B yh).alloc (Nat.le_trans B.size yh.size) (.cells #[.int .i64 0,.int .i64 0,.int .i64 0,.int .i64 0] 64);replace S:=(S.keep yh).alloc (.cells #[.int .i64 0,.int .i64 0,.int .i64 0,.int .i64 0] 64);replace R:=(R.keep yh).alloc (.cells #[.int .i64 0,.int .i64 0,.int .i64 0,.int .i64 0] 64);have Z:=aH.new w7 #[.int .i64 0,.int .i64 0,.int .i64 0,.int .i64 0] 64;(have ⟨FQ,FS,FT,FU,_,_,_,_,_⟩:=Z.aM);(have ⟨D6,D7,D8,D9,_,_,_,_,_⟩:=S.aM);(have ⟨r0,r1,r2,r3,z0,z1,z2,z3,rl⟩:=R.aM))
   exact bodyPost_ret (v:=.tuple #[.agg #[.int .i64 0,.int .i64 0,.int .i64 0,.int .i64 0],.bool false]) (by simp [results,Tryz.results53,go_sem, *]) rfl (⟨by rw [hfin.out];rfl,yL (yL (yL (yL B (yN _) _) (yN _) _) (yN _) _) (yN _) _⟩)
  | some p=>
  have hps:M.aN p.1 p.2=true:=hpo p rfl;have e5:(some p:M.Sp).isSome=true:=rfl;rw [e5] at PX;clear e5
  have PA:=fun W=>np s p W hss hps
  have PS:=fun W=>ns s p W hss hps
  have hst:M.dy (some s) (some p) c=if c % 2=0 then M.eu (some s) (some p) else M.cW (some s) (some p):=rfl
  have hnx2:=hnx.out;rw [hst] at hnx2;clear hst hnx hss hps hpo hds hdo hqs
  obtain ⟨ad,had⟩:∃ x,x=M.eu (some s) (some p):=⟨_,rfl⟩
  obtain ⟨su,hsu⟩:∃ x,x=M.cW (some s) (some p):=⟨_,rfl⟩
  rw [←had,←hsu] at hnx2;rw [←had] at PA;rw [←hsu] at PS;clear had hsu;generalize M.zI (some p)=p1 at *;generalize M.zJ (some p)=p2 at *;generalize M.zK (some p)=p3 at *;generalize M.zL (some p)=p4 at *;generalize M.zI (some s)=s1 at *;generalize M.zJ (some s)=s2 at *;generalize M.zK (some s)=s3 at *;generalize M.zL (some s)=s4 at *;replace PX:=yJ PX;have ht:Int.tmod ((c:Nat):Int) 2=((c % 2:Nat):Int):=(Int.ofNat_tmod c 2).symm
  rcases Nat.mod_two_eq_zero_or_one c with hp | hp
  ·rw [hp] at ht
   rw [if_pos hp] at hnx2;clear PS
   cases ad with
   | none=>
    have hfin:M.ch (n+1+1) m=none:=hno.out hnx2;have hfin:=yJ hfin;have e9:=yJ M.jO;rw [e9.out.1,e9.out.2.1,e9.out.2.2.1,e9.out.2.2.2.1,e9.out.2.2.2.2] at PA;clear e9;replace PA:=yJ PA;clear hno hnx2 hnone hsome ih hs
    go_wp2_with first | (go_at_call 69;(with_reducible refine (PN.out _ hmw.out).mono ?_);rintro e w4 ⟨vo,rfl,Do,hb4⟩;replace B:=i_ B hb4;replace X:=X.keep hb4;replace S:=S.keep hb4;replace R:=R.keep hb4) | (go_at_call 53;(with_reducible refine (PD.out _ _ _ Do).mono ?_);rintro e w6 ⟨rfl,hb6⟩;replace B:=(i_ B hb6).alloc (Nat.le_trans B.size hb6.size) (.cells #[.int .i64 d1,.int .i64 d2,.int .i64 d3,.int .i64 d4] 64);replace X:=(X.keep hb6).alloc (.cells #[.int .i64 d1,.int .i64 d2,.int .i64 d3,.int .i64 d4] 64);replace S:=(S.keep hb6).alloc (.cells #[.int .i64 d1,.int .i64 d2,.int .i64 d3,.int .i64 d4] 64);replace R:=(R.keep hb6).alloc (.cells #[.int .i64 d1,.int .i64 d2,.int .i64 d3,.int .i64 d4] 64);have Y:=aH.new w6 #[.int .i64 d1,.int .i64 d2,.int .i64 d3,.int .i64 d4] 64;(have ⟨Ie,Ig,Ih,Ii,_,_,_,_,_⟩:=Y.aM);(have ⟨Ia,Ib,Ic,Id,_,_,_,_,_⟩:=X.aM);(have ⟨r0,r1,r2,r3,z0,z1,z2,z3,rl⟩:=R.aM)) | (go_at_call 70;(with_reducible refine (PX.out _).mono ?_);rintro e w7 ⟨rfl,yh⟩;replace B:=(i_ B yh).alloc (Nat.le_trans B.size yh.size) (.cells #[.int .i64 p1,.int .i64 p2,.int .i64 p3,.int .i64 p4] 64);replace S:=(S.keep yh).alloc (.cells #[.int .i64 p1,.int .i64 p2,.int .i64 p3,.int .i64 p4] 64);replace R:=(R.keep yh).alloc (.cells #[.int .i64 p1,.int .i64 p2,.int .i64 p3,.int .i64 p4] 64);have Z:=aH.new w7 #[.int .i64 p1,.int .i64 p2,.int .i64 p3,.int .i64 p4] 64;(have ⟨FQ,FS,FT,FU,_,_,_,_,_⟩:=Z.aM);(have ⟨D6,D7,D8,D9,_,_,_,_,_⟩:=S.aM);(have ⟨r0,r1,r2,r3,z0,z1,z2,z3,rl⟩:=R.aM)) | (go_at_call 71;(with_reducible refine (PA.out _).mono ?_);rintro e w8 ⟨rfl,ya⟩;have IU:=yJ (S.keep ya).lt;have GS:=yJ (R.keep ya).lt;replace B:=(i_ B ya).alloc (Nat.le_trans B.size ya.size) (.cells #[.int .i64 0,.int .i64 0,.int .i64 0,.int .i64 0] 64);replace S:=(S.keep ya).alloc (.cells #[.int .i64 0,.int .i64 0,.int .i64 0,.int .i64 0] 64);replace R:=(R.keep ya).alloc (.cells #[.int .i64 0,.int .i64 0,.int .i64 0,.int .i64 0] 64);replace Z:=(Z.keep ya).alloc (.cells #[.int .i64 0,.int .i64 0,.int .i64 0,.int .i64 0] 64);have N:=aH.new w8 #[.int .i64 0,.int .i64 0,.int .i64 0,.int .i64 0] 64;(have ⟨IV,IW,IX,IY,In,Io,Ip,Iq,nl⟩:=N.aM);(have ⟨FQ,FS,FT,FU,_,_,_,_,_⟩:=Z.aM);(have ⟨D6,D7,D8,D9,I4,I5,I6,I7,sl⟩:=S.aM);(have ⟨r0,r1,r2,r3,z0,z1,z2,z3,rl⟩:=R.aM))
    exact bodyPost_ret (v:=.tuple #[.agg #[.int .i64 0,.int .i64 0,.int .i64 0,.int .i64 0],.bool false]) (by simp [results,Tryz.results53,go_sem, *]) rfl (⟨by rw [hfin.out];rfl,yL (yL (yL (yL B (yN _) _) (yN _) _) (yN _) _) (yN _) _⟩)
   | some sx=>
   have hnx:=yJ hnx2;have e5:(some sx:M.Sp).isSome=true:=rfl;rw [e5] at PA;clear e5 hnx2
   obtain ⟨x1,hx1⟩:∃ x,x=M.zI (some sx):=⟨_,rfl⟩
   obtain ⟨x2,hx2⟩:∃ x,x=M.zJ (some sx):=⟨_,rfl⟩
   obtain ⟨x3,hx3⟩:∃ x,x=M.zK (some sx):=⟨_,rfl⟩
   obtain ⟨x4,hx4⟩:∃ x,x=M.zL (some sx):=⟨_,rfl⟩
   rw [←hx1,←hx2,←hx3,←hx4] at PA;replace hx1:=yJ hx1;replace hx2:=yJ hx2;replace hx3:=yJ hx3;replace hx4:=yJ hx4;replace PA:=yJ PA
   go_wp2_with first | (go_at_call 69;(with_reducible refine (PN.out _ hmw.out).mono ?_);rintro e w4 ⟨vo,rfl,Do,hb4⟩;replace B:=i_ B hb4;replace X:=X.keep hb4;replace S:=S.keep hb4;replace R:=R.keep hb4) | (go_at_call 53;(with_reducible refine (PD.out _ _ _ Do).mono ?_);rintro e w6 ⟨rfl,hb6⟩;replace B:=(i_ B hb6).alloc (Nat.le_trans B.size hb6.size) (.cells #[.int .i64 d1,.int .i64 d2,.int .i64 d3,.int .i64 d4] 64);replace X:=(X.keep hb6).alloc (.cells #[.int .i64 d1,.int .i64 d2,.int .i64 d3,.int .i64 d4] 64);replace S:=(S.keep hb6).alloc (.cells #[.int .i64 d1,.int .i64 d2,.int .i64 d3,.int .i64 d4] 64);replace R:=(R.keep hb6).alloc (.cells #[.int .i64 d1,.int .i64 d2,.int .i64 d3,.int .i64 d4] 64);have Y:=aH.new w6 #[.int .i64 d1,.int .i64 d2,.int .i64 d3,.int .i64 d4] 64;(have ⟨Ie,Ig,Ih,Ii,_,_,_,_,_⟩:=Y.aM);(have ⟨Ia,Ib,Ic,Id,_,_,_,_,_⟩:=X.aM);(have ⟨r0,r1,r2,r3,z0,z1,z2,z3,rl⟩:=R.aM)) | (go_at_call 70;(with_reducible refine (PX.out _).mono ?_);rintro e w7 ⟨rfl,yh⟩;replace B:=(i_ B yh).alloc (Nat.le_trans B.size yh.size) (.cells #[.int .i64 p1,.int .i64 p2,.int .i64 p3,.int .i64 p4] 64);replace S:=(S.keep yh).alloc (.cells #[.int .i64 p1,.int .i64 p2,.int .i64 p3,.int .i64 p4] 64);replace R:=(R.keep yh).alloc (.cells #[.int .i64 p1,.int .i64 p2,.int .i64 p3,.int .i64 p4] 64);have Z:=aH.new w7 #[.int .i64 p1,.int .i64 p2,.int .i64 p3,.int .i64 p4] 64;(have ⟨FQ,FS,FT,FU,_,_,_,_,_⟩:=Z.aM);(have ⟨D6,D7,D8,D9,_,_,_,_,_⟩:=S.aM);(have ⟨r0,r1,r2,r3,z0,z1,z2,z3,rl⟩:=R.aM)) | (go_at_call 71;(with_reducible refine (PA.out _).mono ?_);rintro e w8 ⟨rfl,ya⟩;have IU:=yJ (S.keep ya).lt;have GS:=yJ (R.keep ya).lt;replace B:=(i_ B ya).alloc (Nat.le_trans B.size ya.size) (.cells #[.int .i64 x1,.int .i64 x2,.int .i64 x3,.int .i64 x4] 64);replace S:=(S.keep ya).alloc (.cells #[.int .i64 x1,.int .i64 x2,.int .i64 x3,.int .i64 x4] 64);replace R:=(R.keep ya).alloc (.cells #[.int .i64 x1,.int .i64 x2,.int .i64 x3,.int .i64 x4] 64);replace Z:=(Z.keep ya).alloc (.cells #[.int .i64 x1,.int .i64 x2,.int .i64 x3,.int .i64 x4] 64);have N:=aH.new w8 #[.int .i64 x1,.int .i64 x2,.int .i64 x3,.int .i64 x4] 64;(have ⟨IV,IW,IX,IY,In,Io,Ip,Iq,nl⟩:=N.aM);(have ⟨FQ,FS,FT,FU,_,_,_,_,_⟩:=Z.aM);(have ⟨D6,D7,D8,D9,I4,I5,I6,I7,sl⟩:=S.aM);(have ⟨r0,r1,r2,r3,z0,z1,z2,z3,rl⟩:=R.aM))
   go_roundw
   case rel=>exact ⟨c+1,sx,by omega,by go_num,hnx,by rw [←hx1.out,←hx2.out,←hx3.out,←hx4.out];exact aH.k8 S _ _ _ _,R.f8 nRS _ _ _ _,by rw [aZ,aZ,aZ,aZ];omega,yL (yL (yL (yL B hsb _) hsb _) hsb _) hsb _⟩
   case measure=>simp [intOf] <;> omega
  rw [hp] at ht;rw [if_neg (by omega)] at hnx2;generalize M.zI ad=v1 at *;generalize M.zJ ad=v2 at *;generalize M.zK ad=v3 at *;generalize M.zL ad=v4 at *;generalize ad.isSome=fv at *;replace PA:=yJ PA
  cases su with
  | none=>
   have hfin:M.ch (n+1+1) m=none:=hno.out hnx2;have hfin:=yJ hfin;have e9:=yJ M.jO;rw [e9.out.1,e9.out.2.1,e9.out.2.2.1,e9.out.2.2.2.1,e9.out.2.2.2.2] at PS;clear e9;replace PS:=yJ PS;clear hno hnx2 hnone hsome ih hs
   go_wp2_with first | (go_at_call 69;(with_reducible refine (PN.out _ hmw.out).mono ?_);rintro e w4 ⟨vo,rfl,Do,hb4⟩;replace B:=i_ B hb4;replace X:=X.keep hb4;replace S:=S.keep hb4;replace R:=R.keep hb4) | (go_at_call 53;(with_reducible refine (PD.out _ _ _ Do).mono ?_);rintro e w6 ⟨rfl,hb6⟩;replace B:=(i_ B hb6).alloc (Nat.le_trans B.size hb6.size) (.cells #[.int .i64 d1,.int .i64 d2,.int .i64 d3,.int .i64 d4] 64);replace X:=(X.keep hb6).alloc (.cells #[.int .i64 d1,.int .i64 d2,.int .i64 d3,.int .i64 d4] 64);replace S:=(S.keep hb6).alloc (.cells #[.int .i64 d1,.int .i64 d2,.int .i64 d3,.int .i64 d4] 64);replace R:=(R.keep hb6).alloc (.cells #[.int .i64 d1,.int .i64 d2,.int .i64 d3,.int .i64 d4] 64);have Y:=aH.new w6 #[.int .i64 d1,.int .i64 d2,.int .i64 d3,.int .i64 d4] 64;(have ⟨Ie,Ig,Ih,Ii,_,_,_,_,_⟩:=Y.aM);(have ⟨Ia,Ib,Ic,Id,_,_,_,_,_⟩:=X.aM);(have ⟨r0,r1,r2,r3,z0,z1,z2,z3,rl⟩:=R.aM)) | (go_at_call 70;(with_reducible refine (PX.out _).mono ?_);rintro e w7 ⟨rfl,yh⟩;replace B:=(i_ B yh).alloc (Nat.le_trans B.size yh.size) (.cells #[.int .i64 p1,.int .i64 p2,.int .i64 p3,.int .i64 p4] 64);replace S:=(S.keep yh).alloc (.cells #[.int .i64 p1,.int .i64 p2,.int .i64 p3,.int .i64 p4] 64);replace R:=(R.keep yh).alloc (.cells #[.int .i64 p1,.int .i64 p2,.int .i64 p3,.int .i64 p4] 64);have Z:=aH.new w7 #[.int .i64 p1,.int .i64 p2,.int .i64 p3,.int .i64 p4] 64;(have ⟨FQ,FS,FT,FU,_,_,_,_,_⟩:=Z.aM);(have ⟨D6,D7,D8,D9,_,_,_,_,_⟩:=S.aM);(have ⟨r0,r1,r2,r3,z0,z1,z2,z3,rl⟩:=R.aM)) | (go_at_call 71;(with_reducible refine (PA.out _).mono ?_);rintro e w8 ⟨rfl,ya⟩;have IU:=yJ (S.keep ya).lt;have GS:=yJ (R.keep ya).lt;replace B:=(i_ B ya).alloc (Nat.le_trans B.size ya.size) (.cells #[.int .i64 v1,.int .i64 v2,.int .i64 v3,.int .i64 v4] 64);replace S:=(S.keep ya).alloc (.cells #[.int .i64 v1,.int .i64 v2,.int .i64 v3,.int .i64 v4] 64);replace R:=(R.keep ya).alloc (.cells #[.int .i64 v1,.int .i64 v2,.int .i64 v3,.int .i64 v4] 64);replace Z:=(Z.keep ya).alloc (.cells #[.int .i64 v1,.int .i64 v2,.int .i64 v3,.int .i64 v4] 64);have N:=aH.new w8 #[.int .i64 v1,.int .i64 v2,.int .i64 v3,.int .i64 v4] 64;(have ⟨IV,IW,IX,IY,In,Io,Ip,Iq,nl⟩:=N.aM);(have ⟨FQ,FS,FT,FU,_,_,_,_,_⟩:=Z.aM);(have ⟨D6,D7,D8,D9,I4,I5,I6,I7,sl⟩:=S.aM);(have ⟨r0,r1,r2,r3,z0,z1,z2,z3,rl⟩:=R.aM)) | (go_at_call 72;(with_reducible refine (PS.out _).mono ?_);rintro e w9 ⟨rfl,yc⟩;(have Na:sb≠w8.heap.size:=by have:=IU.out;omega);(have HC:w.heap.size≤w8.heap.size:=by have:=GS.out;omega);(have zh:w.heap.size≠w8.heap.size:=by have:=GS.out;omega);replace B:=yL (yL (yL (yL (i_ B yc) (p:=⟨w8.heap.size,0,none⟩) (by show w.heap.size≤w8.heap.size;omega) (.int .i64 0)) (p:=⟨w8.heap.size,1,none⟩) (by show w.heap.size≤w8.heap.size;omega) (.int .i64 0)) (p:=⟨w8.heap.size,2,none⟩) (by show w.heap.size≤w8.heap.size;omega) (.int .i64 0)) (p:=⟨w8.heap.size,3,none⟩) (by show w.heap.size≤w8.heap.size;omega) (.int .i64 0);replace S:=(S.keep yc).f8 Na (.int .i64 0) (.int .i64 0) (.int .i64 0) (.int .i64 0);replace R:=(R.keep yc).f8 zh (.int .i64 0) (.int .i64 0) (.int .i64 0) (.int .i64 0);replace N:=(N.keep yc);(have ⟨IV,IW,IX,IY,In,Io,Ip,Iq,nl⟩:=N.aM);replace N:=N.k8 (.int .i64 0) (.int .i64 0) (.int .i64 0) (.int .i64 0);(have ⟨km0,km1,km2,km3,_,_,_,_,_⟩:=N.aM);(have ⟨D6,D7,D8,D9,I4,I5,I6,I7,sl⟩:=S.aM);(have ⟨r0,r1,r2,r3,z0,z1,z2,z3,rl⟩:=R.aM))
   exact bodyPost_ret (v:=.tuple #[.agg #[.int .i64 0,.int .i64 0,.int .i64 0,.int .i64 0],.bool false]) (by simp [results,Tryz.results53,go_sem, *]) rfl (⟨by rw [hfin.out];rfl,yL (yL (yL (yL B (yN _) _) (yN _) _) (yN _) _) (yN _) _⟩)
  | some sx=>
  have hnx:=yJ hnx2;have e5:(some sx:M.Sp).isSome=true:=rfl;rw [e5] at PS;clear e5 hnx2
  obtain ⟨x1,hx1⟩:∃ x,x=M.zI (some sx):=⟨_,rfl⟩
  obtain ⟨x2,hx2⟩:∃ x,x=M.zJ (some sx):=⟨_,rfl⟩
  obtain ⟨x3,hx3⟩:∃ x,x=M.zK (some sx):=⟨_,rfl⟩
  obtain ⟨x4,hx4⟩:∃ x,x=M.zL (some sx):=⟨_,rfl⟩
  rw [←hx1,←hx2,←hx3,←hx4] at PS;replace hx1:=yJ hx1;replace hx2:=yJ hx2;replace hx3:=yJ hx3;replace hx4:=yJ hx4;replace PS:=yJ PS
  go_wp2_with first | (go_at_call 69;(with_reducible refine (PN.out _ hmw.out).mono ?_);rintro e w4 ⟨vo,rfl,Do,hb4⟩;replace B:=i_ B hb4;replace X:=X.keep hb4;replace S:=S.keep hb4;replace R:=R.keep hb4) | (go_at_call 53;(with_reducible refine (PD.out _ _ _ Do).mono ?_);rintro e w6 ⟨rfl,hb6⟩;replace B:=(i_ B hb6).alloc (Nat.le_trans B.size hb6.size) (.cells #[.int .i64 d1,.int .i64 d2,.int .i64 d3,.int .i64 d4] 64);replace X:=(X.keep hb6).alloc (.cells #[.int .i64 d1,.int .i64 d2,.int .i64 d3,.int .i64 d4] 64);replace S:=(S.keep hb6).alloc (.cells #[.int .i64 d1,.int .i64 d2,.int .i64 d3,.int .i64 d4] 64);replace R:=(R.keep hb6).alloc (.cells #[.int .i64 d1,.int .i64 d2,.int .i64 d3,.int .i64 d4] 64);have Y:=aH.new w6 #[.int .i64 d1,.int .i64 d2,.int .i64 d3,.int .i64 d4] 64;(have ⟨Ie,Ig,Ih,Ii,_,_,_,_,_⟩:=Y.aM);(have ⟨Ia,Ib,Ic,Id,_,_,_,_,_⟩:=X.aM);(have ⟨r0,r1,r2,r3,z0,z1,z2,z3,rl⟩:=R.aM)) | (go_at_call 70;(with_reducible refine (PX.out _).mono ?_);rintro e w7 ⟨rfl,yh⟩;replace B:=(i_ B yh).alloc (Nat.le_trans B.size yh.size) (.cells #[.int .i64 p1,.int .i64 p2,.int .i64 p3,.int .i64 p4] 64);replace S:=(S.keep yh).alloc (.cells #[.int .i64 p1,.int .i64 p2,.int .i64 p3,.int .i64 p4] 64);replace R:=(R.keep yh).alloc (.cells #[.int .i64 p1,.int .i64 p2,.int .i64 p3,.int .i64 p4] 64);have Z:=aH.new w7 #[.int .i64 p1,.int .i64 p2,.int .i64 p3,.int .i64 p4] 64;(have ⟨FQ,FS,FT,FU,_,_,_,_,_⟩:=Z.aM);(have ⟨D6,D7,D8,D9,_,_,_,_,_⟩:=S.aM);(have ⟨r0,r1,r2,r3,z0,z1,z2,z3,rl⟩:=R.aM)) | (go_at_call 71;(with_reducible refine (PA.out _).mono ?_);rintro e w8 ⟨rfl,ya⟩;have IU:=yJ (S.keep ya).lt;have GS:=yJ (R.keep ya).lt;replace B:=(i_ B ya).alloc (Nat.le_trans B.size ya.size) (.cells #[.int .i64 v1,.int .i64 v2,.int .i64 v3,.int .i64 v4] 64);replace S:=(S.keep ya).alloc (.cells #[.int .i64 v1,.int .i64 v2,.int .i64 v3,.int .i64 v4] 64);replace R:=(R.keep ya).alloc (.cells #[.int .i64 v1,.int .i64 v2,.int .i64 v3,.int .i64 v4] 64);replace Z:=(Z.keep ya).alloc (.cells #[.int .i64 v1,.int .i64 v2,.int .i64 v3,.int .i64 v4] 64);have N:=aH.new w8 #[.int .i64 v1,.int .i64 v2,.int .i64 v3,.int .i64 v4] 64;(have ⟨IV,IW,IX,IY,In,Io,Ip,Iq,nl⟩:=N.aM);(have ⟨FQ,FS,FT,FU,_,_,_,_,_⟩:=Z.aM);(have ⟨D6,D7,D8,D9,I4,I5,I6,I7,sl⟩:=S.aM);(have ⟨r0,r1,r2,r3,z0,z1,z2,z3,rl⟩:=R.aM)) | (go_at_call 72;(with_reducible refine (PS.out _).mono ?_);rintro e w9 ⟨rfl,yc⟩;(have Na:sb≠w8.heap.size:=by have:=IU.out;omega);(have HC:w.heap.size≤w8.heap.size:=by have:=GS.out;omega);(have zh:w.heap.size≠w8.heap.size:=by have:=GS.out;omega);replace B:=yL (yL (yL (yL (i_ B yc) (p:=⟨w8.heap.size,0,none⟩) (by show w.heap.size≤w8.heap.size;omega) (.int .i64 x1)) (p:=⟨w8.heap.size,1,none⟩) (by show w.heap.size≤w8.heap.size;omega) (.int .i64 x2)) (p:=⟨w8.heap.size,2,none⟩) (by show w.heap.size≤w8.heap.size;omega) (.int .i64 x3)) (p:=⟨w8.heap.size,3,none⟩) (by show w.heap.size≤w8.heap.size;omega) (.int .i64 x4);replace S:=(S.keep yc).f8 Na (.int .i64 x1) (.int .i64 x2) (.int .i64 x3) (.int .i64 x4);replace R:=(R.keep yc).f8 zh (.int .i64 x1) (.int .i64 x2) (.int .i64 x3) (.int .i64 x4);replace N:=(N.keep yc);(have ⟨IV,IW,IX,IY,In,Io,Ip,Iq,nl⟩:=N.aM);replace N:=N.k8 (.int .i64 x1) (.int .i64 x2) (.int .i64 x3) (.int .i64 x4);(have ⟨km0,km1,km2,km3,_,_,_,_,_⟩:=N.aM);(have ⟨D6,D7,D8,D9,I4,I5,I6,I7,sl⟩:=S.aM);(have ⟨r0,r1,r2,r3,z0,z1,z2,z3,rl⟩:=R.aM))
  go_roundw
  case rel=>exact ⟨c+1,sx,by omega,by go_num,hnx,by rw [←hx1.out,←hx2.out,←hx3.out,←hx4.out];exact aH.k8 S _ _ _ _,R.f8 nRS _ _ _ _,by rw [aZ,aZ,aZ,aZ];omega,yL (yL (yL (yL B hsb _) hsb _) hsb _) hsb _⟩
  case measure=>simp [intOf] <;> omega
 obtain rfl:c=n+2:=by omega
 have hd:M.ch (n+1+1) m=some s:=by rw [←hs.out];exact hsome.out
 have hd:=yJ hd
 obtain ⟨x1,hx1⟩:∃ x,x=M.zI (some s):=⟨_,rfl⟩
 obtain ⟨x2,hx2⟩:∃ x,x=M.zJ (some s):=⟨_,rfl⟩
 obtain ⟨x3,hx3⟩:∃ x,x=M.zK (some s):=⟨_,rfl⟩
 obtain ⟨x4,hx4⟩:∃ x,x=M.zL (some s):=⟨_,rfl⟩
 rw [←hx1,←hx2,←hx3,←hx4] at S;replace hx1:=yJ hx1;replace hx2:=yJ hx2;replace hx3:=yJ hx3;replace hx4:=yJ hx4;have ⟨D6,D7,D8,D9,_,_,_,_,_⟩:=S.aM;have ⟨r0,r1,r2,r3,z0,z1,z2,z3,rl⟩:=R.aM;go_wp2;exact bodyPost_ret (v:=.tuple #[.agg #[.int .i64 x1,.int .i64 x2,.int .i64 x3,.int .i64 x4],.bool true]) (by simp [results,Tryz.results53,go_sem, *]) rfl (⟨by rw [hd.out,hx1.out,hx2.out,hx3.out,hx4.out];rfl,yL (yL (yL (yL B (yN _) _) (yN _) _) (yN _) _) (yN _) _⟩)
namespace M
theorem vO {a b:Int} {l:List Pt} {i j:Nat}:AU (ent a b l i j):=by
 have hp:∀ X1 Y1 E1 X2 Y2 E2,AU (dc a b X1 Y1 E1 X2 Y2 E2):=fun X1 Y1 E1 X2 Y2 E2=>by
  unfold dc
  split
  ·exact jU
  exact eQ
 unfold ent
 split
 ·split
  ·exact qT
  split <;> exact hp _ _ _ _ _ _
 exact eQ
theorem oY {s:Sp} (h:s.isSome=true):some (Jq s)=s:=by
 cases s with
 | none=>cases h
 | some p=>rfl
theorem qG {a b:Int} {l:List Pt} (h:Ak a b l=true) {i j:Nat} (hi:i<l.length) (hj:j<l.length):(ent a b l i j).isSome=true:=by
 unfold Ak at h;simp only [List.all_eq_true,List.mem_range] at h;exact h i hi j hj
theorem kS {a b:Int} {l:List Pt} (h:Ak a b l=true):dx a b l=(List.range l.length).map (fun i=>(List.range l.length).map fun j=>Jq (ent a b l i j)):=by
 unfold dx;rw [h];rfl
theorem ny {a b:Int} {l:List Pt} (h:Ak a b l=true):square l.length (dx a b l):=by
 rw [kS h];refine ⟨by rw [List.length_map,List.length_range],fun r hr=>?_⟩;obtain ⟨i,hi,rfl⟩:=List.mem_map.1 hr;rw [List.length_map,List.length_range]
theorem kT {a b:Int} {l:List Pt} (h:Ak a b l=true):Gk (dx a b l):=by
 rw [kS h];intro r hr q hq;obtain ⟨i,hi,rfl⟩:=List.mem_map.1 hr;obtain ⟨j,hj,rfl⟩:=List.mem_map.1 hq;have:=qG h (List.mem_range.1 hi) (List.mem_range.1 hj);exact vO (a:=a) (b:=b) (l:=l) (i:=i) (j:=j) _ (oY this).symm
theorem tp {a b:Int} {l:List Pt} (h:Ak a b l=true):lN a b l=CQ (dx a b l):=by
 rw [lO h,kS h];unfold CQ jE;rw [List.map_map]
 refine List.map_congr_left fun i hi=>?_
 simp only [Function.comp,List.map_map]
 refine List.map_congr_left fun j hj=>?_
 simp only [Function.comp];rw [oY (qG h (List.mem_range.1 hi) (List.mem_range.1 hj))]
noncomputable def cy (a b:Int) (l:List Pt):Sp:=if Ak a b l=true then ch l.length (dx a b l) else none
theorem mZ {a b:Int} {l:List Pt} (h:Ak a b l=false):cy a b l=none:=by unfold cy;rw [h];rfl
theorem kW {a b:Int} {l:List Pt} (h:Ak a b l=true):cy a b l=ch l.length (dx a b l):=by unfold cy;rw [h];rfl
theorem q7 (n:Nat) (m:zQ):fg true n m=ch n m:=by
 unfold fg
 split
 ·rename_i h;rw [h]
 rfl
end M
theorem oM (a b:Int) (v:Value) (l:List Pt) (w:World) (hx:dN w v l) (hg:M.good a b=true) (h1:1≤l.length) (hn:l.length≤4) (hp:∀ p ∈ l,M.bV a b p.1 p.2.1 p.2.2=true) :
  Calls Tryz.prog 35 #[.agg #[.int .i64 a,.int .i64 b],v] w fun e w'=>e=.returned (.tuple #[.agg #[.int .i64 (M.yx (M.cy a b l)),.int .i64 (M.y_ (M.cy a b l))],.bool (M.cy a b l).isSome])∧Below w.heap.size w w':=by
 obtain ⟨n,hl⟩:∃ n,l.length=n+1:=⟨l.length - 1,by omega⟩
 have PM:=fun W h=>jF a b v l W h hg hn hp
 have PD:=fun (h:M.Ak a b l=true) v g base W hm K=>xm n (M.dx a b l) v g base true W (by omega) (by rw [←hl];exact M.ny h) (M.kT h) hm K
 have Ey:=fun h=>M.kW (a:=a) (b:=b) (l:=l) h
 have hrn:=fun h=>M.mZ (a:=a) (b:=b) (l:=l) h
 rw [hl] at Ey;generalize M.dx a b l=rows,M.cy a b l=rs at *;replace hx:=yJ hx;obtain ⟨wc,hw3,C,R,B⟩:=ki w #[.int .i64 a,.int .i64 b] 29 #[.int .i64 0,.int .i64 0] 68;have hxc:=yJ (hx.out.below B)
 have hzz:w.heap.size+2≤wc.heap.size:=by have:=R.lt;omega
 have j_:=C.box.c0;have o_:=C.box.c1
 cases hm:M.Ak a b l with
 | false=>
  rw [hm] at PM;have hfin:=yJ (hrn hm);replace PM:=yJ PM;clear PD Ey hrn hm;go_enter Tryz.func35,Tryz.ntmps35
  go_wp2_with (go_at_call 58;(with_reducible refine (PM.out _ hxc.out).mono ?_);rintro e w4 ⟨mv,rfl,hM,hb4⟩;replace B:=i_ B hb4;replace R:=R.keep hb4;(have ⟨r0,r1,z0,z1,rl⟩:=R.box))
  exact bodyPost_ret (v:=.tuple #[.agg #[.int .i64 0,.int .i64 0],.bool false]) (by simp [results,Tryz.results35,go_sem, *]) rfl (⟨by rw [hfin.out];rfl,yL (yL B (by simp) _) (by simp) _⟩)
 | true=>
 rw [hm] at PM;replace PD:=PD hm;simp only [M.q7,Bool.true_and] at PD;rw [←Ey hm] at PD;replace PM:=yJ PM;replace PD:=yJ PD;generalize M.y_ rs=hi,M.yx rs=lo,rs.isSome=f at *;clear Ey hrn hm;go_enter Tryz.func35,Tryz.ntmps35
 go_wp2_with first | (go_at_call 58;(with_reducible refine (PM.out _ hxc.out).mono ?_);rintro e w4 ⟨mv,rfl,hM,hb4⟩;have Au:=hb4.size;have Ba:=(yM w4.heap.size w4).alloc (yN _) (.cells #[.bool true] 94);have K:=aH.new w4 #[.bool true] 94;replace hM:=yJ (hM.below Ba);replace R:=(R.keep hb4).keep Ba;replace B:=(i_ B hb4).trans (Ba.mono (Nat.le_trans B.size hb4.size));(have nR:w.heap.size+1≠w4.heap.size:=by omega);have hsz:=B.size;(have nB:w.heap.size≤w4.heap.size:=by omega);clear Ba j_ o_ C hxc) | (go_at_call 59;(with_reducible refine (PD.out _ _ _ _ hM.out K).mono ?_);rintro e w6 ⟨rfl,hb6⟩;have yh:=bG hb6;replace R:=(R.other (i:=0) nR (.bool f)).keep yh;replace K:=(K.one (.bool f)).keep yh;replace B:=(yL B nB (.bool f)).trans (hb6.mono hsz);have Ba:=(yM w6.heap.size w6).alloc (yN _) (.cells #[.int .i64 lo,.int .i64 hi] 68);have V:=aH.new w6 #[.int .i64 lo,.int .i64 hi] 68;replace B:=i_ B Ba;replace R:=R.keep Ba;replace K:=K.keep Ba;have k0:=K.cell 0;(have ⟨v0,v1,_,_,_⟩:=V.box);(have ⟨r0,r1,z0,z1,rl⟩:=R.box);clear hb6 yh Ba)
 go_region
 all_goals
  go_wp2;exact bodyPost_ret (v:=.tuple #[.agg #[.int .i64 lo,.int .i64 hi],.bool f]) (by simp [results,Tryz.results35,go_sem, *]) rfl (⟨rfl,Below.drew (yL (yL B (by simp) _) (by simp) _)⟩)
theorem kq (a b:Int) (v:Value) (l:List Pt) (w:World) (hx:dN w v l) (hg:M.good a b=true) (h1:1≤l.length) (hn:l.length≤4) (hp:∀ p ∈ l,M.bV a b p.1 p.2.1 p.2.2=true) :
  Calls Tryz.prog 33 #[.agg #[.int .i64 a,.int .i64 b],v] w fun e w'=>e=.returned (.tuple #[.agg #[.int .i64 (M.zI (M.cy a b l)),.int .i64 (M.zJ (M.cy a b l)),.int .i64 (M.zK (M.cy a b l)),.int .i64 (M.zL (M.cy a b l))],.bool (M.cy a b l).isSome])∧Below w.heap.size w w':=by
 obtain ⟨n,hl⟩:∃ n,l.length=n+1:=⟨l.length - 1,by omega⟩
 have PM:=fun W h=>pO a b v l W h hg hn hp
 have PD:=fun (h:M.Ak a b l=true) v base W hm=>vD n (M.dx a b l) v base W (by omega) (by rw [←hl];exact M.ny h) (M.kT h) hm
 have Ey:=fun h=>M.kW (a:=a) (b:=b) (l:=l) h
 have hrn:=fun h=>M.mZ (a:=a) (b:=b) (l:=l) h
 have hiv:=fun h=>M.tp (a:=a) (b:=b) (l:=l) h
 rw [hl] at Ey;generalize M.dx a b l=rows,M.cy a b l=rs at *;replace hx:=yJ hx;obtain ⟨wc,hw3,C,R,B⟩:=ki w #[.int .i64 a,.int .i64 b] 29 #[.int .i64 0,.int .i64 0,.int .i64 0,.int .i64 0] 64;have hxc:=yJ (hx.out.below B);have j_:=C.box.c0;have o_:=C.box.c1
 cases hm:M.Ak a b l with
 | false=>
  rw [hm] at PM;have hfin:=yJ (hrn hm);replace PM:=yJ PM;clear PD Ey hrn hm;go_enter Tryz.func33,Tryz.ntmps33
  go_wp2_with (go_at_call 52;(with_reducible refine (PM.out _ hxc.out).mono ?_);rintro e w4 ⟨mv,rfl,hM,hb4⟩;replace B:=i_ B hb4;replace R:=R.keep hb4;(have ⟨r0,r1,r2,r3,z0,z1,z2,z3,rl⟩:=R.aM))
  exact bodyPost_ret (v:=.tuple #[.agg #[.int .i64 0,.int .i64 0,.int .i64 0,.int .i64 0],.bool false]) (by simp [results,Tryz.results33,go_sem, *]) rfl (⟨by rw [hfin.out];rfl,yL (yL (yL (yL B (by simp) _) (by simp) _) (by simp) _) (by simp) _⟩)
 | true=>
 rw [hm] at PM;replace PD:=PD hm;rw [←Ey hm] at PD;rw [hiv hm] at PM;replace PM:=yJ PM;replace PD:=yJ PD;generalize M.zL rs=i4,M.zK rs=i3,M.zJ rs=i2,M.zI rs=i1,rs.isSome=f at *;clear Ey hrn hm hiv;go_enter Tryz.func33,Tryz.ntmps33
 go_wp2_with first | (go_at_call 52;(with_reducible refine (PM.out _ hxc.out).mono ?_);rintro e w4 ⟨mv,rfl,hM,hb4⟩;replace hM:=yJ hM;replace B:=i_ B hb4;replace R:=R.keep hb4) | (go_at_call 53;(with_reducible refine (PD.out _ _ _ hM.out).mono ?_);rintro e w6 ⟨rfl,hb6⟩;replace B:=i_ B hb6;replace R:=R.keep hb6;(have ⟨r0,r1,r2,r3,z0,z1,z2,z3,rl⟩:=R.aM))
 exact bodyPost_ret (v:=.tuple #[.agg #[.int .i64 i1,.int .i64 i2,.int .i64 i3,.int .i64 i4],.bool f]) (by simp [results,Tryz.results33,go_sem, *]) rfl (⟨rfl,yL (yL (yL (yL B (by simp) _) (by simp) _) (by simp) _) (by simp) _⟩)
end
section
open Go.RowKit Go.Shelf
def yY:Rw.Enc (Int × Int × Int) where
 t:=57
 k:=3
 cells:=fun q=>[.int .i64 q.1,.int .i64 q.2.1,.int .i64 q.2.2]
 len:=fun _=>rfl
 one:=fun x u hu=>by simp only [List.mem_cons,List.not_mem_nil,or_false] at hu;rcases hu with rfl | rfl | rfl <;> rfl
 pos:=by decide
theorem ta:(Tryz.prog.info? 57).map (fun i=>(i.zero,i.size,i.bytes))=some (some (.agg #[.int .i64 0,.int .i64 0,.int .i64 0]),3,24):=by kernel_rfl
theorem j8:Rw.Fits Tryz.prog yY 31:=⟨Tryz.underlying31,by
 obtain ⟨i0,hi,hz0,hz1,hz2⟩:=info_parts ta
 exact ⟨i0,_,hi,hz0,hz1,by omega,rfl⟩⟩
theorem Rw.Seen.pts {w:World} {hi:Nat} {v:Value} {l:List Pt} (h:Rw.Seen yY w hi v l):dN w v l:=by
 obtain ⟨a,cap,rfl,h1,h2,h3⟩:=h;refine ⟨a,cap,rfl,?_⟩
 cases l with
 | nil=>exact Or.inl rfl
 | cons p l=>
 obtain ⟨g,x,e,-⟩:=h3 0 (by simp);refine Or.inr ⟨g,e,fun i y hy=>?_⟩;obtain ⟨g2,x2,e2,-,hx2,hc⟩:=h3 i (List.getElem?_eq_some_iff.1 hy).1;rw [e] at e2
 injection e2 with e2
 injection e2 with e2
 subst e2;rw [hy] at hx2;obtain rfl:=Option.some.inj hx2.out;exact ⟨hc 0 _ rfl,hc 1 _ rfl,hc 2 _ rfl⟩
theorem pj (a b:Int) (w:World) :
  Calls Tryz.prog 10 #[.agg #[.int .i64 a,.int .i64 b]] w fun e w'=>e=.returned (.agg #[.int .i64 a,.int .i64 b])∧Below w.heap.size w w':=by
 go_enter Tryz.func10,Tryz.ntmps10
 go_wp2;exact bodyPost_ret (v:=.agg #[.int .i64 a,.int .i64 b]) (by simp [results,Tryz.results10,go_sem, *]) rfl (⟨rfl,(by repeat (first | exact yM _ _ | refine aR ?_ _ | refine aS ?_ (by assumption) | refine Below.drew ?_ | refine yL ?_ (by first | exact yN _ | exact Nat.le_add_right _ _ | (simp <;> omega)) _ | refine aL ?_ _))⟩)
theorem lZ (a b c:Int) (w:World) :
  Calls Tryz.prog 28 #[.agg #[.int .i64 a,.int .i64 b,.int .i64 c]] w fun e w'=>e=.returned (.agg #[.int .i64 a,.int .i64 b,.int .i64 c])∧Below w.heap.size w w':=by
 go_enter Tryz.func28,Tryz.ntmps28
 go_wp2;exact bodyPost_ret (v:=.agg #[.int .i64 a,.int .i64 b,.int .i64 c]) (by simp [results,Tryz.results28,go_sem, *]) rfl (⟨rfl,(by repeat (first | exact yM _ _ | refine aR ?_ _ | refine aS ?_ (by assumption) | refine Below.drew ?_ | refine yL ?_ (by first | exact yN _ | exact Nat.le_add_right _ _ | (simp <;> omega)) _ | refine aL ?_ _))⟩)
theorem rC (a b c d e f:Int) (w:World) :
  Calls Tryz.prog 37 #[.agg #[.int .i64 a,.int .i64 b,.int .i64 c],.agg #[.int .i64 d,.int .i64 e,.int .i64 f]] w fun r w'=>r=.returned (.bool (decide ((a,b,c)=(d,e,f))))∧Below w.heap.size w w':=by
 by_cases h1:a=d <;> by_cases h2:b=e <;> by_cases h3:c=f
 all_goals
  go_enter Tryz.func37,Tryz.ntmps37
  go_wp2;go_ret;exact ⟨dA (by simp [h1,h2,h3]),(by repeat (first | exact yM _ _ | refine aR ?_ _ | refine aS ?_ (by assumption) | refine Below.drew ?_ | refine yL ?_ (by first | exact yN _ | exact Nat.le_add_right _ _ | (simp <;> omega)) _ | refine aL ?_ _))⟩
theorem wK {w:World} {base g n cap j:Nat} {xs:List (Int × Int × Int)} (hn:n=xs.length) (h:Rw.Own yY w base (.slice (some ⟨g,0,none⟩) n cap) xs) (hj:j<n) (c:Int × Int × Int) {ys:List (Int × Int × Int)} (hy:ys=xs.set j c) :
  Rw.Own yY (((w.setCell ⟨g,j*3,none⟩ (.int .i64 c.1)).setCell ⟨g,j*3+1,none⟩ (.int .i64 c.2.1)).setCell ⟨g,j*3+2,none⟩ (.int .i64 c.2.2)) base (.slice (some ⟨g,0,none⟩) n cap) ys∧w.grownBy (((w.setCell ⟨g,j*3,none⟩ (.int .i64 c.1)).setCell ⟨g,j*3+1,none⟩ (.int .i64 c.2.1)).setCell ⟨g,j*3+2,none⟩ (.int .i64 c.2.2)) (some g):=by
 subst hn hy;have h1:=World.ownsRow.stored (g:=g) (cap:=cap) h (j*3) (.int .i64 c.1);have h2:=World.ownsRow.stored (g:=g) (cap:=cap) h1.1 (j*3+1) (.int .i64 c.2.1);have h3:=World.ownsRow.stored (g:=g) (cap:=cap) h2.1 (j*3+2) (.int .i64 c.2.2);refine ⟨?_,dI (dI (h1.2) h2.2) h3.2⟩
 have e:(((xs.flatMap yY.cells).set (j*3) (.int .i64 c.1)).set (j*3+1) (.int .i64 c.2.1)).set (j*3+2) (.int .i64 c.2.2)=(xs.set j c).flatMap yY.cells:=by
  refine List.ext_getElem? fun t=>?_
  have hl:(xs.flatMap yY.cells).length=xs.length*3:=Rw.cI yY xs;rw [Rw.j9 yY xs j c hj];have hk:yY.k=3:=rfl;rw [hk]
  rcases (show t=j*3∨t=j*3+1∨t=j*3+2∨¬(j*3≤t∧t<j*3+3) by omega) with ht | ht | ht | ht
  ·subst ht
   rw [List.getElem?_set_ne (by omega),List.getElem?_set_ne (by omega),List.getElem?_set_self (by first | omega | (simp only [List.length_set];omega)),if_pos (by omega),show j*3 - j*3=0 from by omega];rfl
  ·subst ht
   rw [List.getElem?_set_ne (by omega),List.getElem?_set_self (by first | omega | (simp only [List.length_set];omega)),if_pos (by omega),show j*3+1 - j*3=1 from by omega];rfl
  ·subst ht
   rw [List.getElem?_set_self (by first | omega | (simp only [List.length_set];omega)),if_pos (by omega),show j*3+2 - j*3=2 from by omega];rfl
  rw [List.getElem?_set_ne (by omega),List.getElem?_set_ne (by omega),List.getElem?_set_ne (by omega),if_neg ht]
 have h9:=h3.1;rw [e] at h9;unfold Rw.Own;rw [List.length_set];exact h9
theorem sj {w:World} {base g n cap j:Nat} {xs:List (Int × Int × Int)} {c:Int × Int × Int} (hn:n=xs.length) (h:Rw.Own yY w base (.slice (some ⟨g,0,none⟩) n cap) xs) (hc:xs[j]?=some c) :
  w.cell? ⟨g,j*3,none⟩=some (.int .i64 c.1)∧w.cell? ⟨g,j*3+1,none⟩=some (.int .i64 c.2.1)∧w.cell? ⟨g,j*3+2,none⟩=some (.int .i64 c.2.2)∧w.frozen? ⟨g,j*3,none⟩=false∧w.frozen? ⟨g,j*3+1,none⟩=false∧w.frozen? ⟨g,j*3+2,none⟩=false:=by
 have e0:=h.cellAt hn (j*3) _ ((Rw.flat_get yY xs j 0 c hc (by decide)).trans rfl);have e1:=h.cellAt hn (j*3+1) _ ((Rw.flat_get yY xs j 1 c hc (by decide)).trans rfl);have e2:=h.cellAt hn (j*3+2) _ ((Rw.flat_get yY xs j 2 c hc (by decide)).trans rfl);exact ⟨e0.1,e1.1,e2.1,e0.2,e1.2,e2.2⟩
theorem pI (v u:Value) (xs ys:List (Int × Int × Int)) (w:World) (h1 h2:Nat) (hx:Rw.Seen yY w h1 v xs) (hy:Rw.Seen yY w h2 u ys) (A9:h1≤w.heap.size) (As:h2≤w.heap.size) :
  Calls Tryz.prog 14 #[v,u] w fun e w'=>e=.returned (.bool (decide (xs=ys)))∧Below w.heap.size w w':=by
 obtain ⟨a,cap,rfl,hm,hm2,hv⟩:=hx;obtain ⟨a',cap',rfl,hm',hm2',hv'⟩:=hy
 by_cases hl:xs.length=ys.length
 ·have hl':=yJ hl
  rw [hl] at hv hm ⊢;clear hl
  obtain ⟨n,hn⟩:∃ n,n=ys.length:=⟨_,rfl⟩
  rw [←hn] at hv hv' hm hm' ⊢;have hn:=yJ hn
  have hnm:(n:Int)≤9223372036854775807:=by omega
  go_enter Tryz.func14,Tryz.ntmps14
  go_wp2
  go_loopw [5] (fun vi wr=>∃ k:Nat,k≤n∧vi=.int .i64 k∧Hid (∀ j:Nat,j<k→xs[j]?=ys[j]?)∧Below w.heap.size w wr) (fun vi _=>n - (intOf vi).toNat)
  case atStart=>exact ⟨0,by omega,rfl,yJ (fun j h=>by omega),yM _ _⟩
  case round=>
  obtain ⟨k,hk,rfl,HK,hbr⟩:=hrel
  by_cases hlt:k<n
  ·obtain ⟨g,x,rfl,hg,hx,hcell⟩:=hv k (by omega)
   obtain ⟨g',y,rfl,hg',hy,hcell'⟩:=hv' k hlt;have L5:wr.cell? ⟨g,k*3,none⟩=some (.int .i64 x.1):=(hbr.cell (p:=⟨g,k*3,none⟩) (Nat.lt_of_lt_of_le hg A9)).trans (hcell 0 _ rfl);have L6:wr.cell? ⟨g,k*3+1,none⟩=some (.int .i64 x.2.1):=(hbr.cell (p:=⟨g,k*3+1,none⟩) (Nat.lt_of_lt_of_le hg A9)).trans (hcell 1 _ rfl);have L7:wr.cell? ⟨g,k*3+2,none⟩=some (.int .i64 x.2.2):=(hbr.cell (p:=⟨g,k*3+2,none⟩) (Nat.lt_of_lt_of_le hg A9)).trans (hcell 2 _ rfl);have ME:wr.cell? ⟨g',k*3,none⟩=some (.int .i64 y.1):=(hbr.cell (p:=⟨g',k*3,none⟩) (Nat.lt_of_lt_of_le hg' As)).trans (hcell' 0 _ rfl);have MG:wr.cell? ⟨g',k*3+1,none⟩=some (.int .i64 y.2.1):=(hbr.cell (p:=⟨g',k*3+1,none⟩) (Nat.lt_of_lt_of_le hg' As)).trans (hcell' 1 _ rfl);have H0:wr.cell? ⟨g',k*3+2,none⟩=some (.int .i64 y.2.2):=(hbr.cell (p:=⟨g',k*3+2,none⟩) (Nat.lt_of_lt_of_le hg' As)).trans (hcell' 2 _ rfl);clear hv hv' hcell hcell';obtain ⟨x1,x2,x3⟩:=x;obtain ⟨y1,y2,y3⟩:=y;simp only [] at L5 L6 L7 ME MG H0
   have HE:=fun w=>rC x1 x2 x3 y1 y2 y3 w
   have hkk:((k:Nat):Int)<((n:Nat):Int):=by omega
   by_cases hxy:(x1,x2,x3)=(y1,y2,y3)
   ·have hd:decide ((x1,x2,x3)=(y1,y2,y3))=true:=decide_eq_true hxy
    simp only [hd] at HE;have HE:=yJ HE;have hxy:=yJ hxy;clear hd
    go_upto_region 6 with fail
    refine Rg.bK 10 [.is (.slice (some ⟨g,0,none⟩) n cap),.is (.int .i64 ((k:Nat):Int)),.is (.pointer (some ⟨g,k*3,none⟩)),.is (.agg #[.int .i64 x1,.int .i64 x2,.int .i64 x3]),.is (.slice (some ⟨g',0,none⟩) n cap'),.is (.int .i64 ((k:Nat):Int)),.is (.pointer (some ⟨g',k*3,none⟩)),.is (.agg #[.int .i64 y1,.int .i64 y2,.int .i64 y3]),.is (.bool true),.is (.bool false)] (by kernel_rfl) (by kernel_rfl) (by kernel_rfl) ⟨?_,?_,?_,?_,?_,?_,?_,?_,?_,?_,trivial⟩ ?_
    ·intro _ zZ w_ hB hr
     have e0:zZ.tmps[0]?=some (.slice (some ⟨g,0,none⟩) n cap):=hr 0 (by decide);exact Rg.aG rfl (by go_simp)
    ·intro _ zZ w_ hB hr
     have e5:zZ.tmps[5]?=some (.int .i64 ((k:Nat):Int)):=hr 5 (by decide);exact Rg.aG rfl (by go_simp)
    ·intro _ zZ w_ hB hr
     have e17:=Rg.a_ (hr 17 (by decide));have e18:=Rg.a_ (hr 18 (by decide));exact Rg.aG rfl (by (first | (go_simp;done) | (go_simp;omega)))
    ·intro _ zZ w_ hB hr
     have e19:=Rg.a_ (hr 19 (by decide));have k0:=aE hB L5;have k1:=aE hB L6;have k2:=aE hB L7;exact Rg.aG rfl (by (first | (go_simp;done) | (go_simp;omega)))
    ·intro _ zZ w_ hB hr
     have e1:zZ.tmps[1]?=some (.slice (some ⟨g',0,none⟩) n cap'):=hr 1 (by decide);exact Rg.aG rfl (by go_simp)
    ·intro _ zZ w_ hB hr
     have e5:zZ.tmps[5]?=some (.int .i64 ((k:Nat):Int)):=hr 5 (by decide);exact Rg.aG rfl (by go_simp)
    ·intro _ zZ w_ hB hr
     have e21:=Rg.a_ (hr 21 (by decide));have e22:=Rg.a_ (hr 22 (by decide));exact Rg.aG rfl (by (first | (go_simp;done) | (go_simp;omega)))
    ·intro _ zZ w_ hB hr
     have e23:=Rg.a_ (hr 23 (by decide));have k0:=aE hB ME;have k1:=aE hB MG;have k2:=aE hB H0;exact Rg.aG rfl (by (first | (go_simp;done) | (go_simp;omega)))
    ·intro _ zZ w_ hB hr
     have e20:=Rg.a_ (hr 20 (by decide));have e24:=Rg.a_ (hr 24 (by decide));have ef:=Rg.ef zZ;exact Rg.bU rfl (by go_simp) (HE.out _)
    ·intro _ zZ w_ hB hr
     have e25:=Rg.a_ (hr 25 (by decide));exact Rg.aG rfl (by go_simp)
    intro vals wz hB hv hne;have AX:vals 9=.bool false:=hv 9 (by decide);simp only [Rg.ak,Rg.fill,Act.put,Nat.reduceAdd];clear hv;simp only [AX];clear AX;unfold Rg.aW;go_wp2
    go_roundw
    case rel=>exact ⟨k+1,by omega,by go_num,yJ (fun j hj=>if q:j=k then by rw [q,hx.out,hy.out,hxy.out] else HK.out j (by omega)),i_ hbr hB⟩
    case measure=>simp [intOf] <;> omega
   have hd:decide ((x1,x2,x3)=(y1,y2,y3))=false:=decide_eq_false hxy;simp only [hd] at HE;have HE:=yJ HE;clear hd
   have hnq:decide (xs=ys)=false:=by
    rw [decide_eq_false_iff_not];intro he;have h1:=hx.out;rw [he,hy.out] at h1;exact hxy (Option.some.inj h1).symm
   have hnq:=yJ hnq;have hxy:=yJ hxy
   go_upto_region 6 with fail
   refine Rg.bK 10 [.is (.slice (some ⟨g,0,none⟩) n cap),.is (.int .i64 ((k:Nat):Int)),.is (.pointer (some ⟨g,k*3,none⟩)),.is (.agg #[.int .i64 x1,.int .i64 x2,.int .i64 x3]),.is (.slice (some ⟨g',0,none⟩) n cap'),.is (.int .i64 ((k:Nat):Int)),.is (.pointer (some ⟨g',k*3,none⟩)),.is (.agg #[.int .i64 y1,.int .i64 y2,.int .i64 y3]),.is (.bool false),.is (.bool true)] (by kernel_rfl) (by kernel_rfl) (by kernel_rfl) ⟨?_,?_,?_,?_,?_,?_,?_,?_,?_,?_,trivial⟩ ?_
   ·intro _ zZ w_ hB hr
    have e0:zZ.tmps[0]?=some (.slice (some ⟨g,0,none⟩) n cap):=hr 0 (by decide);exact Rg.aG rfl (by go_simp)
   ·intro _ zZ w_ hB hr
    have e5:zZ.tmps[5]?=some (.int .i64 ((k:Nat):Int)):=hr 5 (by decide);exact Rg.aG rfl (by go_simp)
   ·intro _ zZ w_ hB hr
    have e17:=Rg.a_ (hr 17 (by decide));have e18:=Rg.a_ (hr 18 (by decide));exact Rg.aG rfl (by (first | (go_simp;done) | (go_simp;omega)))
   ·intro _ zZ w_ hB hr
    have e19:=Rg.a_ (hr 19 (by decide));have k0:=aE hB L5;have k1:=aE hB L6;have k2:=aE hB L7;exact Rg.aG rfl (by (first | (go_simp;done) | (go_simp;omega)))
   ·intro _ zZ w_ hB hr
    have e1:zZ.tmps[1]?=some (.slice (some ⟨g',0,none⟩) n cap'):=hr 1 (by decide);exact Rg.aG rfl (by go_simp)
   ·intro _ zZ w_ hB hr
    have e5:zZ.tmps[5]?=some (.int .i64 ((k:Nat):Int)):=hr 5 (by decide);exact Rg.aG rfl (by go_simp)
   ·intro _ zZ w_ hB hr
    have e21:=Rg.a_ (hr 21 (by decide));have e22:=Rg.a_ (hr 22 (by decide));exact Rg.aG rfl (by (first | (go_simp;done) | (go_simp;omega)))
   ·intro _ zZ w_ hB hr
    have e23:=Rg.a_ (hr 23 (by decide));have k0:=aE hB ME;have k1:=aE hB MG;have k2:=aE hB H0;exact Rg.aG rfl (by (first | (go_simp;done) | (go_simp;omega)))
   ·intro _ zZ w_ hB hr
    have e20:=Rg.a_ (hr 20 (by decide));have e24:=Rg.a_ (hr 24 (by decide));have ef:=Rg.ef zZ;exact Rg.bU rfl (by go_simp) (HE.out _)
   ·intro _ zZ w_ hB hr
    have e25:=Rg.a_ (hr 25 (by decide));exact Rg.aG rfl (by go_simp)
   intro vals wz hB hv hne;have AX:vals 9=.bool true:=hv 9 (by decide);simp only [Rg.ak,Rg.fill,Act.put,Nat.reduceAdd];clear hv;simp only [AX];clear AX;unfold Rg.aW;go_wp2;go_ret;exact ⟨dA hnq.out.symm,i_ hbr hB⟩
  obtain rfl:n=k:=by omega
  clear hv hv'
  have hall:decide (xs=ys)=true:=by
   rw [decide_eq_true_iff]
   refine List.ext_getElem? fun j=>?_
   rcases Nat.lt_or_ge j n with q | q
   ·exact HK.out j q
   rw [List.getElem?_eq_none (l:=xs) (i:=j) (by have:=hl'.out;have:=hn.out;omega),List.getElem?_eq_none (l:=ys) (i:=j) (by have:=hn.out;omega)]
  have hall:=yJ hall;go_wp2;go_ret;exact ⟨dA hall.out.symm,hbr⟩
 have hne:Hid (decide (xs=ys)=false):=yJ (by
  rw [decide_eq_false_iff_not]
  exact fun he=>hl (by rw [he]))
 have hl2:¬ ((xs.length:Int)=ys.length):=by omega
 clear hv hv';go_enter Tryz.func14,Tryz.ntmps14
 go_wp2;go_ret;exact ⟨dA hne.out.symm,(by repeat (first | exact yM _ _ | refine aR ?_ _ | refine aS ?_ (by assumption) | refine Below.drew ?_ | refine yL ?_ (by first | exact yN _ | exact Nat.le_add_right _ _ | (simp <;> omega)) _ | refine aL ?_ _))⟩
def M.qX (k:Int) (i:Nat):Int × Int × Int:=(k+3*i,k+3*i+1,k+3*i+1+1)
def M.cV (k:Int) (n:Nat):List (Int × Int × Int):=(List.range n).map (M.qX k)
theorem M.eR (k:Int) (n:Nat):(M.cV k n).length=n:=by simp [M.cV]
theorem M.pa {k:Int} {n j:Nat} (h:j<n):(M.cV k n)[j]?=some (M.qX k j):=by simp [M.cV,h]
theorem M.nz {k:Int} {j:Nat} {xs:List (Int × Int × Int)} (h:j<xs.length):(M.cV k j ++ xs.drop j).set j (M.qX k j)=M.cV k (j+1) ++ xs.drop (j+1):=by
 have hl:=M.eR k j;rw [List.set_append_right _ _ (by omega)];rw [hl,Nat.sub_self,List.drop_eq_getElem_cons h,List.set_cons_zero];unfold M.cV;rw [List.range_succ,List.map_append];simp
theorem mP (v:Value) (xs:List (Int × Int × Int)) (k:Int) (w:World) (base:Nat) (hx:Rw.Own yY w base v xs) (h1:0≤k) (h2:k+3*xs.length≤4000000000000000000) :
  Calls Tryz.prog 15 #[v,.int .i64 k] w fun e w'=>e=.returned (.int .i64 (k+3*xs.length))∧Rw.Own yY w' base v (M.cV k xs.length)∧w.grownBy w' v.ownBlock:=by
 rcases hx.forms with ⟨rfl,rfl⟩ | ⟨g,cap,rfl,hg,hgs,hc,hc2⟩
 ·go_enter Tryz.func15,Tryz.ntmps15
  go_wp2
  go_loop [1,5] (fun vk vi=>vk=.int .i64 k∧vi=.int .i64 0) (fun _ _=>0)
  case atStart=>exact ⟨rfl,rfl⟩
  case round=>
  obtain ⟨rfl,rfl⟩:=hrel;go_wp2;go_ret;exact ⟨iz (by simp),hx,fC _ _⟩
 go_enter Tryz.func15,Tryz.ntmps15
 go_wp2
 go_loopw [1,5] (fun vk vi wr=>∃ j:Nat,j≤xs.length∧vi=.int .i64 j∧vk=.int .i64 (k+3*j)∧Rw.Own yY wr base (.slice (some ⟨g,0,none⟩) xs.length cap) (M.cV k j ++ xs.drop j)∧w.grownBy wr (some g)) (fun _ vi _=>xs.length - (intOf vi).toNat)
 case atStart=>exact ⟨0,by omega,rfl,by simp,by simpa [M.cV] using hx,fC _ _⟩
 case round=>
 obtain ⟨j,hj,rfl,rfl,hown,hgr⟩:=hrel
 have hlen:(M.cV k j ++ xs.drop j).length=xs.length:=by rw [List.length_append,M.eR,List.length_drop];omega
 by_cases hlt:j<xs.length
 ·have hj0:(M.cV k j ++ xs.drop j)[j]?=some xs[j]:=by
   rw [List.getElem?_append_right (by rw [M.eR];omega),M.eR,Nat.sub_self,List.getElem?_drop];simp [hlt]
  obtain ⟨c0,c1,c2,f0,f1,f2⟩:=sj hlen.symm hown hj0;have hst:=yJ (wK hlen.symm hown hlt (M.qX k j) (M.nz hlt).symm);generalize xs[j]=y at *;clear hlen hj0;go_wp2
  go_roundw
  case rel=>exact ⟨j+1,by omega,by go_num,by congr 1;omega,hst.out.1,dI hgr hst.out.2⟩
  case measure=>simp [intOf] <;> omega
 obtain rfl:j=xs.length:=by omega
 clear hlen;go_wp2;go_ret;exact ⟨rfl,by simpa using hown,hgr⟩
def cP (w:World) (v:Value) (xs:List Pt):Prop:=
 ∃ (A:Option Addr) (cap:Nat),v=.slice A xs.length cap∧(xs.length:Int)≤9223372036854775807∧
  ∀ k,k<xs.length→∃ g o x,A=some ⟨g,o,none⟩∧g<w.heap.size∧Hid (xs[k]?=some x)∧w.cell? ⟨g,o+k*3,none⟩=some (.int .i64 x.1)∧w.cell? ⟨g,o+k*3+1,none⟩=some (.int .i64 x.2.1)∧w.cell? ⟨g,o+k*3+2,none⟩=some (.int .i64 x.2.2)
theorem cP.keep {w w':World} {v:Value} {xs:List Pt} (h:cP w v xs) (hb:Below w.heap.size w w'):cP w' v xs:=by
 obtain ⟨A,cap,rfl,hm,hv⟩:=h;refine ⟨A,cap,rfl,hm,fun k hk=>?_⟩;obtain ⟨g,o,x,hA,hg,hx,h0,h1,h2⟩:=hv k hk;exact ⟨g,o,x,hA,Nat.lt_of_lt_of_le hg hb.size,hx,aE hb h0,aE hb h1,aE hb h2⟩
theorem pg (v:Value) (xs:List Pt) (w:World) (hx:cP w v xs) :
  Calls Tryz.prog 8 #[v,.int .i64 1048576] w fun e w'=>e=.returned (.int .i64 (if xs.length≤1048576 then (1048576 - xs.length:Int) else -1))∧w=w':=by
 obtain ⟨A,cap,rfl,hm,hv⟩:=hx;clear hv
 by_cases h:xs.length≤1048576
 ·rw [if_pos h]
  generalize xs.length=n at *;go_enter Tryz.func8,Tryz.ntmps8
  go_wp2;go_ret;exact ⟨rfl,rfl⟩
 rw [if_neg h];generalize xs.length=n at *;go_enter Tryz.func8,Tryz.ntmps8
 go_wp2;go_ret;exact ⟨rfl,rfl⟩
theorem pQ (n:Nat):(madeCells #[.int .i64 0,.int .i64 0,.int .i64 0] (n*3)).toList=(List.replicate n ((0:Int),(0:Int),(0:Int))).flatMap yY.cells:=by
 have e:(madeCells #[.int .i64 0,.int .i64 0,.int .i64 0] (n*3))=madeCells #[Value.int .i64 0] (n*3):=by
  unfold madeCells
  congr 1
  funext i
  have:i % 3=0∨i % 3=1∨i % 3=2:=by omega
  rcases this with h | h | h <;> simp [h,Nat.mod_one]
 rw [e,toList_madeCells_one];clear e
 induction n with
 | zero=>rfl
 | succ n ih=>
 rw [List.replicate_succ,List.flatMap_cons,←ih,show (n+1)*3=n*3+1+1+1 by omega,List.replicate_succ,List.replicate_succ,List.replicate_succ];rfl
theorem qy {xs:List Pt} {n j:Nat} {x:Pt} (hn:n=xs.length) (h:xs[j]?=some x):xs.take (j+1) ++ List.replicate (n - (j+1)) ((0:Int),(0:Int),(0:Int))=(xs.take j ++ List.replicate (n - j) ((0:Int),(0:Int),(0:Int))).set j x:=by
 have hj:=(List.getElem?_eq_some_iff.1 h).1;rw [List.set_append_right _ _ (by rw [List.length_take];omega),List.length_take,show j - min j xs.length=0 by omega,show n - j=(n - (j+1))+1 by omega,List.replicate_succ,List.set_cons_zero,List.take_add_one,h];simp
theorem pk (v:Value) (xs:List Pt) (w:World) (hx:cP w v xs) (hn:xs.length≤1048576) :
  Calls Tryz.prog 11 #[v] w fun e w'=>∃ v',e=.returned v'∧Rw.Own yY w' w.heap.size v' xs∧Below w.heap.size w w':=by
 obtain ⟨A,cap,rfl,hm,hv⟩:=hx;have Hv:=yJ hv;clear hv;obtain ⟨i0,hi,hz0,hz1,hz2⟩:=info_parts ta;obtain ⟨w1,hrun,hown1,hg1⟩:=run_make_full (P:=Tryz.prog) w w.heap.size 31 57 i0 (.agg #[.int .i64 0,.int .i64 0,.int .i64 0]) 3 Tryz.underlying31 hi hz0 hz1 .i64 .i64 xs.length (by rw [hz2];omega) (by unfold maxLen;omega) (yN _);go_enter Tryz.func11,Tryz.ntmps11
 go_wp2
 have hown1:Rw.Own yY w1 w.heap.size (.slice (some ⟨w.heap.size,0,none⟩) xs.length xs.length) (List.replicate xs.length ((0:Int),(0:Int),(0:Int))):=by
  unfold Rw.Own;rw [←pQ,List.length_replicate];exact hown1
 have hb1:Below w.heap.size w w1:=cN hg1 (yN _) (fun k hk=>by cases hk)
 go_loopw [4] (fun vi wr=>∃ j:Nat,j≤xs.length∧vi=.int .i64 j∧Rw.Own yY wr w.heap.size (.slice (some ⟨w.heap.size,0,none⟩) xs.length xs.length) (xs.take j ++ List.replicate (xs.length - j) ((0:Int),(0:Int),(0:Int)))∧Below w.heap.size w wr) (fun vi _=>xs.length - (intOf vi).toNat)
 case atStart=>exact ⟨0,by omega,rfl,by simpa using hown1,hb1⟩
 case round=>
 obtain ⟨j,hj,rfl,hown,hbr⟩:=hrel
 have hlen:(xs.take j ++ List.replicate (xs.length - j) ((0:Int),(0:Int),(0:Int))).length=xs.length:=by rw [List.length_append,List.length_take,List.length_replicate];omega
 by_cases hlt:j<xs.length
 ·obtain ⟨g,o,x,rfl,hg,hx,h0,h1,h2⟩:=Hv.out j hlt
  have e0:=(hbr.cell (p:=⟨g,o+j*3,none⟩) hg).trans h0;have e1:=(hbr.cell (p:=⟨g,o+j*3+1,none⟩) hg).trans h1;have e2:=(hbr.cell (p:=⟨g,o+j*3+2,none⟩) hg).trans h2
  have hj0:(xs.take j ++ List.replicate (xs.length - j) ((0:Int),(0:Int),(0:Int)))[j]?=some (0,0,0):=by
   rw [List.getElem?_append_right (by rw [List.length_take];omega),List.length_take,show j - min j xs.length=0 by omega,List.getElem?_replicate];rw [if_pos (by omega)]
  have EO:=hbr.size
  go_wp2_with fail
  refine (lZ x.1 x.2.1 x.2.2 _).mono ?_;rintro e w2 ⟨rfl,hb2⟩;have hown2:=hown.below hb2;obtain ⟨c0,c1,c2,f0,f1,f2⟩:=sj hlen.symm hown2 hj0;have hst:=yJ (wK hlen.symm hown2 hlt x (qy rfl hx.out));clear hlen hj0 h0 h1 h2;go_wp2
  go_roundw
  case rel=>exact ⟨j+1,by omega,by go_num,hst.out.1,((hbr.trans (hb2.mono EO)).grown hst.out.2 (by have:=hb2.size;omega) (fun q hq=>by cases hq;exact yN _))⟩
  case measure=>simp [intOf] <;> omega
 obtain rfl:j=xs.length:=by omega
 clear hlen;go_wp2;go_ret;exact ⟨_,rfl,by simpa using hown,hbr⟩
theorem aH.bD {W:World} {g:Nat} {T:TypeId} {u v x y z:Value} (h:aH W g T #[u,v,x,y,z]):W.cell? ⟨g,0,none⟩=some u∧W.cell? ⟨g,1,none⟩=some v∧W.cell? ⟨g,2,none⟩=some x∧W.cell? ⟨g,3,none⟩=some y∧W.cell? ⟨g,4,none⟩=some z:=⟨h.cell 0,h.cell 1,h.cell 2,h.cell 3,h.cell 4⟩
theorem aH.eU {W:World} {g:Nat} {T:TypeId} {u v x y z:Value} (h:aH W g T #[u,v,x,y,z]):W.frozen? ⟨g,0,none⟩=false∧W.frozen? ⟨g,1,none⟩=false∧W.frozen? ⟨g,2,none⟩=false∧W.frozen? ⟨g,3,none⟩=false∧W.frozen? ⟨g,4,none⟩=false∧g<W.heap.size:=⟨h.yW 0,h.yW 1,h.yW 2,h.yW 3,h.yW 4,h.lt⟩
theorem aH.xM {W:World} {g:Nat} {T:TypeId} {u v x y z:Value} (h:aH W g T #[u,v,x,y,z]) (a b c d e:Value):aH (((((W.setCell ⟨g,0,none⟩ a).setCell ⟨g,1,none⟩ b).setCell ⟨g,2,none⟩ c).setCell ⟨g,3,none⟩ d).setCell ⟨g,4,none⟩ e) g T #[a,b,c,d,e]:=((((h.set 0 a).set 1 b).set 2 c).set 3 d).set 4 e
theorem k9 (a b:Int) (w:World) :
  Calls Tryz.prog 40 #[.agg #[.int .i64 a,.int .i64 b]] w fun e w'=>e=.returned (.agg #[.int .i64 a,.int .i64 b])∧Below w.heap.size w w':=by
 go_enter Tryz.func40,Tryz.ntmps40
 go_wp2;exact bodyPost_ret (v:=.agg #[.int .i64 a,.int .i64 b]) (by simp [results,Tryz.results40,go_sem, *]) rfl (⟨rfl,(by repeat (first | exact yM _ _ | refine aR ?_ _ | refine aS ?_ (by assumption) | refine Below.drew ?_ | refine yL ?_ (by first | exact yN _ | exact Nat.le_add_right _ _ | (simp <;> omega)) _ | refine aL ?_ _))⟩)
theorem ko (a b c d:Int) (w:World) :
  Calls Tryz.prog 43 #[.agg #[.int .i64 a,.int .i64 b],.agg #[.int .i64 c,.int .i64 d]] w fun e w'=>e=.returned (.bool (a == c && b == d))∧Below w.heap.size w w':=by
 by_cases h1:a=c <;> by_cases h2:b=d
 all_goals
  go_enter Tryz.func43,Tryz.ntmps43
  go_wp2;go_ret;exact ⟨dA (by simp [h1,h2]),(by repeat (first | exact yM _ _ | refine aR ?_ _ | refine aS ?_ (by assumption) | refine Below.drew ?_ | refine yL ?_ (by first | exact yN _ | exact Nat.le_add_right _ _ | (simp <;> omega)) _ | refine aL ?_ _))⟩
theorem mK (v:Value) (n:Nat) (k:Int) (w:World) (base:Nat) (hx:Rw.Own yY w base v (M.cV k n)) (h1:0≤k) (h2:k+3*n≤4000000000000000000) :
  Calls Tryz.prog 46 #[v,.int .i64 k] w fun e w'=>e=.returned (.int .i64 (k+3*n))∧Below w.heap.size w w':=by
 obtain ⟨a,cap,rfl,hm,hm2,hv⟩:=hx.seen;rw [M.eR] at hm hv ⊢;go_enter Tryz.func46,Tryz.ntmps46
 go_wp2
 go_loop [1,5] (fun vk vi=>∃ j:Nat,j≤n∧vi=.int .i64 j∧vk=.int .i64 (k+3*j)) (fun _ vi=>n - (intOf vi).toNat)
 case atStart=>exact ⟨0,by omega,rfl,by simp⟩
 case round=>
 obtain ⟨j,hj,rfl,rfl⟩:=hrel
 by_cases hlt:j<n
 ·obtain ⟨g,x,rfl,hg,hx',hcell⟩:=hv j hlt
  rw [M.pa hlt] at hx';obtain rfl:=Option.some.inj hx'.out;have e0:w.cell? ⟨g,j*3,none⟩=some (.int .i64 (k+3*j)):=hcell 0 _ rfl;have e1:w.cell? ⟨g,j*3+1,none⟩=some (.int .i64 (k+3*j+1)):=hcell 1 _ rfl;have e2:w.cell? ⟨g,j*3+2,none⟩=some (.int .i64 (k+3*j+1+1)):=hcell 2 _ rfl;clear hv hcell;go_wp2
  go_round
  case rel=>exact ⟨j+1,by omega,by go_num,by congr 1;omega⟩
  case measure=>simp [intOf];omega
 obtain rfl:j=n:=by omega
 clear hv;go_wp2;go_ret;exact ⟨rfl,(by repeat (first | exact yM _ _ | refine aR ?_ _ | refine aS ?_ (by assumption) | refine Below.drew ?_ | refine yL ?_ (by first | exact yN _ | exact Nat.le_add_right _ _ | (simp <;> omega)) _ | refine aL ?_ _))⟩
theorem fd (a b n d:Int) (v:Value) (xs:List Pt) (w:World) (hx:cP w v xs) :
  Calls Tryz.prog 18 #[.agg #[.int .i64 a,.int .i64 b,v,.int .i64 n,.int .i64 d],.int .i64 1048576] w fun e w'=>e=.returned (.int .i64 (if xs.length≤1048576 then (1048576 - xs.length:Int) else -1))∧Below w.heap.size w w':=by
 have SZ:=fun W h=>pg v xs W h
 obtain ⟨wc,hw3,C,B⟩:=gU w #[.int .i64 a,.int .i64 b,v,.int .i64 n,.int .i64 d] 41;have hxc:=yJ (hx.keep B);have ⟨c0,c1,c2,c3,c4⟩:=C.bD;obtain ⟨A,cap,rfl,-,-⟩:=hx
 by_cases h:xs.length≤1048576
 ·simp only [if_pos h] at SZ ⊢
  replace SZ:=yJ SZ;generalize xs.length=L at *
  have hL:0≤(1048576:Int) - L:=by omega
  generalize (1048576:Int) - L=M0 at *;go_enter Tryz.func18,Tryz.ntmps18
  go_wp2_with (go_at_call 8;(refine (SZ.out _ hxc.out).mono ?_);rintro e w4 ⟨rfl,rfl⟩)
  go_ret;exact ⟨rfl,B⟩
 simp only [if_neg h] at SZ ⊢;replace SZ:=yJ SZ;generalize xs.length=L at *;go_enter Tryz.func18,Tryz.ntmps18
 go_wp2_with (go_at_call 8;(refine (SZ.out _ hxc.out).mono ?_);rintro e w4 ⟨rfl,rfl⟩)
 go_ret;exact ⟨rfl,B⟩
theorem iA (a b m d:Int) (v:Value) (n:Nat) (k:Int) (w:World) (base:Nat) (hx:Rw.Own yY w base v (M.cV k n)) (h1:0≤k) (h2:k+3*n≤4000000000000000000) :
  Calls Tryz.prog 26 #[.agg #[.int .i64 a,.int .i64 b,v,.int .i64 m,.int .i64 d],.int .i64 k] w fun e w'=>e=.returned (.int .i64 (k+3*n))∧Below w.heap.size w w':=by
 have HH:=fun W h=>mK v n k W base h h1 h2
 obtain ⟨wc,hw3,C,B⟩:=gU w #[.int .i64 a,.int .i64 b,v,.int .i64 m,.int .i64 d] 47;have hxc:=yJ (hx.below B);have ⟨c0,c1,c2,c3,c4⟩:=C.bD
 have hk:0≤k+3*(n:Int):=by omega
 obtain ⟨A,cap,rfl,-,-⟩:=hx.seen;generalize k+3*(n:Int)=K at *;generalize (M.cV k n).length=L at *;replace HH:=yJ HH;go_enter Tryz.func26,Tryz.ntmps26
 go_wp2_with (go_at_call 46;(refine (HH.out _ hxc.out).mono ?_);rintro e w4 ⟨rfl,hb4⟩;replace B:=i_ B hb4)
 go_ret;exact ⟨rfl,B⟩
theorem ei (a b m d:Int) (v:Value) (xs:List Pt) (k:Int) (w:World) (base:Nat) (hx:Rw.Own yY w base v xs) (h1:0≤k) (h2:k+3*xs.length≤4000000000000000000) :
  Calls Tryz.prog 25 #[.agg #[.int .i64 a,.int .i64 b,v,.int .i64 m,.int .i64 d],.int .i64 k] w fun e w'=>e=.returned (.int .i64 (k+3*xs.length))∧Rw.Own yY w' base v (M.cV k xs.length)∧w.grownBy w' v.ownBlock:=by
 have HH:=fun W h=>mP v xs k W base h h1 h2
 obtain ⟨wc,hw3,C,B⟩:=gU w #[.int .i64 a,.int .i64 b,v,.int .i64 m,.int .i64 d] 47;have hxc:=yJ (hx.below B);have hg0:=yJ (cF B v.ownBlock);have ⟨c0,c1,c2,c3,c4⟩:=C.bD;obtain ⟨A,cap,rfl,-,-⟩:=hx.seen;generalize M.cV k xs.length=ys at *;generalize k+3*(xs.length:Int)=K at *;generalize xs.length=L at *;replace HH:=yJ HH;go_enter Tryz.func25,Tryz.ntmps25
 go_wp2_with (go_at_call 15;(refine (HH.out _ hxc.out).mono ?_);rintro e w4 ⟨rfl,ho,hg⟩;replace hg:=yJ (dI hg0.out hg);replace ho:=yJ ho)
 go_ret;exact ⟨rfl,ho.out,hg.out⟩
theorem fZ (a b n d:Int) (v u:Value) (xs:List Pt) (w:World) (h1 h2:Nat) (hx:Rw.Seen yY w h1 v xs) (hy:Rw.Seen yY w h2 u xs) (A9:h1≤w.heap.size) (As:h2≤w.heap.size) :
  Calls Tryz.prog 22 #[.agg #[.int .i64 a,.int .i64 b,v,.int .i64 n,.int .i64 d],.agg #[.int .i64 a,.int .i64 b,u,.int .i64 n,.int .i64 d]] w fun e w'=>e=.returned (.bool true)∧Below w.heap.size w w':=by
 have EQ:=fun W p q r s=>pI v u xs xs W h1 h2 p q r s
 have hd2:decide (xs=xs)=true:=by simp
 rw [hd2] at EQ;clear hd2;obtain ⟨wc,hw3,C,D,B⟩:=ki w #[.int .i64 a,.int .i64 b,v,.int .i64 n,.int .i64 d] 47 #[.int .i64 a,.int .i64 b,u,.int .i64 n,.int .i64 d] 47;have HX:=yJ (And.intro (hx.below (B.mono A9)) (hy.below (B.mono As)));have HH:=yJ (And.intro (Nat.le_trans A9 B.size) (Nat.le_trans As B.size));have ⟨c0,c1,c2,c3,c4⟩:=C.bD;have ⟨d0,d1,d2,d3,d4⟩:=D.bD;obtain ⟨A,cap,rfl,-,-⟩:=hx;obtain ⟨A2,cap2,rfl,-,-⟩:=hy;generalize xs.length=L at *;replace EQ:=yJ EQ;clear A9 As;go_enter Tryz.func22,Tryz.ntmps22
 go_wp2_with first
  | (go_at_call 42;(refine (rB _ _ _ _ _).mono ?_);rintro e w4 ⟨rfl,hb4⟩;replace HX:=yJ (And.intro (HX.out.1.below (hb4.mono HH.out.1)) (HX.out.2.below (hb4.mono HH.out.2)));replace HH:=yJ (And.intro (Nat.le_trans HH.out.1 hb4.size) (Nat.le_trans HH.out.2 hb4.size));replace C:=C.keep hb4;replace D:=D.keep hb4;replace B:=i_ B hb4;(have ⟨c0,c1,c2,c3,c4⟩:=C.bD);(have ⟨d0,d1,d2,d3,d4⟩:=D.bD))
  | (go_at_call 14;(refine (EQ.out _ HX.out.1 HX.out.2 HH.out.1 HH.out.2).mono ?_);rintro e w5 ⟨rfl,hb5⟩;replace C:=C.keep hb5;replace D:=D.keep hb5;replace B:=i_ B hb5;(have ⟨c0,c1,c2,c3,c4⟩:=C.bD);(have ⟨d0,d1,d2,d3,d4⟩:=D.bD))
  | (go_at_call 43;(refine (ko _ _ _ _ _).mono ?_);rintro e w6 ⟨rfl,hb6⟩;replace B:=i_ B hb6)
 go_ret;exact ⟨rfl,B⟩
theorem Rw.Own.dh {α:Type} {E:Rw.Enc α} {w:World} {base k i:Nat} {v:Value} {xs:List α} (h:Rw.Own E w base v xs) (hk:k<base) (x:Value):Rw.Own E (w.setCell ⟨k,i,none⟩ x) base v xs:=
 h.kept (Gr.set (World.grownBy.refl _ _) _ _) (fun g hg e=>by
  injection hg with hg
  have:=(h.lt _ e).1
  omega)
theorem jH (a b n d:Int) (v:Value) (xs:List Pt) (w:World) (hx:cP w v xs) (hn:xs.length≤1048576) :
  Calls Tryz.prog 20 #[.agg #[.int .i64 a,.int .i64 b,v,.int .i64 n,.int .i64 d]] w fun e w'=>∃ v',e=.returned (.agg #[.int .i64 a,.int .i64 b,v',.int .i64 n,.int .i64 d])∧Rw.Own yY w' w.heap.size v' xs∧Below w.heap.size w w':=by
 have TP:=fun W h=>pk v xs W h hn
 obtain ⟨wc,hw3,C,R,Z,B⟩:=kj w #[.int .i64 a,.int .i64 b,v,.int .i64 n,.int .i64 d] 41 #[.int .i64 0,.int .i64 0,.slice none 0 0,.int .i64 0,.int .i64 0] 47 #[.int .i64 0,.int .i64 0,.slice none 0 0,.int .i64 0,.int .i64 0] 47;have Hx:=yJ hx;have ⟨c0,c1,c2,c3,c4⟩:=C.bD;have ⟨z5,z6,z7,z8,z9,hz⟩:=Z.eU;obtain ⟨A,cap,rfl,-,-⟩:=hx;replace TP:=yJ TP;go_enter Tryz.func20,Tryz.ntmps20
 go_wp2_with first
  | (go_at_call 10;(refine (pj _ _ _).mono ?_);rintro e w4 ⟨rfl,hb4⟩;replace C:=C.keep hb4;replace R:=R.keep hb4;replace Z:=Z.keep hb4;replace B:=i_ B hb4;(have ⟨z5,z6,z7,z8,z9,hz⟩:=Z.eU);(have ⟨z0,z1,z2,z3,z4⟩:=Z.bD);replace C:=(C.other (k:=w.heap.size+1+1) (i:=0) (by omega) (.int .i64 a)).other (k:=w.heap.size+1+1) (i:=1) (by omega) (.int .i64 b);replace R:=(R.other (k:=w.heap.size+1+1) (i:=0) (by omega) (.int .i64 a)).other (k:=w.heap.size+1+1) (i:=1) (by omega) (.int .i64 b);replace Z:=(Z.set 0 (.int .i64 a)).set 1 (.int .i64 b);replace B:=yL (yL (p:=⟨w.heap.size+1+1,0,none⟩) B (by show w.heap.size≤w.heap.size+1+1;omega) (.int .i64 a)) (p:=⟨w.heap.size+1+1,1,none⟩) (by show w.heap.size≤w.heap.size+1+1;omega) (.int .i64 b);(have ⟨c0,c1,c2,c3,c4⟩:=C.bD))
  | (go_at_call 11;have hlz:=Z.lt;have hlr:=R.lt;(refine (TP.out _ (Hx.out.keep B)).mono ?_);rintro e w5 ⟨v5,rfl,o5,hb5⟩;obtain ⟨A5,cap5,rfl,-⟩:=o5.seen;replace C:=C.keep hb5;replace R:=R.keep hb5;(replace Z:aH _ _ _ #[.int .i64 a,.int .i64 b,.slice none 0 0,.int .i64 0,.int .i64 0]:=Z.keep hb5);replace B:=i_ B hb5;(have ⟨z5,z6,z7,z8,z9,hz⟩:=Z.eU);(have ⟨z0,z1,z2,z3,z4⟩:=Z.bD);replace C:=C.other (k:=w.heap.size+1+1) (i:=2) (by omega) (.slice A5 xs.length cap5);replace R:=R.other (k:=w.heap.size+1+1) (i:=2) (by omega) (.slice A5 xs.length cap5);(replace Z:aH _ _ _ #[.int .i64 a,.int .i64 b,.slice A5 xs.length cap5,.int .i64 0,.int .i64 0]:=Z.set 2 (.slice A5 xs.length cap5));replace B:=yL (p:=⟨w.heap.size+1+1,2,none⟩) B (by show w.heap.size≤w.heap.size+1+1;omega) (.slice A5 xs.length cap5);replace o5:=o5.dh (i:=2) hlz (.slice A5 xs.length cap5);(have ⟨c0,c1,c2,c3,c4⟩:=C.bD))
  | (go_at_call 40;(refine (k9 _ _ _).mono ?_);rintro e w6 ⟨rfl,hb6⟩;replace C:=C.keep hb6;replace R:=R.keep hb6;replace Z:=Z.keep hb6;replace o5:=o5.below hb6;replace B:=i_ B hb6;(have ⟨z5,z6,z7,z8,z9,hz⟩:=Z.eU);(have ⟨z0,z1,z2,z3,z4⟩:=Z.bD);replace R:=R.other (k:=w.heap.size+1+1) (i:=3) (by omega) (.int .i64 n);replace R:=R.other (k:=w.heap.size+1+1) (i:=4) (by omega) (.int .i64 d);(replace Z:aH _ _ _ #[.int .i64 a,.int .i64 b,.slice A5 xs.length cap5,.int .i64 n,.int .i64 d]:=(Z.set 3 (.int .i64 n)).set 4 (.int .i64 d));replace B:=yL (p:=⟨w.heap.size+1+1,3,none⟩) B (by show w.heap.size≤w.heap.size+1+1;omega) (.int .i64 n);replace B:=yL (p:=⟨w.heap.size+1+1,4,none⟩) B (by show w.heap.size≤w.heap.size+1+1;omega) (.int .i64 d);replace o5:=(o5.dh (i:=3) hlz (.int .i64 n)).dh (i:=4) hlz (.int .i64 d);(have ⟨y0,y1,y2,y3,y4⟩:=Z.bD);(have ⟨r0,r1,r2,r3,r4⟩:=R.bD);(have ⟨r5,r6,r7,r8,r9,_⟩:=R.eU);clear C)
 exact bodyPost_ret (v:=.agg #[.int .i64 a,.int .i64 b,.slice A5 xs.length cap5,.int .i64 n,.int .i64 d]) (by simp [results,Tryz.results20,go_sem, *]) rfl (⟨_,rfl,((((((o5.dh (i:=0) hlr _).dh (i:=1) hlr _).dh (i:=2) hlr _).dh (i:=3) hlr _).dh (i:=4) hlr _).down (Nat.le_trans (by omega) (Nat.le_of_lt hlz))),yL (yL (yL (yL (yL B (by simp) _) (by simp) _) (by simp) _) (by simp) _) (by simp) _⟩)
end
section
open Go.RowKit
namespace M
theorem dq {a b:Int} {l:List Pt} (h:cJ a b l=true):good a b=true∧1≤l.length∧l.length≤4∧∀ p ∈ l,bV a b p.1 p.2.1 p.2.2=true:=by
 unfold cJ at h;rw [Bool.and_eq_true,Bool.and_eq_true] at h;obtain ⟨⟨h1,h2⟩,h3⟩:=h;unfold ins at h2;simp only [Bool.and_eq_true,decide_eq_true_eq] at h2;exact ⟨h1,by omega,by omega,List.all_eq_true.1 h3⟩
theorem xG {x:Int} (h1:-409600000≤x) (h2:x≤409600000):decide (pn x > 0)=decide (x > 0):=by
 obtain ⟨-,-,-,-,h3,h4,-,-,-⟩:=pK (bO h1 h2)
 have:pn x > 0 ↔ x > 0:=by
  generalize pn x=n,4096 / pd x=t at *;subst h3
  constructor
  ·intro h;exact Int.mul_pos h (by omega)
  intro h
  rcases Int.lt_or_le 0 n with q | q
  ·exact q
  have:=Int.mul_nonpos_of_nonpos_of_nonneg q (show 0≤t by omega);omega
 simp only [this]
theorem u9 {s:Sp} (h:AU s):decide (zI s > 0)=decide (yx s > 0):=by
 cases s with
 | none=>rfl
 | some p=>
 obtain ⟨-,h1,h2⟩:=fS h;have h3:=(fS h).1;exact xG h1 (Int.le_trans h3 h2)
theorem qV {a b:Int} {l:List Pt}:AU (cy a b l):=by
 cases h:Ak a b l
 ·rw [mZ h];exact eQ
 rw [kW h];exact jT (kT h) _
end M
end
section
open Go.RowKit Go.Shelf
theorem wZ (b i:Nat):(⟨b,0,none⟩:Addr).add i=⟨b,i,none⟩:=by unfold Addr.add;split <;> simp_all
theorem eV.from' {w:World} {g:Nat} {l:List Pt} (h:eV w g l):Rw.From yY w (some ⟨g,0,none⟩) l:=by
 intro j u hu;refine ⟨_,rfl,?_⟩;rw [wZ];have hlt:j<(l.flatMap yY.cells).length:=(List.getElem?_eq_some_iff.1 hu).1;rw [Rw.cI] at hlt;have hlt:j<l.length*3:=hlt
 obtain ⟨p,hp⟩:∃ p,l[j / 3]?=some p:=⟨_,List.getElem?_eq_getElem (by omega)⟩
 have hi:j % 3<yY.k:=Nat.mod_lt _ (by decide);have hf:=Rw.flat_get yY l (j / 3) (j % 3) p hp hi
 have hj:j / 3*yY.k+j % 3=j:=by show j / 3*3+j % 3=j;omega
 rw [hj,hu] at hf;obtain ⟨h1,h2,h3⟩:=h _ _ hp
 have h4:j % 3=0∨j % 3=1∨j % 3=2:=by omega
 rcases h4 with q | q | q
 ·rw [q] at hf
  obtain rfl:=Option.some.inj hf
  have e:j / 3*3=j:=by omega
  rw [e] at h1;exact h1
 ·rw [q] at hf
  obtain rfl:=Option.some.inj hf
  have e:j / 3*3+1=j:=by omega
  rw [e] at h2;exact h2
 rw [q] at hf;obtain rfl:=Option.some.inj hf
 have e:j / 3*3+2=j:=by omega
 rw [e] at h3;exact h3
theorem dN.from' {w:World} {v:Value} {l:List Pt} (h:dN w v l):∃ A cap,v=.slice A l.length cap∧∀ w',Below w.heap.size w w'→Rw.From yY w' A l:=by
 obtain ⟨a,cap,rfl,h⟩:=h;refine ⟨a,cap,rfl,fun w' hb=>?_⟩
 rcases h with rfl | ⟨g,rfl,h⟩
 ·exact Rw.From.nil yY w' a
 exact (h.below hb).from'
theorem xy {w:World} {base:Nat} (hb:base≤w.heap.size):Rw.Own yY (w.alloc (.cells #[] 57)) base (.slice (some ⟨w.heap.size,0,none⟩) 0 0) []:=Rw.Own.nv yY w base hb
theorem jw (xs:List Pt) (v:Value) (w:World) (hx:dN w v xs) (hl:xs.length≤1000000000) :
  Calls Tryz.prog 36 #[v] w fun e w'=>∃ v',e=.returned v'∧Rw.Own yY w' w.heap.size v' xs∧Below w.heap.size w w':=by
 obtain ⟨A,cap,rfl,hf⟩:=hx.from'
 clear hx;have hf:=yJ hf
 cases A with
 | none=>
  have h0:xs=[]:=by
   cases xs with
   | nil=>rfl
   | cons p l=>
   obtain ⟨ad,h,-⟩:=hf.out w (yM _ _) 0 (.int .i64 p.1) rfl;cases h
  subst h0;simp only [List.length_nil];clear hf hl
  have he:∀ W:World,(binOp .eql 31 (.slice none 0 cap) (.slice none 0 0)).run Tryz.prog W=.ok (.bool true) W:=fun _=>rfl
  go_enter Tryz.func36,Tryz.ntmps36
  go_wp2;go_ret;exact ⟨_,rfl,Rw.Own.nil yY _ _,yM _ _⟩
 | some ad=>
 have he:∀ W:World,(binOp .eql 31 (.slice (some ad) xs.length cap) (.slice none 0 0)).run Tryz.prog W=.ok (.bool false) W:=fun _=>rfl
 go_enter Tryz.func36,Tryz.ntmps36
 go_wp2_with (at_builtin;refine Rw.push j8 (W:=w) w.heap.size xs [] _ (some ad) _ _ (by rfl) (by rfl) (.tmp 5) (.tmp 6) (by rfl) (by rfl) (by rfl) (hf.out _ (by repeat (first | exact yM _ _ | refine aR ?_ _ | refine aS ?_ (by assumption) | refine Below.drew ?_ | refine yL ?_ (by first | exact yN _ | exact Nat.le_add_right _ _ | (simp <;> omega)) _ | refine aL ?_ _))) (xy (yN _)) (by repeat (first | exact yM _ _ | refine aR ?_ _ | refine aS ?_ (by assumption) | refine Below.drew ?_ | refine yL ?_ (by first | exact yN _ | exact Nat.le_add_right _ _ | (simp <;> omega)) _ | refine aL ?_ _)) (by simp) (by simp;omega) ?_;rintro v1 w1 hown1 hb1)
 go_ret;exact ⟨_,rfl,hown1,hb1⟩
end
section
open Go Go.RowKit
namespace Rg
variable {P:Program} {Q:Exit→Act→World→Prop}
section
variable (P) (Q) (ops:Array Oper) (a0:Act) (T:List Value) (J:(Nat→Bool)→(Nat→Value)→World→Prop) (C:List Nat)
def ah (k:Nat) (o:Oper):Prop:=
 ∀ (a:Act) (w:World) (l:Nat→Bool) (vals:Nat→Value),J l vals w→l k=false→(∀ c,fw ops k c=true→l c=false)→(∀ c,fw ops c k=true→l c=true)→(∀ c d,fw ops c d=true→l d=true→l c=true)→(∀ t ∈ o.looksAt ops,jf ops a0 T C o a vals t)→Region.wanted o (yielded ops a.tmps)=true∧
  if k ∈ C then o.wp P a w (fun a' w'=>∃ v,a'=a.put o.dst v∧J (upd l k) (br vals k v) w') Q else (execOp a.eval o).run P w=.ok (.value (T.getD k undef)) w
def sI:List Oper→Nat→Prop
 | [],_=>True
 | o :: os,k=>ah P Q ops a0 T J C k o∧sI os (k+1)
def xW (l:Nat→Bool) (vals:Nat→Value) (w:World):Prop:=
 J l vals w∧∀ i,i ∉ C→l i=true→vals i=T.getD i undef
end
theorem uK {ops:Array Oper} {a0:Act} {T:List Value} {J:(Nat→Bool)→(Nat→Value)→World→Prop} {C:List Nat} (hJ:∀ l l' v v' w,(∀ i ∈ C,l i=l' i∧v i=v' i)→J l v w→J l' v' w) :
  ∀ (os:List Oper) (k:Nat),(∀ i,os[i]?=ops[k+i]?)→sI P Q ops a0 T J C os k→fo P Q .any ops (xW T J C) a0 os k
 | [],_,_,_=>trivial
 | o :: os,k,hos,h=>by
  refine ⟨fun a w l vals hI hl hc zl hr=>?_,uK hJ os (k+1) (fun i=>by rw [show k+1+i=k+(i+1) by omega,←hos (i+1)];rfl) h.2⟩;obtain ⟨hB,hv⟩:=hI;have ho:ops[k]?=some o:=(hos 0).symm
  have hQ:∀ t ∈ o.looksAt ops,jf ops a0 T C o a vals t:=fun t ht=>by
   have:=hr t ht;unfold rd at this;unfold jf
   split
   ·rename_i e he
    rw [he] at this;have h2:=List.find?_some he;rw [Bool.and_eq_true] at h2;replace this:a.tmps[t]?=some (vals e.on):=this
    split
    ·exact this
    rename_i n1
    rw [this,hv _ n1 (zl e (Array.mem_toList_iff.1 (List.mem_of_find?_eq_some he)) h2.1)]
   rename_i he
   rw [he] at this;exact this
  have hko:∀ j,j≠k→upd l k j=l j:=fun j hj=>if_neg hj
  have h1:=h.1;unfold ah at h1
  have rest:∀ v,(k ∉ C→v=T.getD k undef)→∀ i,i ∉ C→upd l k i=true→br vals k v i=T.getD i undef:=fun v hvk i n1 hi=>by
   by_cases hik:i=k
   ·subst hik
    have:br vals i v i=v:=if_pos rfl;rw [this];exact hvk n1
   rw [hko i hik] at hi;have:br vals k v i=vals i:=if_neg hik;rw [this];exact hv i n1 hi
  have hup:∀ c,fw ops k c=true→l c=false:=fun c he=>by
   cases q:l c
   ·rfl
   rw [cQ hc he q] at hl;cases hl
  obtain ⟨hw,h1⟩:=h1 a w l vals hB hl hup (fun c he=>eN ho zl he) (fun c d he hd=>cQ hc he hd) hQ;unfold jj;rw [if_pos hw]
  by_cases e3:k ∈ C
  ·rw [if_pos e3] at h1
   refine Oper.wp_mono ?_ h1;rintro a' w' ⟨v,e,h2⟩;exact ⟨v,e,h2,rest v (fun h=>absurd e3 h)⟩
  rw [if_neg e3] at h1;unfold Oper.wp;rw [h1];refine ⟨_,rfl,hJ l _ vals _ _ (fun i hi=>?_) hB,rest _ (fun _=>rfl)⟩
  have:i≠k:=fun e=>e3 (by rw [←e];exact hi)
  exact ⟨(hko i this).symm,(if_neg this).symm⟩
theorem ov {id:Nat} {ops:Array Oper} {a0:Act} {w:World} (J:(Nat→Bool)→(Nat→Value)→World→Prop) (C:List Nat) (T:List Value)
  (hm:P.follows .mixedOrders=true) (hok:dw .any ops a0.tmps.size=true) (hcl:∀ c ∈ C,c<ops.size) (hJ:∀ l l' v v' w,(∀ i ∈ C,l i=l' i∧v i=v' i)→J l v w→J l' v' w)
  (h0:∀ vals,J (fun _=>false) vals { w with drawn:=w.drawn+1 })
  (hR:sI P Q ops a0 T J C ops.toList 0)
  (hF:∀ (vals:Nat→Value) (w':World),J (fun _=>true) vals w'→(∀ i,i<ops.size→i ∉ C→vals i=T.getD i undef)→Q .normal (fill (fun _=>true) vals ops.toList 0 a0) w'):(Code.region id ops true).wp P Q a0 w:=by
 refine iE (xW T J C) hm hok (fun vals=>⟨h0 vals,(fun _ _ h=>absurd h (by simp))⟩) (uK hJ ops.toList 0 (fun i=>by rw [Nat.zero_add];exact Array.getElem?_toList) hR) ?_;intro l vals w' hl hI;obtain ⟨h1,h2⟩:=hI;exact hF vals w' (hJ l _ vals vals w' (fun i hi=>⟨hl i (hcl i hi),rfl⟩) h1) (fun i hi n1=>h2 i n1 (hl i hi))
end Rg
end
end Go.Proofs.YtgfkcoablfjbcaaGreat
