/-
  Joined texts: contracts and plain lemmas.
-/
import Derived.Test.YtkalaljcbmkbmaaGreatB1
import Derived.Test.YtkalaljcbmkbmaaGreatB13
import Derived.Test.YtkalaljcbmkbmaaGreatB12
import Derived.Test.YtkalaljcbmkbmaaGreatB10
import Derived.Test.YtkalaljcbmkbmaaGreatB2
import Derived.Deep.DeepCutAuto
set_option linter.unusedSimpArgs false
set_option linter.unusedVariables false
set_option maxRecDepth 100000
set_option maxHeartbeats 8000000
namespace Go.Proofs.YtkalaljcbmkbmaaGreat
open Tryz
section
open Go.RowKit Go.Shelf open Gr M Rg Rw Wh
namespace M
theorem tv {n:Int} (h:fU n=true):0<=rt n/\rt n*rt n=n:=by
 unfold rt;rw [h];unfold fU at h;simp only [Bool.and_eq_true,decide_eq_true_eq,beq_iff_eq] at h;exact ⟨(gv h.1).1,h.2⟩
noncomputable def ft (a b x:Int):List Ib:=
 if fU (cv a b x 1)=true then (if rt (cv a b x 1)=0 then [(x,0,1)] else if (aO a b).tmod (rt (cv a b x 1)*rt (cv a b x 1))=0 then [(x,-rt (cv a b x 1),1),(x,rt (cv a b x 1),1)] else []) else []
noncomputable def dS (a b:Int):Nat->List Ib
 | 0=>[]
 | n+1=>dS a b n ++ ft a b ((n:Int) - 3000)
noncomputable def dD (a:Int) (p:Ib):Bool:=(gG a p.1 p.2.1 p.2.2).isSome
noncomputable def lc (a b:Int):List Ib:=(0,0,0) :: (dS a b 6001).filter (dD a)
theorem uZ (a b x:Int):(ft a b x).length<=2:=by
 unfold ft
 split
 ·split
  ·simp
  split <;> simp
 simp
theorem jq (a b:Int):∀ n,(dS a b n).length<=2*n
 | 0=>IY _
 | n+1=>by
  have h1:=jq a b n;have h2:=uZ a b ((n:Int) - 3000)
  show (dS a b n ++ ft a b ((n:Int) - 3000)).length<=2*(n+1)
  rw [List.length_append];omega
theorem xn {a b x:Int} (h1:-10000<=x) (h2:x<=10000):∀ p ∈ ft a b x,aP a b p.1 p.2.1 p.2.2=true:=by
 unfold ft
 cases hs:fU (cv a b x 1) with
 | false=>intro p hp;simp at hp
 | true=>
 obtain ⟨r0,hr⟩:=tv hs
 have ok:∀ y,y*y=cv a b x 1->aP a b x y 1=true:=fun y hy=>by
  unfold aP;rw [if_neg δ];simp only [Bool.and_eq_true,beq_iff_eq,decide_eq_true_eq];exact ⟨⟨⟨bT.2 ⟨h1,h2⟩,rfl⟩,by unfold M.gcd;simp⟩,hy⟩
 rw [if_pos rfl]
 split
 ·rename_i h0
  intro p hp;obtain rfl:=List.mem_singleton.1 hp;exact ok 0 (by rw [←hr,h0])
 split
 ·intro p hp
  simp only [List.mem_cons,List.not_mem_nil,or_false] at hp
  rcases hp with rfl | rfl
  ·exact ok _ (by rw [Int.neg_mul_neg];exact hr)
  exact ok _ hr
 intro p hp;simp at hp
theorem pU {a b:Int}:∀ n:Nat,n<=6001->∀ p ∈ dS a b n,aP a b p.1 p.2.1 p.2.2=true
 | 0,_,p,hp=>by simp [dS] at hp
 | n+1,hn,p,hp=>by
  rcases List.mem_append.1 (show p ∈ dS a b n ++ ft a b ((n:Int) - 3000) from hp) with h | h
  ·exact pU n ω p h
  exact xn ω ω p h
theorem AO {a b x:Int} (ha1:-1000<=a) (ha2:a<=1000) (hb1:-10000<=b) (hb2:b<=10000) (hx1:-3000<=x) (hx2:x<=3000):cv a b x 1<=30000000000:=by
 have e:cv a b x 1=x*x*x+a*x+b:=by unfold cv;grind
 have s1:=aH (x:=x) (y:=x) (m:=3000) (n:=3000);have s2:=aH (x:=x*x) (y:=x) (m:=9000000) (n:=3000);have s3:=aH (x:=a) (y:=x) (m:=1000) (n:=3000);omega
end M
def Ka:Rw.Enc (Int × Int × Int) where
 t:=40
 k:=3
 cells:=fun q=>[.int .i64 q.1,.int .i64 q.2.1,.int .i64 q.2.2]
 len:=fun _=>rfl
 one:=fun x u hu=>by simp only [List.mem_cons,List.not_mem_nil,or_false] at hu;rcases hu with rfl | rfl | rfl <;> rfl
 pos:=δ
theorem GI:(prog.info? 40).map (fun i=>(i.zero,i.size,i.bytes))=some (some (.agg #[(0:Int),(0:Int),(0:Int)]),3,24):=κ
theorem iK:Rw.Fits prog Ka 26:=⟨Tryz.underlying26,by
 obtain ⟨i0,hi,hz0,hz1,hz2⟩:=info_parts GI
 exact ⟨i0,_,hi,hz0,hz1,ω,rfl⟩⟩
theorem Rw.Seen.Nd {w:World} {hi:Nat} {v:Value} {l:List Pt} (h:Rw.Seen Ka w hi v l):eD w v l:=by
 obtain ⟨a,cap,rfl,h1,h2,h3⟩:=h;refine ⟨a,cap,rfl,?_⟩
 cases l with
 | nil=>exact Or.inl rfl
 | cons p l=>
 obtain ⟨g,x,e,-⟩:=h3 0 σ;refine Or.inr ⟨g,e,fun i y hy=>?_⟩;obtain ⟨g2,x2,e2,-,hx2,hc⟩:=h3 i (List.getElem?_eq_some_iff.1 hy).1;rw [e] at e2
 injection e2 with e2
 injection e2 with e2
 subst e2;rw [hy] at hx2;obtain rfl:=Option.some.inj hx2.out;exact ⟨hc 0 _ rfl,hc 1 _ rfl,hc 2 _ rfl⟩
theorem gJ {w:World} {H:Nat} (x y z:Int) (hH:w.heap.size=H):Rw.From Ka (w.alloc (.cells #[x,y,z] 40)) (some ⟨H,0,none⟩) [(x,y,z)]:=Rw.From.lit Ka w (x,y,z) H hH
theorem DU {w:World} {H:Nat} (x y z x2 y2 z2:Int) (hH:w.heap.size=H):Rw.From Ka (w.alloc (.cells #[x,y,z,x2,y2,z2] 40)) (some ⟨H,0,none⟩) [(x,y,z),(x2,y2,z2)]:=by
 subst hH;intro j u hu;refine ⟨_,rfl,?_⟩
 have hadd:∀ b i:Nat,(⟨b,0,none⟩:Addr).add i=⟨b,i,none⟩:=fun b i=>by unfold Addr.add;split <;> simp_all
 have hu2:[Value.int .i64 x,.int .i64 y,.int .i64 z,.int .i64 x2,.int .i64 y2,.int .i64 z2][j]?=some u:=hu;rw [hadd,World.cell?_alloc_at _ _ _ _ rfl]
 show (List.toArray _)[j]?=some u
 rw [List.getElem?_toArray];exact hu2
theorem eD.mC {W W':World} {r:Option Nat} {A:Option Addr} {n c:Nat} {l:List Pt} (h:eD W (.slice A n c) l) (hg:W.grownBy W' r) (hn:∀ k,r=some k->A≠some ⟨k,0,none⟩):eD W' (.slice A n c) l:=by
 obtain ⟨a,cap,e,h⟩:=h;cases e
 refine ⟨_,_,rfl,?_⟩
 rcases h with h | ⟨g,rfl,h⟩
 ·exact Or.inl h
 refine Or.inr ⟨g,rfl,fun k p hp=>?_⟩
 have hne:some g≠r:=fun e=>hn g e.symm rfl
 obtain ⟨h1,h2,h3⟩:=h k p hp;exact ⟨hg.cell h1 hne,hg.cell h2 hne,hg.cell h3 hne⟩
theorem ez {B:Nat} {a w:World} (h:Below B a w) (n:Nat):Below B a (w.drewN n):=⟨h.os,h.tape,h.output,h.size,h.block⟩
theorem aG.mC {W W':World} {g:Nat} {r:Option Nat} {T:TypeId} {xs:Array Value} (h:aG W g T xs) (hg:W.grownBy W' r) (hn:∀ k,r=some k->g≠k):aG W' g T xs:=
 (hg.block g h.lt fun e=>by
  cases r with
  | none=>cases e
  | some k=>exact hn k rfl (Option.some.inj e)).trans h
theorem qV (a b:Int) (w:World) (hg:M.good a b=true) :
  Calls prog 65 #[.agg #[a,b]] w fun e w'=>∃ v',e=.returned v'/\Rw.Own Ka w' w v' (dS a b 6001)/\Below w w w':=by
 obtain ⟨ha1,ha2,hb1,hb2⟩:=aW (aY hg)
 have PV:=IU fun (x:Int) (h1:-3000<=x) (h2:x<=3000) W=>fS a b x 1 W ha1 ha2 hb1 hb2 ω ω ω ω
 have HB:=IU fun (x:Int) (h1:-3000<=x) (h2:x<=3000)=>AO (a:=a) (b:=b) (x:=x) ha1 ha2 hb1 hb2 h1 h2
 have PC:=fun W=>qb a b W (aY hg)
 have hdb:=wG (aY hg)
 have hlen:=IU fun n=>jq a b n
 have hat:∀ x,ft a b x=if fU (M.cv a b x 1)=true then (if M.rt (M.cv a b x 1)=0 then [(x,0,1)] else if (aO a b).tmod (M.rt (M.cv a b x 1)*M.rt (M.cv a b x 1))=0 then [(x,-M.rt (M.cv a b x 1),1),(x,M.rt (M.cv a b x 1),1)] else []) else []:=fun _=>rfl
 replace hat:=IU hat;clear hg ha1 ha2 hb1 hb2;generalize aO a b=dd at *;replace PC:=IU PC;obtain ⟨wc,hw3,C,B⟩:=cf w #[a,b] 25;have hlt0:=C.lt;go_enter func65,ntmps65
 go_wp2
 go_loopw [3,4] (fun vs vi wq=>∃ j:Nat,j<=6001/\vi=.int .i64 ((j:Int) - 3000)/\Hid (Rw.Own Ka wq wc vs (dS a b j))/\Below wc wc wq) (fun _ vi _=>(3001 - intOf vi).toNat)
 case atStart=>exact ⟨0,ω,rfl,IU (Rw.Own.nil Ka _ _),IX _ _⟩
 case round=>
 obtain ⟨j,hj,rfl,hown,hbr⟩:=hrel;have Kp:=hbr.size;obtain ⟨A,cap,rfl,-,-,-⟩:=hown.out.seen
 by_cases hlt:j<6001
 ·obtain ⟨x,hx⟩:∃ x:Int,x=(j:Int) - 3000:=⟨_,rfl⟩
  have hx1:-3000<=x:=ω
  have hx2:x<=3000:=ω
  have hnx:dS a b (j+1)=dS a b j ++ ft a b x:=by rw [hx];rfl
  have hxn:x+1=((j+1:Nat):Int) - 3000:=ω
  have hlj:=hlen.out j;rw [hat.out x] at hnx;replace PV:=PV.out x hx1 hx2;replace HB:=HB.out x hx1 hx2;rw [←hx];replace hx:=IU hx;replace hxn:=IU hxn
  have hrt:=fun h=>tv (n:=M.cv a b x 1) h
  have hrn:=fun h=>CN (n:=M.cv a b x 1) h
  have PX:=fun W=>iJ (M.cv a b x 1) W ω
  generalize M.cv a b x 1=c at *;generalize dS a b j=xs,fU c=s,M.rt c=r at *
  obtain ⟨ys,hys⟩:∃ l,dS a b (j+1)=l:=⟨_,rfl⟩
  rw [hys] at hnx;replace hys:=IU hys;have C2:=C.keep hbr;have ⟨k0,k1,_,_,_⟩:=C2.box;replace PV:=IU PV
  obtain ⟨N,hN⟩:∃ N,N=xs.length:=⟨_,rfl⟩
  rw [←hN] at hown hlj ⊢;replace hN:=IU hN
  cases s with
  | false=>
   obtain rfl:=hrn rfl;rw [if_neg δ,List.append_nil] at hnx;subst hnx;clear hrt hrn;replace PX:=IU PX
   go_wp2_with (first | (go_at_call 84;with_reducible refine p_ (PV.out _) fun w4 hb4=>?_) | (go_at_call 85;with_reducible refine Id (PX.out _) ?_))
   go_roundw
   case rel=>exact ⟨j+1,ω,congrArg (Value.int .i64) hxn.out,IU (by rw [hys.out];exact hown.out.below hb4),hbr.trans (hb4.mono Kp)⟩
   case measure=>simp [intOf];omega
  | true=>
  obtain ⟨r0,hrr⟩:=hrt rfl;rw [if_pos rfl] at hnx;clear hrt hrn;replace PX:=IU PX
  have hrb:r<=200000:=by
   rcases Int.lt_or_le 200000 r with q | q
   ·have:=Int.mul_le_mul (show 200001<=r by omega) (show 200001<=r by omega) δ r0
    omega
   exact q
  by_cases h0:r=0
  ·subst h0
   rw [if_pos rfl] at hnx;clear hrr;replace hnx:=IU hnx
   go_wp2_with (first | (go_at_call 84;with_reducible refine p_ (PV.out _) fun w4 hb4=>?_;have Ji:=hb4.size) | (go_at_call 85;with_reducible refine Id (PX.out _) ?_) | (at_builtin;refine Rw.push iK (W:=wc) wc.heap.size [(x,0,1)] _ _ (some ⟨_,0,none⟩) 1 1 (by rfl) (by rfl) (.tmp 24) (.tmp 27) (by rfl) (by rfl) (by rfl) (gJ x 0 1 σ) ((hown.out.below hb4).alloc _) ((hbr.trans (hb4.mono Kp)).alloc ω _) (by simp;omega) (by have:=hN.out;simp;omega) ?_;intro v6 w6 hown6 hb6))
   go_roundw
   case rel=>exact ⟨j+1,ω,congrArg (Value.int .i64) hxn.out,IU (by rw [hys.out,hnx.out];exact hown6),hb6⟩
   case measure=>simp [intOf];omega
  rw [if_neg h0] at hnx
  have RF:1<=r:=ω
  have hr0:(r == 0)=false:=by simpa using h0
  have hq1:1<=r*r:=Int.le_trans δ (Int.mul_le_mul RF RF δ r0);have hq2:=aH (x:=r) (y:=r) (m:=200000) (n:=200000)
  have hqz:¬ r*r=0:=ω
  have Tk:(r*r == 0)=false:=by simpa using hqz
  by_cases ht:dd.tmod (r*r)=0
  ·rw [if_pos ht] at hnx
   replace hnx:=IU hnx
   have htb:(dd.tmod (r*r) == 0)=true:=by simpa using ht
   clear hrr
   go_wp2_with (first | (go_at_call 84;with_reducible refine p_ (PV.out _) fun w4 hb4=>?_;have Ji:=hb4.size;have C3:=C2.keep hb4;(have ⟨l0,l1,_,_,_⟩:=C3.box)) | (go_at_call 85;with_reducible refine Id (PX.out _) ?_) | (go_at_call 106;with_reducible refine p_ (PC.out _) fun w7 Ig=>?_;have YI:=Ig.size) | (at_builtin;refine Rw.push iK (W:=wc) wc.heap.size [(x,-r,1),(x,r,1)] _ _ (some ⟨_,0,none⟩) 2 2 (by rfl) (by rfl) (.tmp 37) (.tmp 45) (by rfl) (by rfl) (by rfl) (DU x (-r) 1 x r 1 σ) (((hown.out.below hb4).below Ig).alloc _) (((hbr.trans (hb4.mono Kp)).trans (Ig.mono ω)).alloc ω _) (by simp;omega) (by have:=hN.out;simp;omega) ?_;intro v6 w6 hown6 hb6))
   go_roundw
   case rel=>exact ⟨j+1,ω,congrArg (Value.int .i64) hxn.out,IU (by rw [hys.out,hnx.out];exact hown6),hb6⟩
   case measure=>simp [intOf];omega
  rw [if_neg ht,List.append_nil] at hnx;subst hnx
  have htb:(dd.tmod (r*r) == 0)=false:=by simpa using ht
  clear hrr
  go_wp2_with (first | (go_at_call 84;with_reducible refine p_ (PV.out _) fun w4 hb4=>?_;have Ji:=hb4.size;have C3:=C2.keep hb4;(have ⟨l0,l1,_,_,_⟩:=C3.box)) | (go_at_call 85;with_reducible refine Id (PX.out _) ?_) | (go_at_call 106;with_reducible refine p_ (PC.out _) fun w7 Ig=>?_;have YI:=Ig.size))
  go_roundw
  case rel=>exact ⟨j+1,ω,congrArg (Value.int .i64) hxn.out,IU (by rw [hys.out];exact (hown.out.below hb4).below Ig),(hbr.trans (hb4.mono Kp)).trans (Ig.mono ω)⟩
  case measure=>simp [intOf];omega
 obtain rfl:j=6001:=ω
 go_wp2;go_ret;exact ⟨_,rfl,hown.out.down B.size,j_ B hbr⟩
theorem iV (a b:Int) (w:World) (hg:M.good a b=true) :
  Calls prog 29 #[.agg #[a,b]] w fun e w'=>∃ v',e=.returned v'/\eD w' v' (lc a b)/\(lc a b).length<=12100/\Below w w w':=by
 have PK:=IU fun W=>qV a b W hg
 have PO:=IU fun (p:M.Ib) (h:aP a b p.1 p.2.1 p.2.2=true) W=>oX a b p.1 p.2.1 p.2.2 W hg h
 have hall:=pU (a:=a) (b:=b) 6001 (IY _);have hlen:=jq a b 6001;have hto:lc a b=(0,0,0) :: (dS a b 6001).filter (dD a):=rfl;rw [hto]
 have hti:∀ p:M.Ib,dD a p=(gG a p.1 p.2.1 p.2.2).isSome:=fun _=>rfl
 generalize dS a b 6001=cs at *;replace hti:=IU hti;replace hall:=IU hall;clear hg hto;obtain ⟨wc,hw3,C,B⟩:=cf w #[a,b] 25;have hC0:=C.lt;have hown:Rw.Own Ka (wc.alloc (.cells #[(0:Int),(0:Int),(0:Int)] 40)) wc (.slice (some ⟨wc,0,none⟩) 1 1) [(0,0,0)]:=Rw.Own.Hq Ka (0,0,0) wc wc (IY _);have hbl:=bA wc (.cells #[(0:Int),(0:Int),(0:Int)] 40);have C1:=C.keep hbl;have ⟨k0,k1,_,_,_⟩:=C1.box;go_enter func29,ntmps29
 have hz1:=hbl.size
 have hl1:wc.heap.size<(wc.alloc (.cells #[(0:Int),(0:Int),(0:Int)] 40)).heap.size:=by rw [IV];omega
 generalize hw1:wc.alloc (.cells #[(0:Int),(0:Int),(0:Int)] 40)=w1 at *
 go_wp2_with (go_at_call 65;(with_reducible refine (PK.out _).mono ?_);rintro e w4 ⟨v4,rfl,hc4,hb4⟩;(obtain ⟨A4,cap4,rfl,-,-,-⟩:=hc4.seen))
 have hpv:=hc4.seen.Nd;have N7:=hc4.lt;have Ji:=hb4.size
 obtain ⟨N,hN⟩:∃ N,N=cs.length:=⟨_,rfl⟩
 rw [←hN] at hpv hlen ⊢;replace hN:=IU hN;replace hown:=hown.below hb4;replace B:=(j_ B hbl).trans (hb4.mono (by have:=B.size;omega));replace C:=(C.keep hbl).keep hb4
 have hap:∀ k,A4=some ⟨k,0,none⟩->wc.heap.size<k/\k<w4.heap.size:=fun k hk=>by
  subst hk;have:=N7 k rfl;omega
 clear N7 hw1 k0 k1 PK hbl C1 hw3;have Lg:=B.size;replace hap:=IU hap
 go_loopw [3,13] (fun vs vi wq=>∃ i:Nat,i<=N/\vi=.int .i64 i/\Hid (Rw.Own Ka wq wc vs ((0,0,0) :: (cs.take i).filter (dD a)))/\Hid (∀ k,vs.ownBlock=some k->A4≠some ⟨k,0,none⟩)/\Hid (eD wq (.slice A4 N cap4) cs)/\w4.heap.size<=wq.heap.size/\Below w w wq/\aG wq w 25 #[a,b]) (fun _ vi _=>N - (intOf vi).toNat)
 case atStart=>exact ⟨0,ω,rfl,IU hown,IU (fun k hk e=>by have h1:=hap.out k e;have h2:wc.heap.size=k:=Option.some.inj hk;omega),IU hpv,IY _,B,C⟩
 case round=>
 clear B C hown hpv;obtain ⟨i,hi,rfl,hown,hne,hpv,Sa,B,C⟩:=hrel
 by_cases hlt:i<N
 ·obtain ⟨p,hpi⟩:∃ p,cs[i]?=some p:=⟨_,List.getElem?_eq_getElem (by have:=hN.out;omega)⟩
  obtain ⟨g,rfl,hpa⟩:∃ g,A4=some ⟨g,0,none⟩/\ew wr g cs:=by
   obtain ⟨A,cap,e,h⟩:=hpv.out;cases e
   rcases h with h | h
   ·rw [h] at hpi;cases hpi
   exact h
  obtain ⟨d0,d1,d2⟩:=hpa i p hpi;have hgb:=hap.out g rfl;replace PO:=PO.out p (hall.out p (List.mem_of_getElem? hpi));have hq:=hti.out p
  have htk:(cs.take (i+1)).filter (dD a)=(cs.take i).filter (dD a) ++ (if dD a p=true then [p] else []):=by
   rw [List.take_add_one,hpi,List.filter_append];simp only [Option.toList_some,List.filter_cons,List.filter_nil]
  obtain ⟨X,Y,E⟩:=p
  dsimp only at PO d0 d1 d2 hq
  rw [←hq] at PO;clear hq hpi hpa;generalize (gG a X Y E).getD 0=od,dD a (X,Y,E)=tq at *;have Kp:=B.size
  have hfl:((0,0,0) :: (cs.take i).filter (dD a)).length<=12100:=by
   have:=List.length_filter_le (dD a) (cs.take i);rw [List.length_cons]
   have h2:(cs.take i).length<=cs.length:=by rw [List.length_take];omega
   have:=hN.out;omega
  replace hpv:=hpv.out;have B2:=B.alloc Kp (.cells #[X,Y,E] 40);have V:=aG.new wr #[X,Y,E] 40;have C2:=C.alloc (.cells #[X,Y,E] 40);have hown2:=hown.out.alloc (.cells #[X,Y,E] 40);have hpv2:=hpv.below (bA wr (.cells #[X,Y,E] 40))
  have hz2:wr.heap.size<=(wr.alloc (.cells #[X,Y,E] 40)).heap.size:=by rw [IV];omega
  have ⟨k0,k1,_,_,_⟩:=C2.box;have ⟨v0,v1,v2⟩:=V.aM;have hvw:=V.lt
  have hie:(i:Int)<(N:Int):=ω
  replace PO:=IU PO;replace hpv2:=IU hpv2;replace hown2:=IU hown2;replace htk:=IU htk
  obtain ⟨ys,hys⟩:∃ l,(0,0,0) :: (cs.take i).filter (dD a)=l:=⟨_,rfl⟩
  rw [hys] at hown hown2 hfl;replace hys:=IU hys;clear hpv
  cases tq with
  | false=>
   go_wp2_with (go_at_call 59;with_reducible refine p_ (PO.out _) fun w5 hb5=>?_)
   go_roundw
   case rel=>exact ⟨i+1,ω,ν,IU (by rw [htk.out,if_neg δ,List.append_nil,hys.out];exact hown2.out.below hb5),hne,IU (hpv2.out.below hb5),by have:=hb5.size;omega,j_ B2 hb5,C2.keep hb5⟩
   case measure=>simp [intOf];omega
  | true=>
  obtain ⟨Av,cv,rfl,-,-,-⟩:=hown.out.seen
  obtain ⟨M0,hM0⟩:∃ m,m=ys.length:=⟨_,rfl⟩
  rw [←hM0] at hown hown2 hfl hne ⊢;replace hM0:=IU hM0
  go_wp2_with (first | (go_at_call 59;with_reducible refine p_ (PO.out _) fun w5 hb5=>?_;have hz5:=hb5.size;have V2:=V.keep hb5;(have ⟨u0,u1,u2⟩:=V2.aM)) | (at_builtin;refine oi iK wc.heap.size [(X,Y,E)] ys _ ⟨_,0,none⟩ 1 1 (by rfl) (by rfl) (.tmp 24) (.tmp 26) (by rfl) (by rfl) (by rfl) (gJ X Y E σ) ((hown2.out.below hb5).alloc _) (by simp;omega) (by have:=hM0.out;simp;omega) ?_;intro v6 w6 hown6 Ku Py))
  have MS:=Ku.size;rw [IV] at MS;have hfr:=hown6
  go_roundw
  case rel=>
   refine ⟨i+1,ω,ν,IU (by rw [htk.out,if_pos trivial,←List.cons_append,hys.out];exact hown6),IU ?_,IU (((hpv2.out.below hb5).below (bA _ _)).mC Ku ?_),ω,?_,((C2.keep hb5).alloc _).mC Ku ?_⟩
   ·intro k hk e
    rcases Py with h | h
    ·exact hne.out k (by rw [←h];exact hk) e
    rw [h] at hk;have h1:=Option.some.inj hk;rw [IV] at h1
    have h2:g=k:=by cases e;rfl
    omega
   ·exact fun k hk=>hne.out k hk
   ·exact Below.grown ((j_ B2 hb5).alloc ω _) Ku (by rw [IV];omega) (fun k hk=>by have:=(hown2.out.lt k hk).1;omega)
   exact fun k hk=>by have:=(hown2.out.lt k hk).1;omega
  case measure=>simp [intOf];omega
 obtain rfl:i=N:=ω
 have hfull:cs.take i=cs:=by rw [hN.out,List.take_length]
 rw [hfull] at hown;go_wp2;go_ret;refine ⟨_,rfl,hown.out.seen.Nd,?_,B⟩;have:=List.length_filter_le (dD a) cs;have:=hN.out;omega
theorem yI (X Y E:Int) (v:Value) (l:List M.Ib) (w:World) (hv:eD w v l) (hl:l.length<=12100) :
  Calls prog 69 #[v,.agg #[X,Y,E]] w fun e w'=>∃ r:Int,e=.returned (.int .i64 r)/\decide (0<=r)=decide ((X,Y,E) ∈ l)/\Below w w w':=by
 obtain ⟨A,cap,rfl,hv⟩:=hv
 obtain ⟨N,hN⟩:∃ N,N=l.length:=⟨_,rfl⟩
 rw [←hN] at hl ⊢;replace hN:=IU hN;replace hv:=IU hv;obtain ⟨wc,hw3,Q,B⟩:=cf w #[X,Y,E] 40;go_enter func69,ntmps69
 go_wp2
 go_loopw [8] (fun vi wq=>∃ i:Nat,i<=N/\vi=.int .i64 i/\Hid (∀ p ∈ l.take i,(X,Y,E)≠p)/\Below w w wq/\aG wq w 40 #[X,Y,E]) (fun vi _=>N - (intOf vi).toNat)
 case atStart=>exact ⟨0,ω,rfl,IU (fun p hp=>by simp at hp),B,Q⟩
 case round=>
 clear B Q;obtain ⟨i,hi,rfl,hno,B,Q⟩:=hrel
 by_cases hlt:i<N
 ·obtain ⟨p,hpi⟩:∃ p,l[i]?=some p:=⟨_,List.getElem?_eq_getElem (by have:=hN.out;omega)⟩
  obtain ⟨g,rfl,hpa⟩:∃ g,A=some ⟨g,0,none⟩/\ew w g l:=by
   rcases hv.out with h | h
   ·rw [h] at hpi;cases hpi
   exact h
  have hmem:=List.mem_of_getElem? hpi;obtain ⟨d0,d1,d2⟩:=hpa.below B i p hpi
  have hie:(i:Int)<(N:Int):=ω
  have ⟨q0,q1,q2⟩:=Q.aM
  have htk:l.take (i+1)=l.take i ++ [p]:=by rw [List.take_add_one,hpi];rfl
  clear hpa hpi
  by_cases he:(X,Y,E)=p
  ·subst he
   clear htk
   dsimp only at d0 d1 d2
   replace hmem:=IU hmem
   go_wp2_with fail
   go_quiet (fail)
   go_wp2;go_ret;exact ⟨_,rfl,by rw [decide_eq_true hmem.out];exact decide_eq_true ω,ez B _⟩
  have hnx:Hid (∀ q ∈ l.take (i+1),(X,Y,E)≠q):=IU (fun q hq=>by
   rw [htk] at hq
   rcases List.mem_append.1 hq with h | h
   ·exact hno.out q h
   rw [List.mem_singleton.1 h];exact he)
  obtain ⟨x,y,z⟩:=p
  dsimp only at d0 d1 d2
  have hcase:¬ (X=x/\Y=y/\E=z):=fun ⟨h1,h2,h3⟩=>he (by rw [h1,h2,h3])
  clear hmem htk he
  by_cases h1:X=x
  ·by_cases h2:Y=y
   ·have h3:¬ E=z:=fun h=>hcase ⟨h1,h2,h⟩
    clear hcase
    go_wp2_with fail
    go_quiet (fail)
    go_wp2
    go_roundw
    case rel=>exact ⟨i+1,ω,ν,hnx,ez B _,Q⟩
    case measure=>simp [intOf];omega
   clear hcase
   go_wp2_with fail
   go_quiet (fail)
   go_wp2
   go_roundw
   case rel=>exact ⟨i+1,ω,ν,hnx,ez B _,Q⟩
   case measure=>simp [intOf];omega
  clear hcase
  go_wp2_with fail
  go_quiet (fail)
  go_wp2
  go_roundw
  case rel=>exact ⟨i+1,ω,ν,hnx,ez B _,Q⟩
  case measure=>simp [intOf];omega
 obtain rfl:i=N:=ω
 have hall:(X,Y,E) ∉ l:=fun h=>hno.out _ (by rw [hN.out,List.take_length];exact h) rfl
 replace hall:=IU hall;go_wp2;go_ret;exact ⟨_,rfl,by rw [decide_eq_false hall.out];decide,B⟩
theorem kF (X Y E:Int) (v:Value) (l:List M.Ib) (w:World) (hv:eD w v l) (hl:l.length<=12100) :
  cB 33 #[v,.agg #[X,Y,E]] w (decide ((X,Y,E) ∈ l)):=by
 have PI:=IU fun W (h:eD W v l)=>yI X Y E v l W h hl
 obtain ⟨wc,hw3,Q,B⟩:=cf w #[X,Y,E] 40;have hv2:=IU (hv.below B);have ⟨q0,q1,q2⟩:=Q.aM;obtain ⟨A,cap,rfl,-⟩:=hv;generalize l.length=n at *;go_enter func33,ntmps33
 go_wp2_with (go_at_call 69;(refine (PI.out _ hv2.out).mono ?_);rintro e w4 ⟨r,rfl,hr,hb4⟩;replace B:=j_ B hb4)
 go_ret;exact ⟨rfl,B⟩
end
section
open Go.RowKit open Gr M Rg Rw Wh
namespace M
theorem td {a b x y:Int} (h1:-10000<=x) (h2:x<=10000) (h:y*y=cv a b x 1):aP a b x y 1=true:=by
 unfold aP;rw [if_neg δ];simp only [Bool.and_eq_true,beq_iff_eq,decide_eq_true_eq];exact ⟨⟨⟨bT.2 ⟨h1,h2⟩,rfl⟩,by unfold M.gcd;simp⟩,h⟩
theorem xO {n:Int} (h:0<=n) (h2:n<=4000000000000000000):0<=root n/\root n<=2000000000/\root n*root n<=n:=by
 obtain ⟨r0,r1,r2⟩:=gv h;refine ⟨r0,?_,r1⟩
 rcases Int.lt_or_le 2000000000 (root n) with q | q
 ·have:=Int.mul_le_mul (show 2000000001<=root n by omega) (show 2000000001<=root n by omega) δ r0
  omega
 exact q
end M
theorem ug (n:Int) (w:World) (h1:0<=n) (h2:n<=4000000000000000000) :
  cP 96 #[n] w (M.root n*M.root n == n):=by
 have PR:=IU fun W=>nt n W h1 h2
 obtain ⟨r0,r1,r2⟩:=xO h1 h2;generalize M.root n=r at *;have hs:=aH (x:=r) (y:=r) (m:=2000000000) (n:=2000000000);generalize hq:r*r=q at *;go_enter func96,ntmps96
 go_wp2_with (go_at_call 97;(refine (PR.out _).mono ?_);rintro e w' ⟨rfl,rfl⟩)
 go_ret;exact ⟨rfl,rfl⟩
def Lp (w:World) (base:Nat) (A:Option Addr) (l:List M.Ib):Prop:=
 ∀ (k:Nat) (p:M.Ib),l[k]?=some p->∃ g,A=some ⟨g,0,none⟩/\base<=g/\w.cell? ⟨g,k*3,none⟩=some (.int .i64 p.1)/\w.cell? ⟨g,k*3+1,none⟩=some (.int .i64 p.2.1)/\w.cell? ⟨g,k*3+2,none⟩=some (.int .i64 p.2.2)
theorem Lp.nil (w:World) (base:Nat):Lp w base none []:=fun k p h=>by simp at h
theorem Lp.below {w w':World} {base:Nat} {A:Option Addr} {l:List M.Ib} (h:Lp w base A l) (hb:Below w w w'):Lp w' base A l:=fun k p hp=>by
 obtain ⟨g,h1,h2,h3,h4,h5⟩:=h k p hp;exact ⟨g,h1,h2,aE hb h3,aE hb h4,aE hb h5⟩
noncomputable def M.Mq (a b e x:Int):List M.Ib:=if fU (M.cv a b x e)=true then (if M.rt (M.cv a b x e)=0 then [(x,0,e)] else [(x,-M.rt (M.cv a b x e),e),(x,M.rt (M.cv a b x e),e)]) else []
theorem Lp.of {W w:World} {base:Nat} {l:List M.Ib} {vs:List Value} (hb:base<=W.heap.size) (hw:w=W.alloc (.cells vs.toArray 40)) (hv:vs=l.flatMap fun p=>[.int .i64 p.1,.int .i64 p.2.1,.int .i64 p.2.2]) (hl:l.length<=2):Lp w base (some ⟨W,0,none⟩) l:=fun k p hp=>by
 subst hw hv;have V:=aG.new W (l.flatMap fun p=>[Value.int .i64 p.1,.int .i64 p.2.1,.int .i64 p.2.2]).toArray 40;refine ⟨_,rfl,hb,?_⟩
 match l,k,hl,hp with
 | p :: l,0,_,hp=>cases hp;exact ⟨V.cell 0,V.cell 1,V.cell 2⟩
 | q :: p :: l,1,_,hp=>cases hp;exact ⟨V.cell 3,V.cell 4,V.cell 5⟩
 | q :: p :: r :: l,k,h,hp=>simp at h
 | [q],k+1,_,hp=>simp at hp
 | [q,p],k+2,_,hp=>simp at hp
theorem ta (a b e x:Int) (w:World) (hg:M.good a b=true) (he1:1<=e) (he2:e<=20) (hx1:-10000<=x) (hx2:x<=10000) :
  Calls prog 54 #[.agg #[a,b],x,e] w fun r w'=>∃ (A:Option Addr) (cp:Nat),r=.returned (.slice A (M.Mq a b e x).length cp)/\Lp w' w A (M.Mq a b e x)/\Below w w w':=by
 obtain ⟨ha1,ha2,hb1,hb2⟩:=aW (aY hg)
 have PV:=fun W=>qD a b x e W ha1 ha2 hb1 hb2 hx1 hx2 ω he2
 obtain ⟨c1,c2⟩:=nX (e:=e) ha1 ha2 hb1 hb2 hx1 hx2 ω he2;unfold M.Mq;generalize M.cv a b x e=c at *;replace PV:=IU PV;clear hg ha1 ha2 hb1 hb2;obtain ⟨wc,hw3,C,B⟩:=cf w #[a,b] 25;have ⟨k0,k1,_,_,_⟩:=C.box
 rcases Int.lt_or_le c 0 with hc | hc
 ·rw [tK hc,if_neg δ]
  go_enter func54,ntmps54
  go_wp2_with (go_at_call 95;with_reducible refine p_ (PV.out _) fun w1 hb1=>?_;replace B:=j_ B hb1)
  go_ret;exact ⟨none,0,rfl,Lp.nil _ _,B⟩
 have PS:=fun W=>ug c W hc ω
 have PR:=fun W=>nt c W hc ω
 obtain ⟨r0,r1,r2⟩:=xO hc ω
 have hn:¬ c<0:=ω
 have hq:fU c=(M.root c*M.root c == c):=by unfold fU;rw [decide_eq_true hc];rfl
 unfold M.rt;rw [hq];generalize M.root c=r at *;replace PR:=IU PR
 by_cases hs:r*r=c
 ·rw [show (r*r == c)=true from beq_iff_eq.2 hs] at PS ⊢
  simp only [if_true];replace PS:=IU PS;clear r2 hq
  have hr0:r=0 ↔ c=0:=⟨fun h=>by rw [←hs,h];rfl,fun h=>by rcases Int.mul_eq_zero.1 (hs.trans h) with h | h <;> exact h⟩
  by_cases h0:c=0
  ·rw [if_pos (hr0.2 h0)]
   subst h0;clear hs r1 r0 PR hr0;go_enter func54,ntmps54
   go_wp2_with (first | (go_at_call 95;with_reducible refine p_ (PV.out _) fun w1 hb1=>?_;replace B:=j_ B hb1) | (go_at_call 96;with_reducible refine Id (PS.out _) ?_))
   go_ret;exact ⟨_,_,rfl,Lp.of B.size rfl rfl σ,B.alloc B.size _⟩
  rw [if_neg (fun h=>h0 (hr0.1 h))];clear hs hr0;go_enter func54,ntmps54
  go_wp2_with (first | (go_at_call 95;with_reducible refine p_ (PV.out _) fun w1 hb1=>?_;replace B:=j_ B hb1) | (go_at_call 96;with_reducible refine Id (PS.out _) ?_) | (go_at_call 97;with_reducible refine Id (PR.out _) ?_))
  go_ret;exact ⟨_,_,rfl,Lp.of B.size rfl rfl σ,B.alloc B.size _⟩
 rw [show (r*r == c)=false from beq_eq_false_iff_ne.2 hs] at PS ⊢;rw [if_neg δ];replace PS:=IU PS;go_enter func54,ntmps54
 go_wp2_with (first | (go_at_call 95;with_reducible refine p_ (PV.out _) fun w1 hb1=>?_;replace B:=j_ B hb1) | (go_at_call 96;with_reducible refine Id (PS.out _) ?_))
 go_ret;exact ⟨none,0,rfl,Lp.nil _ _,B⟩
theorem D8 (a b x:Int) (w:World) (hg:M.good a b=true) (hx1:-200<=x) (hx2:x<=200) :
  Calls prog 54 #[.agg #[a,b],x,(1:Int)] w fun e w'=>∃ (A:Option Addr) (l:List M.Ib) (cp:Nat),e=.returned (.slice A l.length cp)/\l.length<=2/\Lp w' w A l/\(∀ p ∈ l,aP a b p.1 p.2.1 p.2.2=true)/\Below w w w':=by
 refine (ta a b 1 x w hg δ δ ω ω).mono ?_;rintro e w1 ⟨A,cp,rfl,hl,hb⟩
 have HO:=fun y (h:y*y=M.cv a b x 1)=>td (a:=a) (b:=b) (x:=x) (y:=y) ω ω h
 refine ⟨A,_,cp,rfl,?_,hl,?_,hb⟩
 ·unfold M.Mq;split <;> (try split) <;> simp
 unfold M.Mq;intro p hp
 split at hp
 ·rename_i h
  obtain ⟨-,hr⟩:=tv h
  split at hp
  ·rename_i h0
   obtain rfl:=List.mem_singleton.1 hp;exact HO 0 (by rw [←hr,h0])
  simp only [List.mem_cons,List.not_mem_nil,or_false] at hp
  rcases hp with rfl | rfl
  ·exact HO _ (by rw [Int.neg_mul_neg];exact hr)
  exact HO _ hr
 cases hp
theorem aG.bX {W W':World} {g r:Nat} {T:TypeId} {xs:Array Value} (h:aG W g T xs) (hg:W.grownBy W' (some r)) (hn:g≠r):aG W' g T xs:=(hg.block g h.lt (by simpa using hn)).trans h
theorem St.up {w W:World} {g B n K K':Nat} {v:Value} (h:St w W g B v n K) (hK:K<=K'):St w W g B v n K':=⟨h.cur.mono hK,h.gr,h.lt⟩
theorem St.aQ {w W:World} {g B n K c o:Nat} {v:Value} (h:St w W g B v n K) (hc:w.heap.size<=c) (hg:g≠c) (hB:B<=c) (x:Value):St w (W.setCell ⟨c,o,none⟩ x) g B v n K:=
 ⟨h.cur.keepR (Gr.set (dl W (some c)) o x) hg hB,lU h.gr hc _,h.lt⟩
theorem aG.FL {W:World} {g:Nat} {T:TypeId} {u v x:Value} (h:aG W g T #[u,v,x]) (y1 y2 y3:Value):aG (((W.setCell ⟨g,0,none⟩ y1).setCell ⟨g,1,none⟩ y2).setCell ⟨g,2,none⟩ y3) g T #[y1,y2,y3]:=((h.set 0 y1).set 1 y2).set 2 y3
def KW (wr:World) (g B:Nat) (v:Value) (n K:Nat) (W:World):Prop:=dQ W g B v n K/\wr.grownBy W (some g)
theorem KW.keep {wr W W':World} {g B n K:Nat} {v:Value} (h:KW wr g B v n K W) (hb:Below W W W'):KW wr g B v n K W':=⟨h.1.keep hb,dU h.2 (bO hb _)⟩
theorem KW.call {wr W W':World} {g B n K K':Nat} {v:Value} (h:KW wr g B v n K W) (hc:dQ W' g B v n K') (hg:W.grownBy W' (some g)):KW wr g B v n K' W':=⟨hc,dU h.2 hg⟩
theorem KW.put {wr W:World} {g B n K h:Nat} {v:Value} (q:KW wr g B v n K W) (hg:g≠h) (hB:B<=h) (hw:wr.heap.size<=h) (o:Nat) (x:Value):KW wr g B v n K (W.setCell ⟨h,o,none⟩ x):=
 ⟨q.1.keepR (Gr.set (dl W (some h)) o x) hg hB,lU q.2 hw _⟩
theorem KW.start {w wr:World} {g B n K:Nat} {v:Value} (st:St w wr g B v n K):KW wr g B v n K wr.drew:=⟨st.drew.cur,kK (dl wr _) 1⟩
theorem aG.oY {W:World} {k i:Nat} {x:Value} {L:List (Nat × TypeId × Array Value)} (h:∀ y ∈ L,aG W y.1 y.2.1 y.2.2) (hk:∀ y ∈ L,k<y.1):∀ y ∈ L,aG (W.setCell ⟨k,i,none⟩ x) y.1 y.2.1 y.2.2:=fun y hy=>(h y hy).other (by have:=hk y hy;omega) x
structure M2 (w:World) (g B:Nat) (v:Value) (n K r1 r2:Nat) (L:List (Nat × TypeId × Array Value)) (T1 T2:TypeId) (xs ys:Array Value) (W:World):Prop where
 rd:KW w g B v n K W
 hV:∀ x ∈ L,aG W x.1 x.2.1 x.2.2
 R:aG W r1 T1 xs
 Q:aG W r2 T2 ys
 hn:w.heap.size<=r1/\r1<r2/\g≠r1/\g≠r2/\B<=r1
 hL:∀ x ∈ L,r2<x.1
theorem M2.drew {w W:World} {g B n K r1 r2:Nat} {v:Value} {L:List (Nat × TypeId × Array Value)} {T1 T2:TypeId} {xs ys:Array Value} (h:M2 w g B v n K r1 r2 L T1 T2 xs ys W):M2 w g B v n K r1 r2 L T1 T2 xs ys W.drew:=
 ⟨h.rd.keep (IX _ _).drew,h.hV,h.R,h.Q,h.hn,h.hL⟩
theorem M2.Yc {w W:World} {g B n K r1 r2:Nat} {v:Value} {L:List (Nat × TypeId × Array Value)} {T1 T2:TypeId} {u1 u2:Value} {ys:Array Value} (h:M2 w g B v n K r1 r2 L T1 T2 #[u1,u2] ys W) (x y:Value):M2 w g B v n K r1 r2 L T1 T2 #[x,y] ys ((W.setCell ⟨r1,0,none⟩ x).setCell ⟨r1,1,none⟩ y):=by
 have hn:=h.hn
 have hL:∀ y ∈ L,r1<y.1:=fun y hy=>Nat.lt_trans hn.2.1 (h.hL y hy)
 exact ⟨(h.rd.put ω ω ω 0 _).put ω ω ω 1 _,aG.oY (aG.oY h.hV hL) hL,h.R.set2 _ _,(h.Q.other ω _).other ω _,hn,h.hL⟩
theorem M2.H4 {w W:World} {g B n K r1 r2:Nat} {v:Value} {L:List (Nat × TypeId × Array Value)} {T1 T2:TypeId} {u1 u2 u3:Value} {xs:Array Value} (h:M2 w g B v n K r1 r2 L T1 T2 xs #[u1,u2,u3] W) (x y z:Value):M2 w g B v n K r1 r2 L T1 T2 xs #[x,y,z] (((W.setCell ⟨r2,0,none⟩ x).setCell ⟨r2,1,none⟩ y).setCell ⟨r2,2,none⟩ z):=by
 have hn:=h.hn;have hL:=h.hL;exact ⟨((h.rd.put ω ω ω 0 _).put ω ω ω 1 _).put ω ω ω 2 _,aG.oY (aG.oY (aG.oY h.hV hL) hL) hL,((h.R.other ω _).other ω _).other ω _,h.Q.FL _ _ _,hn,hL⟩
def Fc (w:World) (g B:Nat) (v:Value) (n K:Nat) (e:Ending) (w':World):Prop:=
 ∃ a b X Y E:Int,e=.returned (.tuple #[.agg #[a,b],.agg #[X,Y,E]])/\Hid (M.good a b=true/\aP a b X Y E=true)/\dQ w' g B v n K/\w.grownBy w' (some g)
def xh (w:World) (g B:Nat) (v:Value) (n K:Nat) (e:Ending) (w':World):Prop:=
 ∃ X Y E:Int,e=.returned (.agg #[X,Y,E])/\dQ w' g B v n K/\w.grownBy w' (some g)
theorem dO.keepW {w w':World} {B n:Nat} {v:Value} (h:dO w B v n) (hb:Below B w w'):dO w' B v n:=by
 obtain ⟨A,cap,e,hn,hx⟩:=h;refine ⟨A,cap,e,hn,fun j hj=>?_⟩;obtain ⟨gb,ob,b,e,hgb,hc,h1,h2⟩:=hx j hj;exact ⟨gb,ob,b,e,hgb,(hb.cell (p:=⟨gb,ob+j,none⟩) hgb).trans hc,h1,h2⟩
theorem dO.Bb {w:World} {B B' n:Nat} {v:Value} (h:dO w B v n) (hB:B<=B'):dO w B' v n:=by
 obtain ⟨A,cap,e,hn,hx⟩:=h;refine ⟨A,cap,e,hn,fun j hj=>?_⟩;obtain ⟨gb,ob,b,e,hgb,hc,h1,h2⟩:=hx j hj;exact ⟨gb,ob,b,e,ω,hc,h1,h2⟩
theorem St.Dq {w W:World} {v:Value} {n:Nat} (h:dO w w v n) (hb:Below w w W) (T:TypeId) :
  St w (W.alloc (.cells #[v,(0:Int),.int .u64 0] T)) W w v n 0:=by
 have hb2:Below w w (W.alloc (.cells #[v,(0:Int),.int .u64 0] T)):=hb.alloc hb.size _;refine ⟨⟨0,IY _,⟨h.keepW hb2,hb.size,?_,?_,⟨0,?_⟩,by simp [go_sem],by simp [go_sem],by rw [IV];omega⟩⟩,bO hb2 _,hb.size⟩
 all_goals (rw [World.cell?_alloc_at _ _ _ _ rfl];rfl)
theorem St.Fm {w W:World} {g B n K:Nat} {v:Value} (h:St w W g B v n K) (hg:w.heap.size<=g):Below w w W:=bS h.gr (IY _) fun k hk=>by cases hk;exact hg
theorem KW.below {w W:World} {g B n K:Nat} {v:Value} (h:KW w g B v n K W) (hg:w.heap.size<=g):Below w w W:=bS h.2 (IY _) fun k hk=>by cases hk;exact hg
theorem M.Af {x y a b:Int} (h1:-200<=x) (h2:x<=200) (hb:b=y*y - x*x*x - a*x):aP a b x y 1=true:=
 td ω ω (by rw [hb];unfold M.cv;grind)
theorem yc (g B:Nat) (v:Value) (n K:Nat) (w:World) (h:dQ w g B v n K) (hk:K<=700000000) :
  Calls prog 80 #[.pointer (some ⟨g,0,none⟩)] w (Fc w g B v n (K+20)):=by
 have hl:=h.size;obtain ⟨wc,hw3,R,Q,BB⟩:=eC w #[(0:Int),(0:Int)] 25 #[(0:Int),(0:Int),(0:Int)] 40;have st:=(St.start h).keep BB;have hB:=st.lt;have hwc:=BB.size
 have nR:w.heap.size≠g:=ω
 have nQ:w.heap.size+1≠g:=ω
 clear h BB;go_enter func80,ntmps80
 go_wp2_with fail
 refine (gB g B v n _ 6 _ st.cur ω ω ω).mono ?_;rintro e TD ⟨x,rfl,⟨x_lo,x_hi⟩,Iu,Ie⟩;replace st:=st.call Iu Ie;have sz_x:=Ie.size;replace R:=R.bX Ie nR;replace Q:=Q.bX Ie nQ
 by_cases x0:x=0
 ·subst x0
  have L1:=(aG.new TD #[(0:Int),(4:Int),(0:Int),(1:Int),(4:Int),(0:Int),(-1:Int),(0:Int),(-43:Int),(166:Int),(0:Int),(-432:Int)] 25).alloc (.cells #[(0:Int),(2:Int),(1:Int),(2:Int),(3:Int),(1:Int),(2:Int),(4:Int),(1:Int),(1:Int),(0:Int),(1:Int),(3:Int),(8:Int),(1:Int),(12:Int),(36:Int),(1:Int)] 40);have L2:=aG.new (TD.alloc (.cells #[(0:Int),(4:Int),(0:Int),(1:Int),(4:Int),(0:Int),(-1:Int),(0:Int),(-43:Int),(166:Int),(0:Int),(-432:Int)] 25)) #[(0:Int),(2:Int),(1:Int),(2:Int),(3:Int),(1:Int),(2:Int),(4:Int),(1:Int),(1:Int),(0:Int),(1:Int),(3:Int),(8:Int),(1:Int),(12:Int),(36:Int),(1:Int)] 40;rw [IV] at L2;have zx:=st.size;have zy:=st.le;have zq:=Q.lt;replace st:=st.alloc (.cells #[(0:Int),(4:Int),(0:Int),(1:Int),(4:Int),(0:Int),(-1:Int),(0:Int),(-43:Int),(166:Int),(0:Int),(-432:Int)] 25);replace R:=R.alloc (.cells #[(0:Int),(4:Int),(0:Int),(1:Int),(4:Int),(0:Int),(-1:Int),(0:Int),(-43:Int),(166:Int),(0:Int),(-432:Int)] 25);replace Q:=Q.alloc (.cells #[(0:Int),(4:Int),(0:Int),(1:Int),(4:Int),(0:Int),(-1:Int),(0:Int),(-43:Int),(166:Int),(0:Int),(-432:Int)] 25);replace st:=st.alloc (.cells #[(0:Int),(2:Int),(1:Int),(2:Int),(3:Int),(1:Int),(2:Int),(4:Int),(1:Int),(1:Int),(0:Int),(1:Int),(3:Int),(8:Int),(1:Int),(12:Int),(36:Int),(1:Int)] 40);replace R:=R.alloc (.cells #[(0:Int),(2:Int),(1:Int),(2:Int),(3:Int),(1:Int),(2:Int),(4:Int),(1:Int),(1:Int),(0:Int),(1:Int),(3:Int),(8:Int),(1:Int),(12:Int),(36:Int),(1:Int)] 40);replace Q:=Q.alloc (.cells #[(0:Int),(2:Int),(1:Int),(2:Int),(3:Int),(1:Int),(2:Int),(4:Int),(1:Int),(1:Int),(0:Int),(1:Int),(3:Int),(8:Int),(1:Int),(12:Int),(36:Int),(1:Int)] 40)
  have n1:TD.heap.size≠g:=ω
  have n2:TD.heap.size+1≠g:=ω
  go_wp2_with fail
  refine (gB g B v n _ 6 _ st.cur ω ω ω).mono ?_;rintro e w_k ⟨k,rfl,⟨k_lo,k_hi⟩,Iu,Ie⟩;replace st:=st.call Iu Ie;have sz_k:=Ie.size;replace R:=R.bX Ie nR;replace Q:=Q.bX Ie nQ;replace L1:=L1.bX Ie n1;replace L2:=L2.bX Ie n2;generalize TD.heap.size=G at *
  obtain ⟨j,rfl⟩:∃ j:Nat,k=j:=⟨k.toNat,ω⟩
  obtain ⟨a,b,X,Y,q0,q1,q2,q3,q4,hp⟩:∃ a b X Y:Int,(#[(0:Int),(4:Int),(0:Int),(1:Int),(4:Int),(0:Int),(-1:Int),(0:Int),(-43:Int),(166:Int),(0:Int),(-432:Int)]:Array Value)[j*2]?=some (.int .i64 a)/\(#[(0:Int),(4:Int),(0:Int),(1:Int),(4:Int),(0:Int),(-1:Int),(0:Int),(-43:Int),(166:Int),(0:Int),(-432:Int)]:Array Value)[j*2+1]?=some (.int .i64 b)/\(#[(0:Int),(2:Int),(1:Int),(2:Int),(3:Int),(1:Int),(2:Int),(4:Int),(1:Int),(1:Int),(0:Int),(1:Int),(3:Int),(8:Int),(1:Int),(12:Int),(36:Int),(1:Int)]:Array Value)[j*3]?=some (.int .i64 X)/\(#[(0:Int),(2:Int),(1:Int),(2:Int),(3:Int),(1:Int),(2:Int),(4:Int),(1:Int),(1:Int),(0:Int),(1:Int),(3:Int),(8:Int),(1:Int),(12:Int),(36:Int),(1:Int)]:Array Value)[j*3+1]?=some (.int .i64 Y)/\(#[(0:Int),(2:Int),(1:Int),(2:Int),(3:Int),(1:Int),(2:Int),(4:Int),(1:Int),(1:Int),(0:Int),(1:Int),(3:Int),(8:Int),(1:Int),(12:Int),(36:Int),(1:Int)]:Array Value)[j*3+2]?=some (.int .i64 1)/\Hid (M.good a b=true/\aP a b X Y 1=true):=by
   have hj:j<6:=ω
   match j,hj with
   | 0,_=>exact ⟨0,4,0,2,rfl,rfl,rfl,rfl,rfl,IU δ⟩
   | 1,_=>exact ⟨0,1,2,3,rfl,rfl,rfl,rfl,rfl,IU δ⟩
   | 2,_=>exact ⟨4,0,2,4,rfl,rfl,rfl,rfl,rfl,IU δ⟩
   | 3,_=>exact ⟨(-1),0,1,0,rfl,rfl,rfl,rfl,rfl,IU δ⟩
   | 4,_=>exact ⟨(-43),166,3,8,rfl,rfl,rfl,rfl,rfl,IU δ⟩
   | 5,_=>exact ⟨0,(-432),12,36,rfl,rfl,rfl,rfl,rfl,IU δ⟩
  generalize (#[(0:Int),(4:Int),(0:Int),(1:Int),(4:Int),(0:Int),(-1:Int),(0:Int),(-43:Int),(166:Int),(0:Int),(-432:Int)]:Array Value)=xs1 at *;generalize (#[(0:Int),(2:Int),(1:Int),(2:Int),(3:Int),(1:Int),(2:Int),(4:Int),(1:Int),(1:Int),(0:Int),(1:Int),(3:Int),(8:Int),(1:Int),(12:Int),(36:Int),(1:Int)]:Array Value)=xs2 at *
  go_upto_region 6 with fail
  have TW:M2 w g B v n _ w (w.heap.size+1) [(G,25,xs1),(G+1,40,xs2)] 25 40 _ _ _:=⟨⟨st.cur,st.gr⟩,fun x hx=>(by rcases List.mem_cons.1 hx with rfl | hx;exact L1;rcases List.mem_cons.1 hx with rfl | hx;exact L2;cases hx),R,Q,⟨IY _,ω,ω,ω,ω⟩,fun x hx=>(by rcases List.mem_cons.1 hx with rfl | hx;(show w.heap.size+1<G;omega);rcases List.mem_cons.1 hx with rfl | hx;(show w.heap.size+1<G+1;omega);cases hx)⟩
  clear st R Q L1 L2;refine Cq (fun l W=>M2 w g B v n (K+2+2) w (w.heap.size+1) [(G,25,xs1),(G+1,40,xs2)] 25 40 (bif l 8 then #[a,b] else #[(0:Int),(0:Int)]) (bif l 9 then #[X,Y,(1:Int)] else #[(0:Int),(0:Int),(0:Int)]) W) (fun _ _ _=>True) (fun _ _=>True) [8,9] [.slice (some ⟨G,0,none⟩) 6 6,.int .i64 (j:Int),.pointer (some ⟨G,j*2,none⟩),.agg #[a,b],.slice (some ⟨G+1,0,none⟩) 6 6,.int .i64 (j:Int),.pointer (some ⟨G+1,j*3,none⟩),.agg #[X,Y,(1:Int)],undef,undef] κ κ δ (fun l l2 W h q=>by rw [←h 8 δ,←h 9 δ];exact q) (fun _ _ _ _ _ _=>trivial) TW.drew ⟨?_,?_,?_,?_,?_,?_,?_,?_,?_,?_,trivial⟩ ?_
  ·unfold bG
   intro zZ w_ l_ d_ Ik JM JL JV I5 Iu hr;refine ⟨rfl,?_⟩;rw [if_neg δ];have e4:zZ.tmps[4]?=some (.slice (some ⟨G,0,none⟩) 6 6):=hr 4 δ;go_simp
  ·unfold bG
   intro zZ w_ l_ d_ Ik JM JL JV I5 Iu hr;refine ⟨rfl,?_⟩;rw [if_neg δ];have e6:zZ.tmps[6]?=some (.int .i64 (j:Int)):=hr 6 δ;go_simp
  ·unfold bG
   intro zZ w_ l_ d_ Ik JM JL JV I5 Iu hr;refine ⟨rfl,?_⟩;rw [if_neg δ];have e33:zZ.tmps[33]?=some (.slice (some ⟨G,0,none⟩) 6 6):=hr 33 δ;have e34:zZ.tmps[34]?=some (.int .i64 (j:Int)):=hr 34 δ
   have Nx:(j:Int)<6:=ω
   have Pq:j<6:=ω
   (first | (go_simp;done) | (go_simp;exact Rg.wr ω ω) | (go_simp;omega) | (go_simp;rfl) | (go_simp;exact ⟨rfl,rfl⟩))
  ·unfold bG
   intro zZ w_ l_ d_ Ik JM JL JV I5 Iu hr;refine ⟨rfl,?_⟩;rw [if_neg δ];have e35:zZ.tmps[35]?=some (.pointer (some ⟨G,j*2,none⟩)):=hr 35 δ;have Ii:aG w_ G 25 xs1:=Ik.hV (G,25,xs1) σ;have k0:=(Ii.cell (j*2)).trans q0;have k1:=(Ii.cell (j*2+1)).trans q1
   (first | (go_simp;done) | (go_simp;exact Rg.wr ω ω) | (go_simp;omega) | (go_simp;rfl) | (go_simp;exact ⟨rfl,rfl⟩))
  ·unfold bG
   intro zZ w_ l_ d_ Ik JM JL JV I5 Iu hr;refine ⟨rfl,?_⟩;rw [if_neg δ];have e5:zZ.tmps[5]?=some (.slice (some ⟨G+1,0,none⟩) 6 6):=hr 5 δ;go_simp
  ·unfold bG
   intro zZ w_ l_ d_ Ik JM JL JV I5 Iu hr;refine ⟨rfl,?_⟩;rw [if_neg δ];have e6:zZ.tmps[6]?=some (.int .i64 (j:Int)):=hr 6 δ;go_simp
  ·unfold bG
   intro zZ w_ l_ d_ Ik JM JL JV I5 Iu hr;refine ⟨rfl,?_⟩;rw [if_neg δ];have e37:zZ.tmps[37]?=some (.slice (some ⟨G+1,0,none⟩) 6 6):=hr 37 δ;have e38:zZ.tmps[38]?=some (.int .i64 (j:Int)):=hr 38 δ
   have Nx:(j:Int)<6:=ω
   have Pq:j<6:=ω
   (first | (go_simp;done) | (go_simp;exact Rg.wr ω ω) | (go_simp;omega) | (go_simp;rfl) | (go_simp;exact ⟨rfl,rfl⟩))
  ·unfold bG
   intro zZ w_ l_ d_ Ik JM JL JV I5 Iu hr;refine ⟨rfl,?_⟩;rw [if_neg δ];have e39:zZ.tmps[39]?=some (.pointer (some ⟨G+1,j*3,none⟩)):=hr 39 δ;have Ii:aG w_ (G+1) 40 xs2:=Ik.hV (G+1,40,xs2) σ;have k0:=(Ii.cell (j*3)).trans q2;have k1:=(Ii.cell (j*3+1)).trans q3;have k2:=(Ii.cell (j*3+2)).trans q4
   (first | (go_simp;done) | (go_simp;exact Rg.wr ω ω) | (go_simp;omega) | (go_simp;rfl) | (go_simp;exact ⟨rfl,rfl⟩))
  ·unfold bG
   intro zZ w_ l_ d_ Ik JM JL JV I5 Iu hr;have e2:zZ.tmps[2]?=some (.pointer (some ⟨w,0,none⟩)):=hr 2 δ;have e36:zZ.tmps[36]?=some (.agg #[a,b]):=hr 36 δ;refine ⟨rfl,?_⟩;rw [if_pos δ];have q_:=Ik;simp only [JL,cond_false] at q_;have JZ:=And.intro (q_.Yc (.int .i64 a) (.int .i64 b)) (And.intro True.intro True.intro)
   skip
   have ⟨Wg,Wi,Wr,Ws,_⟩:=q_.R.box;unfold Oper.wp;go_simp
   all_goals first | exact JZ | exact JZ.1 | exact ⟨undef,JZ⟩ | exact ⟨_,rfl,JZ⟩
  ·unfold bG
   intro zZ w_ l_ d_ Ik JM JL JV I5 Iu hr;have e3:zZ.tmps[3]?=some (.pointer (some ⟨w.heap.size+1,0,none⟩)):=hr 3 δ;have e40:zZ.tmps[40]?=some (.agg #[X,Y,(1:Int)]):=hr 40 δ;refine ⟨rfl,?_⟩;rw [if_pos δ];have q_:=Ik;simp only [JL,cond_false] at q_;have JZ:=And.intro (q_.H4 (.int .i64 X) (.int .i64 Y) (.int .i64 1)) (And.intro True.intro True.intro);have ⟨Wg,Wi,c2_,Wr,Ws,TZ⟩:=q_.Q.bJ;unfold Oper.wp;go_simp
   all_goals first | exact JZ | exact JZ.1 | exact ⟨undef,JZ⟩ | exact ⟨_,rfl,JZ⟩
  intro vals wz Ik hF hv;simp only [bD,Rg.fill,Act.put,Nat.reduceAdd];simp only [cond_true] at Ik;obtain ⟨⟨Iu,Ie⟩,-,R,Q,-,-⟩:=Ik;have ⟨O0,O1,y_,A_,O2⟩:=R.box;have ⟨TQ,TR,TS,Ng,Nh,Ni⟩:=Q.bJ;have TT:=Q.lt;go_wp2;exact D_ results80 ⟨a,b,X,Y,1,rfl,hp,Iu.mono ω,Ie⟩
 by_cases x1:x=1
 ·subst x1
  have ⟨O0,O1,y_,A_,O2⟩:=R.box;have ⟨TQ,TR,TS,Ng,Nh,Ni⟩:=Q.bJ;have TT:=Q.lt;go_wp2;exact D_ (v:=.tuple #[.agg #[(-16:Int),(16:Int)],.agg #[(0:Int),(4:Int),(1:Int)]]) results80 ⟨(-16),16,0,4,1,rfl,IU δ,(((((st.aQ (c:=w.heap.size) (o:=0) ω ω ω (.int .i64 (-16))).aQ (c:=w.heap.size) (o:=1) ω ω ω (.int .i64 16)).aQ (c:=w.heap.size+1) (o:=0) ω ω ω (.int .i64 0)).aQ (c:=w.heap.size+1) (o:=1) ω ω ω (.int .i64 4)).aQ (c:=w.heap.size+1) (o:=2) ω ω ω (.int .i64 1)).cur.mono ω,(((((st.aQ (c:=w.heap.size) (o:=0) ω ω ω (.int .i64 (-16))).aQ (c:=w.heap.size) (o:=1) ω ω ω (.int .i64 16)).aQ (c:=w.heap.size+1) (o:=0) ω ω ω (.int .i64 0)).aQ (c:=w.heap.size+1) (o:=1) ω ω ω (.int .i64 4)).aQ (c:=w.heap.size+1) (o:=2) ω ω ω (.int .i64 1)).gr⟩
 by_cases x2:x=2
 ·subst x2
  have ⟨O0,O1,y_,A_,O2⟩:=R.box;have ⟨TQ,TR,TS,Ng,Nh,Ni⟩:=Q.bJ;have TT:=Q.lt;go_wp2;exact D_ (v:=.tuple #[.agg #[(-25:Int),(0:Int)],.agg #[(-4:Int),(6:Int),(1:Int)]]) results80 ⟨(-25),0,(-4),6,1,rfl,IU δ,(((((st.aQ (c:=w.heap.size) (o:=0) ω ω ω (.int .i64 (-25))).aQ (c:=w.heap.size) (o:=1) ω ω ω (.int .i64 0)).aQ (c:=w.heap.size+1) (o:=0) ω ω ω (.int .i64 (-4))).aQ (c:=w.heap.size+1) (o:=1) ω ω ω (.int .i64 6)).aQ (c:=w.heap.size+1) (o:=2) ω ω ω (.int .i64 1)).cur.mono ω,(((((st.aQ (c:=w.heap.size) (o:=0) ω ω ω (.int .i64 (-25))).aQ (c:=w.heap.size) (o:=1) ω ω ω (.int .i64 0)).aQ (c:=w.heap.size+1) (o:=0) ω ω ω (.int .i64 (-4))).aQ (c:=w.heap.size+1) (o:=1) ω ω ω (.int .i64 6)).aQ (c:=w.heap.size+1) (o:=2) ω ω ω (.int .i64 1)).gr⟩
 have b0:(x == 0)=false:=by simpa using x0
 have b1:(x == 1)=false:=by simpa using x1
 have b2:(x == 2)=false:=by simpa using x2
 go_wp2_with fail
 refine (gB g B v n _ 21 _ st.cur ω ω ω).mono ?_;rintro e w_x3 ⟨x3,rfl,⟨x3_lo,x3_hi⟩,Iu,Ie⟩;replace st:=st.call Iu Ie;have sz_x3:=Ie.size;replace R:=R.bX Ie nR;replace Q:=Q.bX Ie nQ
 go_wp2_with fail
 refine (gB g B v n _ 31 _ st.cur ω ω ω).mono ?_;rintro e w_y3 ⟨y3,rfl,⟨y3_lo,y3_hi⟩,Iu,Ie⟩;replace st:=st.call Iu Ie;have sz_y3:=Ie.size;replace R:=R.bX Ie nR;replace Q:=Q.bX Ie nQ
 go_wp2_with fail
 refine (gB g B v n _ 31 _ st.cur ω ω ω).mono ?_;rintro e Q3 ⟨a3,rfl,⟨a3_lo,a3_hi⟩,Iu,Ie⟩;replace st:=st.call Iu Ie;have sz_a3:=Ie.size;replace R:=R.bX Ie nR;replace Q:=Q.bX Ie nQ
 go_upto_region 13 with fail
 have hx1:-10<=x3 - 10:=ω
 have hx2:x3 - 10<=10:=ω
 have hy1:-15<=y3 - 15:=ω
 have hy2:y3 - 15<=15:=ω
 have ha1:-15<=a3 - 15:=ω
 have ha2:a3 - 15<=15:=ω
 clear x0 x1 x2 b0 b1 b2;generalize a3 - 15=a,y3 - 15=Y,x3 - 10=X at *;have m1:=aH (x:=Y) (y:=Y) (m:=15) (n:=15);have m2:=aH (x:=X) (y:=X) (m:=10) (n:=10);have m3:=aH (x:=X*X) (y:=X) (m:=100) (n:=10);have m4:=aH (x:=a) (y:=X) (m:=15) (n:=10)
 have hpt:∀ b,b=Y*Y - X*X*X - a*X->aP a b X Y 1=true:=fun b hb=>Af ω ω hb
 replace hpt:=IU hpt;have E:=aG.new Q3 #[a,(Y*Y - X*X*X - a*X:Int)] 25;have zx:=st.size;have zy:=st.le;have zq:=Q.lt;replace st:=st.alloc (.cells #[a,(Y*Y - X*X*X - a*X:Int)] 25);replace R:=R.alloc (.cells #[a,(Y*Y - X*X*X - a*X:Int)] 25);replace Q:=Q.alloc (.cells #[a,(Y*Y - X*X*X - a*X:Int)] 25)
 have nE:Q3.heap.size≠g:=ω
 have HG:=fun w=>io a (Y*Y - X*X*X - a*X) w
 replace hpt:=IU (hpt.out _ rfl);have ⟨E_0,E_1,UG,UH,E_l⟩:=E.box
 go_wp2_with fail
 generalize Y*Y - X*X*X - a*X=b,Q3.heap.size=G at *
 cases hg:M.good a b <;> rw [hg] at HG <;> replace HG:=IU HG <;> replace hg:=IU hg
 all_goals
  refine (HG.out _).mono ?_;rintro e w9 ⟨rfl,I2⟩;replace ⟨st,R,Q,E⟩:=Ip I2 st R Q E;have ⟨O0,O1,y_,A_,O2⟩:=R.box;have ⟨TQ,TR,TS,Ng,Nh,Ni⟩:=Q.bJ;have TT:=Q.lt;have ⟨E_0,E_1,UG,UH,E_l⟩:=E.box;go_wp2
 ·skip
  exact D_ (v:=.tuple #[.agg #[(-2:Int),(1:Int)],.agg #[(0:Int),(1:Int),(1:Int)]]) results80 ⟨(-2),1,0,1,1,rfl,IU δ,(((((st.aQ (c:=w.heap.size) (o:=0) ω ω ω (.int .i64 (-2))).aQ (c:=w.heap.size) (o:=1) ω ω ω (.int .i64 1)).aQ (c:=w.heap.size+1) (o:=0) ω ω ω (.int .i64 0)).aQ (c:=w.heap.size+1) (o:=1) ω ω ω (.int .i64 1)).aQ (c:=w.heap.size+1) (o:=2) ω ω ω (.int .i64 1)).cur.mono ω,(((((st.aQ (c:=w.heap.size) (o:=0) ω ω ω (.int .i64 (-2))).aQ (c:=w.heap.size) (o:=1) ω ω ω (.int .i64 1)).aQ (c:=w.heap.size+1) (o:=0) ω ω ω (.int .i64 0)).aQ (c:=w.heap.size+1) (o:=1) ω ω ω (.int .i64 1)).aQ (c:=w.heap.size+1) (o:=2) ω ω ω (.int .i64 1)).gr⟩
 skip
 exact D_ results80 ⟨a,b,X,Y,1,rfl,IU ⟨hg.out,hpt.out⟩,(((((st.aQ (c:=w.heap.size) (o:=0) ω ω ω (.int .i64 a)).aQ (c:=w.heap.size) (o:=1) ω ω ω (.int .i64 b)).aQ (c:=w.heap.size+1) (o:=0) ω ω ω (.int .i64 X)).aQ (c:=w.heap.size+1) (o:=1) ω ω ω (.int .i64 Y)).aQ (c:=w.heap.size+1) (o:=2) ω ω ω (.int .i64 1)).cur.mono ω,(((((st.aQ (c:=w.heap.size) (o:=0) ω ω ω (.int .i64 a)).aQ (c:=w.heap.size) (o:=1) ω ω ω (.int .i64 b)).aQ (c:=w.heap.size+1) (o:=0) ω ω ω (.int .i64 X)).aQ (c:=w.heap.size+1) (o:=1) ω ω ω (.int .i64 Y)).aQ (c:=w.heap.size+1) (o:=2) ω ω ω (.int .i64 1)).gr⟩
end
section
open Gr M Rg Rw Wh
namespace M
theorem mf {a b X Y E:Int} (hg:good a b=true) (hp:aP a b X Y E=true):∀ n p,JT a X Y E n=some p->cg p.1 p.2.1 p.2.2=r_.mul a n (cg X Y E)
 | 0,p,h=>by
  cases h
  exact rO 0 0
 | n+1,p,h=>by
  cases hq:JT a X Y E n with
  | none=>
   have:=gE hq (n+1) ω;rw [this] at h;cases h
  | some q=>
  rw [fI hq] at h
  split at h
  ·rename_i hk
   cases h
   have ih:=mf hg hp n q hq;have:=jJ hg (gS hg hp n q hq) hp hk;rw [ih] at this;exact this
  cases h
theorem xB {a X Y E:Int}:∀ (f n k:Nat),kT a X Y E f n=some k->n<=k/\k<n+f/\∃ p,JT a X Y E k=some p/\p.2.2=0
 | 0,n,k,h=>by cases h
 | f+1,n,k,h=>by
  cases ht:JT a X Y E n with
  | none=>rw [gl ht] at h;cases h
  | some p=>
  rw [fX ht] at h
  split at h
  ·rename_i he
   cases h
   exact ⟨IY _,ω,p,ht,he⟩
  obtain ⟨h1,h2,h3⟩:=xB f (n+1) k h;exact ⟨ω,ω,h3⟩
theorem xD {a b X Y E:Int} (hg:good a b=true) (hp:aP a b X Y E=true) (h:(gG a X Y E).isSome=true):∃ n:Nat,1<=n/\n<=12/\r_.mul a n (cg X Y E)=.O:=by
 obtain ⟨n,hn⟩:=Option.isSome_iff_exists.1 h;obtain ⟨h1,h2,p,h3,h4⟩:=xB 12 1 n hn;refine ⟨n,h1,ω,?_⟩;rw [←mf hg hp n p h3,h4];exact rO _ _
theorem sV {a b:Int} {p:Ib}:∀ (m j:Nat),j<m->p ∈ ft a b ((j:Int) - 3000)->p ∈ dS a b m
 | 0,j,h,_=>ω
 | m+1,j,h,hp=>by
  refine List.mem_append.2 ?_
  by_cases e:j=m
  ·subst e;exact Or.inr hp
  exact Or.inl (sV m j ω hp)
theorem AK {a b X Y:Int} (ha1:-1000<=a) (ha2:a<=1000) (hb1:-10000<=b) (hb2:b<=10000) (h:Y*Y=X*X*X+a*X+b) (hd:Y*Y<=10000000000):-3000<=X/\X<=3000:=by
 have LQ:0<=Y*Y:=by rcases Int.le_total 0 Y with q | q;exact Int.mul_nonneg q q;exact Int.mul_nonneg_of_nonpos_of_nonpos q q
 have key:∀ t:Int,3001<=t->27000000000<=t*t*t - 1000*t - 10000:=fun t ht=>by
  have h1:9000000<=t*t:=Int.le_trans δ (Int.mul_le_mul (show 3000<=t by omega) (show 3000<=t by omega) δ ω);have h2:=Int.mul_le_mul (show 8999000<=t*t - 1000 by omega) ht δ ω
  have e:t*t*t - 1000*t=(t*t - 1000)*t:=φ
  omega
 constructor
 ·rcases Int.lt_or_le X (-3000) with q | q
  ·have h1:=key (-X) ω
   have e:-X*-X*-X=-(X*X*X):=φ
   have h2:a*X<=1000*-X:=by
    have h5:a*X=(-a)*(-X):=by rw [Int.neg_mul_neg]
    rw [h5];exact Int.mul_le_mul_of_nonneg_right ω ω
   omega
  exact q
 rcases Int.lt_or_le 3000 X with q | q
 ·have h1:=key X ω
  have h2:-(1000*X)<=a*X:=by
   have h6:=Int.mul_le_mul_of_nonneg_right (show -1000<=a by omega) (show 0<=X by omega);omega
  omega
 exact q
theorem Co {a b X Y E:Int} (hg:good a b=true) (hp:aP a b X Y E=true) (hE:E≠0) (h:(gG a X Y E).isSome=true):(X,Y,E) ∈ dS a b 6001:=by
 obtain ⟨n,hn1,hn2,hm⟩:=xD hg hp h;have hd:=yG hg;have hon:=dt hp;obtain ⟨hx,hz⟩:=rP hp hE;obtain ⟨hX,hE1,hc,hY⟩:=dn hp hE;obtain ⟨ha1,ha2,hb1,hb2⟩:=aW (aY hg)
 have hO:cg X Y E≠.O:=fun e=>by rw [e] at hz;have:E*E≠0:=Int.mul_ne_zero hE hE;exact this hz.symm
 have h1:r_.pz (cg X Y E)=1:=(r_.xd hd n hn1 hn2 _ hon hm).resolve_left hO
 have hE2:E=1:=by
  rw [hz] at h1
  rcases Int.lt_or_le 1 E with q | q
  ·have:=Int.mul_le_mul (show 2<=E by omega) (show 2<=E by omega) δ ω
   omega
  omega
 subst hE2
 have hcv:Y*Y=X*X*X+a*X+b:=by rw [hY];unfold cv;grind
 have hdv:Y=0∨Y*Y ∣ aO a b:=by
  obtain ⟨d,hd0,-,e1,e2⟩:=r_.sd hd hon;rw [hx,h1] at e1 e2
  have hm2:r_.mul a n (r_.add a (cg X Y 1) (cg X Y 1))=.O:=by
   rw [r_.rC (r_.dA hd) hon,r_.f9 (r_.dA hd) hon,hm];rfl
  rcases r_.xd hd n hn1 hn2 _ (r_.dM (r_.dA hd) hon hon) hm2 with q | q
  ·rw [q] at e2
   have e3:ae a b X 1=0:=by rw [e2];show d*0=0;omega
   left
   have e4:ae a b X 1=4*(Y*Y):=by unfold ae;rw [hcv];grind
   have e5:Y*Y=0:=ω
   rcases Int.mul_eq_zero.1 e5 with q | q <;> exact q
  rw [q,Int.mul_one] at e2;exact Or.inr (r_.IR hcv e1 e2)
 have hbd:=wG (aY hg)
 have hyb:Y*Y<=10000000000:=by
  rcases hdv with q | q
  ·rw [q];decide
  have h2:=Int.natAbs_dvd_natAbs.2 q;have h3:=Nat.le_of_dvd ω h2
  have LQ:0<=Y*Y:=by rcases Int.le_total 0 Y with q | q;exact Int.mul_nonneg q q;exact Int.mul_nonneg_of_nonpos_of_nonpos q q
  omega
 obtain ⟨x1,x2⟩:=AK ha1 ha2 hb1 hb2 hcv hyb;refine sV 6001 (X+3000).toNat ω ?_
 have hxe:((X+3000).toNat:Int) - 3000=X:=ω
 rw [hxe];unfold ft;have Je:fU (cv a b X 1)=true:=kP hY;rw [if_pos Je]
 have hrt:rt (cv a b X 1)=Y∨rt (cv a b X 1)=-Y:=by
  rcases Int.le_total 0 Y with q | q
  ·exact Or.inl (rW q hY)
  exact Or.inr (rW ω (by rw [Int.neg_mul_neg];exact hY))
 by_cases h0:Y=0
 ·have:rt (cv a b X 1)=0:=by rcases hrt with q | q <;> omega
  rw [if_pos this,h0];exact List.mem_singleton.2 rfl
 have hne:rt (cv a b X 1)≠0:=by rcases hrt with q | q <;> omega
 have hrr:rt (cv a b X 1)*rt (cv a b X 1)=Y*Y:=by
  rcases hrt with q | q <;> rw [q]
  exact Int.neg_mul_neg _ _
 rw [if_neg hne,if_pos (by rw [hrr];exact Int.tmod_eq_zero_of_dvd (hdv.resolve_left h0))];simp only [List.mem_cons,Prod.mk.injEq,true_and,and_true,List.not_mem_nil,or_false]
 rcases hrt with q | q <;> omega
theorem Hx (a:Int):(gG a 0 0 0).isSome=true:=by
 have h0:JT a 0 0 0 0=some (0,0,0):=rfl
 have h1:JT a 0 0 0 1=some (0,0,0):=by
  rw [fI h0];rfl
 unfold gG;rw [fX h1];rfl
theorem uH {a b X Y E:Int} (hg:good a b=true) (hp:aP a b X Y E=true):decide ((X,Y,E) ∈ lc a b)=(gG a X Y E).isSome:=by
 unfold lc
 cases h:(gG a X Y E).isSome with
 | true=>
  refine decide_eq_true ?_
  by_cases hE:E=0
  ·obtain ⟨rfl,rfl⟩:=rQ hp hE
   subst hE;exact List.mem_cons_self
  exact List.mem_cons_of_mem _ (List.mem_filter.2 ⟨Co hg hp hE h,h⟩)
 | false=>
 refine decide_eq_false fun hm=>?_
 rcases List.mem_cons.1 hm with q | q
 ·cases q
  rw [Hx] at h;cases h
 have:=(List.mem_filter.1 q).2;unfold dD at this;rw [h] at this;cases this
end M
end
section
open Go.RowKit open Gr M Rg Rw Wh
namespace M
theorem Bp {n:Int} (h1:-144<=n) (h2:n<=144):pn (n*4096)=n/\pd (n*4096)=1:=by
 have hg:M.gcd (n*4096) 4096=4096:=by
  unfold M.gcd Int.gcd;rw [Int.natAbs_mul]
  show ((Nat.gcd (n.natAbs*4096) 4096:Nat):Int)=4096
  rw [Nat.gcd_mul_left_left];rfl
 have hf:=qp (a:=n*4096) (g:=4096) (q:=1) (n:=n) hg δ δ rfl
 have ho:kJ n 1=true:=by
  unfold kJ;simp [M.ins,M.gcd]
  omega
 rw [ho,if_pos rfl] at hf;unfold pn pd;rw [hf];exact ⟨rfl,rfl⟩
end M
def fQ (w:World) (base:Nat) (v:Value) (rows:M.JE):Prop:=∃ vs,bg w base v vs rows
theorem fQ.below {w w':World} {base:Nat} {v:Value} {rows:M.JE} (h:fQ w base v rows) (hb:Below w w w'):fQ w' base v rows:=h.elim fun vs k=>⟨vs,k.below hb⟩
theorem fQ.base {w:World} {base base':Nat} {v:Value} {rows:M.JE} (h:fQ w base v rows) (hb:base'<=base):fQ w base' v rows:=h.elim fun vs k=>⟨vs,k.base hb⟩
theorem fQ.nil (w:World) (base:Nat):fQ w base (.slice none 0 0) []:=⟨[],bg.nil w base⟩
theorem fQ.at {w:World} {base:Nat} {v:Value} {rows:M.JE} (h:fQ w base v rows) {i j:Nat} {r:List (Int × Int)} {q:Int × Int} (hr:rows[i]?=some r) (hq:r[j]?=some q) :
  ∃ (g cap g2 cap2:Nat),v=.slice (some ⟨g,0,none⟩) rows.length cap/\w.cell? ⟨g,i,none⟩=some (.slice (some ⟨g2,0,none⟩) r.length cap2)/\w.cell? ⟨g2,j*2,none⟩=some (.int .i64 q.1)/\w.cell? ⟨g2,j*2+1,none⟩=some (.int .i64 q.2):=by
 obtain ⟨vs,h⟩:=h;obtain ⟨a,cap,rfl,-,hv⟩:=h.view;obtain ⟨g,u,r',rfl,-,h1,-,h2,h3⟩:=hv i (List.getElem?_eq_some_iff.1 hr).1
 have e:r'=r:=by
  have:=h1.out;rw [hr] at this;exact (Option.some.inj this).symm
 subst e
 rcases h3.forms with ⟨-,h4⟩ | ⟨g2,cap2,rfl,-,-,-,-⟩
 ·rw [h4] at hq;cases hq
 have hc:=fun t (ht:t<2)=>(h3.cellAt rfl (j*2+t) _ ((Rw.flat_get EP r' j t q hq ht).trans (List.getElem?_eq_getElem (by rw [EP.len];exact ht)))).1
 exact ⟨g,cap,g2,cap2,rfl,h2,hc 0 δ,hc 1 δ⟩
def b7 (xs:List (Int × Int)):Array Value:=(xs.flatMap EP.cells).toArray
def fb (W:World) (gm n:Nat) (rows:M.JE):Prop:=
 rows.length=n/\aG W gm 130 ((List.range n).map fun i=>Value.slice (some ⟨gm+1+i,0,none⟩) n n).toArray/\∀ (i:Nat) (r:List (Int × Int)),rows[i]?=some r->r.length=n/\aG W (gm+1+i) 74 (b7 r)
theorem fb.below {W W':World} {gm n:Nat} {rows:M.JE} (h:fb W gm n rows) (hb:Below W W W'):fb W' gm n rows:=
 ⟨h.1,h.2.1.keep hb,fun i r hr=>⟨(h.2.2 i r hr).1,(h.2.2 i r hr).2.keep hb⟩⟩
theorem fb.row {W:World} {gm n:Nat} {rows:M.JE} (h:fb W gm n rows) {i:Nat} (hi:i<n):W.cell? ⟨gm,i,none⟩=some (.slice (some ⟨gm+1+i,0,none⟩) n n):=by
 refine (h.2.1.cell i).trans ?_;rw [List.getElem?_toArray,List.getElem?_map,List.getElem?_range hi];rfl
theorem fb.mat {W:World} {gm n base:Nat} {rows:M.JE} (h:fb W gm n rows) (hb:base<=gm) (hn:n<=1000000):fQ W base (.slice (some ⟨gm,0,none⟩) n n) rows:=by
 obtain ⟨h1,h2,h3⟩:=h;refine ⟨(List.range n).map fun i=>Value.slice (some ⟨gm+1+i,0,none⟩) n n,?_,?_,?_,?_⟩
 ·rw [h1]
  refine ⟨σ,Or.inr ⟨gm,n,_,rfl,hb,h2,IY _,by unfold maxLen;omega,σ,List.take_of_length_le σ⟩⟩
 ·simp [h1]
 ·intro i u r hu hr
  have hi:i<n:=by rw [←h1];exact (List.getElem?_eq_some_iff.1 hr).1
  rw [List.getElem?_map,List.getElem?_range hi] at hu;have hu:Value.slice (some ⟨gm+1+i,0,none⟩) n n=u:=Option.some.inj hu;subst hu;obtain ⟨k1,k2⟩:=h3 i r hr;refine ⟨Rw.cX EP r,Or.inr ⟨gm+1+i,n,_,by rw [k1],ω,k2,ω,by unfold maxLen;omega,?_,?_⟩⟩
  ·unfold b7;rw [List.size_toArray,Rw.cX,k1]
  exact List.take_of_length_le (Nat.le_of_eq (Rw.cX EP r))
 rw [List.pairwise_map];refine List.Pairwise.imp ?_ (List.nodup_range (n:=n));intro a b hab g hg hg';simp only [Value.ownBlock,Option.some.injEq] at hg hg';exact hab ω
theorem rV {r:List (Int × Int)} {j:Nat} (q:Int × Int) (hj:j<r.length):((b7 r).setIfInBounds (j*2) (.int .i64 q.1)).setIfInBounds (j*2+1) (.int .i64 q.2)=b7 (r.set j q):=by
 have hl:(r.flatMap EP.cells).length=r.length*2:=Rw.cX EP r;have hz:(b7 r).size=r.length*2:=hl
 apply Array.ext_getElem?
 intro t;have hs:=sr EP r j q hj t;have hk:EP.k=2:=rfl;rw [hk] at hs
 show _=(b7 (r.set j q))[t]?
 have e1:(b7 (r.set j q))[t]?=((r.set j q).flatMap EP.cells)[t]?:=List.getElem?_toArray;have e2:(b7 r)[t]?=(r.flatMap EP.cells)[t]?:=List.getElem?_toArray;rw [e1,hs,Array.getElem?_setIfInBounds,Array.getElem?_setIfInBounds,Array.size_setIfInBounds,hz,e2]
 by_cases h1:j*2+1=t
 ·subst h1
  rw [if_pos rfl,if_pos ω,if_pos ω]
  have:j*2+1 - j*2=1:=ω
  rw [this];rfl
 rw [if_neg h1]
 by_cases h2:j*2=t
 ·subst h2
  rw [if_pos rfl,if_pos ω,if_pos ω]
  have:j*2 - j*2=0:=ω
  rw [this];rfl
 rw [if_neg h2,if_neg ω]
theorem fb.put {W:World} {gm n:Nat} {rows:M.JE} (h:fb W gm n rows) {i j:Nat} {r:List (Int × Int)} (hr:rows[i]?=some r) (hj:j<n) (q:Int × Int):fb ((W.setCell ⟨gm+1+i,j*2,none⟩ (.int .i64 q.1)).setCell ⟨gm+1+i,j*2+1,none⟩ (.int .i64 q.2)) gm n (rows.set i (r.set j q)):=by
 obtain ⟨h1,h2,h3⟩:=h;obtain ⟨k1,k2⟩:=h3 i r hr;refine ⟨by rw [List.length_set];exact h1,(h2.other ω _).other ω _,fun i' r' hr'=>?_⟩
 by_cases hi:i=i'
 ·subst hi
  rw [List.getElem?_set_self (List.getElem?_eq_some_iff.1 hr).1] at hr';have e:=Option.some.inj hr';subst e;refine ⟨by rw [List.length_set];exact k1,?_⟩;rw [←rV q ω];exact (k2.set _ _).set _ _
 rw [List.getElem?_set_ne hi] at hr';obtain ⟨m1,m2⟩:=h3 i' r' hr';exact ⟨m1,(m2.other ω _).other ω _⟩
theorem fb.cells {W:World} {gm n:Nat} {rows:M.JE} (h:fb W gm n rows) {i j:Nat} {r:List (Int × Int)} {q:Int × Int} (hr:rows[i]?=some r) (hq:r[j]?=some q):W.cell? ⟨gm+1+i,j*2,none⟩=some (.int .i64 q.1)/\W.cell? ⟨gm+1+i,j*2+1,none⟩=some (.int .i64 q.2)/\W.frozen? ⟨gm+1+i,j*2,none⟩=false/\W.frozen? ⟨gm+1+i,j*2+1,none⟩=false/\gm+1+i<W.heap.size:=by
 obtain ⟨k1,k2⟩:=h.2.2 i r hr
 have hc:=fun t (ht:t<2)=>(k2.cell (j*2+t)).trans ((List.getElem?_toArray (xs:=r.flatMap EP.cells) (i:=j*2+t)).trans ((Rw.flat_get EP r j t q hq ht).trans (List.getElem?_eq_getElem (by rw [EP.len];exact ht))))
 exact ⟨hc 0 δ,hc 1 δ,k2.Ih _,k2.Ih _,k2.lt⟩
theorem BX (n:Nat) (hn:n<=4):madeCells (Value.agg #[(0:Int),(0:Int)]).cells (n*2)=b7 (List.replicate n (0,0)):=by
 have hc:n=0∨n=1∨n=2∨n=3∨n=4:=ω
 rcases hc with rfl | rfl | rfl | rfl | rfl <;> (simp [madeCells,b7,EP,Value.cells,Array.range_succ,(show Array.range 0=#[] from rfl),List.replicate])
theorem yP (n:Nat) (hn:n<=4):madeCells (Value.slice none 0 0).cells (n*1)=(List.replicate n (Value.slice none 0 0)).toArray:=by
 have hc:n=0∨n=1∨n=2∨n=3∨n=4:=ω
 rcases hc with rfl | rfl | rfl | rfl | rfl <;> (simp [madeCells,b7,EP,Value.cells,Array.range_succ,(show Array.range 0=#[] from rfl),List.replicate])
theorem Do (w:World) (n:Nat) (hn:n<=4):(Instr.makeSlice 130 (.int .i64 (n:Int)) (.int .i64 (n:Int))).run prog w=.ok (.slice (some ⟨w,0,none⟩) n n) (w.alloc (.cells (b7 (List.replicate n (0,0))) 74)):=by
 obtain ⟨i0,hi,hz0,hz1,hz2⟩:=info_parts BJ;have hr:=run_make (P:=prog) w 130 74 i0 _ Tryz.underlying130 hi hz0 .i64 .i64 n n ω (Int.le_refl _) (by rw [hz2];omega) ω;rw [hz1] at hr;rw [Int.toNat_natCast,BX n hn] at hr;exact hr
theorem BZ (w:World) (n:Nat) (hn:n<=4):(Instr.makeSlice 98 (.int .i64 (n:Int)) (.int .i64 (n:Int))).run prog w=.ok (.slice (some ⟨w,0,none⟩) n n) (w.alloc (.cells (List.replicate n (Value.slice none 0 0)).toArray 130)):=by
 obtain ⟨i0,hi,hz0,hz1,hz2⟩:=info_parts BK;have hr:=run_make (P:=prog) w 98 130 i0 _ Tryz.underlying98 hi hz0 .i64 .i64 n n ω (Int.le_refl _) (by rw [hz2];omega) ω;rw [hz1] at hr;rw [Int.toNat_natCast,yP n hn] at hr;exact hr
namespace M
noncomputable def UA (s:Sp):Int × Int:=(Iy s,I3 s)
noncomputable def fG (a b:Int) (l:List Pt):JE:=if J3 a b l=true then (List.range l.length).map (fun i=>(List.range l.length).map fun j=>UA (ent a b l i j)) else []
end M
def gC (gm n k:Nat):Array Value:=((List.range n).map fun i=>if i<k then Value.slice (some ⟨gm+1+i,0,none⟩) n n else Value.slice none 0 0).toArray
theorem tu (gm n:Nat):gC gm n 0=(List.replicate n (Value.slice none 0 0)).toArray:=by
 unfold gC
 congr 1
 simp [List.map_const']
theorem tt {gm n k:Nat} (hk:k<n):(gC gm n k).setIfInBounds k (.slice (some ⟨gm+1+k,0,none⟩) n n)=gC gm n (k+1):=by
 unfold gC
 apply Array.ext_getElem?
 intro t;rw [Array.getElem?_setIfInBounds];simp only [List.size_toArray,List.length_map,List.length_range,List.getElem?_toArray,List.getElem?_map]
 by_cases h:k=t
 ·subst h
  rw [if_pos rfl,if_pos hk,List.getElem?_range hk];simp
 rw [if_neg h]
 rcases Nat.lt_or_ge t n with q | q
 ·rw [List.getElem?_range q]
  simp only [Option.map_some]
  congr 1
  by_cases h2:t<k
  ·rw [if_pos h2,if_pos ω]
  rw [if_neg h2,if_neg ω]
 rw [List.getElem?_eq_none (by simp;omega)];rfl
theorem ym {gm n k:Nat} (hk:k<n):(gC gm n k)[k]?=some (.slice none 0 0):=by
 unfold gC;rw [List.getElem?_toArray,List.getElem?_map,List.getElem?_range hk];simp
namespace M
def done (i k:Nat) (x y:Nat):Bool:=decide (min x y<i) || (decide (min x y=i) && decide (max x y<k))
def di (n:Nat) (p:Nat->Bool) (f:Nat->Int × Int):List (Int × Int):=(List.range n).map fun j=>if p j then f j else (0,0)
def dh (n:Nat) (P:Nat->Nat->Bool) (f:Nat->Nat->Int × Int):JE:=(List.range n).map fun i=>di n (P i) (f i)
noncomputable def fe (a b:Int) (l:List Pt) (i j:Nat):Int × Int:=UA (ent a b l i j)
theorem iP (n:Nat) (p:Nat->Bool) (f:Nat->Int × Int):(di n p f).length=n:=by unfold di;rw [List.length_map,List.length_range]
theorem km (n:Nat) (P:Nat->Nat->Bool) (f:Nat->Nat->Int × Int):(dh n P f).length=n:=by unfold dh;rw [List.length_map,List.length_range]
theorem eU {n i:Nat} (P:Nat->Nat->Bool) (f:Nat->Nat->Int × Int) (h:i<n):(dh n P f)[i]?=some (di n (P i) (f i)):=by
 unfold dh;rw [List.getElem?_map,List.getElem?_range h];rfl
theorem fa {n j:Nat} (p:Nat->Bool) (f:Nat->Int × Int) (h:j<n):(di n p f)[j]?=some (if p j then f j else (0,0)):=by
 unfold di;rw [List.getElem?_map,List.getElem?_range h];rfl
theorem pB {n:Nat} {p q:Nat->Bool} {f:Nat->Int × Int} (h:∀ j,j<n->p j=q j):di n p f=di n q f:=by
 unfold di
 refine List.map_congr_left fun j hj=>?_
 rw [h j (List.mem_range.1 hj)]
theorem Ch {n:Nat} {P Q:Nat->Nat->Bool} {f:Nat->Nat->Int × Int} (h:∀ i,i<n->∀ j,j<n->P i j=Q i j):dh n P f=dh n Q f:=by
 unfold dh
 refine List.map_congr_left fun i hi=>?_
 exact pB (h i (List.mem_range.1 hi))
theorem vV {n j:Nat} {p q:Nat->Bool} {f:Nat->Int × Int} (hj:j<n) (h1:q j=true) (h2:∀ t,t≠j->t<n->q t=p t):(di n p f).set j (f j)=di n q f:=by
 apply List.ext_getElem?
 intro t
 rcases Nat.lt_or_ge t n with q1 | q1
 ·rw [fa q f q1]
  by_cases e:j=t
  ·subst e
   rw [List.getElem?_set_self (by rw [iP];exact q1),if_pos h1]
  rw [List.getElem?_set_ne e,fa p f q1,h2 t (fun h=>e h.symm) q1]
 rw [List.getElem?_eq_none (by rw [List.length_set,iP];exact q1),List.getElem?_eq_none (by rw [iP];exact q1)]
theorem pA {n i j:Nat} {P Q:Nat->Nat->Bool} {f:Nat->Nat->Int × Int} (hi:i<n) (hj:j<n) (h1:Q i j=true) (h2:∀ x y,¬ (x=i/\y=j)->x<n->y<n->Q x y=P x y):(dh n P f).set i ((di n (P i) (f i)).set j (f i j))=dh n Q f:=by
 rw [vV (p:=P i) (q:=Q i) (f:=f i) hj h1 (fun t ht htn=>h2 i t (fun h=>ht h.2) hi htn)]
 apply List.ext_getElem?
 intro t
 rcases Nat.lt_or_ge t n with q1 | q1
 ·rw [eU Q f q1]
  by_cases e:i=t
  ·subst e
   rw [List.getElem?_set_self (by rw [km];exact q1)]
  rw [List.getElem?_set_ne e,eU P f q1,pB (p:=P t) (q:=Q t) (fun y hy=>(h2 t y (fun h=>e h.1.symm) q1 hy).symm)]
 rw [List.getElem?_eq_none (by rw [List.length_set,km];exact q1),List.getElem?_eq_none (by rw [km];exact q1)]
theorem yx (n:Nat) (f:Nat->Nat->Int × Int):List.replicate n (List.replicate n ((0:Int),(0:Int)))=dh n (done 0 0) f:=by
 apply List.ext_getElem?
 intro t
 rcases Nat.lt_or_ge t n with q1 | q1
 ·rw [eU _ f q1,List.getElem?_replicate,if_pos q1]
  congr 1
  apply List.ext_getElem?
  intro y
  rcases Nat.lt_or_ge y n with q2 | q2
  ·rw [fa _ _ q2,List.getElem?_replicate,if_pos q2]
   simp [done]
  rw [List.getElem?_eq_none (by rw [List.length_replicate];exact q2),List.getElem?_eq_none (by rw [iP];exact q2)]
 rw [List.getElem?_eq_none (by rw [List.length_replicate];exact q1),List.getElem?_eq_none (by rw [km];exact q1)]
def half (i k:Nat) (x y:Nat):Bool:=done i k x y || (decide (x=i) && decide (y=k))
def IO (i k:Nat):Nat->Nat->Nat->Bool
 | 0=>done i k
 | 1=>half i k
 | _=>done i (k+1)
theorem oj {n i:Nat} (f:Nat->Nat->Int × Int) (hi:i<n):(dh n (done i i) f).set i ((di n (done i i i) (f i)).set i (f i i))=dh n (done i (i+1)) f:=by
 refine pA hi hi (by simp [done]) fun x y h _ _=>?_
 unfold done
 by_cases h1:min x y<i
 ·simp [h1]
 have h3:¬ (min x y=i/\max x y<i+1):=fun ⟨a1,a2⟩=>h ω
 have h4:¬ (min x y=i/\max x y<i):=fun ⟨a1,a2⟩=>ω
 simp only [h1,decide_false,Bool.false_or,←Bool.decide_and,h3,h4]
theorem EC {n i k:Nat} (f:Nat->Nat->Int × Int) (hi:i<k) (hk:k<n):(dh n (done i k) f).set i ((di n (done i k i) (f i)).set k (f i k))=dh n (half i k) f:=
 pA ω hk (by simp [half]) fun x y h _ _=>by
  unfold half
  have:(decide (x=i) && decide (y=k))=false:=by rw [←Bool.decide_and,decide_eq_false_iff_not];exact h
  rw [this,Bool.or_false]
theorem ED {n i k:Nat} (f:Nat->Nat->Int × Int) (hs:f k i=f i k) (hi:i<k) (hk:k<n):(dh n (half i k) f).set k ((di n (half i k k) (f k)).set i (f i k))=dh n (done i (k+1)) f:=by
 rw [←hs]
 refine pA hk ω (by simp [done];omega) fun x y h _ _=>?_
 unfold half done
 by_cases h1:min x y<i
 ·simp [h1]
 by_cases h2:x=i/\y=k
 ·obtain ⟨rfl,rfl⟩:=h2
  have e1:min x y=x:=ω
  have e2:max x y<y+1:=ω
  simp [e1,e2]
 have h3:(min x y=i/\max x y<k+1) ↔ (min x y=i/\max x y<k):=⟨fun ⟨a1,a2⟩=>⟨a1,ω⟩,fun ⟨a1,a2⟩=>⟨a1,ω⟩⟩
 simp only [h1,decide_false,Bool.false_or,←Bool.decide_and,h2,Bool.or_false,h3]
theorem xw {n i:Nat} (f:Nat->Nat->Int × Int):dh n (done i n) f=dh n (done (i+1) (i+1)) f:=by
 refine Ch fun x hx y hy=>?_
 unfold done
 have h2:¬ (min x y=i+1/\max x y<i+1):=ω
 have h1:(min x y<i∨(min x y=i/\max x y<n)) ↔ min x y<i+1:=ω
 simp only [←Bool.decide_and,←Bool.decide_or,h2,decide_false,Bool.or_false,h1]
theorem Ae {n:Nat} (f:Nat->Nat->Int × Int):dh n (done n n) f=(List.range n).map fun i=>(List.range n).map fun j=>f i j:=by
 unfold dh di
 refine List.map_congr_left fun i hi=>List.map_congr_left fun j hj=>?_
 have:=List.mem_range.1 hi;have:=List.mem_range.1 hj;rw [if_pos];unfold done;rw [decide_eq_true (by omega:min i j<n)];rfl
theorem F3 (a b:Int) (l:List Pt) (i j:Nat):fe a b l i j=fe a b l j i:=by unfold fe;rw [mR]
theorem Bk {a b:Int} {l:List Pt} (h:J3 a b l=false):fG a b l=[]:=by unfold fG;rw [h];rfl
theorem yV {a b:Int} {l:List Pt} (h:J3 a b l=true):fG a b l=dh l.length (done l.length l.length) (fe a b l):=by rw [Ae];unfold fG;rw [h];rfl
end M
theorem fb.size {W:World} {gm n:Nat} {rows:M.JE} (h:fb W gm n rows) (hn:0<n):gm+1+n<=W.heap.size:=by
 obtain ⟨h1,h2,h3⟩:=h
 have hl:n - 1<rows.length:=ω
 have:=(h3 (n - 1) _ (List.getElem?_eq_getElem hl)).2.lt;omega
def eW (w:World) (N:Nat) (a b x1 x2 x3:Int) (pb:Nat) (rows:M.JE) (W:World):Prop:=
 fb W (w.heap.size+1) N rows/\aG W w 25 #[a,b]/\(w.heap.size+1+1+N<=pb/\aG W pb 40 #[x1,x2,x3])/\Below w w W
def gU (w:World) (N sb:Nat) (q:Int × Int) (W:World):Prop:=w.heap.size+1+1+N<=sb/\aG W sb 74 #[q.1,q.2]
theorem eW.below {w W W':World} {N:Nat} {a b x1 x2 x3:Int} {pb:Nat} {rows:M.JE} (h:eW w N a b x1 x2 x3 pb rows W) (hb:Below W W W'):eW w N a b x1 x2 x3 pb rows W':=
 ⟨h.1.below hb,h.2.1.keep hb,⟨h.2.2.1.1,h.2.2.1.2.keep hb⟩,h.2.2.2.trans (hb.mono h.2.2.2.size)⟩
theorem gU.below {w W W':World} {N sb:Nat} {q:Int × Int} (h:gU w N sb q W) (hb:Below W W W'):gU w N sb q W':=⟨h.1,h.2.keep hb⟩
theorem eW.put {w W:World} {N:Nat} {a b x1 x2 x3:Int} {pb:Nat} {rows rows':M.JE} {i j:Nat} {r:List (Int × Int)} {q:Int × Int} (h:eW w N a b x1 x2 x3 pb rows W) (hr:rows[i]?=some r) (hj:j<N) (he:rows.set i (r.set j q)=rows'):eW w N a b x1 x2 x3 pb rows' ((W.setCell ⟨w.heap.size+1+1+i,j*2,none⟩ (.int .i64 q.1)).setCell ⟨w.heap.size+1+1+i,j*2+1,none⟩ (.int .i64 q.2)):=by
 subst he
 have hi:i<N:=by rw [←h.1.1];exact (List.getElem?_eq_some_iff.1 hr).1
 have hp:=h.2.2.1.1;exact ⟨h.1.put hr hj q,(h.2.1.other ω _).other ω _,⟨hp,(h.2.2.1.2.other ω _).other ω _⟩,IW (IW h.2.2.2 (by show w.heap.size<=w.heap.size+1+1+i;omega) _) (by show w.heap.size<=w.heap.size+1+1+i;omega) _⟩
theorem gU.put {w W:World} {N sb i j1 j2:Nat} {q:Int × Int} {u v:Value} (h:gU w N sb q W) (hi:i<N):gU w N sb q ((W.setCell ⟨w.heap.size+1+1+i,j1,none⟩ u).setCell ⟨w.heap.size+1+1+i,j2,none⟩ v):=by
 have hp:=h.1;exact ⟨hp,(h.2.other ω _).other ω _⟩
end
end Go.Proofs.YtkalaljcbmkbmaaGreat
