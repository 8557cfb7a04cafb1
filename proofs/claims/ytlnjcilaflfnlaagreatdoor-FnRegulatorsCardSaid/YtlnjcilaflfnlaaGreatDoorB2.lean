/-
  Joined: contracts, lemmas.
-/
import Derived.Test.YtlnjcilaflfnlaaGreatDoorB1
import Derived.Test.YtlnjcilaflfnlaaGreatDoorShB
import Derived.Lib.BitFns
import Derived.Orders
set_option linter.unusedSimpArgs false
set_option linter.unusedVariables false
set_option maxRecDepth 100000
set_option maxHeartbeats 8000000
namespace Go.Proofs.YtlnjcilaflfnlaaGreatDoor
open _root_.Go.Proofs.Tryz
section
open Go.RowKit open Gr M Rw Wh
theorem sw (a b:Int) (va vb:Value) (w:World) (ba bb:Nat) (hoa:af w ba va a) (LN:af w bb vb b) (hl1:(Wh.a_ a.natAbs).length<=10000) (hl2:(Wh.a_ b.natAbs).length<=10000) :
  Calls prog 208 #[.agg #[decide (a<0),va],.agg #[decide (b<0),vb]] w fun e w'=>∃ sl,e=.returned (.agg #[decide (a - b<0),sl])/\af w' w sl (a - b)/\Below w w w':=by
 obtain ⟨aa,y_,rfl,-,-⟩:=aF.view hoa;obtain ⟨ab,Kk,rfl,-,-⟩:=aF.view LN
 have hnl:(Wh.a_ (-b).natAbs).length<=10000:=by rw [Int.natAbs_neg];exact hl2
 have PM:=fun W (h:aF W bb (.slice ab (Wh.a_ b.natAbs).length Kk) (Wh.a_ b.natAbs))=>nK b (.slice ab (Wh.a_ b.natAbs).length Kk) W bb h ω
 have PA:=fun Sb W bb' (h1:aF W ba (.slice aa (Wh.a_ a.natAbs).length y_) (Wh.a_ a.natAbs)) (h2:af W bb' Sb (-b))=>pD a (-b) (.slice aa (Wh.a_ a.natAbs).length y_) Sb W ba bb' h1 h2 hl1 hnl
 rw [←Int.sub_eq_add_neg] at PA
 have Na:Hid (∀ W,Below w w W->aF W ba (.slice aa (Wh.a_ a.natAbs).length y_) (Wh.a_ a.natAbs)):=KO fun W h=>aF.below hoa h
 have O3:Hid (∀ W,Below w w W->aF W bb (.slice ab (Wh.a_ b.natAbs).length Kk) (Wh.a_ b.natAbs)):=KO fun W h=>aF.below LN h
 clear hoa LN hnl;generalize Wh.a_ b.natAbs=ys,Wh.a_ a.natAbs=xs,-b=nb,a - b=z,decide (b<0)=s2,decide (a<0)=s1 at *;generalize decide (nb<0)=s3,decide (z<0)=s,ys.length=l2,xs.length=l1 at *;have PM:=KO PM;have PA:=KO PA;obtain ⟨w3,hw3,n1,n2,n3,Bn⟩:=ik w (.bool s1) (.slice aa l1 y_) 145 (.bool s2) (.slice ab l2 Kk) 145 (.bool false) (.slice none 0 0) 145;have e1:=n1.c0;have e2:=n1.c1;have e3:=n2.c0;have e4:=n2.c1;go_enter func208,ntmps208
 go_wp2
 go_region_held3 (fun W=>W.cell? ⟨w,0,none⟩=some (.bool s1)/\W.cell? ⟨w,1,none⟩=some (.slice aa l1 y_)/\W.cell? ⟨w.heap.size+1,0,none⟩=some (.bool s2)/\W.cell? ⟨w.heap.size+1,1,none⟩=some (.slice ab l2 Kk)) (first | exact ⟨hlA,hlA,hlA,hlA⟩ | (go_split_ands;exact ⟨hlA,hlA,hlA,hlA⟩) | go_keep) ((first
  | ((with_reducible refine (PM.out _ (O3.out _ Bn.drew)).mono ?_);rintro e w4 ⟨v4,rfl,Ks,hb4⟩;have B4:=Bn.drew.trans (hb4.mono Bn.size);have r4:=n3.drew.keep hb4;have MH:=aE hb4 (ak e1);have NG:=aE hb4 (ak e2);have Oe:=aE hb4 (ak e3);have Pk:=aE hb4 (ak e4);(have z4:w3.heap.size<=w4.heap.size:=hb4.size))
  | ((with_reducible refine (PA.out _ _ _ (Na.out _ B4) Ks).mono ?_);rintro e w5 ⟨vc,rfl,hoc,hbc⟩;obtain ⟨ac,KX,rfl,hmc,LF⟩:=aF.view hoc;have B5:=p_ B4 hbc;have r5:=r4.keep hbc;have c0:=r5.c0;have c1:=r5.c1;have g0:=r5.f0;have g1:=r5.f1;have Pl:=aE hbc MH;have Qj:=aE hbc NG;have Sd:=aE hbc Oe;have Vn:=aE hbc Pk;clear LF hmc)
  | fail "ARMS"))
 all_goals
  have hr:=dM (w:=w) (w.heap.size+1+1) _ (.bool s) ω (Nat.lt_of_lt_of_le n3.size z4) hoc B5;generalize (Wh.a_ z.natAbs).length=ND at *;go_wp2;exact KU results208 ⟨_,rfl,hr.1,hr.2⟩
theorem rI (a n:Int) (va:Value) (w:World) (ba:Nat) (hoa:af w ba va a) (hl1:(Wh.a_ a.natAbs).length<=10000) (hn1:-1000000000000000000<=n) (hn2:n<=1000000000000000000) :
  Calls prog 134 #[.agg #[decide (a<0),va],n] w fun e w'=>∃ sl,e=.returned (.agg #[decide (a*n<0),sl])/\af w' w sl (a*n)/\Below w w w':=by
 obtain ⟨aa,y_,rfl,-,-⟩:=aF.view hoa;have hnl:(Wh.a_ n.natAbs).length<=10000:=Nat.le_trans (eV (k:=5) ω) δ
 have PM:=fun W=>bw n W hn1 hn2
 have PA:=fun Sb W bb' (h1:aF W ba (.slice aa (Wh.a_ a.natAbs).length y_) (Wh.a_ a.natAbs)) (h2:af W bb' Sb n)=>dm a n (.slice aa (Wh.a_ a.natAbs).length y_) Sb W ba bb' h1 h2 hl1 hnl
 have Na:Hid (∀ W,Below w w W->aF W ba (.slice aa (Wh.a_ a.natAbs).length y_) (Wh.a_ a.natAbs)):=KO fun W h=>aF.below hoa h
 clear hoa hnl hn1 hn2;generalize Wh.a_ a.natAbs=xs,a*n=z,decide (a<0)=s1 at *;generalize decide (n<0)=s3,decide (z<0)=s,xs.length=l1 at *;have PM:=KO PM;have PA:=KO PA;have n1:=(bJ.new w (.bool s1) (.slice aa l1 y_) 145).alloc (.cells #[false,.slice none 0 0] 145);have n3:=bJ.new2 w (.cells #[s1,.slice aa l1 y_] 145) (.bool false) (.slice none 0 0) 145;have Bn:=((KS w w).alloc (KT _) (.cells #[s1,.slice aa l1 y_] 145)).alloc (by rw [KQ];omega) (.cells #[false,.slice none 0 0] 145);generalize hw3:(w.alloc (.cells #[s1,.slice aa l1 y_] 145)).alloc (.cells #[false,.slice none 0 0] 145)=w3 at *;have e1:=n1.c0;have e2:=n1.c1;go_enter func134,ntmps134
 go_wp2
 go_region_held3 (fun W=>W.cell? ⟨w,0,none⟩=some (.bool s1)/\W.cell? ⟨w,1,none⟩=some (.slice aa l1 y_)) (first | exact ⟨hlA,hlA⟩ | (go_split_ands;exact ⟨hlA,hlA⟩) | go_keep) ((first
  | ((with_reducible refine (PM.out _).mono ?_);rintro e w4 ⟨v4,rfl,Ks,hb4⟩;have B4:=Bn.drew.trans (hb4.mono Bn.size);have r4:=n3.drew.keep hb4;have MH:=aE hb4 (ak e1);have NG:=aE hb4 (ak e2);(have z4:w3.heap.size<=w4.heap.size:=hb4.size))
  | ((with_reducible refine (PA.out _ _ _ (Na.out _ B4) Ks).mono ?_);rintro e w5 ⟨vc,rfl,hoc,hbc⟩;obtain ⟨ac,KX,rfl,hmc,LF⟩:=aF.view hoc;have B5:=p_ B4 hbc;have r5:=r4.keep hbc;have c0:=r5.c0;have c1:=r5.c1;have g0:=r5.f0;have g1:=r5.f1;have Pl:=aE hbc MH;have Qj:=aE hbc NG;clear LF hmc)
  | fail "ARMS"))
 all_goals
  have hr:=dM (w:=w) (w.heap.size+1) _ (.bool s) ω (Nat.lt_of_lt_of_le n3.size z4) hoc B5;generalize (Wh.a_ z.natAbs).length=ND at *;go_wp2;exact KU results134 ⟨_,rfl,hr.1,hr.2⟩
namespace Wh
theorem AH:∀ (l:List Int) (j:Nat) (t y:Int),l[j]?=some t->val (l.set j y)=val l+10000 ^ j*(y - t)
 | [],j,t,y,h=>by simp at h
 | x :: l,0,t,y,h=>by
  obtain rfl:x=t:=by simpa using h
  show y+10000*val l=x+10000*val l+10000 ^ 0*(y - x)
  rw [Int.pow_zero];omega
 | x :: l,j+1,t,y,h=>by
  have h':l[j]?=some t:=by simpa using h
  show x+10000*val (l.set j y)=x+10000*val l+10000 ^ (j+1)*(y - t)
  rw [AH l j t y h',Int.pow_succ]
  grind
structure ly (a b o:List Int) (x:Int) (i k:Nat):Prop where
 len:o.length=a.length+b.length
 eq:val o=val (a.take i)*val b+10000 ^ i*(x*val (b.take k))
 bd:∀ (j:Nat) (t:Int),o[j]?=some t->0<=t/\t<=(if j<i+k then (i:Int)+1 else i)*99980001
theorem ly.step {a b o:List Int} {x y t:Int} {i k:Nat} (h:ly a b o x i k) (hx:lim x) (hb:bR b) (hy:b[k]?=some y) (ht:o[i+k]?=some t):(0<=t/\t<=(i:Int)*99980001)/\ly a b (o.set (i+k) (t+x*y)) x i (k+1):=by
 have hm:=tp hx (hb y (List.mem_of_getElem? hy));have hb0:=h.bd _ _ ht;rw [if_neg (Nat.lt_irrefl _)] at hb0;refine ⟨hb0,⟨by rw [List.length_set,h.len],?_,?_⟩⟩
 ·rw [AH o _ _ _ ht,h.eq,cY hy,Int.pow_add]
  grind
 intro j t' hj
 by_cases hjk:j=i+k
 ·subst hjk
  have hlt:=(List.getElem?_eq_some_iff.1 ht).1;rw [List.getElem?_set_self hlt] at hj;obtain rfl:=Option.some.inj hj;rw [if_pos ω];omega
 rw [List.getElem?_set_ne ω] at hj;have:=h.bd j t' hj
 by_cases hlt:j<i+k
 ·rw [if_pos hlt] at this;rw [if_pos ω];exact this
 rw [if_neg hlt] at this;rw [if_neg ω];exact this
theorem ly.row {a b o:List Int} {x:Int} {i:Nat} (h:ly a b o x i b.length) (hx:a[i]?=some x) (z:Int):ly a b o z (i+1) 0:=by
 refine ⟨h.len,?_,?_⟩
 ·rw [h.eq,List.take_length,cY hx]
  simp [val]
  grind
 intro j t hj;have:=h.bd j t hj
 have hi:((i+1:Nat):Int)=(i:Int)+1:=ω
 rw [hi]
 by_cases h1:j<i+1+0
 ·rw [if_pos h1]
  split at this <;> omega
 rw [if_neg h1]
 split at this <;> omega
theorem ly.start (a b:List Int) (x:Int):ly a b (List.replicate (a.length+b.length) 0) x 0 0:=by
 refine ⟨List.length_replicate,by rw [FF];simp [val],?_⟩;intro j t hj;rw [List.getElem?_replicate] at hj
 split at hj
 ·obtain rfl:=Option.some.inj hj
  split <;> simp
 cases hj
structure pg (o0 o:List Int) (i:Nat) (c:Int):Prop where
 len:o.length=o0.length
 eq:val (o.take i)+10000 ^ i*c=val (o0.take i)
 rest:o.drop i=o0.drop i
 ls:bR (o.take i)
 c0:0<=c/\c<=1000000000
theorem pg.start (o:List Int):pg o o 0 0 where
 len:=rfl
 eq:=σ
 rest:=rfl
 ls:=fun x hx=>by simp at hx
 c0:=ω
theorem pg.Ir {o0 o:List Int} {i:Nat} {c:Int} (h:pg o0 o i c):o[i]?=o0[i]?:=by
 exact wau4
theorem pg.step {o0 o:List Int} {i:Nat} {c t:Int} (h:pg o0 o i c) (ht:o0[i]?=some t) (hb:0<=t/\t<=1000000000000):pg o0 (o.set i ((t+c) % 10000)) (i+1) ((t+c) / 10000):=by
 have hk:=(List.getElem?_eq_some_iff.1 ht).1;have hc:=h.c0
 have htk:(o.set i ((t+c) % 10000)).take i=o.take i:=by
  rw [List.take_set,List.set_eq_of_length_le Np]
 have hsk:(o.set i ((t+c) % 10000))[i]?=some ((t+c) % 10000):=List.getElem?_set_self (by rw [h.len];exact hk);refine ⟨by rw [List.length_set,h.len],?_,?_,?_,ω⟩
 ·rw [cY hsk,htk,cY ht,Int.pow_succ]
  have e:=h.eq;have hd:=Int.mul_ediv_add_emod (t+c) 10000;generalize (t+c) % 10000=r,(t+c) / 10000=q at *;generalize (10000:Int) ^ i=P at *;generalize val (o0.take i)=v2,val (o.take i)=v1 at *
  grind
 ·rw [List.drop_set_of_lt (Nat.lt_succ_self i)]
  have:=congrArg (List.drop 1) h.rest
  rwa [List.drop_drop,List.drop_drop] at this
 exact Zo
theorem pg.fin {o0 o:List Int} {n:Nat} {c v:Int} (h:pg o0 o n c) (hn:o0.length=n) (hv:val o0=v) (hlt:v<10000 ^ n):val o=v/\bR o:=by
 have e:=h.eq;have hl:=h.ls;have l1:=h.len;rw [List.take_of_length_le ω,List.take_of_length_le ω,hv] at e;rw [List.take_of_length_le ω] at hl;have o1:=du hl;have hp:=pow_pos n;have hc:=h.c0;refine ⟨?_,hl⟩
 exact Zq
end Wh
theorem Wh.ly.chg {a b o:List Int} {x:Int} {i:Nat} (h:ly a b o x i 0) (z:Int):ly a b o z i 0:=
 ⟨h.len,by rw [h.eq];simp [val],h.bd⟩
theorem gD (a b:Int) (va vb:Value) (w:World) (ba bb:Nat) (hoa:af w ba va a) (LN:af w bb vb b) (hl1:(Wh.a_ a.natAbs).length<=10000) (hl2:(Wh.a_ b.natAbs).length<=10000) :
  Calls prog 190 #[.agg #[decide (a<0),va],.agg #[decide (b<0),vb]] w fun e w'=>∃ sl,e=.returned (.agg #[decide (a*b<0),sl])/\af w' w sl (a*b)/\Below w w w':=by
 obtain ⟨aa,y_,rfl,hma,hva⟩:=aF.seen hoa;obtain ⟨ab,Kk,rfl,hmb,hvb⟩:=aF.seen LN;have hva:=KO hva;have hvb:=KO hvb;have hla:=KO (bG a.natAbs);have hlb:=KO (bG b.natAbs)
 have PT:=fun W v base ho=>kV (a*b) ((a.natAbs:Int)*(b.natAbs:Int)) ((Wh.a_ a.natAbs).length+(Wh.a_ b.natAbs).length+1) (decide (a<0) != decide (b<0)) v W base ho ω (zC a b)
 have hpr:Hid (∀ (x y:List Int),x=Wh.a_ a.natAbs->y=Wh.a_ b.natAbs->Wh.val x*Wh.val y=(a.natAbs:Int)*(b.natAbs:Int)):=KO fun x y h1 h2=>by rw [h1,h2,bS,bS]
 have hpr:=KO (hpr.out _ _ rfl rfl);generalize decide (b<0)=s2,decide (a<0)=s1 at *;generalize (a.natAbs:Int)*(b.natAbs:Int)=y at *;generalize a*b=z at *;generalize Wh.a_ b.natAbs=ys,Wh.a_ a.natAbs=xs,decide (z<0)=s at *;clear hma hmb hoa LN;obtain ⟨w3,hw3,b1,b2,b3,hB⟩:=ik w (.bool s1) (.slice aa xs.length y_) 145 (.bool s2) (.slice ab ys.length Kk) 145 (.bool false) (.slice none 0 0) 145;obtain ⟨w4,hrun,hown1,hg1⟩:=sR w3 (xs.length+ys.length) ω;rw [show ((xs.length+ys.length:Nat):Int)=(xs.length:Int)+(ys.length:Int) by omega] at hrun;have hb4:Below w3 w3 w4:=cw hg1 (KT _) (fun k hk=>by cases hk);have hB3:=KO hB;have e2:=b1.c1;have e4:=b2.c1;have k2:=b1.keep hb4;have k4:=b2.keep hb4;have f2:=k2.c1;have f4:=k4.c1;clear hg1;go_enter func190,ntmps190
 go_wp2;have OG:=KO b1;have OH:=KO b2;have Sx:=KO b3;clear e2 e4 k2 k4 f2 f4 b1 b2 b3 hB
 go_loopw [6,7,8,9,24] (fun _ _ _ _ vi wr=>∃ (i:Nat) (o:List Int),i<=xs.length/\vi=.int .i64 i/\aF wr w3 (.slice (some ⟨w3,0,none⟩) (xs.length+ys.length) (xs.length+ys.length)) o/\ly xs ys o 0 i 0/\Below w3 w3 wr) (fun _ _ _ _ vi _=>xs.length - (intOf vi).toNat)
 case atStart=>exact ⟨0,List.replicate (xs.length+ys.length) 0,Nat.zero_le _,rfl,hown1,ly.start xs ys 0,hb4⟩
 case round=>
 clear hown1 hb4;obtain ⟨i,o,hi,rfl,hown,hsi,hbr⟩:=hrel;have c1:=OG.out.fF hbr OG.out.size;have c2:=OH.out.fF hbr OH.out.size;have c3:=Sx.out.fF hbr Sx.out.size;have hwr:Below w w wr:=hB3.out.trans (hbr.mono hB3.out.size)
 by_cases hlt:i<xs.length
 ·obtain ⟨ga,x,ea,hga,hxa,hca⟩:=hva.out i hlt
  subst ea;have OP:=aE hwr hca;have hlx:=KO (hla.out x (List.mem_of_getElem? hxa.out));have hsx:=hsi.chg x;have d2:=c1.c1;have d4:=c2.c1;clear hca c1 c2 c3 hwr hsi;go_wp2
  go_loopw [8,9,32] (fun _ _ vk wq=>∃ (k:Nat) (p:List Int),k<=ys.length/\vk=.int .i64 k/\aF wq w3 (.slice (some ⟨w3,0,none⟩) (xs.length+ys.length) (xs.length+ys.length)) p/\ly xs ys p x i k/\Below w3 w3 wq) (fun _ _ vk _=>ys.length - (intOf vk).toNat)
  case atStart=>exact ⟨0,o,Nat.zero_le _,rfl,hown,hsx,hbr⟩
  case round=>
  clear hown hbr OP d2 d4 hsx;obtain ⟨k,p,hk,rfl,hown,hsi,hbq⟩:=hrel;have hwq:Below w w wr:=hB3.out.trans (hbq.mono hB3.out.size)
  by_cases hkt:k<ys.length
  ·obtain ⟨gb,yb,eb,hgb,hxb,hcb⟩:=hvb.out k hkt
   subst eb;have hcb:=aE hwq hcb;have hpl:=hsi.len
   obtain ⟨t,ht⟩:∃ t,p[i+k]?=some t:=⟨_,List.getElem?_eq_getElem ω⟩
   have hS:=hsi.step hlx.out hlb.out hxb.out ht;have hm:=tp hlx.out (hlb.out yb (List.mem_of_getElem? hxb.out));have hc0:=aF.cellAt hpl.symm hown ht;have hf0:wr.frozen? ⟨w3,i+k,none⟩=false:=iz hpl hown (i+k);have hO:=KO (aF.set (j:=i+k) hpl.symm hown (t+x*yb) rfl);have htb:=hS.1;have hS2:=KO hS.2;have Mt:=KO hbq;have UE:w3.heap.size<wr.heap.size:=World.block_lt_of_cell? wr _ hc0;clear hS hsi hpl ht hown hxb;generalize hpb:x*yb=pb at *;go_wp2
   go_roundw
   case rel=>exact ⟨k+1,_,ω,ν,hO.out.1,hS2.out,Mt.out.setCell (KT _) _⟩
   case measure=>simp [intOf];omega
  obtain rfl:k=ys.length:=ω
  have hrow:=KO (hsi.row hxa.out 0);have hown:=KO hown;clear hsi;go_wp2
  go_roundw
  case rel=>exact ⟨i+1,p,ω,ν,hown.out,hrow.out,hbq⟩
  case measure=>simp [intOf];omega
 obtain rfl:i=xs.length:=ω
 have UA:Hid (Wh.val o=y):=KO (by rw [hsi.eq,List.take_length,←hpr.out];simp [Wh.val]);have hyb:Hid (y<10000 ^ (xs.length+ys.length)):=KO (by rw [←hpr.out];exact zV hla.out hlb.out (KT _))
 have hbd:Hid (∀ (j:Nat) (t:Int),o[j]?=some t->0<=t/\t<=1000000000000):=KO fun j t hj=>by
  have:=hsi.bd j t hj
  split at this <;> omega
 have hol:=KO hsi.len;have d1:=c1.c0;have d3:=c2.c0;clear hsi;go_wp2;clear d1 d3 c1 c2 c3 hwr
 go_loopw [10,11,12,52] (fun vc _ _ vi wq=>∃ (j:Nat) (p:List Int) (c:Int),j<=(xs.length+ys.length)/\vi=.int .i64 j/\vc=.int .i64 c/\aF wq w3 (.slice (some ⟨w3,0,none⟩) (xs.length+ys.length) (xs.length+ys.length)) p/\pg o p j c/\Below w3 w3 wq) (fun _ _ _ vi _=>(xs.length+ys.length) - (intOf vi).toNat)
 case atStart=>exact ⟨0,o,0,Nat.zero_le _,rfl,rfl,hown,pg.start o,hbr⟩
 case round=>
 clear hown hbr;obtain ⟨j,p,c,hj,rfl,rfl,hown,hki,hbq⟩:=hrel
 by_cases hjt:j<(xs.length+ys.length)
 ·obtain ⟨t,ht⟩:∃ t,o[j]?=some t:=⟨_,List.getElem?_eq_getElem (by rw [hol.out];exact hjt)⟩
  have hpl:=hki.len.trans hol.out;have hpk:=hki.Ir.trans ht;have hc0:=aF.cellAt hpl.symm hown hpk;have hf0:wr.frozen? ⟨w3,j,none⟩=false:=iz hpl hown j;have htb:=hbd.out _ _ ht;have hcr:=hki.c0;have hS2:=KO (hki.step ht htb);have hO:=KO (aF.set (j:=j) hpl.symm hown ((t+c) % 10000) rfl);have t1:Int.tmod (t+c) 10000=(t+c) % 10000:=Int.tmod_eq_emod_of_nonneg ω;have t2:Int.tdiv (t+c) 10000=(t+c) / 10000:=Int.tdiv_eq_ediv_of_nonneg ω
  have hrr:0<=(t+c) % 10000/\(t+c) % 10000<10000:=ω
  have hqq:0<=(t+c) / 10000/\(t+c) / 10000<=1000000000:=ω
  have Mt:=KO hbq;have UE:w3.heap.size<wr.heap.size:=World.block_lt_of_cell? wr _ hc0;clear hki hpl hpk ht hown;generalize (t+c) / 10000=qq,(t+c) % 10000=r at *;go_wp2
  go_roundw
  case rel=>exact ⟨j+1,_,_,ω,ν,ν,hO.out.1,hS2.out,Mt.out.setCell (KT _) _⟩
  case measure=>simp [intOf];omega
 have e:j=(xs.length+ys.length):=ω
 subst e;have hf:=hki.fin hol.out UA.out hyb.out;have hpl:=hki.len.trans hol.out;have hov:Hid (pi wr w3 (.slice (some ⟨w3,0,none⟩) (xs.length+ys.length) (xs.length+ys.length)) y (xs.length+ys.length+1)):=KO ⟨p,hown,hf.2,hf.1,by rw [hpl];omega⟩;have c1:=OG.out.fF hbq OG.out.size;have c2:=OH.out.fF hbq OH.out.size;have c3:=Sx.out.fF hbq Sx.out.size;have hwr:Below w w wr:=hB3.out.trans (hbq.mono hB3.out.size);have d1:=c1.c0;have d3:=c2.c0;clear hki hown hf hpl;rw [show (s1 != s2)=!(s1 == s2) from rfl] at PT;have PT:=KO PT
 go_wp2_with ((with_reducible refine (PT.out _ _ _ hov.out).mono ?_);rintro e w5 ⟨vc,rfl,hoc,hbc⟩;obtain ⟨ac,KX,rfl,hmc,LF⟩:=aF.view hoc;have r5:=c3.keep hbc;have p0:=r5.c0;have p1:=r5.c1;have g0:=r5.f0;have g1:=r5.f1;clear LF hmc)
 have hr:=dM (w:=w) (w.heap.size+1+1) _ (.bool s) ω c3.size hoc (p_ hwr hbc);generalize (Wh.a_ z.natAbs).length=ND at *;exact KU results190 ⟨_,rfl,hr.1,hr.2⟩
theorem YH {p:Prop} (h:p:=by
 go_wp2_with ((with_reducible refine (PT.out _ _ _ hov.out).mono ?_);rintro e w5 ⟨vc,rfl,hoc,hbc⟩;obtain ⟨ac,KX,rfl,hmc,LF⟩:=aF.view hoc;have r5:=c2.keep hbc;have b5:=c1.keep hbc;have p0:=r5.c0;have p1:=r5.c1;have g0:=r5.f0;have g1:=r5.f1;have z5:=r5.size;have y5:=b5.size;have x0:=b5.c0;clear LF hmc)
 have hr0:=dM (w:=w) (w2:=w5) (w.heap.size+1) _ (.bool s) ω c2.size hoc (p_ hwr hbc);have hr1:=aF.alloc hr0.1 (.cells #[s,.slice ac (Wh.a_ z.natAbs).length KX] 145);have hr2:=hr0.2.alloc hr0.2.size (.cells #[s,.slice ac (Wh.a_ z.natAbs).length KX] 145);generalize (Wh.a_ z.natAbs).length=ND at *;exact KU results195 ⟨_,rfl,hr1,hr2⟩):p:=h
theorem gK (a n:Int) (va:Value) (w:World) (ba:Nat) (hoa:af w ba va a) (hl1:(Wh.a_ a.natAbs).length<=10000) (hn1:-1000000000000000000<=n) (hn2:n<=1000000000000000000) :
  Calls prog 191 #[.agg #[decide (a<0),va],n] w fun e w'=>∃ sl,e=.returned (.agg #[decide (a*n<0),sl])/\af w' w sl (a*n)/\Below w w w':=by
 obtain ⟨aa,y_,rfl,-,-⟩:=aF.view hoa;have hnl:(Wh.a_ n.natAbs).length<=10000:=Nat.le_trans (eV (k:=5) ω) δ
 have PM:=fun W=>qA n W hn1 hn2
 have PA:=fun Sb W bb' (h1:aF W ba (.slice aa (Wh.a_ a.natAbs).length y_) (Wh.a_ a.natAbs)) (h2:af W bb' Sb n)=>gD a n (.slice aa (Wh.a_ a.natAbs).length y_) Sb W ba bb' h1 h2 hl1 hnl
 have Na:Hid (∀ W,Below w w W->aF W ba (.slice aa (Wh.a_ a.natAbs).length y_) (Wh.a_ a.natAbs)):=KO fun W h=>aF.below hoa h
 clear hoa hnl hn1 hn2;generalize Wh.a_ a.natAbs=xs,a*n=z,decide (a<0)=s1 at *;generalize decide (n<0)=s3,decide (z<0)=s,xs.length=l1 at *;have PM:=KO PM;have PA:=KO PA;have n1:=(bJ.new w (.bool s1) (.slice aa l1 y_) 145).alloc (.cells #[false,.slice none 0 0] 145);have n3:=bJ.new2 w (.cells #[s1,.slice aa l1 y_] 145) (.bool false) (.slice none 0 0) 145;have Bn:=((KS w w).alloc (KT _) (.cells #[s1,.slice aa l1 y_] 145)).alloc (by rw [KQ];omega) (.cells #[false,.slice none 0 0] 145);generalize hw3:(w.alloc (.cells #[s1,.slice aa l1 y_] 145)).alloc (.cells #[false,.slice none 0 0] 145)=w3 at *;have e1:=n1.c0;have e2:=n1.c1;go_enter func191,ntmps191
 go_wp2
 go_region_held3 (fun W=>W.cell? ⟨w,0,none⟩=some (.bool s1)/\W.cell? ⟨w,1,none⟩=some (.slice aa l1 y_)) (first | exact ⟨hlA,hlA⟩ | (go_split_ands;exact ⟨hlA,hlA⟩) | go_keep) ((first
  | ((with_reducible refine (PM.out _).mono ?_);rintro e w4 ⟨v4,rfl,Ks,hb4⟩;have B4:=Bn.drew.trans (hb4.mono Bn.size);have r4:=n3.drew.keep hb4;have MH:=aE hb4 (ak e1);have NG:=aE hb4 (ak e2);(have z4:w3.heap.size<=w4.heap.size:=hb4.size))
  | ((with_reducible refine (PA.out _ _ _ (Na.out _ B4) Ks).mono ?_);rintro e w5 ⟨vc,rfl,hoc,hbc⟩;obtain ⟨ac,KX,rfl,hmc,LF⟩:=aF.view hoc;have B5:=p_ B4 hbc;have r5:=r4.keep hbc;have c0:=r5.c0;have c1:=r5.c1;have g0:=r5.f0;have g1:=r5.f1;have Pl:=aE hbc MH;have Qj:=aE hbc NG;clear LF hmc)
  | fail "ARMS"))
 all_goals
  have hr:=dM (w:=w) (w.heap.size+1) _ (.bool s) ω (Nat.lt_of_lt_of_le n3.size z4) hoc B5;generalize (Wh.a_ z.natAbs).length=ND at *;go_wp2;exact KU results191 ⟨_,rfl,hr.1,hr.2⟩
theorem gV (a n:Int) (va:Value) (w:World) (ba:Nat) (hoa:af w ba va a) (hl:(Wh.a_ a.natAbs).length<=9000) (hn1:1<=n) (hn2:n<=1000000000000) :
  Calls prog 195 #[.agg #[decide (a<0),va],n] w fun e w'=>∃ sl,e=.returned (.tuple #[.agg #[decide (a / n<0),sl],(a % n:Int)])/\af w' w sl (a / n)/\Below w w w':=by
 obtain ⟨aa,y_,rfl,hma,hva⟩:=aF.seen hoa;have hva:=KO hva;have hla:=KO (bG a.natAbs);have hvl:=KO (bS a.natAbs)
 have hq0:=fun s=>yg (a:=a) (n:=n) s ω
 have PT:=fun s W v base ho=>kV (Wh.Lc s ((a.natAbs:Int) / n)) ((a.natAbs:Int) / n) (Wh.a_ a.natAbs).length s v W base ho ω rfl
 have d0:=fun h=>DB (a:=a) (n:=n) h
 have d1:=fun h h'=>C9 (a:=a) (n:=n) ω h h'
 have d2:=fun h h'=>DA (a:=a) (n:=n) ω h h'
 have d0:=KO d0;have d1:=KO d1;have d2:=KO d2;clear hma hoa
 obtain ⟨s1,hs1⟩:∃ s,decide (a<0)=s:=⟨_,rfl⟩
 rw [hs1];have hs1:=KO hs1;generalize a % n=zr,a / n=z at *;generalize hab:(a.natAbs:Int)=A at *;have Lj:Hid (Wh.val (Wh.a_ a.natAbs)=A):=hvl;clear hvl hab;generalize Wh.a_ a.natAbs=xs at *
 obtain ⟨s,hsd⟩:∃ s,Hid (decide (z<0)=s):=⟨_,KO rfl⟩
 rw [hsd.out];have b1:=(bJ.new w (.bool s1) (.slice aa xs.length y_) 145).alloc (.cells #[false,.slice none 0 0] 145);have b2:=bJ.new2 w (.cells #[s1,.slice aa xs.length y_] 145) (.bool false) (.slice none 0 0) 145;have hB:=((KS w w).alloc (KT _) (.cells #[s1,.slice aa xs.length y_] 145)).alloc (by rw [KQ];omega) (.cells #[false,.slice none 0 0] 145);generalize hw3:(w.alloc (.cells #[s1,.slice aa xs.length y_] 145)).alloc (.cells #[false,.slice none 0 0] 145)=w3 at *;obtain ⟨w4,hrun,hown1,hg1⟩:=sR w3 xs.length ω;have hb4:Below w3 w3 w4:=cw hg1 (KT _) (fun k hk=>by cases hk);have hB3:=KO hB;have e2:=b1.c1;have OG:=KO b1;have OH:=KO b2;have f2_:=(b1.keep hb4).c1;clear hg1 b2 hB;go_enter func195,ntmps195
 go_wp2;clear e2 b1 f2_
 go_loopw [7,8] (fun vr vi wr=>∃ (k:Nat) (q:List Int) (r:Int),k<=xs.length/\vi=.int .i64 ((k:Int) - 1)/\vr=.int .i64 r/\aF wr w3 (.slice (some ⟨w3,0,none⟩) xs.length xs.length) q/\pf xs q n k r/\Below w3 w3 wr) (fun _ vi _=>(intOf vi+1).toNat)
 case atStart=>exact Z9
 case round=>
 clear hown1 hb4;obtain ⟨k,q,r,hk,rfl,rfl,hown,hdi,hbr⟩:=hrel;have c1:=OG.out.fF hbr OG.out.size;have c2:=OH.out.fF hbr OH.out.size;have hwr:Below w w wr:=hB3.out.trans (hbr.mono hB3.out.size)
 cases k with
 | zero=>
  have hf:=hdi.fin;rw [Lj.out] at hf;obtain ⟨hq1,rfl,hq3⟩:=hf;have hov:Hid (pi wr w3 (.slice (some ⟨w3,0,none⟩) xs.length xs.length) (A / n) xs.length):=KO ⟨q,hown,hq3,hq1,by rw [hdi.len];exact KT _⟩;have hd0:=c1.c0;clear hdi hown hq1 hq3;cases s1
  ·have hna:¬ a<0:=by have:=hs1.out;simpa using this
   obtain ⟨hz1,hz2⟩:=d0.out ω;have PT:=PT false;rw [hz1] at PT;rw [hsd.out] at PT;have PT:=KO PT;rw [hz2]
   exact YH
  have hna:a<0:=by have:=hs1.out;simpa using this
  by_cases hrz:A % n=0
  ·skip
   obtain ⟨hz1,hz2⟩:=d1.out hna hrz;have PT:=PT true;rw [hz1] at PT;rw [hsd.out] at PT;have PT:=KO PT;rw [hz2] at hrz ⊢
   exact YH
  obtain ⟨hz1,hz2⟩:=d2.out hna hrz;have PT:=PT true;have hq1:=hq0 true
  have Va:0<A % n:=by have:=Int.emod_nonneg A (show n≠0 by omega);omega
  have hrn:A % n<n:=Int.emod_lt_of_pos _ ω;generalize A % n=rr,Wh.Lc true (A / n)=y0 at *
  have PW:=fun W=>qA 1 W ω ω
  have PA:=fun va vb W ba bb (h1:aF W ba va (Wh.a_ y0.natAbs)) (h2:aF W bb vb (Wh.a_ (1:Int).natAbs))=>sw y0 1 va vb W ba bb h1 h2 ω (by have:=oj;rw [Int.natAbs_neg] at this;omega)
  rw [decide_eq_false (show ¬ (1:Int)<0 by decide)] at PW PA;rw [show y0 - 1=z by omega,hsd.out] at PA;have hrp2:=Va
  obtain ⟨s0,hs0⟩:∃ s0,decide (y0<0)=s0:=⟨_,rfl⟩
  rw [hs0] at PT PA;have PT:=KO PT;have PW:=KO PW;have PA:=KO PA;replace hz2:=KO hz2;clear hz1 hs0 hq0 hq1 d0 d1 d2 hrz
  go_wp2_with ((with_reducible refine (PT.out _ _ _ hov.out).mono ?_);rintro e w5 ⟨vc,rfl,hoc,hbc⟩;obtain ⟨ac,KX,rfl,hmc,LF⟩:=aF.view hoc;have r5:=c2.keep hbc;have b5:=c1.keep hbc;have p0:=r5.c0;have p1:=r5.c1;have g0:=r5.f0;have g1:=r5.f1;have z5:=r5.size;have y5:=b5.size;have x0:=b5.c0;clear LF hmc)
  have bt:=bJ.new w5 (.bool s0) (.slice ac (Wh.a_ y0.natAbs).length KX) 145;have r6:=r5.alloc (.cells #[s0,.slice ac (Wh.a_ y0.natAbs).length KX] 145);have Tq:=aF.alloc hoc (.cells #[s0,.slice ac (Wh.a_ y0.natAbs).length KX] 145);have B6:=(p_ hwr hbc).alloc (by have:=(p_ hwr hbc).size;omega) (.cells #[s0,.slice ac (Wh.a_ y0.natAbs).length KX] 145);have u0:=bt.c0;have u1:=bt.c1;have zz:w5.heap.size<(w5.alloc (.cells #[s0,.slice ac (Wh.a_ y0.natAbs).length KX] 145)).heap.size:=bt.size;generalize (Wh.a_ y0.natAbs).length=l0,w5.alloc (.cells #[s0,.slice ac (Wh.a_ y0.natAbs).length KX] 145)=w6 at *;clear p0 p1 g0 g1 x0
  go_region_held3 (fun W=>W.cell? ⟨w5,0,none⟩=some (.bool s0)/\W.cell? ⟨w5,1,none⟩=some (.slice ac l0 KX)) (first | exact ⟨hlA,hlA⟩ | (go_split_ands;exact ⟨hlA,hlA⟩) | go_keep) ((first
   | ((with_reducible refine (PW.out _).mono ?_);rintro e w7 ⟨v7,rfl,Nx,KY⟩;(have Tp:aF _ _ _ (Wh.a_ (1:Int).natAbs):=Nx);have Qx:=aE KY (ak u0);have MH:=aE KY (ak u1);have r7:=r6.drew.keep KY;have B7:=B6.drew.trans (KY.mono B6.size);have Tr:=aF.below (aF.below Tq (KS _ _).drew) KY;(have z7:w6.heap.size<=w7.heap.size:=KY.size))
   | ((with_reducible refine (PA.out _ _ _ _ _ Tr Tp).mono ?_);rintro e w8 ⟨v8,rfl,Me,Ko⟩;obtain ⟨a8,RE,rfl,W1,hv8⟩:=aF.view Me;have y0_:=aE Ko Qx;have Pl:=aE Ko MH;have r8:=r7.keep Ko;have p0:=r8.c0;have p1:=r8.c1;have g0:=r8.f0;have g1:=r8.f1;have B8:=p_ B7 Ko;clear hv8 W1)
   | fail "ARMS"))
  all_goals
   have hr:=dM (w:=w) (w.heap.size+1) _ (.bool s) ω r7.size Me B8;generalize (Wh.a_ z.natAbs).length=ND at *;go_wp2
   have hwz:IntKind.i64.wrap (n - rr)=n - rr:=by
    rw [IntKind.wrap_i64];omega
   exact KU (v:=.tuple #[.agg #[s,.slice a8 ND RE],(n - rr:Int)]) results195 ⟨_,by rw [hz2.out],hr.1,hr.2⟩
 | succ j=>
 exact YD
theorem YW {p:Prop} (h:p:=by
 rw [decide_eq_false (show ¬ ((m:Int)<0) by omega)] at h
 refine h.mono fun e w' ⟨sl',h1,h2,h3⟩=>⟨sl',?_,?_,h3⟩
 ·rw [h1,decide_eq_false (show ¬ ((m:Int) / (n:Int)<0) by have:=Int.ediv_nonneg (a:=(m:Int)) (b:=(n:Int)) ω ω;omega),←Int.natCast_emod]
 unfold af at h2
 rwa [←Int.natCast_ediv,Int.natAbs_natCast] at h2):p:=h
namespace Wh
def bl (n:Nat):Nat:=if n=0 then 0 else Nat.log2 n+1
theorem FM:bl 0=0:=rfl
theorem tA {n:Nat} (h:n≠0):bl n=bl (n / 2)+1:=by
 unfold bl;rw [if_neg h,Nat.log2_def]
 by_cases h2:2<=n
 ·rw [if_pos h2,if_neg ω]
 rw [if_neg h2,if_pos ω]
theorem qD:∀ (k n:Nat),2 ^ k<=n->bl n=bl (n / 2 ^ k)+k
 | 0,n,_=>σ
 | k+1,n,h=>by
  have hp:0<2 ^ k:=Nat.pow_pos δ
  have h1:2 ^ k<=n / 2:=by
   rw [Nat.pow_succ] at h;exact (Nat.le_div_iff_mul_le δ).2 h
  rw [tA (n:=n) (by rw [Nat.pow_succ] at h;omega),qD k (n / 2) h1,Nat.div_div_eq_div_mul,Nat.pow_succ,Nat.mul_comm 2];omega
theorem Cb (n:Nat) (h:n<18446744073709551616):Lib.bitLen n=bl n:=by
 induction n using Nat.strongRecOn with
 | ind n ih=>
 by_cases h0:n=0
 ·subst h0;rfl
 rw [Lib.bitLen_half n h0 h,tA h0,ih (n / 2) ω ω];omega
theorem wY {l:List Int} (h:bR l) (k:Nat):val (l.drop k)<=val l:=by
 have e:=jQ (l.take k) (l.drop k);rw [List.take_append_drop] at e;have h1:=du (iQ h k);have h2:=du (ng h k);have h3:=Int.mul_le_mul_of_nonneg_right (show (1:Int)<=10000 ^ (l.take k).length by have:=pow_pos (l.take k).length;omega) h2;omega
theorem ye {n k:Nat} (h:k<(a_ n).length):10000 ^ k<=n:=by
 by_cases h':n<10000 ^ k
 ·have:=eV h';omega
 omega
theorem nT {n k:Nat} (h:(a_ n).length<=k):(n:Int)<10000 ^ k:=by
 have h1:=iI (bG n);rw [bS] at h1;have:=ny h;omega
end Wh
theorem aF.past {w:World} {base c:Nat} {sl:Value} {xs:List Int} (h:aF w base sl xs) (hc:c<base) (u v:Value):aF ((w.setCell ⟨c,0,none⟩ u).setCell ⟨c,1,none⟩ v) base sl xs:=by
 refine World.ownsRow.kept h (dT w c u v) ?_
 cases hs:sl.ownBlock with
 | none=>exact Or.inl rfl
 | some g=>
 right
 intro e
 injection e with e
 have:=(aF.lt h g hs).1;omega
theorem oY (a:Int) (sl:Value) (w:World) (base:Nat) (ho:af w base sl a) (hl:(Wh.a_ a.natAbs).length<=1000000) :
  Calls prog 185 #[.agg #[decide (a<0),sl]] w fun e w'=>∃ sl',e=.returned (.agg #[false,sl'])/\aF w' w sl' (Wh.a_ a.natAbs)/\Below w w w':=by
 refine (xB a sl w base ho hl).mono fun e w' ⟨sl',h1,h2,h3⟩=>⟨sl',?_,?_,h3⟩
 ·rw [h1,decide_eq_false (show ¬ ((a.natAbs:Int)<0) by omega)]
 unfold af at h2
 rwa [Int.natAbs_natCast] at h2
theorem ol (m n:Nat) (va:Value) (w:World) (ba:Nat) (hoa:aF w ba va (Wh.a_ m)) (hl:(Wh.a_ m).length<=9000) (hn1:1<=n) (hn2:n<=1000000000000) :
  Calls prog 182 #[.agg #[false,va],.int .i64 (n:Int)] w fun e w'=>∃ sl,e=.returned (.tuple #[.agg #[false,sl],.int .i64 ((m % n:Nat):Int)])/\aF w' w sl (Wh.a_ (m / n))/\Below w w w':=by
 have h:=lX (m:Int) (n:Int) va w ba (by unfold af;rwa [Int.natAbs_natCast]) (by rwa [Int.natAbs_natCast]) ω ω;exact YW
theorem ul (a:Int) (va:Value) (w:World) (ba:Nat) (hoa:af w ba va a) (hl:(Wh.a_ a.natAbs).length<=9000) (hbl:Wh.bl a.natAbs<=1000000) :
  cB 165 #[.agg #[decide (a<0),va]] w (.int .i64 (Wh.bl a.natAbs:Nat)):=by
 obtain ⟨aa,y_,rfl,-,-⟩:=aF.view hoa
 have PA:=fun W (h:aF W ba (.slice aa (Wh.a_ a.natAbs).length y_) (Wh.a_ a.natAbs))=>oY a (.slice aa (Wh.a_ a.natAbs).length y_) W ba h ω
 have PD:=fun (m:Nat) (hm:(Wh.a_ m).length<=9000) va W b (h:aF W b va (Wh.a_ m))=>ol m 67108864 va W b h hm ω ω
 rw [show ((67108864:Nat):Int)=67108864 from rfl] at PD;replace PD:=KO PD;generalize decide (a<0)=s1 at *;replace hoa:=KO (show aF _ _ _ _ from hoa);generalize a.natAbs=N at *;have b1:=bJ.new w (.bool s1) (.slice aa (Wh.a_ N).length y_) 145;have hB:=(KS w w).alloc (KT _) (.cells #[s1,.slice aa (Wh.a_ N).length y_] 145);have ho1:=aF.alloc hoa.out (.cells #[s1,.slice aa (Wh.a_ N).length y_] 145);generalize hw3:w.alloc (.cells #[s1,.slice aa (Wh.a_ N).length y_] 145)=w3 at *;replace PA:=KO PA;have e1:=b1.c0;have e2:=b1.c1;have hz3:=b1.size;go_enter func165,ntmps165
 go_wp2_with ((with_reducible refine (PA.out _ ho1).mono ?_);rintro e w4 ⟨v4,rfl,Ks,hb4⟩;obtain ⟨a4,cap4,rfl,VZ,hv4⟩:=aF.view Ks;have r4:=b1.keep hb4;have c0:=r4.c0;have c1:=r4.c1;have g0:=r4.f0;have g1:=r4.f1;clear hv4 VZ)
 have rs:=r4.store (.bool false) (.slice a4 (Wh.a_ N).length cap4);have os:=aF.past (aF.base (base':=w.heap.size+1) Ks ω) (Nat.lt_succ_self _) (.bool false) (.slice a4 (Wh.a_ N).length cap4);have Bs:=((p_ hB hb4).setCell (p:=⟨w,0,none⟩) (KT _) (.bool false)).setCell (p:=⟨w,1,none⟩) (KT _) (.slice a4 (Wh.a_ N).length cap4);clear r4 c0 c1 g0 g1 e1 e2 Ks hb4 b1 hB ho1
 go_loopw [3] (fun vb wr=>∃ (m c:Nat) (ax:Option Addr) (cx:Nat),vb=.int .i64 c/\c+Wh.bl m=Wh.bl N/\(Wh.a_ m).length<=(Wh.a_ N).length/\Hid (bJ wr w (.bool false) (.slice ax (Wh.a_ m).length cx))/\aF wr (w.heap.size+1) (.slice ax (Wh.a_ m).length cx) (Wh.a_ m)/\Below w w wr) (fun vb _=>Wh.bl N - (intOf vb).toNat)
 case atStart=>exact ⟨N,0,a4,cap4,rfl,Nat.zero_add _,KT _,KO rs,os,Bs⟩
 case round=>
 clear rs os Bs;obtain ⟨m,c,ax,cx,rfl,hc,hml,LT,hown,hbr⟩:=hrel;have c0:=LT.out.c0;have c1:=LT.out.c1;have Ny:=LT.out.size
 by_cases h2:2<(Wh.a_ m).length
 ·have hbig:=ye h2
  have hsh:=qD 26 m ω;rw [show 2 ^ 26=67108864 from rfl] at hsh;have hml2:=gF (Nat.div_le_self m 67108864);have PX:=PD.out m ω;have PX:=KO PX;generalize m % 67108864=rr,m / 67108864=m2 at *;have hown:=KO hown;clear hbig;generalize hlm:(Wh.a_ m).length=lm at *
  go_wp2_with ((with_reducible refine (PX.out _ _ _ hown.out).mono ?_);rintro e w5 ⟨v5,rfl,LZ,hb5⟩;obtain ⟨a5,cap5,rfl,RS,hv5⟩:=aF.view LZ;have r5:=LT.out.keep hb5;have d0:=r5.c0;have d1:=r5.c1;have g0:=r5.f0;have g1:=r5.f1;clear hv5 RS)
  go_roundw
  case rel=>exact ⟨m2,c+26,a5,cap5,ν,ω,ω,KO (r5.store _ _),aF.past (aF.base LZ ω) (Nat.lt_succ_self _) _ _,((p_ hbr hb5).setCell (KT _) _).setCell (KT _) _⟩
  case measure=>simp [intOf];omega
 have hsm:=nT (n:=m) (k:=2) ω
 have W1:(m:Int)<=99999999:=by
  have:(10000:Int) ^ 2=100000000:=δ
  omega
 have hld:=KO (bG m);have hvd:=KO (bS m)
 have PB:=fun W=>Tryz.bits_Len (m:Int) W ω ω
 rw [Int.toNat_natCast,Cb m ω] at PB;have hc2:=KO hc
 have MR:Wh.bl m<=Wh.bl N:=ω
 obtain ⟨ad,capd,ed,hmd,hvs⟩:=aF.seen hown
 injection ed with e1 e2 e3
 subst e1 e3;replace hvs:=KO hvs;clear hsm hml hown PD hc hmd e2
 have hb0:Hid (m=0->Wh.bl m=0):=KO fun h=>by rw [h];rfl
 generalize Wh.a_ m=ds,Wh.bl m=bm at *;replace PB:=KO PB
 have hln:ds.length<=2:=ω
 clear h2;go_wp2
 go_loopw [4,5] (fun vn vi wq=>∃ (k:Nat),k<=ds.length/\vi=.int .i64 ((k:Int) - 1)/\vn=.int .i64 (Wh.val (ds.drop k))/\Below wr wr wq) (fun _ vi _=>(intOf vi+1).toNat)
 case atStart=>exact ⟨ds.length,KT _,rfl,by rw [List.drop_length];rfl,KS _ _⟩
 case round=>
 obtain ⟨k,hk,rfl,rfl,hbq⟩:=hrel;have f1:=aE hbq c1;have hdn:=du (ng hld.out k);have hdl:=wY hld.out k;rw [hvd.out] at hdl
 cases k with
 | zero=>
  have hv0:Wh.val (ds.drop 0)=m:=by rw [List.drop_zero];exact hvd.out
  rw [hv0];clear hv0 hdn hdl
  by_cases hm0:m=0
  ·have hcn:Hid (Wh.bl N=c):=KO (by have:=hc2.out;have:=hb0.out hm0;omega)
   subst hm0;go_wp2;go_ret;exact ⟨by rw [hcn.out] <;> rfl,p_ hbr hbq⟩
  have hcn:Hid (((Wh.bl N:Nat):Int)=(c:Int)+bm):=KO (by have:=hc2.out;omega)
  have hcb:c<=1000000:=by have:=hc2.out;omega
  have hm1:0<(m:Int):=ω
  go_wp2_with (go_at_call 167;(refine (PB.out _).mono ?_);rintro e w6 ⟨rfl,rfl⟩)
  go_ret;exact ⟨by rw [hcn.out] <;> rfl,p_ hbr hbq⟩
 | succ j=>
 obtain ⟨gx,x,ex,hgx,hxx,hcx⟩:=hvs.out j ω;subst ex;have hcx:=aE hbq hcx;have hvj:=rJ hxx.out;have hlx:=hld.out x (List.mem_of_getElem? hxx.out);unfold Wh.lim at hlx;have hvj2:=KO (show Wh.val (ds.drop j)=Wh.val (ds.drop (j+1))*10000+x by rw [hvj];omega)
 have hbv:Wh.val (ds.drop (j+1))<=100000000:=ω
 clear hvj hxx hdl;generalize Wh.val (ds.drop (j+1))=v1 at *;go_wp2
 go_roundw
 case rel=>exact ⟨j,ω,ν,by rw [hvj2.out],hbq⟩
 case measure=>exact Uy
theorem AQ (N:Nat) (v:Value) (w:World) (base:Nat) (hown:aF w base v (Wh.a_ N)) (hl:(Wh.a_ N).length<=1000000) :
  Calls prog 197 #[false,v] w fun e w'=>∃ sl,e=.returned (.agg #[false,sl])/\aF w' w sl (Wh.a_ N)/\Below w w w':=by
 have h:=kW (N:Int) false (Wh.a_ N) v w base hown (bG N) hl (by rw [bS];rfl)
 refine h.mono fun e w' ⟨sl',h1,h2,h3⟩=>⟨sl',?_,?_,h3⟩
 ·rw [h1,decide_eq_false (show ¬ ((N:Int)<0) by omega)]
 unfold af at h2
 rwa [Int.natAbs_natCast] at h2
theorem AV (m n:Nat) (va:Value) (w:World) (ba:Nat) (hoa:aF w ba va (Wh.a_ m)) (hl:(Wh.a_ m).length<=9000) (hn1:1<=n) (hn2:n<=1000000000000) :
  Calls prog 195 #[.agg #[false,va],.int .i64 (n:Int)] w fun e w'=>∃ sl,e=.returned (.tuple #[.agg #[false,sl],.int .i64 ((m % n:Nat):Int)])/\aF w' w sl (Wh.a_ (m / n))/\Below w w w':=by
 have h:=gV (m:Int) (n:Int) va w ba (by unfold af;rwa [Int.natAbs_natCast]) (by rwa [Int.natAbs_natCast]) ω ω;exact YW
theorem Wh.Dy {m:Nat} (h:(a_ m).length<=1):nth (a_ m) 0=m:=by
 have hv:=bS m
 cases hd:a_ m with
 | nil=>rw [hd] at hv;rw [←hv];rfl
 | cons x l=>
 rw [hd] at h hv
 cases l with
 | nil=>rw [←hv];show x=x+10000*0;omega
 | cons y t=>simp at h
theorem pw (a:Int) (va:Value) (w:World) (ba:Nat) (hoa:af w ba va a) (hl:(Wh.a_ a.natAbs).length<=9000) (hbl:Wh.bl a.natAbs<=1000000) :
  cB 171 #[.agg #[decide (a<0),va]] w (.int .i64 (Wh.bl a.natAbs:Nat)):=by
 obtain ⟨aa,y_,rfl,-,-⟩:=aF.view hoa
 have PA:=fun W (h:aF W ba (.slice aa (Wh.a_ a.natAbs).length y_) (Wh.a_ a.natAbs))=>AQ a.natAbs (.slice aa (Wh.a_ a.natAbs).length y_) W ba h ω
 have PD:=fun (m:Nat) (hm:(Wh.a_ m).length<=9000) va W b (h:aF W b va (Wh.a_ m))=>AV m 4096 va W b h hm ω ω
 rw [show ((4096:Nat):Int)=4096 from rfl] at PD;replace PD:=KO PD
 have PL:=fun (m:Nat) va W b (h:aF W b va (Wh.a_ m))=>jj (Wh.a_ m) va 0 W b h
 rw [show ((0:Nat):Int)=0 from rfl] at PL;replace PL:=KO PL;generalize decide (a<0)=s1 at *;replace hoa:=KO (show aF _ _ _ _ from hoa);generalize a.natAbs=N at *;have b1:=bJ.new w (.bool s1) (.slice aa (Wh.a_ N).length y_) 145;have hB:=(KS w w).alloc (KT _) (.cells #[s1,.slice aa (Wh.a_ N).length y_] 145);have ho1:=aF.alloc hoa.out (.cells #[s1,.slice aa (Wh.a_ N).length y_] 145);generalize hw3:w.alloc (.cells #[s1,.slice aa (Wh.a_ N).length y_] 145)=w3 at *;replace PA:=KO PA;have e2:=b1.c1;have hz3:=b1.size;go_enter func171,ntmps171
 go_wp2_with ((with_reducible refine (PA.out _ ho1).mono ?_);rintro e w4 ⟨v4,rfl,Ks,hb4⟩;obtain ⟨a4,cap4,rfl,VZ,hv4⟩:=aF.view Ks;clear hv4 VZ)
 have rs:=bJ.new w4 (.bool false) (.slice a4 (Wh.a_ N).length cap4) 145;have os:=aF.alloc Ks (.cells #[false,.slice a4 (Wh.a_ N).length cap4] 145);have B4:=p_ hB hb4;have Bs:=B4.alloc B4.size (.cells #[false,.slice a4 (Wh.a_ N).length cap4] 145);have MG:=B4.size;have W5:=KO Ks;have hz34:=hb4.size;clear e2 Ks hb4 b1 hB ho1 B4
 have ne:(Value.slice a4 (Wh.a_ N).length cap4).ownBlock≠some w4.heap.size:=fun e=>by
  have:=(aF.lt W5.out _ e).2;omega
 clear W5
 go_loopw [3] (fun vb wr=>∃ (m c:Nat) (ax:Option Addr) (cx:Nat),vb=.int .i64 c/\c+Wh.bl m=Wh.bl N/\(Wh.a_ m).length<=(Wh.a_ N).length/\Hid (bJ wr w4 (.bool false) (.slice ax (Wh.a_ m).length cx))/\Hid ((Value.slice ax (Wh.a_ m).length cx).ownBlock≠some w4.heap.size)/\aF wr w3 (.slice ax (Wh.a_ m).length cx) (Wh.a_ m)/\Below w w wr) (fun vb _=>Wh.bl N - (intOf vb).toNat)
 case atStart=>exact ⟨N,0,a4,cap4,rfl,Nat.zero_add _,KT _,KO rs,KO ne,os,Bs⟩
 case round=>
 clear rs os Bs ne;obtain ⟨m,c,ax,cx,rfl,hc,hml,LT,hne,hown,hbr⟩:=hrel;have c0:=LT.out.c0;have c1:=LT.out.c1;have Ny:=LT.out.size
 by_cases h2:1<(Wh.a_ m).length
 ·have hbig:=ye h2
  have hsh:=qD 12 m ω;rw [show 2 ^ 12=4096 from rfl] at hsh;have hml2:=gF (Nat.div_le_self m 4096);have PX:=PD.out m ω;replace PX:=KO PX;generalize m % 4096=rr,m / 4096=m2 at *;replace hown:=KO hown;clear hbig;generalize hlm:(Wh.a_ m).length=lm at *
  go_wp2_with ((with_reducible refine (PX.out _ _ _ hown.out).mono ?_);rintro e w5 ⟨v5,rfl,LZ,hb5⟩;obtain ⟨a5,cap5,rfl,RS,hv5⟩:=aF.view LZ;have r5:=LT.out.keep hb5;have d0:=r5.c0;have d1:=r5.c1;have g0:=r5.f0;have g1:=r5.f1;clear hv5 RS)
  have ne5:(Value.slice a5 (Wh.a_ m2).length cap5).ownBlock≠some w4.heap.size:=fun e=>by
   have:=(aF.lt LZ _ e).1;omega
  have hkp:=fun u v=>World.ownsRow.kept (aF.base (base':=w3.heap.size) LZ ω) (dT w5 w4 u v) (Or.inr ne5)
  go_roundw
  case rel=>exact ⟨m2,c+12,a5,cap5,ν,ω,ω,KO (r5.store _ _),KO ne5,hkp _ _,((p_ hbr hb5).setCell ω _).setCell ω _⟩
  case measure=>simp [intOf];omega
 have hsm:=nT (n:=m) (k:=1) ω
 have W1:(m:Int)<=9999:=by
  have:(10000:Int) ^ 1=10000:=δ
  omega
 have PX:=PL.out m;rw [Dy ω] at PX;replace PX:=KO PX;have hc2:=KO hc;replace hown:=KO hown
 have hcb:c<=Wh.bl N:=ω
 clear hsm hml PD hc
 go_wp2_with (with_reducible refine Kw (PX.out _ _ _ hown.out) ?_)
 go_loopw [3,5] (fun vb vn wq=>∃ (m2 c2:Nat),vb=.int .i64 c2/\vn=.int .i64 m2/\c2+Wh.bl m2=Wh.bl N/\m2<=9999/\Below w w wq) (fun _ vn _=>(intOf vn).toNat)
 case atStart=>exact ⟨m,c,rfl,rfl,hc2.out,ω,hbr⟩
 case round=>
 obtain ⟨m2,c2,rfl,rfl,hcc,hm9,hbq⟩:=hrel
 by_cases hm0:m2=0
 ·have hcn:Hid (Wh.bl N=c2):=KO (by rw [hm0] at hcc;have:=FM;omega)
  subst hm0;clear hcc;go_wp2;go_ret;exact ⟨by rw [hcn.out] <;> rfl,hbq⟩
 have hh:=tA hm0
 have t2:Int.tdiv (m2:Int) 2=((m2 / 2:Nat):Int):=by rw [Int.tdiv_eq_ediv_of_nonneg ω];omega
 have hm1:0<(m2:Int):=ω
 have hlt:m2 / 2<m2:=ω
 have hcb2:c2<=Wh.bl N:=ω
 have Td:Hid (c2+1+Wh.bl (m2 / 2)=Wh.bl N):=KO ω;clear hcc hh;generalize m2 / 2=m3 at *;go_wp2
 go_roundw
 case rel=>exact ⟨m3,c2+1,ν,ν,Td.out,ω,hbq⟩
 case measure=>simp [intOf];omega
theorem Zt {p:Prop} (h:p:=by
 go_wp2_with (with_reducible refine Kw (PI.out _) ?_)
 go_roundw
 case rel=>exact ⟨k+1,ω,ν,hbr⟩
 case measure=>simp [intOf];omega):p:=h
namespace Wh
theorem wW:∀ l:List Int,(trim l).length<=l.length
 | []=>KT _
 | x :: l=>by
  have ih:=wW l
  show (match trim l with
   | []=>if x=0 then [] else [x]
   | y :: t=>x :: y :: t).length<=(x :: l).length
  split
  ·split <;> simp
  rename_i y t h
  rw [h] at ih
  simpa using ih
theorem vA {m n:Nat} (h:(a_ m).length=n+1):∃ x,(a_ m)[n]?=some x/\0<x:=by
 have hx:(a_ m)[n]?=some (a_ m)[n]:=List.getElem?_eq_getElem ω;refine ⟨_,hx,?_⟩;have h0:=(bG m _ (List.mem_of_getElem? hx)).1
 by_cases hz:(a_ m)[n]=0
 ·have ht:=C8 m
  have hs:a_ m=(a_ m).take n ++ [0]:=by
   have:=(List.take_append_drop n (a_ m)).symm;rw [List.drop_eq_getElem_cons ω,hz,List.drop_eq_nil_of_le ω] at this;exact this
  rw [hs,oW] at ht;have h1:=wW ((a_ m).take n);rw [ht,List.length_append,List.length_take] at h1;simp at h1
  omega
 omega
end Wh
theorem sK (z:Int) (va:Value) (w:World) (ba:Nat) (ho:af w ba va z) (hl:(Wh.a_ z.natAbs).length<=100000) :
  cB 205 #[.agg #[decide (z<0),va]] w (decide ((Wh.a_ z.natAbs).length<=400)):=by
 obtain ⟨aa,y_,rfl,hma,hva⟩:=aF.seen ho;have hva:=KO hva;have hla:=KO (bG z.natAbs)
 have hls:=fun n h=>vA (m:=z.natAbs) (n:=n) h
 have hz0:Hid ((Wh.a_ z.natAbs).length=0->decide (z<0)=false):=KO fun h=>by
  have:=kZ.1 (List.length_eq_zero_iff.1 h);exact decide_eq_false ω
 clear hma ho;generalize Wh.a_ z.natAbs=xs,decide (z<0)=s1 at *;have hls:=KO hls;have b1:=bJ.new w (.bool s1) (.slice aa xs.length y_) 145;have hB:=(KS w w).alloc (KT _) (.cells #[s1,.slice aa xs.length y_] 145)
 by_cases h4:xs.length<=400
 ·rw [decide_eq_true h4]
  generalize hw3:w.alloc (.cells #[s1,.slice aa xs.length y_] 145)=w3 at *;have e1:=b1.c0;have e2:=b1.c1
  by_cases hn:xs.length=0
  ·have hs:=hz0.out hn
   subst hs;have hn1:=KO hn;rw [hn] at e2 hw3 ⊢;clear hn hls hz0 b1 hl h4;go_enter func205,ntmps205
   go_wp2;clear e1 e2
   go_loopw [5,35] (fun _ vi wr=>∃ k:Nat,k<=0/\vi=.int .i64 k/\Below w3 w3 wr) (fun _ vi _=>0 - (intOf vi).toNat)
   case atStart=>exact ⟨0,Nat.zero_le _,rfl,KS _ _⟩
   case round=>
   obtain ⟨k,hk,rfl,hbr⟩:=hrel
   by_cases hlt:k<0
   ·obtain ⟨gb,y,eb,hgb,hyb,hcb⟩:=hva.out k (by rw [hn1.out];exact hlt)
    exact absurd hlt (Nat.not_lt_zero _)
   obtain rfl:k=0:=ω
   go_wp2;go_ret;exact ⟨rfl,p_ hB hbr⟩
  obtain ⟨n,hn1⟩:∃ n,xs.length=n+1:=⟨xs.length - 1,ω⟩
  obtain ⟨x,hx,hx0⟩:=hls.out n hn1;obtain ⟨ga,x',ea,hga,hxa,hca⟩:=hva.out n ω;subst ea;obtain rfl:=Option.some.inj (hx.symm.trans hxa.out);have QN:=hB.cell (p:=⟨ga,n,none⟩) hga;have OP:=QN.trans hca
  have hxn:¬ x=0:=ω
  have h4':n+1<=400:=ω
  have hd1:decide (400<(n:Int)+1)=false:=decide_eq_false ω;have hd2:(x == 0)=false:=beq_eq_false_iff_ne.2 hxn;have hd3:((n:Int)+1 == 0)=false:=beq_eq_false_iff_ne.2 ω;rw [hn1] at e2 hw3 ⊢;replace hn1:=KO hn1;clear hca QN hx hn hxa hls hz0 b1 hl h4;go_enter func205,ntmps205
  go_wp2;clear e1 e2 OP hxn hx0 hd1 hd2 hd3
  go_loopw [5,35] (fun _ vi wr=>∃ k:Nat,k<=n+1/\vi=.int .i64 k/\Below w3 w3 wr) (fun _ vi _=>n+1 - (intOf vi).toNat)
  case atStart=>exact ⟨0,Nat.zero_le _,rfl,KS _ _⟩
  case round=>
  obtain ⟨k,hk,rfl,hbr⟩:=hrel
  by_cases hlt:k<n+1
  ·obtain ⟨gb,y,eb,hgb,hyb,hcb⟩:=hva.out k (by rw [hn1.out];exact hlt)
   obtain rfl:ga=gb:=by simpa using eb
   have hcb:=((p_ hB hbr).cell (p:=⟨ga,k,none⟩) hgb).trans hcb;have SQ:=hla.out y (List.mem_of_getElem? hyb.out)
   have PI:=fun W=>dW y 0 9999 W
   rw [show M.ins y 0 9999=true by unfold M.ins;unfold Wh.lim at SQ;simp;omega] at PI;replace PI:=KO PI;clear hyb SQ
   exact Zt
  obtain rfl:k=n+1:=ω
  go_wp2;go_ret;exact ⟨rfl,p_ hB hbr⟩
 rw [decide_eq_false h4];go_enter func205,ntmps205
 go_wp2;go_ret;exact ⟨rfl,hB⟩
theorem vT (l:List Int) (v:Value) (w:World) (base:Nat) (hown:aF w base v l) (h:Wh.bR l) (hl:l.length<=100000) :
  cB 82 #[v,(0:Int),(9999:Int)] w true:=by
 obtain ⟨a,cap,rfl,hm,hv⟩:=hown.seen;have hv:=KO hv;have h:=KO h;clear hm hown;go_enter func82,ntmps82
 go_wp2
 go_loopw [8,11] (fun _ vi wr=>∃ k:Nat,k<=l.length/\vi=.int .i64 k/\Below w w wr) (fun _ vi _=>l.length - (intOf vi).toNat)
 case atStart=>exact ⟨0,Nat.zero_le _,rfl,KS _ _⟩
 case round=>
 obtain ⟨k,hk,rfl,hbr⟩:=hrel
 by_cases hlt:k<l.length
 ·obtain ⟨g,y,rfl,hg,hy,hcell⟩:=hv.out k hlt
  have hc:=aE hbr hcell;have SQ:=h.out y (List.mem_of_getElem? hy.out)
  have PI:=fun W=>eW y 0 9999 W
  rw [show M.ins y 0 9999=true by unfold M.ins;unfold Wh.lim at SQ;simp;omega] at PI;replace PI:=KO PI;clear hcell hy SQ
  exact Zt
 obtain rfl:k=l.length:=ω
 go_wp2;go_ret;exact ⟨rfl,hbr⟩
theorem uk (z:Int) (va:Value) (w:World) (ba:Nat) (ho:af w ba va z) (hl:(Wh.a_ z.natAbs).length<=100000) :
  cB 209 #[.agg #[decide (z<0),va]] w (decide ((Wh.a_ z.natAbs).length<=400)):=by
 obtain ⟨aa,y_,rfl,hma,hva⟩:=aF.seen ho;have hva:=KO hva
 have PL:=fun W (h:aF W ba (.slice aa (Wh.a_ z.natAbs).length y_) (Wh.a_ z.natAbs))=>vT (Wh.a_ z.natAbs) (.slice aa (Wh.a_ z.natAbs).length y_) W ba h (bG _) hl
 have hoo:=KO (show aF w ba (.slice aa (Wh.a_ z.natAbs).length y_) (Wh.a_ z.natAbs) from ho)
 have hls:=fun n h=>vA (m:=z.natAbs) (n:=n) h
 have hz0:Hid ((Wh.a_ z.natAbs).length=0->decide (z<0)=false):=KO fun h=>by
  have:=kZ.1 (List.length_eq_zero_iff.1 h);exact decide_eq_false ω
 clear hma ho;generalize Wh.a_ z.natAbs=xs,decide (z<0)=s1 at *;replace PL:=KO PL;replace hls:=KO hls;have b1:=bJ.new w (.bool s1) (.slice aa xs.length y_) 145;have hB:=(KS w w).alloc (KT _) (.cells #[s1,.slice aa xs.length y_] 145)
 by_cases h4:xs.length<=400
 ·rw [decide_eq_true h4]
  have ho3:=aF.alloc hoo.out (.cells #[s1,.slice aa xs.length y_] 145);generalize hw3:w.alloc (.cells #[s1,.slice aa xs.length y_] 145)=w3 at *;have PX:=PL.out w3 ho3;have e1:=b1.c0;have e2:=b1.c1;have bh:=KO b1
  by_cases hn:xs.length=0
  ·have hs:=hz0.out hn
   subst hs;rw [hn] at e2 hw3 PX ⊢;replace PX:=KO PX;rw [hn] at bh;clear hn hls hz0 b1 hl h4 ho3;go_enter func209,ntmps209
   go_wp2_with (with_reducible refine Km (PX.out) fun w5 hb5=>?_;have c5:=bh.out.keep hb5;have f1:=c5.c0;have f2:=c5.c1)
   go_ret;exact ⟨rfl,p_ hB hb5⟩
  obtain ⟨n,hn1⟩:∃ n,xs.length=n+1:=⟨xs.length - 1,ω⟩
  obtain ⟨x,hx,hx0⟩:=hls.out n hn1;obtain ⟨ga,x',ea,hga,hxa,hca⟩:=hva.out n ω;subst ea;obtain rfl:=Option.some.inj (hx.symm.trans hxa.out);have QN:=hB.cell (p:=⟨ga,n,none⟩) hga;have OP:=QN.trans hca
  have h4':n+1<=400:=ω
  have hd1:decide ((n:Int)+1<=400)=true:=decide_eq_true ω;have hd3:((n:Int)+1 == 0)=false:=beq_eq_false_iff_ne.2 ω;have hd4:decide (0<x)=true:=decide_eq_true hx0;rw [hn1] at e2 hw3 PX bh ⊢;replace hn1:=KO hn1;replace PX:=KO PX;clear hca QN hx hn hxa hls hz0 b1 hl h4 ho3;go_enter func209,ntmps209
  go_wp2_with (with_reducible refine Km (PX.out) fun w5 hb5=>?_;have c5:=bh.out.keep hb5;have f1:=c5.c0;have f2:=c5.c1;have f3:=aE hb5 OP)
  go_ret;exact ⟨rfl,p_ hB hb5⟩
 rw [decide_eq_false h4];go_enter func209,ntmps209
 go_wp2;go_ret;exact ⟨rfl,hB⟩
theorem lN (a:Int) (n:Nat) (va:Value) (w:World) (ba:Nat) (hoa:af w ba va a) (hl:(Wh.a_ a.natAbs).length<=9000) (hn1:1<=n) (hn2:n<=1000000000000) :
  cB 204 #[.agg #[decide (a<0),va],.int .i64 (n:Int)] w (.int .i64 (Nat.gcd (a.natAbs % n) n:Nat)):=by
 obtain ⟨aa,y_,rfl,-,-⟩:=aF.view hoa
 have PA:=fun W (h:aF W ba (.slice aa (Wh.a_ a.natAbs).length y_) (Wh.a_ a.natAbs))=>oY a (.slice aa (Wh.a_ a.natAbs).length y_) W ba h ω
 have PD:=fun va W b (h:aF W b va (Wh.a_ a.natAbs))=>ol a.natAbs n va W b h hl hn1 hn2
 have hlt:a.natAbs % n<n:=Nat.mod_lt _ ω
 have PG:=fun W=>qR ((a.natAbs % n:Nat):Int) (n:Int) W ω ω ω ω
 rw [show M.gcd ((a.natAbs % n:Nat):Int) (n:Int)=((Nat.gcd (a.natAbs % n) n:Nat):Int) from rfl] at PG;replace hoa:=KO (show aF _ _ _ _ from hoa);generalize a.natAbs=N,a.natAbs / n=q,a.natAbs % n=r,Nat.gcd (a.natAbs % n) n=g,decide (a<0)=s1 at *;have b1:=bJ.new w (.bool s1) (.slice aa (Wh.a_ N).length y_) 145;have hB:=(KS w w).alloc (KT _) (.cells #[s1,.slice aa (Wh.a_ N).length y_] 145);have ho1:=aF.alloc hoa.out (.cells #[s1,.slice aa (Wh.a_ N).length y_] 145);generalize hw3:w.alloc (.cells #[s1,.slice aa (Wh.a_ N).length y_] 145)=w3 at *;have e1:=b1.c0;have e2:=b1.c1;replace PA:=KO PA;replace PD:=KO PD;replace PG:=KO PG;go_enter func204,ntmps204
 go_wp2_with (first
  | ((with_reducible refine (PA.out _ ho1).mono ?_);rintro e w4 ⟨v4,rfl,Ks,hb4⟩)
  | ((with_reducible refine (PD.out _ _ _ Ks).mono ?_);rintro e w5 ⟨v5,rfl,LZ,hb5⟩;obtain ⟨a5,cap5,rfl,RS,hv5⟩:=aF.view LZ;clear hv5 RS)
  | ((with_reducible refine (PG.out _).mono ?_);rintro e w6 ⟨rfl,m6,rfl⟩))
 go_ret;have B4:=p_ hB hb4;have B5:=p_ B4 hb5;exact ⟨rfl,aP (B5.alloc B5.size _) _⟩
theorem Rs {p:Prop} (h:p:=by
 go_wp2_with (first | (with_reducible refine Km (P1.out _ (VS.out _ hB)) fun w4 hb4=>?_;have r4:=bh.out.keep hb4;have g0:=r4.c0;have g1:=r4.c1;have g2:=r4.c2;have g3:=r4.c3;have B4:=p_ hB hb4) | (with_reducible refine Km (P2.out _ (Wq.out _ B4)) fun w5 hb5=>?_;have r5:=r4.keep hb5;have k0:=r5.c0;have k1:=r5.c1;have k2:=r5.c2;have k3:=r5.c3;have B5:=p_ B4 hb5) | (with_reducible refine Kw (PI.out _) ?_))
 go_ret;exact ⟨by rw [hr.out] <;> rfl,B5⟩):p:=h
theorem Ru {p:Prop} (h:p:=by
 go_wp2_with (first | (with_reducible refine Km (P1.out _ (VS.out _ hB)) fun w4 hb4=>?_;have r4:=bh.out.keep hb4;have g0:=r4.c0;have g1:=r4.c1;have g2:=r4.c2;have g3:=r4.c3;have B4:=p_ hB hb4) | (with_reducible refine Km (P2.out _ (Wq.out _ B4)) fun w5 hb5=>?_;have r5:=r4.keep hb5;have k0:=r5.c0;have k1:=r5.c1;have k2:=r5.c2;have k3:=r5.c3;have B5:=p_ B4 hb5))
 go_ret;exact ⟨by rw [hr.out] <;> rfl,B5⟩):p:=h
theorem Yj {p:Prop} (h:p:=by
 go_wp2_with (first | (with_reducible refine Km (P1.out _ (VS.out _ hB)) fun w4 hb4=>?_;have r4:=bh.out.keep hb4;have g0:=r4.c0;have g1:=r4.c1;have g2:=r4.c2;have g3:=r4.c3;have B4:=p_ hB hb4))
 go_ret;exact ⟨by rw [hr.out] <;> rfl,B4⟩):p:=h
structure lR (w:World) (b:Nat) (u v x y:Value):Prop where
 c0:w.cell? ⟨b,0,none⟩=some u
 c1:w.cell? ⟨b,1,none⟩=some v
 c2:w.cell? ⟨b,2,none⟩=some x
 c3:w.cell? ⟨b,3,none⟩=some y
 f0:w.frozen? ⟨b,0,none⟩=false
 f1:w.frozen? ⟨b,1,none⟩=false
 f2:w.frozen? ⟨b,2,none⟩=false
 f3:w.frozen? ⟨b,3,none⟩=false
 size:b<w.heap.size
theorem lR.keep {w w':World} {b:Nat} {u v x y:Value} (h:lR w b u v x y) (hb:Below w w w'):lR w' b u v x y:=
 have hg:=bT hb none
 ⟨hg.cell h.c0 σ,hg.cell h.c1 σ,hg.cell h.c2 σ,hg.cell h.c3 σ,(Gr.frozen hg h.size σ).trans h.f0,(Gr.frozen hg h.size σ).trans h.f1,(Gr.frozen hg h.size σ).trans h.f2,(Gr.frozen hg h.size σ).trans h.f3,ou hg h.size⟩
theorem lR.new (w:World) (u v x y:Value) (T:TypeId):lR (w.alloc (.cells #[u,v,x,y] T)) w u v x y:=
 ⟨by rw [World.cell?_alloc_at _ _ _ _ rfl];rfl,by rw [World.cell?_alloc_at _ _ _ _ rfl];rfl,by rw [World.cell?_alloc_at _ _ _ _ rfl];rfl,by rw [World.cell?_alloc_at _ _ _ _ rfl];rfl,by simp [go_sem],by simp [go_sem],by simp [go_sem],by simp [go_sem],by rw [KQ];omega⟩
namespace Wh
def ew (x z:Int):Bool:=(decide ((a_ x.natAbs).length<=80) && M.ins (a_ z.natAbs).length 1 80) && !decide (z<0)
theorem wF {x z:Int} (h:¬ (a_ x.natAbs).length<=80):ew x z=false:=by unfold ew;rw [decide_eq_false h];rfl
theorem wG {x z:Int} (h:¬ (a_ z.natAbs).length<=80):ew x z=false:=by
 unfold ew;rw [show M.ins ((a_ z.natAbs).length:Int) 1 80=false by unfold M.ins;simp;omega];simp
end Wh
theorem sJ (x z:Int) (vx vz:Value) (w:World) (bx bz:Nat) (hox:af w bx vx x) (LH:af w bz vz z) (hl1:(Wh.a_ x.natAbs).length<=100000) (hl2:(Wh.a_ z.natAbs).length<=100000) :
  cB 184 #[.agg #[decide (x<0),vx,decide (z<0),vz]] w (ew x z):=by
 obtain ⟨ax,cx,rfl,-,-⟩:=aF.view hox;obtain ⟨az,cz,rfl,-,-⟩:=aF.view LH
 have P1:=fun W (h:aF W bx (.slice ax (Wh.a_ x.natAbs).length cx) (Wh.a_ x.natAbs))=>sK x (.slice ax (Wh.a_ x.natAbs).length cx) W bx h hl1
 have P2:=fun W (h:aF W bz (.slice az (Wh.a_ z.natAbs).length cz) (Wh.a_ z.natAbs))=>sK z (.slice az (Wh.a_ z.natAbs).length cz) W bz h hl2
 have VS:Hid (∀ W,Below w w W->aF W bx (.slice ax (Wh.a_ x.natAbs).length cx) (Wh.a_ x.natAbs)):=KO fun W h=>aF.below hox h
 have Wq:Hid (∀ W,Below w w W->aF W bz (.slice az (Wh.a_ z.natAbs).length cz) (Wh.a_ z.natAbs)):=KO fun W h=>aF.below LH h
 have hf1:=KO fun h=>wF (x:=x) (z:=z) h
 have hf2:=KO fun h=>wG (x:=x) (z:=z) h
 have hrt:Hid (ew x z=((decide ((Wh.a_ x.natAbs).length<=80) && M.ins (Wh.a_ z.natAbs).length 1 80) && !decide (z<0))):=KO rfl;clear hox LH;generalize Wh.a_ z.natAbs=zs,Wh.a_ x.natAbs=xs,decide (z<0)=s2,decide (x<0)=s1,ew x z=rt at *;generalize zs.length=lz,xs.length=lx at *;have b1:=lR.new w (.bool s1) (.slice ax lx cx) (.bool s2) (.slice az lz cz) 162;have hB:=(KS w w).alloc (KT _) (.cells #[s1,.slice ax lx cx,s2,.slice az lz cz] 162);generalize hw3:w.alloc (.cells #[s1,.slice ax lx cx,s2,.slice az lz cz] 162)=w3 at *;have e0:=b1.c0;have e1:=b1.c1;have e2:=b1.c2;have e3:=b1.c3;have bh:=KO b1;clear b1
 by_cases h1:lx<=400
 ·rw [decide_eq_true h1] at P1
  replace P1:=KO P1
  by_cases h2:lz<=400
  ·rw [decide_eq_true h2] at P2
   replace P2:=KO P2
   by_cases h3:lx<=80
   ·have hd:decide ((lx:Int)<=80)=true:=decide_eq_true ω
    have PI:=fun W=>dW (lz:Int) 1 80 W
    cases hi:M.ins (lz:Int) 1 80
    ·have hr:Hid (rt=false):=KO (by rw [hrt.out,hi,Bool.and_false];rfl)
     rw [hi] at PI;replace PI:=KO PI;go_enter func184,ntmps184
     exact Rs
    have hr:Hid (rt=!s2):=KO (by rw [hrt.out,hi,decide_eq_true h3];rfl);rw [hi] at PI;replace PI:=KO PI;go_enter func184,ntmps184
    exact Rs
   have hd:decide ((lx:Int)<=80)=false:=decide_eq_false ω;have hr:=KO (hf1.out h3);go_enter func184,ntmps184
   exact Ru
  rw [decide_eq_false h2] at P2;replace P2:=KO P2;have hr:=KO (hf2.out ω);go_enter func184,ntmps184
  exact Ru
 rw [decide_eq_false h1] at P1;replace P1:=KO P1;have hr:=KO (hf1.out ω);go_enter func184,ntmps184
 exact Yj
theorem wl (x z:Int) (vx vz:Value) (w:World) (bx bz:Nat) (hox:af w bx vx x) (LH:af w bz vz z) (hl1:(Wh.a_ x.natAbs).length<=100000) (hl2:(Wh.a_ z.natAbs).length<=100000) :
  cB 196 #[.agg #[decide (x<0),vx,decide (z<0),vz]] w (ew x z):=by
 obtain ⟨ax,cx,rfl,-,-⟩:=aF.view hox;obtain ⟨az,cz,rfl,-,-⟩:=aF.view LH
 have P1:=fun W (h:aF W bx (.slice ax (Wh.a_ x.natAbs).length cx) (Wh.a_ x.natAbs))=>uk x (.slice ax (Wh.a_ x.natAbs).length cx) W bx h hl1
 have P2:=fun W (h:aF W bz (.slice az (Wh.a_ z.natAbs).length cz) (Wh.a_ z.natAbs))=>uk z (.slice az (Wh.a_ z.natAbs).length cz) W bz h hl2
 have VS:Hid (∀ W,Below w w W->aF W bx (.slice ax (Wh.a_ x.natAbs).length cx) (Wh.a_ x.natAbs)):=KO fun W h=>aF.below hox h
 have Wq:Hid (∀ W,Below w w W->aF W bz (.slice az (Wh.a_ z.natAbs).length cz) (Wh.a_ z.natAbs)):=KO fun W h=>aF.below LH h
 have hf1:=KO fun h=>wF (x:=x) (z:=z) h
 have hf2:=KO fun h=>wG (x:=x) (z:=z) h
 have hrt:Hid (ew x z=((decide ((Wh.a_ x.natAbs).length<=80) && M.ins (Wh.a_ z.natAbs).length 1 80) && !decide (z<0))):=KO rfl;clear hox LH;generalize Wh.a_ z.natAbs=zs,Wh.a_ x.natAbs=xs,decide (z<0)=s2,decide (x<0)=s1,ew x z=rt at *;generalize zs.length=lz,xs.length=lx at *;have b1:=lR.new w (.bool s1) (.slice ax lx cx) (.bool s2) (.slice az lz cz) 162;have hB:=(KS w w).alloc (KT _) (.cells #[s1,.slice ax lx cx,s2,.slice az lz cz] 162);generalize hw3:w.alloc (.cells #[s1,.slice ax lx cx,s2,.slice az lz cz] 162)=w3 at *;have e0:=b1.c0;have e1:=b1.c1;have e2:=b1.c2;have e3:=b1.c3;have bh:=KO b1;clear b1
 by_cases h1:lx<=400
 ·rw [decide_eq_true h1] at P1
  replace P1:=KO P1
  by_cases h2:lz<=400
  ·rw [decide_eq_true h2] at P2
   replace P2:=KO P2
   by_cases h3:lx<=80
   ·have hd:decide ((lx:Int)<=80)=true:=decide_eq_true ω
    have PI:=fun W=>eW (lz:Int) 1 80 W
    cases hi:M.ins (lz:Int) 1 80
    ·have hr:Hid (rt=false):=KO (by rw [hrt.out,hi,Bool.and_false];rfl)
     rw [hi] at PI;replace PI:=KO PI;go_enter func196,ntmps196
     exact Rs
    have hr:Hid (rt=!s2):=KO (by rw [hrt.out,hi,decide_eq_true h3];rfl);rw [hi] at PI;replace PI:=KO PI;go_enter func196,ntmps196
    exact Rs
   have hd:decide ((lx:Int)<=80)=false:=decide_eq_false ω;have hr:=KO (hf1.out h3);go_enter func196,ntmps196
   exact Ru
  rw [decide_eq_false h2] at P2;replace P2:=KO P2;have hr:=KO (hf2.out ω);go_enter func196,ntmps196
  exact Ru
 rw [decide_eq_false h1] at P1;replace P1:=KO P1;have hr:=KO (hf1.out ω);go_enter func196,ntmps196
 exact Yj
instance {w w':World} {b:Nat} {u v x y:Value}:HAdd (PLift (lR w b u v x y)) (PLift (Below w w w')) (PLift (lR w' b u v x y)):=⟨fun x h=>⟨x.down.keep h.down⟩⟩
def cK (w:World) (g:Nat) (zs:List Int):Prop:=
 ∀ (k:Nat) (z:Int),zs[k]?=some z->∃ (a:Option Addr) (cap:Nat),w.cell? ⟨g,k*2,none⟩=some (.bool (decide (z<0)))/\w.cell? ⟨g,k*2+1,none⟩=some (.slice a (Wh.a_ z.natAbs).length cap)/\aF w 0 (.slice a (Wh.a_ z.natAbs).length cap) (Wh.a_ z.natAbs)
theorem cK.below {w w':World} {g:Nat} {zs:List Int} (h:cK w g zs) (hb:Below w w w'):cK w' g zs:=fun k z hz=>by
 obtain ⟨a,cap,h1,h2,h3⟩:=h k z hz;exact ⟨a,cap,aE hb h1,aE hb h2,aF.below h3 hb⟩
def Wh.small (z:Int):Prop:=(a_ z.natAbs).length<=9000
theorem ov (zs:List Int) (g cap:Nat) (w:World) (hw:cK w g zs) (hl:zs.length<=100) (hs1:∀ z ∈ zs,Wh.small z) (hs2:∀ k,Wh.small ((zs.take k).foldl (·+·) 0)) :
  Calls prog 179 #[.slice (some ⟨g,0,none⟩) zs.length cap] w fun e w'=>∃ sl,e=.returned (.agg #[decide (zs.foldl (·+·) 0<0),sl])/\af w' w sl (zs.foldl (·+·) 0)/\Below w w w':=by
 obtain ⟨T,hT⟩:∃ T,Hid (zs.foldl (·+·) 0=T):=⟨_,KO rfl⟩
 rw [hT.out]
 obtain ⟨sT,T8⟩:∃ s,Hid (decide (T<0)=s):=⟨_,KO rfl⟩
 rw [T8.out];have hw:=KO hw;have hs1:=KO hs1;have hs2:=KO hs2;have b3:=(bJ.new w (.bool false) (.slice none 0 0) 145).alloc (.cells #[false,.slice none 0 0] 145);have b4:=bJ.new2 w (.cells #[false,.slice none 0 0] 145) (.bool false) (.slice none 0 0) 145;have hB:=((KS w w).alloc (KT _) (.cells #[false,.slice none 0 0] 145)).alloc (by rw [KQ];omega) (.cells #[false,.slice none 0 0] 145);generalize hw3:(w.alloc (.cells #[false,.slice none 0 0] 145)).alloc (.cells #[false,.slice none 0 0] 145)=w3 at *;have e0:=b4.c0;have e1:=b4.c1;have e2:=b4.f0;have e3:=b4.f1;go_enter func179,ntmps179
 go_wp2;have q4:=b4.store (.bool false) (.slice none 0 0);have q3:=b3.other (c:=w.heap.size+1) ω (.bool false) (.slice none 0 0);have qB:=(hB.setCell (p:=⟨w.heap.size+1,0,none⟩) (Nat.le_succ _) (.bool false)).setCell (p:=⟨w.heap.size+1,1,none⟩) (Nat.le_succ _) (.slice none 0 0);clear e0 e1 e2 e3
 go_loopw [9] (fun vi wr=>∃ (k:Nat) (a:Option Addr) (cx:Nat),k<=zs.length/\vi=.int .i64 k/\Hid (bJ wr (w.heap.size+1) (.bool (decide ((zs.take k).foldl (·+·) 0<0))) (.slice a (Wh.a_ ((zs.take k).foldl (·+·) 0).natAbs).length cx))/\Hid (bJ wr w (.bool false) (.slice none 0 0))/\aF wr (w.heap.size+2) (.slice a (Wh.a_ ((zs.take k).foldl (·+·) 0).natAbs).length cx) (Wh.a_ ((zs.take k).foldl (·+·) 0).natAbs)/\Below w w wr) (fun vi _=>zs.length - (intOf vi).toNat)
 case atStart=>exact ⟨0,none,0,Nat.zero_le _,rfl,by simpa [dk] using KO q4,KO q3,by simpa [dk] using aF.nil _ _,qB⟩
 case round=>
 clear b3 b4 hB q3 q4 qB;obtain ⟨k,a,cx,hk,rfl,LT,Nr,hown,hbr⟩:=hrel;have c0:=LT.out.c0;have c1:=LT.out.c1;have f0:=LT.out.f0;have f1:=LT.out.f1;have z0:=LT.out.size
 by_cases hlt:k<zs.length
 ·obtain ⟨z,hz⟩:∃ z,zs[k]?=some z:=⟨_,List.getElem?_eq_getElem hlt⟩
  obtain ⟨az,cz,d0,d1,d2⟩:=(hw.out.below hbr) k z hz;have hA:=hs2.out k;have hA2:=hs2.out (k+1);have hzs:=hs1.out z (List.mem_of_getElem? hz)
  have hnx:(zs.take (k+1)).foldl (·+·) 0=(zs.take k).foldl (·+·) 0+z:=by rw [List.take_add_one,hz,List.foldl_append];rfl
  rw [hnx] at hA2;have hnx:=KO hnx;have g0:=Nr.out.size;clear hz;generalize (zs.take k).foldl (·+·) 0=A at *;unfold Wh.small at hA hA2 hzs
  have PA:=fun W b1 b2 (h1:aF W b1 (.slice a (Wh.a_ A.natAbs).length cx) (Wh.a_ A.natAbs)) (h2:aF W b2 (.slice az (Wh.a_ z.natAbs).length cz) (Wh.a_ z.natAbs))=>ji A z (.slice a (Wh.a_ A.natAbs).length cx) (.slice az (Wh.a_ z.natAbs).length cz) W b1 b2 h1 h2 ω ω
  generalize A+z=B,decide (z<0)=sz,decide (A<0)=sA at *;generalize hsB:decide (B<0)=sB at *;generalize Wh.a_ z.natAbs=ys,Wh.a_ A.natAbs=xs at *;generalize ys.length=l2,xs.length=l1 at *;replace PA:=KO PA;have ho2:=aF.alloc hown (.cells #[sz,.slice az l2 cz] 145);have hz2:=aF.alloc d2 (.cells #[sz,.slice az l2 cz] 145)
  have bA:=(LT.out.alloc (.cells #[sz,.slice az l2 cz] 145))
  have bZ:=(Nr.out.alloc (.cells #[sz,.slice az l2 cz] 145))
  have hB2:=hbr.alloc hbr.size (.cells #[sz,.slice az l2 cz] 145);have hza:(wr.alloc (.cells #[sz,.slice az l2 cz] 145)).heap.size=wr.heap.size+1:=KQ _ _;clear d2 hown
  go_wp2_with ((with_reducible refine (PA.out _ _ _ ho2 hz2).mono ?_);rintro e w5 ⟨v5,rfl,LZ,hb5⟩;obtain ⟨a5,cap5,rfl,RS,hv5⟩:=aF.view LZ;have r5:=bA.keep hb5;have k0:=r5.c0;have k1:=r5.c1;have k2:=r5.f0;have k3:=r5.f1;have t5:=bZ.keep hb5;clear hv5 RS)
  have LN:=aF.past (aF.base (base':=w.heap.size+2) LZ ω) (Nat.lt_succ_self (w.heap.size+1)) (.bool sB) (.slice a5 (Wh.a_ B.natAbs).length cap5);have hBB:=((p_ hB2 hb5).setCell (p:=⟨w.heap.size+1,0,none⟩) (Nat.le_succ _) (.bool sB)).setCell (p:=⟨w.heap.size+1,1,none⟩) (Nat.le_succ _) (.slice a5 (Wh.a_ B.natAbs).length cap5);have q4:=r5.store (.bool sB) (.slice a5 (Wh.a_ B.natAbs).length cap5);have q3:=t5.other (c:=w.heap.size+1) ω (.bool sB) (.slice a5 (Wh.a_ B.natAbs).length cap5)
  go_roundw
  case rel=>exact ⟨k+1,a5,cap5,ω,ν,by rw [hnx.out,hsB];exact KO q4,KO q3,by rw [hnx.out];exact LN,hBB⟩
  case measure=>simp [intOf];omega
 obtain rfl:k=zs.length:=ω
 rw [List.take_length] at *;have g0:=Nr.out.c0;have g1:=Nr.out.c1;have g2:=Nr.out.f0;have g3:=Nr.out.f1;have hr:=dM (w:=w) w _ (.bool sT) (KT _) ω hown hbr;rw [hT.out] at hr c0 c1;rw [T8.out] at c0;generalize (Wh.a_ T.natAbs).length=ND at *;clear hw hs1 hs2 hown LT;go_wp2;exact KU results179 ⟨_,rfl,hr.1,hr.2⟩
theorem bk (zs:List Int) (g cap:Nat) (w:World) (hw:cK w g zs) (hl:zs.length<=100) (hs1:∀ z ∈ zs,Wh.small z) (hs2:∀ k,Wh.small ((zs.take k).foldl (·*·) 1)) :
  Calls prog 180 #[.slice (some ⟨g,0,none⟩) zs.length cap] w fun e w'=>∃ sl,e=.returned (.agg #[decide (zs.foldl (·*·) 1<0),sl])/\af w' w sl (zs.foldl (·*·) 1)/\Below w w w':=by
 obtain ⟨T,hT⟩:∃ T,Hid (zs.foldl (·*·) 1=T):=⟨_,KO rfl⟩
 rw [hT.out]
 obtain ⟨sT,T8⟩:∃ s,Hid (decide (T<0)=s):=⟨_,KO rfl⟩
 rw [T8.out];replace hw:=KO hw;replace hs1:=KO hs1;replace hs2:=KO hs2;have b3:=bJ.new w (.bool false) (.slice none 0 0) 145;have hB:=(KS w w).alloc (KT _) (.cells #[false,.slice none 0 0] 145);generalize hw3:w.alloc (.cells #[false,.slice none 0 0] 145)=w3 at *
 have PW:=fun W=>bw 1 W ω ω
 rw [decide_eq_false (show ¬ (1:Int)<0 by decide)] at PW;replace PW:=KO PW;have hz3:=b3.size;go_enter func180,ntmps180
 go_wp2_with ((with_reducible refine (PW.out _).mono ?_);rintro e w5 ⟨v5,rfl,LZ,hb5⟩;obtain ⟨a5,cap5,rfl,RS,hv5⟩:=aF.view LZ;clear hv5 RS)
 have q4:=bJ.new w5 (.bool false) (.slice a5 (Wh.a_ (1:Int).natAbs).length cap5) 145;have q3:=(b3.keep hb5).alloc (.cells #[false,.slice a5 (Wh.a_ (1:Int).natAbs).length cap5] 145);have B5:=p_ hB hb5;have qB:=B5.alloc B5.size (.cells #[false,.slice a5 (Wh.a_ (1:Int).natAbs).length cap5] 145);have qo:=aF.base (base':=w.heap.size+1) (aF.alloc LZ (.cells #[false,.slice a5 (Wh.a_ (1:Int).natAbs).length cap5] 145)) ω
 have ne:(Value.slice a5 (Wh.a_ (1:Int).natAbs).length cap5).ownBlock≠some w5.heap.size:=fun e=>by
  have:=(aF.lt LZ _ e).2;omega
 have hzc:w.heap.size<w5.heap.size:=by have:=hb5.size;omega
 generalize hC:w5.heap.size=C at q4 ne hzc ⊢;clear LZ b3 hb5 B5
 go_loopw [9] (fun vi wr=>∃ (k:Nat) (a:Option Addr) (cx:Nat),k<=zs.length/\vi=.int .i64 k/\Hid (bJ wr C (.bool (decide ((zs.take k).foldl (·*·) 1<0))) (.slice a (Wh.a_ ((zs.take k).foldl (·*·) 1).natAbs).length cx))/\Hid (bJ wr w (.bool false) (.slice none 0 0))/\aF wr (w.heap.size+1) (.slice a (Wh.a_ ((zs.take k).foldl (·*·) 1).natAbs).length cx) (Wh.a_ ((zs.take k).foldl (·*·) 1).natAbs)/\Hid ((Value.slice a (Wh.a_ ((zs.take k).foldl (·*·) 1).natAbs).length cx).ownBlock≠some C)/\Below w w wr) (fun vi _=>zs.length - (intOf vi).toNat)
 case atStart=>exact ⟨0,a5,cap5,Nat.zero_le _,rfl,KO q4,KO q3,qo,KO ne,qB⟩
 case round=>
 clear hB q3 q4 qB qo ne;obtain ⟨k,a,cx,hk,rfl,LT,Nr,hown,hne,hbr⟩:=hrel;have c0:=LT.out.c0;have c1:=LT.out.c1;have f0:=LT.out.f0;have f1:=LT.out.f1;have z0:=LT.out.size
 by_cases hlt:k<zs.length
 ·obtain ⟨z,hz⟩:∃ z,zs[k]?=some z:=⟨_,List.getElem?_eq_getElem hlt⟩
  obtain ⟨az,cz,d0,d1,d2⟩:=(hw.out.below hbr) k z hz;have hA:=hs2.out k;have hA2:=hs2.out (k+1);have hzs:=hs1.out z (List.mem_of_getElem? hz)
  have hnx:(zs.take (k+1)).foldl (·*·) 1=(zs.take k).foldl (·*·) 1*z:=by rw [List.take_add_one,hz,List.foldl_append];rfl
  rw [hnx] at hA2;have hnx:=KO hnx;have g0:=Nr.out.size;clear hz;generalize (zs.take k).foldl (·*·) 1=A at *;unfold Wh.small at hA hA2 hzs
  have PA:=fun W b1 b2 (h1:aF W b1 (.slice a (Wh.a_ A.natAbs).length cx) (Wh.a_ A.natAbs)) (h2:aF W b2 (.slice az (Wh.a_ z.natAbs).length cz) (Wh.a_ z.natAbs))=>dm A z (.slice a (Wh.a_ A.natAbs).length cx) (.slice az (Wh.a_ z.natAbs).length cz) W b1 b2 h1 h2 ω ω
  generalize A*z=B,decide (z<0)=sz,decide (A<0)=sA at *;generalize hsB:decide (B<0)=sB at *;generalize Wh.a_ z.natAbs=ys,Wh.a_ A.natAbs=xs at *;generalize ys.length=l2,xs.length=l1 at *;replace PA:=KO PA;have ho2:=aF.alloc hown (.cells #[sz,.slice az l2 cz] 145);have hz2:=aF.alloc d2 (.cells #[sz,.slice az l2 cz] 145)
  have bA:=(LT.out.alloc (.cells #[sz,.slice az l2 cz] 145))
  have bZ:=(Nr.out.alloc (.cells #[sz,.slice az l2 cz] 145))
  have hB2:=hbr.alloc hbr.size (.cells #[sz,.slice az l2 cz] 145);have hza:(wr.alloc (.cells #[sz,.slice az l2 cz] 145)).heap.size=wr.heap.size+1:=KQ _ _;clear d2 hown
  go_wp2_with ((with_reducible refine (PA.out _ _ _ ho2 hz2).mono ?_);rintro e w6 ⟨v6,rfl,SS,hb6⟩;obtain ⟨a6,cap6,rfl,hm6,hv6⟩:=aF.view SS;have r5:=bA.keep hb6;have k0:=r5.c0;have k1:=r5.c1;have k2:=r5.f0;have k3:=r5.f1;have t5:=bZ.keep hb6;clear hv6 hm6)
  have ne6:(Value.slice a6 (Wh.a_ B.natAbs).length cap6).ownBlock≠some C:=fun e=>by
   have:=(aF.lt SS _ e).1;omega
  have LN:=fun u v=>World.ownsRow.kept (aF.base (base':=w.heap.size+1) SS ω) (dT w6 C u v) (Or.inr ne6)
  have hBB:=((p_ hB2 hb6).setCell (p:=⟨C,0,none⟩) (Nat.le_of_lt hzc) (.bool sB)).setCell (p:=⟨C,1,none⟩) (Nat.le_of_lt hzc) (.slice a6 (Wh.a_ B.natAbs).length cap6);have q4:=r5.store (.bool sB) (.slice a6 (Wh.a_ B.natAbs).length cap6);have q3:=t5.other (c:=C) ω (.bool sB) (.slice a6 (Wh.a_ B.natAbs).length cap6)
  go_roundw
  case rel=>exact ⟨k+1,a6,cap6,ω,ν,by rw [hnx.out,hsB];exact KO q4,KO q3,by rw [hnx.out];exact LN _ _,by rw [hnx.out];exact KO ne6,hBB⟩
  case measure=>simp [intOf];omega
 obtain rfl:k=zs.length:=ω
 rw [List.take_length] at *;have g0:=Nr.out.c0;have g1:=Nr.out.c1;have g2:=Nr.out.f0;have g3:=Nr.out.f1;have hr:=dM (w:=w) w _ (.bool sT) (KT _) ω hown hbr;rw [hT.out] at hr c0 c1;rw [T8.out] at c0;generalize (Wh.a_ T.natAbs).length=ND at *;clear hw hs1 hs2 hown LT hne;go_wp2;exact KU results180 ⟨_,rfl,hr.1,hr.2⟩
end
section
open Gr M Rw Wh
namespace Wh
def sz (z:Int) (n:Nat):Prop:=z.natAbs<10000 ^ n
theorem aR {z:Int} {n:Nat}:(a_ z.natAbs).length<=n ↔ sz z n:=by
 constructor
 ·intro h
  have h1:=nT h;have h2:((10000 ^ n:Nat):Int)=(10000:Int) ^ n:=Int.natCast_pow 10000 n;unfold sz;generalize (10000:Int) ^ n=P at *;generalize 10000 ^ n=Q at *;omega
 intro h;exact eV h
theorem aL {z:Int} {m n:Nat} (h:sz z m) (hmn:m<=n):sz z n:=Nat.lt_of_lt_of_le h (Nat.pow_le_pow_right δ hmn)
theorem ay {x y:Int} {m n:Nat} (hx:sz x m) (hy:sz y n):sz (x*y) (m+n):=by
 unfold sz at *;rw [Int.natAbs_mul,Nat.pow_add];exact Nat.mul_lt_mul'' hx hy
theorem kT {x y:Int} {n:Nat} (hx:sz x n) (hy:sz y n):sz (x+y) (n+1):=by
 unfold sz at *;rw [Nat.pow_succ];have:=Int.natAbs_add_le x y;have hp:0<10000 ^ n:=Nat.pow_pos δ;omega
theorem oQ {x:Int} {n:Nat} (hx:sz x n):sz (-x) n:=by unfold sz at *;rwa [Int.natAbs_neg]
theorem uU {x y:Int} {n:Nat} (hx:sz x n) (hy:sz y n):sz (x - y) (n+1):=by
 rw [Int.sub_eq_add_neg];exact kT hx (oQ hy)
theorem cg {z:Int} {n:Nat} (h:sz z n) (hn:n<=9000):small z:=Nat.le_trans (aR.2 h) hn
theorem En:sz 1 1:=by unfold sz;decide
theorem Gm:sz 0 1:=by unfold sz;decide
theorem bi {n:Int} (h1:-1000000000000000000<=n) (h2:n<=1000000000000000000):sz n 5:=by
 unfold sz
 have:(10000:Nat) ^ 5=100000000000000000000:=δ
 omega
theorem AF:∀ (zs:List Int) (m:Nat),(∀ z ∈ zs,sz z m)->∀ (a:Int) (n:Nat),sz a n->sz (zs.foldl (·*·) a) (n+zs.length*m)
 | [],m,_,a,n,h=>by simpa using h
 | z :: zs,m,hz,a,n,h=>by
  rw [List.foldl_cons,List.length_cons,show n+(zs.length+1)*m=(n+m)+zs.length*m by rw [Nat.succ_mul];omega];exact AF zs m (fun y hy=>hz y (List.mem_cons_of_mem _ hy)) _ _ (ay h (hz z List.mem_cons_self))
theorem mu {zs:List Int} {m:Nat} (h:∀ z ∈ zs,sz z m) (k:Nat):sz ((zs.take k).foldl (·*·) 1) (1+zs.length*m):=by
 have:=AF (zs.take k) m (fun z hz=>h z (List.mem_of_mem_take hz)) 1 1 En;refine aL this ?_
 have:(zs.take k).length<=zs.length:=by rw [List.length_take];omega
 have:=Nat.mul_le_mul_right m this;omega
theorem Eo:∀ (zs:List Int) (m:Nat),(∀ z ∈ zs,sz z m)->∀ (a:Int) (n:Nat),m<=n->sz a n->sz (zs.foldl (·+·) a) (n+zs.length)
 | [],m,_,a,n,_,h=>by simpa using h
 | z :: zs,m,hz,a,n,hmn,h=>by
  rw [List.foldl_cons,List.length_cons,show n+(zs.length+1)=(n+1)+zs.length by omega];exact Eo zs m (fun y hy=>hz y (List.mem_cons_of_mem _ hy)) _ _ ω (kT h (aL (hz z List.mem_cons_self) hmn))
theorem uV {zs:List Int} {m:Nat} (h:∀ z ∈ zs,sz z m) (hm:1<=m) (k:Nat):sz ((zs.take k).foldl (·+·) 0) (m+zs.length):=by
 have:=Eo (zs.take k) m (fun z hz=>h z (List.mem_of_mem_take hz)) 0 m (KT _) (aL Gm hm);refine aL this ?_
 have:(zs.take k).length<=zs.length:=by rw [List.length_take];omega
 omega
def bB (a b x z:Int):Int:=x*x*x*x - 2*a*x*x*z*z - 8*b*x*z*z*z+a*a*z*z*z*z
def ah (a b x z:Int):Int:=4*z*(x*x*x+a*x*z*z+b*z*z*z)
theorem Bl (a b x z:Int):[[x,x,x,x].foldl (·*·) 1,[-2*a,x,x,z,z].foldl (·*·) 1,[-8*b,x,z,z,z].foldl (·*·) 1,[a*a,z,z,z,z].foldl (·*·) 1].foldl (·+·) 0=bB a b x z:=by
 simp only [List.foldl_cons,List.foldl_nil];unfold bB
 grind
theorem wU (a b x z:Int):((x*x*(x*x) - x*x*(z*z)*(2*a)) - x*z*(z*z)*(8*b))+z*z*(z*z)*(a*a)=bB a b x z:=by
 unfold bB
 grind
theorem AW (a b x z:Int):[4,z,[[x,x,x].foldl (·*·) 1,[a,x,z,z].foldl (·*·) 1,[b,z,z,z].foldl (·*·) 1].foldl (·+·) 0].foldl (·*·) 1=ah a b x z:=by
 simp only [List.foldl_cons,List.foldl_nil];unfold ah
 grind
theorem uo (a b x z:Int):z*(x*x*x+x*(z*z)*a+z*(z*z)*b)*4=ah a b x z:=by
 unfold ah
 grind
end Wh
end
section
open Go.RowKit open Gr M Rw Wh
theorem fX (a:Int) (va:Value) (w:World) (ba:Nat) (hoa:af w ba va a) (hl1:(Wh.a_ a.natAbs).length<=10000) :
  Calls prog 188 #[.agg #[decide (a<0),va]] w fun e w'=>∃ sl,e=.returned (.agg #[decide (a*a<0),sl])/\af w' w sl (a*a)/\Below w w w':=by
 obtain ⟨aa,y_,rfl,-,-⟩:=aF.view hoa
 have PA:=fun W (h1:aF W ba (.slice aa (Wh.a_ a.natAbs).length y_) (Wh.a_ a.natAbs))=>gD a a (.slice aa (Wh.a_ a.natAbs).length y_) (.slice aa (Wh.a_ a.natAbs).length y_) W ba ba h1 h1 hl1 hl1
 replace hoa:=KO (show aF _ _ _ _ from hoa);generalize Wh.a_ a.natAbs=xs,a*a=z,decide (a<0)=s1 at *;generalize decide (z<0)=s,xs.length=l1 at *;replace PA:=KO PA;have n1:=(bJ.new w (.bool s1) (.slice aa l1 y_) 145).alloc (.cells #[false,.slice none 0 0] 145);have n3:=bJ.new2 w (.cells #[s1,.slice aa l1 y_] 145) (.bool false) (.slice none 0 0) 145;have Bn:=((KS w w).alloc (KT _) (.cells #[s1,.slice aa l1 y_] 145)).alloc (by rw [KQ];omega) (.cells #[false,.slice none 0 0] 145);have ho3:=aF.alloc (aF.alloc hoa.out (.cells #[s1,.slice aa l1 y_] 145)) (.cells #[false,.slice none 0 0] 145);generalize hw3:(w.alloc (.cells #[s1,.slice aa l1 y_] 145)).alloc (.cells #[false,.slice none 0 0] 145)=w3 at *;have e1:=n1.c0;have e2:=n1.c1;go_enter func188,ntmps188
 go_wp2_with ((with_reducible refine (PA.out _ ho3).mono ?_);rintro e w5 ⟨vc,rfl,hoc,hbc⟩;obtain ⟨ac,KX,rfl,hmc,LF⟩:=aF.view hoc;have r5:=n3.keep hbc;have c0:=r5.c0;have c1:=r5.c1;have g0:=r5.f0;have g1:=r5.f1;clear LF hmc)
 have hr:=dM (w:=w) (w.heap.size+1) _ (.bool s) ω n3.size hoc (p_ Bn hbc);generalize (Wh.a_ z.natAbs).length=ND at *;exact KU results188 ⟨_,rfl,hr.1,hr.2⟩
theorem FE (x z:Int) (vx vz:Value) (w:World) (bx bz:Nat) (hox:af w bx vx x) (LH:af w bz vz z) (hl1:(Wh.a_ x.natAbs).length<=9000) (hl2:(Wh.a_ z.natAbs).length<=9000) (hb1:Wh.bl x.natAbs<=1000000) (hb2:Wh.bl z.natAbs<=1000000) :
  cB 147 #[.agg #[decide (x<0),vx,decide (z<0),vz]] w (.int .i64 (max (Wh.bl x.natAbs:Nat) (Wh.bl z.natAbs:Nat):Int)):=by
 obtain ⟨ax,cx,rfl,-,-⟩:=aF.view hox;obtain ⟨az,cz,rfl,-,-⟩:=aF.view LH
 have P1:=fun W (h:aF W bx (.slice ax (Wh.a_ x.natAbs).length cx) (Wh.a_ x.natAbs))=>pw x (.slice ax (Wh.a_ x.natAbs).length cx) W bx h hl1 hb1
 have P2:=fun W (h:aF W bz (.slice az (Wh.a_ z.natAbs).length cz) (Wh.a_ z.natAbs))=>pw z (.slice az (Wh.a_ z.natAbs).length cz) W bz h hl2 hb2
 have PM:=fun W=>ff (Wh.bl x.natAbs:Int) (Wh.bl z.natAbs:Int) W
 have VS:Hid (∀ W,Below w w W->aF W bx (.slice ax (Wh.a_ x.natAbs).length cx) (Wh.a_ x.natAbs)):=KO fun W h=>aF.below hox h
 have Wq:Hid (∀ W,Below w w W->aF W bz (.slice az (Wh.a_ z.natAbs).length cz) (Wh.a_ z.natAbs)):=KO fun W h=>aF.below LH h
 clear hox LH;generalize max (Wh.bl x.natAbs:Int) (Wh.bl z.natAbs:Int)=mx at *;generalize Wh.a_ z.natAbs=zs,Wh.a_ x.natAbs=xs,decide (z<0)=s2,decide (x<0)=s1,Wh.bl z.natAbs=k2,Wh.bl x.natAbs=k1 at *;generalize zs.length=lz,xs.length=lx at *;replace P1:=KO P1;replace P2:=KO P2;replace PM:=KO PM;have b1:=lR.new w (.bool s1) (.slice ax lx cx) (.bool s2) (.slice az lz cz) 162;have hB:=(KS w w).alloc (KT _) (.cells #[s1,.slice ax lx cx,s2,.slice az lz cz] 162);generalize hw3:w.alloc (.cells #[s1,.slice ax lx cx,s2,.slice az lz cz] 162)=w3 at *;have e0:=b1.c0;have e1:=b1.c1;have e2:=b1.c2;have e3:=b1.c3;go_enter func147,ntmps147
 go_wp2
 go_region_held3 (fun W=>W.cell? ⟨w,0,none⟩=some (.bool s1)/\W.cell? ⟨w,1,none⟩=some (.slice ax lx cx)/\W.cell? ⟨w,2,none⟩=some (.bool s2)/\W.cell? ⟨w,3,none⟩=some (.slice az lz cz)) (first | exact ⟨hlA,hlA,hlA,hlA⟩ | (go_split_ands;exact ⟨hlA,hlA,hlA,hlA⟩) | go_keep) ((first
  | (go_at_call 171;first
   | ((with_reducible refine (P1.out _ (VS.out _ hB.drew)).mono ?_);rintro e w4 ⟨rfl,hb4⟩;have Qx:=aE hb4 (ak e0);have MH:=aE hb4 (ak e1);have NG:=aE hb4 (ak e2);have Oe:=aE hb4 (ak e3);have B4:=hB.drew.trans (hb4.mono hB.size))
   | ((with_reducible refine (P2.out _ (Wq.out _ B4)).mono ?_);rintro e w5 ⟨rfl,hb5⟩;have y0_:=aE hb5 Qx;have Pl:=aE hb5 MH;have Qj:=aE hb5 NG;have Sd:=aE hb5 Oe;have B5:=p_ B4 hb5))
  | (with_reducible refine Kw (PM.out _) ?_)
  | fail "ARMS"))
 all_goals
  go_wp2;go_ret;exact ⟨rfl,B5⟩
theorem KD {w2:World} {sl:Value} {xs:List Int} (c base:Nat) (u v x y:Value) (h2:c<base) (hoc:aF w2 base sl xs) :
  aF ((((w2.setCell ⟨c,0,none⟩ u).setCell ⟨c,1,none⟩ v).setCell ⟨c,2,none⟩ x).setCell ⟨c,3,none⟩ y) base sl xs:=by
 refine World.ownsRow.kept hoc (Gr.set (Gr.set (dT w2 c u v) 2 x) 3 y) ?_
 exact Zy
theorem JG (n d:Int) (w:World) (hn1:-1000000000000000000<=n) (hn2:n<=1000000000000000000) (hd1:-1000000000000000000<=d) (hd2:d<=1000000000000000000) :
  Calls prog 168 #[n,d] w fun e w'=>∃ vx vz,e=.returned (.agg #[decide (n<0),vx,decide (d<0),vz])/\af w' w vx n/\af w' w vz d/\Below w w w':=by
 have PN:=KO fun W=>qA n W hn1 hn2
 have PD:=KO fun W=>qA d W hd1 hd2
 have b0:=lR.new w (.bool false) (.slice none 0 0) (.bool false) (.slice none 0 0) 162;have hB:=(KS w w).alloc (KT _) (.cells #[false,.slice none 0 0,false,.slice none 0 0] 162);generalize decide (d<0)=s2,decide (n<0)=s1 at *;generalize hw3:w.alloc (.cells #[false,.slice none 0 0,false,.slice none 0 0] 162)=w3 at *;go_enter func168,ntmps168
 go_wp2_with (go_at_call 173;first
  | ((with_reducible refine (PN.out _).mono ?_);rintro e w4 ⟨vx,rfl,hox,hbx⟩;obtain ⟨ax,TG,rfl,hmx,hvx⟩:=aF.view hox;clear hmx hvx;replace hox:=KO hox;have b4:=b0.keep hbx;have B4:=p_ hB hbx)
  | ((with_reducible refine (PD.out _).mono ?_);rintro e w5 ⟨vz,rfl,LH,hbz⟩;obtain ⟨az,TH,rfl,hmz,hvz⟩:=aF.view LH;clear hmz hvz;have b5:=b4.keep hbz;have B5:=p_ B4 hbz;have hox5:=aF.below hox.out hbz;have c0:=b5.c0;have c1:=b5.c1;have c2:=b5.c2;have c3:=b5.c3;have f0:=b5.f0;have f1:=b5.f1;have f2:=b5.f2;have f3:=b5.f3))
 have h3:=b0.size;have h4:=b4.size;have r1:=aF.base (KD w _ (.bool s1) (.slice ax (Wh.a_ n.natAbs).length TG) (.bool s2) (.slice az (Wh.a_ d.natAbs).length TH) ω hox5) (Nat.le_of_lt h3);have r2:=aF.base (KD w _ (.bool s1) (.slice ax (Wh.a_ n.natAbs).length TG) (.bool s2) (.slice az (Wh.a_ d.natAbs).length TH) ω LH) (Nat.le_of_lt h4)
 have r3:Below w w ((((w5.setCell ⟨w,0,none⟩ (.bool s1)).setCell ⟨w,1,none⟩ (.slice ax (Wh.a_ n.natAbs).length TG)).setCell ⟨w,2,none⟩ (.bool s2)).setCell ⟨w,3,none⟩ (.slice az (Wh.a_ d.natAbs).length TH)):=by
  refine KR (KR (KR (KR B5 ?_ _) ?_ _) ?_ _) ?_ _ <;> exact KT _
 generalize (Wh.a_ d.natAbs).length=ld,(Wh.a_ n.natAbs).length=ln at *;exact KU results168 ⟨_,_,rfl,r1,r2,r3⟩
theorem rj (a b:Int) (w:World) (h:bK a b=true) :
  cB 116 #[.agg #[a,b]] w (.int .i64 (aN a b)):=by
 obtain ⟨h1,h1',h2,h2'⟩:=ag h;have b1:=aH (x:=4*a) (y:=a) (m:=4000) (n:=1000);have b2:=aH (x:=4*a*a) (y:=a) (m:=4000000) (n:=1000);have b3:=aH (x:=27*b) (y:=b) (m:=270000) (n:=10000);go_enter func116,ntmps116
 go_wp2;go_ret;exact ⟨rfl,((KS w w).alloc (KT _) _)⟩
theorem gc {a b:Int} (h:bK a b=true):(aN a b).natAbs<=6700000000:=by
 exact Yw
theorem jA {a b:Int} (h:M.good a b=true):aN a b≠0:=by
 unfold M.good at h;simp only [Bool.and_eq_true,bne_iff_ne] at h;exact h.2
theorem oy (a b t u:Int) (vt vu:Value) (w:World) (bt bu:Nat) (hg:M.good a b=true) (hot:af w bt vt t) (hou:af w bu vu u) (hl1:(Wh.a_ t.natAbs).length<=9000) (hl2:(Wh.a_ u.natAbs).length<=9000) :
  cB 194 #[.agg #[a,b],.agg #[decide (t<0),vt],.agg #[decide (u<0),vu]] w (.int .i64 (M.gcd (M.gcd (4*((aN a b).natAbs:Int)) (t % (4*((aN a b).natAbs:Int)))) (u % (4*((aN a b).natAbs:Int))))):=by
 obtain ⟨at_,ct,rfl,-,-⟩:=aF.view hot;obtain ⟨au,cu,rfl,-,-⟩:=aF.view hou;have hin:=ae hg;have hdb:=gc hin;have hdn:=jA hg
 have hdp:1<=(aN a b).natAbs:=ω
 have PD:=fun W=>rj a b W hin
 have PA:=fun W=>eP (aN a b) W ω ω
 clear hin hg hdn;generalize aN a b=D at *;generalize hd:D.natAbs=d at *
 have P1:=fun W (h:aF W bt (.slice at_ (Wh.a_ t.natAbs).length ct) (Wh.a_ t.natAbs))=>gV t (4*(d:Int)) (.slice at_ (Wh.a_ t.natAbs).length ct) W bt h hl1 ω ω
 have P2:=fun W (h:aF W bu (.slice au (Wh.a_ u.natAbs).length cu) (Wh.a_ u.natAbs))=>gV u (4*(d:Int)) (.slice au (Wh.a_ u.natAbs).length cu) W bu h hl2 ω ω
 have r1:=Int.emod_nonneg t (b:=4*(d:Int)) ω;have r2:=Int.emod_lt_of_pos t (b:=4*(d:Int)) ω;have r3:=Int.emod_nonneg u (b:=4*(d:Int)) ω;have r4:=Int.emod_lt_of_pos u (b:=4*(d:Int)) ω;generalize t % (4*(d:Int))=x at *;generalize u % (4*(d:Int))=y at *
 have PG:=fun (m n:Int) W (h1:0<=m) (h2:m<=9000000000000000000) (h3:0<=n) (h4:n<=9000000000000000000)=>eU m n W h1 h2 h3 h4
 have g0:0<=M.gcd (4*(d:Int)) x:=by unfold M.gcd;omega
 have g1:M.gcd (4*(d:Int)) x<=26800000000:=by
  have en:(4*(d:Int)).natAbs=4*d:=ω
  have:=Nat.gcd_le_left x.natAbs (show 0<4*d by omega);unfold M.gcd Int.gcd;rw [en];omega
 have hOT:Hid (∀ W,Below w w W->aF W bt (.slice at_ (Wh.a_ t.natAbs).length ct) (Wh.a_ t.natAbs)):=KO fun W h=>aF.below hot h
 have hOU:Hid (∀ W,Below w w W->aF W bu (.slice au (Wh.a_ u.natAbs).length cu) (Wh.a_ u.natAbs)):=KO fun W h=>aF.below hou h
 clear hot hou hl1 hl2;generalize decide (u<0)=s2,decide (t<0)=s1 at *;generalize decide (t / (4*(d:Int))<0)=s3 at *;generalize decide (u / (4*(d:Int))<0)=s4 at *;generalize t / (4*(d:Int))=qt at *;generalize u / (4*(d:Int))=qu at *;generalize Wh.a_ u.natAbs=us,Wh.a_ t.natAbs=ts at *;generalize us.length=lu,ts.length=lt at *;replace PD:=KO PD;replace PA:=KO PA;replace P1:=KO P1;replace P2:=KO P2;replace PG:=KO PG;have b1:=((bJ.new w (.int .i64 a) (.int .i64 b) 24).alloc (.cells #[s1,.slice at_ lt ct] 145)).alloc (.cells #[s2,.slice au lu cu] 145);have b2:=(bJ.new2 w (.cells #[a,b] 24) (.bool s1) (.slice at_ lt ct) 145).alloc (.cells #[s2,.slice au lu cu] 145);have b3:=bJ.new (((w.alloc (.cells #[a,b] 24)).alloc (.cells #[s1,.slice at_ lt ct] 145))) (.bool s2) (.slice au lu cu) 145;rw [iW] at b3;have hB:=(((KS w w).alloc (KT _) (.cells #[a,b] 24)).alloc (by rw [KQ];omega) (.cells #[s1,.slice at_ lt ct] 145)).alloc (by rw [iW];omega) (.cells #[s2,.slice au lu cu] 145)
 have hz:(((w.alloc (.cells #[a,b] 24)).alloc (.cells #[s1,.slice at_ lt ct] 145)).alloc (.cells #[s2,.slice au lu cu] 145)).heap.size=w.heap.size+3:=by rw [KQ,iW]
 generalize hw3:((w.alloc (.cells #[a,b] 24)).alloc (.cells #[s1,.slice at_ lt ct] 145)).alloc (.cells #[s2,.slice au lu cu] 145)=w3 at *;have e0:=b1.c0;have e1:=b1.c1;go_enter func194,ntmps194
 go_wp2_with (first
  | (with_reducible refine G_ PD fun w4 hb4=>?_;have x2:=b2.keep hb4;have x3:=b3.keep hb4;have B4:=p_ hB hb4;have f1:=x2.c0;have f2:=x2.c1)
  | (with_reducible refine Kw (PA.out _) ?_)
  | (go_at_call 195;first
   | ((with_reducible refine (P1.out _ (hOT.out _ B4)).mono ?_);rintro e w6 ⟨vq,rfl,hoq,hbq⟩;obtain ⟨aq,cq,rfl,Oq,XJ⟩:=aF.view hoq;clear Oq XJ hoq;(generalize (Wh.a_ qt.natAbs).length=lq at *);have x6:=x3.keep hbq;have B6:=p_ B4 hbq;have x7:=x6.alloc (.cells #[s3,.slice aq lq cq] 145);have B7:=B6.alloc B6.size (.cells #[s3,.slice aq lq cq] 145);(have f3:(w6.alloc (.cells #[s3,.slice aq lq cq] 145)).cell? ⟨w.heap.size+1+1,0,none⟩=some (.bool s2):=x7.c0);(have f4:(w6.alloc (.cells #[s3,.slice aq lq cq] 145)).cell? ⟨w.heap.size+1+1,1,none⟩=some (.slice au lu cu):=x7.c1))
   | ((with_reducible refine (P2.out _ (hOU.out _ B7)).mono ?_);rintro e w8 ⟨vp,rfl,hop,hbp⟩;obtain ⟨ap,cp,rfl,hmp,hvp⟩:=aF.view hop;clear hmp hvp hop;(generalize (Wh.a_ qu.natAbs).length=lp at *);have B8:=p_ B7 hbp;have B9:=B8.alloc B8.size (.cells #[s4,.slice ap lp cp] 145)))
  | (first
   | (with_reducible refine Kw (PG.out (4*(d:Int)) x _ ω ω ω ω) ?_)
   | ((with_reducible refine (PG.out (M.gcd (4*(d:Int)) x) y _ ω ω ω ω).mono ?_);rintro e w9 ⟨rfl,rfl⟩))
  | fail "ARMS")
 go_ret;exact ⟨rfl,B9⟩
theorem lR.alloc {w:World} {b:Nat} {u v x y:Value} (h:lR w b u v x y) (o:Obj):lR (w.alloc o) b u v x y:=h.keep ((KS w w).alloc (KT _) o)
def CM (B:Nat) (W:World) (p u v:Value):Prop:=∃ g,p=.pointer (some ⟨g,0,none⟩)/\B<=g/\bJ W g u v
theorem CM.keep {B:Nat} {W W':World} {p u v:Value} (h:CM B W p u v) (hb:Below W W W'):CM B W' p u v:=by
 obtain ⟨g,e,hB,h⟩:=h;exact ⟨g,e,hB,h.keep hb⟩
end
section
open Go
theorem Ue {p:Prop} (h:p:=by
 intro L hL hr i
 induction i using Nat.strongRecOn with
 | ind i ih=>
 intro hi
 cases hl:L.getD i false
 ·exfalso
  have hm:i ∈ Region.ready md ops L:=by
   unfold Region.ready;rw [List.mem_filter];refine ⟨List.mem_range.2 hi,?_⟩
   have hg:L.getD i true=false:=by
    rw [Array.getD_eq_getD_getElem?,Array.getElem?_eq_getElem ω] at hl ⊢;exact hl
   rw [hg,Array.getElem?_eq_getElem hi];simp only [Bool.not_false,Bool.true_and,Option.map_some,Option.getD_some];rw [Array.all_eq_true_iff_forall_mem];intro e he
   cases hb:Region.binds md e
   ·rfl
   have hlt:=(Ly i _ (Array.getElem?_eq_getElem hi)).1 e he hb;simp [ih e.on hlt ω]
  rw [hr] at hm;cases hm
 rfl):p:=h
theorem YB {p:Prop} (h:p:=by
 unfold rd
 have hr1:jJ md ops i o t=true:=by
  have:=List.all_eq_true.1 hrd i (List.mem_range.2 hilt);rw [ho] at this;exact List.all_eq_true.1 this t ht
 cases hf:o.after.toList.find? (fun e=>Region.binds md e && ((ops[e.on]?).bind (·.dst)) == some t) with
 | some e=>
  have h1:=List.find?_some hf;have h2:=List.mem_of_find?_eq_some hf;rw [Bool.and_eq_true,beq_iff_eq] at h1;obtain ⟨x,hx,hxd⟩:=Option.bind_eq_some_iff.1 h1.2;have h3:=O5 e (Array.mem_toList_iff.1 h2) h1.1;have:=pI (l:=fun j=>L.getD j false) (v:=vals) ops.toList 0 e.on x a0 hap (by rw [htl];exact hx) (by simpa using h3) hxd ((Ly e.on x hx).2 t hxd);rw [Nat.zero_add] at this;exact this
 | none=>
 refine gh ops.toList 0 a0 fun j x hx hlj hxd=>?_
 rw [Nat.zero_add] at hlj;rw [htl] at hx;have hjlt:j<ops.size:=(Array.getElem?_eq_some_iff.1 hx).1;rw [jJ,Bool.or_eq_true] at hr1
 rcases hr1 with q | q
 ·obtain ⟨e,he,hp⟩:=List.any_eq_true.1 q
  have:=List.find?_eq_none.1 hf e he;exact this hp
 have:=List.all_eq_true.1 q j (List.mem_range.2 hjlt);rw [hx] at this;simp only [Bool.or_eq_true,bne_iff_ne,ne_eq,beq_iff_eq,List.any_eq_true,Bool.and_eq_true] at this
 rcases this with (q1 | q1) | ⟨e,he,hb,hon⟩
 ·exact q1 hxd
 ·subst q1
  rw [hun'] at hlj;cases hlj
 have:=hdc j x hx hlj e (Array.mem_toList_iff.1 he) hb;rw [hon,hun'] at this
 cases this):p:=h
theorem Rv {p:Prop} (h:p:=by
 have hlt:i<ops.size:=(Array.getElem?_eq_some_iff.1 hi).1;have:=List.all_eq_true.1 hac i (List.mem_range.2 hlt);rw [hi] at this;simp only [Bool.and_eq_true,List.all_eq_true,Bool.or_eq_true,Bool.not_eq_true',decide_eq_true_eq] at this;refine ⟨fun e he hb=>?_,fun d hd=>?_⟩
 ·rcases this.1 e (Array.mem_toList_iff.2 he) with q | q
  ·rw [hb] at q;cases q
  exact q
 have:=this.2;rw [hd] at this
 simpa using this):p:=h
theorem Rx {p:Prop} (h:p:=by
 simp only [Array.getD_eq_getD_getElem?]
 by_cases hji:j=i
 ·subst hji
  rw [Array.getElem?_setIfInBounds_self_of_lt ω];simp
 rw [Array.getElem?_setIfInBounds_ne (fun e=>hji e.symm),if_neg hji]):p:=h
theorem YQ {p:Prop} (h:p:=by
 intro L a w hl hI;have hz:=iP _ (Nat.le_zero.1 hl)
 have hr:Region.ready md ops L=[]:=by
  unfold Region.ready;rw [List.filter_eq_nil_iff];intro i hi;have hi:=List.mem_range.1 hi;have h1:=hz i hi
  have hg:L.getD i true=true:=by
   have hsz:=hI.1;simp only [Array.getD_eq_getD_getElem?] at h1 ⊢;rw [Array.getElem?_eq_getElem ω] at h1 ⊢;exact h1
  rw [hg];simp
 exact ⟨hr,hfin L a w hI hr⟩):p:=h
theorem Uo {p:Prop} (h:p:=by
 have:=kC (l:=fun j=>L.getD j false) (l':=fun j=>(L.setIfInBounds i true).getD j false) hun' (by rw [e1,if_pos rfl]) (fun j hj=>by rw [e1,if_neg hj]) ops.size hilt
 omega):p:=h
theorem R_ {p:Prop} (h:p:=by simp only [Array.getD_eq_getD_getElem?] at hun ⊢;rw [Array.getElem?_eq_getElem ω] at hun ⊢;exact hun):p:=h
theorem Ut {p:Prop} (h:p:=by
 have:∀ (l:Nat->Bool) n,left l n<=n:=fun l n=>by
  induction n with
  | zero=>exact KT _
  | succ n ih=>unfold left;split <;> omega
 exact this _ _):p:=h
theorem YY {p:Prop} (h:p:=by
 have:∀ (v:Nat->Value) (os:List Oper) (k:Nat) (a:Act),fill (fun _=>false) v os k a=a:=fun v os=>by
  induction os with
  | nil=>intro k a;rfl
  | cons x os ih=>intro k a;unfold fill;simp [ih]
 refine (this _ ops.toList 0 a0).symm.trans (bc _ _ _ (fun j _ hj=>(rep j).symm) (fun _ _ _=>rfl))):p:=h
theorem Uv {p:Prop} (h:p:=by
 rw [e1] at hlj ⊢
 split
 ·rfl
 split at hlj
 ·rename_i hji
  subst hji;rw [ho] at hx;cases hx
  exact O5 e he hb
 exact hdc j x hx hlj e he hb):p:=h
theorem SC {p:Prop} (h:p:=by
 rw [Array.getD_eq_getD_getElem?,Array.getElem?_replicate]
 split <;> rfl):p:=h
theorem ZR {p:Prop} (h:p:=by
 rw [e1] at hlj
 show V j (if j=i then v else vals j) w'
 split
 ·rename_i hji
  rw [hji];exact h1
 rename_i hji
 rw [if_neg hji] at hlj;exact h3 _ _ (hv j hj hlj)):p:=h
theorem U5 {p:Prop} (h:p:=by simp only [List.getElem?_cons_zero,Option.some.injEq] at hi;subst hi;exact h.1):p:=h
theorem ZX {p:Prop} (h:p:=by
 rw [mO ops.toList 0 i o a0 hap (by rw [htl];exact ho) (by simpa using hun')]
 rw [Nat.zero_add];exact bc _ _ _ (fun j _ _=>(e1 j).symm) (fun _ _ _=>rfl)):p:=h
namespace Rg
variable {P:Program} {Q:Exit->Act->World->Prop} {md:Region.Mode}
def fill (l:Nat->Bool) (vals:Nat->Value):List Oper->Nat->Act->Act
 | [],_,a=>a
 | o :: os,k,a=>fill l vals os (k+1) (if l k then a.put o.dst (vals k) else a)
def sep (o x:Oper):Bool:=match o.dst with | some d=>x.dst != some d | none=>true
def apart:List Oper->Bool
 | []=>true
 | o :: os=>os.all (sep o) && apart os
theorem bD:(∀ (α:Type) (a:α) (l:List α) (n:Nat),(a :: l).take (n+1)=a :: l.take n)/\(∀ (α:Type) (l:List α),l.take 0=[])/\(∀ (α:Type) (a:α) (l:List α) (n:Nat),(a :: l).drop (n+1)=l.drop n)/\(∀ (α:Type) (l:List α),l.drop 0=l)/\(∀ (α:Type) [Decidable True] (a b:α),(if True then a else b)=a)/\(∀ (α:Type) (l:List α) (i:Nat) (a:α),l.toArray.setIfInBounds i a=(l.set i a).toArray)/\(∀ (α:Type) (x a:α) (l:List α),(x :: l).set 0 a=a :: l)/\(∀ (α:Type) (x a:α) (l:List α) (n:Nat),(x :: l).set (n+1) a=x :: l.set n a)/\∀ n:Nat,0+n=n:=
 ⟨fun _ _ _ _=>List.take_succ_cons,fun _ _=>List.take_zero,fun _ _ _ _=>List.drop_succ_cons,fun _ _=>List.drop_zero,fun _ _ _ _=>if_true ..,fun _ _ _ _=>List.setIfInBounds_toArray ..,fun _ _ _ _=>List.set_cons_zero,fun _ _ _ _ _=>List.set_cons_succ,Nat.zero_add⟩
theorem bc {l l':Nat->Bool} {v v':Nat->Value}:∀ (os:List Oper) (k:Nat) (a:Act),(∀ j,k<=j->j<k+os.length->l j=l' j)->(∀ j,k<=j->l j=true->v j=v' j)->fill l v os k a=fill l' v' os k a
 | [],_,_,_,_=>rfl
 | o :: os,k,a,h1,h2=>by
  unfold fill;rw [←h1 k (KT _) σ]
  cases hl:l k
  ·simp only [Bool.false_eq_true,if_false]
   exact bc os (k+1) a (fun j hj hj2=>h1 j ω (by simp;omega)) (fun j hj=>h2 j ω)
  simp only [if_true];rw [h2 k (KT _) hl];exact bc os (k+1) _ (fun j hj hj2=>h1 j ω (by simp;omega)) (fun j hj=>h2 j ω)
theorem vF {l:Nat->Bool} {v:Nat->Value} {d:Option Tmp} {u:Value}:∀ (os:List Oper) (k:Nat) (a:Act),(∀ x ∈ os,∀ t,d=some t->x.dst≠some t)->(fill l v os k a).put d u=fill l v os k (a.put d u)
 | [],_,_,_=>rfl
 | o :: os,k,a,h=>by
  unfold fill;rw [vF os (k+1) _ (fun x hx=>h x (List.mem_cons_of_mem _ hx))]
  congr 1
  split
  ·exact (Act.put_comm a u (v k) (h o (List.mem_cons_self ..))).symm
  rfl
theorem mO {l:Nat->Bool} {v:Nat->Value} {u:Value}:∀ (os:List Oper) (k i:Nat) (o:Oper) (a:Act),apart os=true->os[i]?=some o->l (k+i)=false->
  (fill l v os k a).put o.dst u=fill (fun j=>if j=k+i then true else l j) (fun j=>if j=k+i then u else v j) os k a
 | [],_,_,_,_,_,h,_=>by simp at h
 | x :: os,k,0,o,a,ha,h,hl=>by
  simp only [List.getElem?_cons_zero,Option.some.injEq] at h;subst h;rw [apart,Bool.and_eq_true] at ha
  have hs:∀ y ∈ os,∀ t,x.dst=some t->y.dst≠some t:=fun y hy t ht=>by
   have:=List.all_eq_true.1 ha.1 y hy;rw [sep,ht] at this
   simpa using this
  unfold fill;rw [Nat.add_zero] at hl ⊢;rw [vF os (k+1) _ hs,if_neg (by simp [hl])]
  have e:(if (if k=k then true else l k)=true then a.put x.dst (if k=k then u else v k) else a)=a.put x.dst u:=σ
  show _=fill _ _ os (k+1) (if (if k=k then true else l k)=true then a.put x.dst (if k=k then u else v k) else a)
  rw [e];exact bc os (k+1) _ (fun j hj _=>by rw [if_neg ω]) (fun j hj _=>by rw [if_neg ω])
 | x :: os,k,i+1,o,a,ha,h,hl=>by
  rw [apart,Bool.and_eq_true] at ha;rw [show k+(i+1)=k+1+i from ω] at hl ⊢;unfold fill;rw [mO os (k+1) i o _ ha.2 (by simpa using h) hl]
  congr 1
  rw [if_neg (show ¬ k=k+1+i by omega),if_neg (show ¬ k=k+1+i by omega)]
theorem wD (a:Act) (d:Option Tmp) (v:Value):(a.put d v).tmps.size=a.tmps.size:=by
 cases d <;> simp [Act.put]
theorem GP {a:Act} {d:Option Tmp} {v:Value} {t:Nat} (h:d≠some t):(a.put d v).tmps[t]?=a.tmps[t]?:=by
 cases d with
 | none=>rfl
 | some d=>simp only [Act.put];rw [Array.getElem?_setIfInBounds_ne (by intro e;exact h (by rw [e]))]
theorem uI {a:Act} {v:Value} {t:Nat} (h:t<a.tmps.size):(a.put (some t) v).tmps[t]?=some v:=by
 simp [Act.put,h]
theorem gh {l:Nat->Bool} {v:Nat->Value} {t:Nat}:∀ (os:List Oper) (k:Nat) (a:Act),(∀ i o,os[i]?=some o->l (k+i)=true->o.dst≠some t)->(fill l v os k a).tmps[t]?=a.tmps[t]?
 | [],_,_,_=>rfl
 | o :: os,k,a,h=>by
  unfold fill;rw [gh os (k+1) _ (fun i x hx hl=>h (i+1) x (by simpa using hx) (by rw [show k+(i+1)=k+1+i from ω];exact hl))]
  split
  ·rename_i hk
   exact GP (h 0 o rfl hk)
  rfl
theorem pI {l:Nat->Bool} {v:Nat->Value} {t:Nat}:∀ (os:List Oper) (k i:Nat) (o:Oper) (a:Act),apart os=true->os[i]?=some o->l (k+i)=true->o.dst=some t->t<a.tmps.size->(fill l v os k a).tmps[t]?=some (v (k+i))
 | [],_,_,_,_,_,h,_,_,_=>by simp at h
 | x :: os,k,0,o,a,ha,h,hl,hd,ht=>by
  simp only [List.getElem?_cons_zero,Option.some.injEq] at h;subst h;rw [apart,Bool.and_eq_true] at ha;unfold fill;rw [Nat.add_zero] at hl ⊢
  rw [gh os (k+1) _ (fun i y hy _=>by
   have:=List.all_eq_true.1 ha.1 y (List.mem_of_getElem? hy);rw [sep,hd] at this
   simpa using this),if_pos hl,hd]
  exact uI ht
 | x :: os,k,i+1,o,a,ha,h,hl,hd,ht=>by
  rw [apart,Bool.and_eq_true] at ha;rw [show k+(i+1)=k+1+i from ω] at hl ⊢;unfold fill;refine pI os (k+1) i o _ ha.2 (by simpa using h) hl hd ?_
  split
  ·rw [wD];exact ht
  exact ht
def left (l:Nat->Bool):Nat->Nat
 | 0=>0
 | n+1=>left l n+if l n then 0 else 1
theorem sP {l l':Nat->Bool}:∀ n:Nat,(∀ j,j<n->l j=l' j)->left l n=left l' n
 | 0,_=>rfl
 | n+1,h=>by unfold left;rw [sP n (fun j hj=>h j ω),h n ω]
theorem kC {l l':Nat->Bool} {i:Nat} (h0:l i=false) (h1:l' i=true) (h2:∀ j,j≠i->l' j=l j):∀ n:Nat,i<n->left l' n+1=left l n
 | 0,h=>ω
 | n+1,h=>by
  unfold left
  rcases Nat.lt_or_ge i n with q | q
  ·have:=kC h0 h1 h2 n q
   rw [h2 n ω];omega
  obtain rfl:i=n:=ω
  rw [sP i (l:=l') (l':=l) (fun j hj=>h2 j ω),h0,h1];simp
theorem iP {l:Nat->Bool}:∀ n:Nat,left l n=0->∀ j,j<n->l j=true
 | 0,_,j,hj=>ω
 | n+1,h,j,hj=>by
  unfold left at h
  cases hn:l n
  ·rw [hn] at h;simp at h
  rcases Nat.lt_or_ge j n with q | q
  ·exact iP n ω j q
  obtain rfl:j=n:=ω
  exact hn
def rd (md:Region.Mode) (ops:Array Oper) (a0:Act) (vals:Nat->Value) (o:Oper) (t:Nat):Option Value:=
 match o.after.toList.find? (fun e=>Region.binds md e && ((ops[e.on]?).bind (·.dst)) == some t) with
 | some e=>some (vals e.on)
 | none=>a0.tmps[t]?
def jJ (md:Region.Mode) (ops:Array Oper) (i:Nat) (o:Oper) (t:Nat):Bool:=
 o.after.toList.any (fun e=>Region.binds md e && ((ops[e.on]?).bind (·.dst)) == some t) ||
 (List.range ops.size).all fun j=>match ops[j]? with
  | some x=>x.dst != some t || j == i || x.after.toList.any (fun e=>Region.binds md e && e.on == i)
  | none=>true
def GE (md:Region.Mode) (ops:Array Oper):Bool:=(List.range ops.size).all fun i=>match ops[i]? with
 | some o=>(o.looksAt ops).all (jJ md ops i o)
 | none=>true
def eo (md:Region.Mode) (ops:Array Oper) (n:Nat):Bool:=
 apart ops.toList && GE md ops && ((List.range ops.size).all fun i=>match ops[i]? with
  | some o=>o.after.toList.all (fun e=>!Region.binds md e || decide (e.on<i)) && (match o.dst with | some d=>decide (d<n) | none=>true)
  | none=>true)
section
variable (P) (Q) (md) (ops:Array Oper) (S:World->Prop) (V:Nat->Value->World->Prop) (a0:Act)
def H7 (i:Nat) (o:Oper) (a:Act) (w:World):Prop:=
 if Region.wanted o (yielded ops a.tmps)=true then o.wp P a w (fun a' w'=>∃ v,a'=a.put o.dst v/\V i v w'/\S w'/\∀ j u,V j u w->V j u w') Q else V i undef w
def Req (i:Nat) (o:Oper):Prop:=∀ (a:Act) (w:World) (vals:Nat->Value),S w->(∀ e ∈ o.after,Region.binds md e=true->V e.on (vals e.on) w)->(∀ t ∈ o.looksAt ops,a.tmps[t]?=rd md ops a0 vals o t)->H7 P Q ops S V i o a w
def xA:List Oper->Nat->Prop
 | [],_=>True
 | o :: os,k=>Req P Q md ops S V a0 k o/\xA os (k+1)
theorem xA.at {os:List Oper} {k:Nat} (h:xA P Q md ops S V a0 os k):∀ {i:Nat} {o:Oper},os[i]?=some o->Req P Q md ops S V a0 (k+i) o:=by
 induction os generalizing k with
 | nil=>intro i o hi;simp at hi
 | cons x os ih=>
 intro i o hi
 cases i with
 | zero=>
  exact U5
 | succ i=>
 have:=ih h.2 (i:=i) (o:=o) (by simpa using hi);rw [show k+(i+1)=k+1+i from ω];exact this
def Inv (L:Array Bool) (a:Act) (w:World):Prop:=
 L.size=ops.size/\S w/\(∀ i o,ops[i]?=some o->L.getD i false=true->∀ e ∈ o.after,Region.binds md e=true->L.getD e.on false=true)/\
 ∃ vals:Nat->Value,a=fill (fun j=>L.getD j false) vals ops.toList 0 a0/\∀ i,i<ops.size->L.getD i false=true->V i (vals i) w
end
theorem FD {ops:Array Oper} {S:World->Prop} {V:Nat->Value->World->Prop} {a0:Act} (hok:eo md ops a0.tmps.size=true)
  (hR:xA P Q md ops S V a0 ops.toList 0) (hF:∀ (vals:Nat->Value) (w:World),S w->(∀ i,i<ops.size->V i (vals i) w)->Q .normal (fill (fun _=>true) vals ops.toList 0 a0) w) :
  ∀ (fuel:Nat) (L:Array Bool) (a:Act) (w:World),left (fun j=>L.getD j false) ops.size<=fuel->Inv md ops S V a0 L a w->wpAny P md ops Q fuel L a w:=by
 rw [eo,Bool.and_eq_true,Bool.and_eq_true] at hok;obtain ⟨⟨hap,hrd⟩,hac⟩:=hok
 have Ly:∀ i o,ops[i]?=some o->(∀ e ∈ o.after,Region.binds md e=true->e.on<i)/\∀ d,o.dst=some d->d<a0.tmps.size:=fun i o hi=>by
  exact Rv
 have htl:∀ i,ops.toList[i]?=ops[i]?:=fun i=>Array.getElem?_toList
 have hall:∀ L:Array Bool,L.size=ops.size->Region.ready md ops L=[]->∀ i,i<ops.size->L.getD i false=true:=by
  exact Ue
 have hfin:∀ (L:Array Bool) (a:Act) (w:World),Inv md ops S V a0 L a w->Region.ready md ops L=[]->Q .normal a w:=by
  rintro L a w ⟨hL,hS,-,vals,rfl,hv⟩ hr;have h:=hall L hL hr;rw [bc (l':=fun _=>true) (v':=vals) ops.toList 0 a0 (fun j _ hj=>h j (by simpa using hj)) (fun _ _ _=>rfl)]
  exact hF vals w hS fun i hi=>hv i hi (h i hi)
 intro fuel
 induction fuel with
 | zero=>
  exact YQ
 | succ fuel ih=>
 intro L a w hl hI;refine ⟨hfin L a w hI,fun i hi=>?_⟩;obtain ⟨hL,hS,hdc,vals,rfl,hv⟩:=hI;obtain ⟨hun,o,ho,O5⟩:=mem_ready.1 hi;have hilt:i<ops.size:=(Array.getElem?_eq_some_iff.1 ho).1
 have hun':L.getD i false=false:=by
  exact R_
 have hq:=xA.at P Q md ops S V a0 hR (i:=i) (o:=o) (by rw [htl];exact ho);rw [Nat.zero_add] at hq
 have hst:=hq (fill (fun j=>L.getD j false) vals ops.toList 0 a0) w vals hS
  (fun e he hb=>hv e.on (by have:=(Ly i o ho).1 e he hb;omega) (O5 e he hb))
  (fun t ht=>by
   exact YB)
 have hnext:∀ (v:Value) (w':World),V i v w'->S w'->(∀ j u,V j u w->V j u w')->wpAny P md ops Q fuel (L.setIfInBounds i true) ((fill (fun j=>L.getD j false) vals ops.toList 0 a0).put o.dst v) w':=by
  intro v w' h1 h2 h3
  have e1:∀ j,(L.setIfInBounds i true).getD j false=if j=i then true else L.getD j false:=fun j=>by
   exact Rx
  refine ih _ _ _ ?_ ⟨by simpa using hL,h2,?_,fun j=>if j=i then v else vals j,?_,?_⟩
  ·exact Uo
  ·intro j x hx hlj e he hb
   exact Uv
  ·exact ZX
  intro j hj hlj;exact ZR
 unfold wpOp;rw [ho];unfold H7 at hst
 dsimp only
 split at hst
 ·rename_i hw
  rw [if_pos hw];refine Or.inl (Oper.wp_mono ?_ hst);rintro a' w' ⟨v,rfl,h1,h2,h3⟩;exact hnext v w' h1 h2 h3
 rename_i hw
 rw [if_neg hw]
 exact hnext undef w hst hS fun _ _ h=>h
theorem region {id:Nat} {ops:Array Oper} {a0:Act} {w:World} (S:World->Prop) (V:Nat->Value->World->Prop) (hm:P.follows .mixedOrders=true) (hok:eo .any ops a0.tmps.size=true)
  (hS:S { w with drawn:=w.drawn+1 }) (hR:xA P Q .any ops S V a0 ops.toList 0)
  (hF:∀ (vals:Nat->Value) (w:World),S w->(∀ i,i<ops.size->V i (vals i) w)->Q .normal (fill (fun _=>true) vals ops.toList 0 a0) w):(Code.region id ops true).wp P Q a0 w:=by
 have rep:∀ j,(Array.replicate ops.size false).getD j false=false:=fun j=>by
  exact SC
 refine wp_region_any hm (FD hok hR hF _ _ _ _ ?_ ⟨σ,hS,?_,fun _=>undef,?_,?_⟩)
 ·exact Ut
 ·intro i o hi hl
  rw [rep] at hl;cases hl
 ·exact YY
 intro i hi hl;rw [rep] at hl;cases hl
end Rg
end
section
open Go Go.RowKit open M Rg
theorem was8 {p:Prop} (h:p:=by unfold Oper.wp;rw [h];refine Calls.mono hc ?_;rintro e w' ⟨v,rfl,h1,h2⟩;exact ⟨v,rfl,h1,h2⟩):p:=h
namespace Rg
inductive Val where
 | is (v:Value)
 | lit (xs:List Int)
 | num (p:Int->Prop)
 | such (p:Value->Prop)
 | at (p:Value->World->Prop)
 | new (B:Nat) (T:TypeId) (xs:Array Value)
def JT (v:Value) (xs:List Int) (w:World):Prop:=∃ b,v=.slice (some ⟨b,0,none⟩) xs.length xs.length/\b<w.heap.size/\∀ (j:Nat) (x:Int),xs[j]?=some x->w.cell? ⟨b,j,none⟩=some (.int .i64 x)
def Val.ok:Val->Value->World->Prop
 | .is x,v,_=>v=x
 | .lit xs,v,w=>JT v xs w
 | .num p,v,_=>∃ x,v=.int .i64 x/\p x
 | .such p,v,_=>p v
 | .at p,v,w=>∀ w',Below w w w'->p v w'
 | .new B T xs,v,w=>∃ g,B<=g/\v=.pointer (some ⟨g,0,none⟩)/\w.heap[g]?=some (.cells xs T (0,0))
theorem Val.keep {w w':World} (hb:Below w w w'):∀ (T:Val) (v:Value),T.ok v w->T.ok v w'
 | .is _,_,h=>h
 | .lit xs,_,⟨b,h1,h2,h3⟩=>⟨b,h1,Nat.lt_of_lt_of_le h2 hb.size,fun j x hx=>(hb.cell (p:=⟨b,j,none⟩) h2).trans (h3 j x hx)⟩
 | .num _,_,h=>h
 | .such _,_,h=>h
 | .at _,_,h=>fun w'' h2=>h w'' (p_ hb h2)
 | .new _ _ _,_,⟨g,hB,e,h⟩=>⟨g,hB,e,(hb.block g (Array.getElem?_eq_some_iff.1 h).1).trans h⟩
def LS (T:List Val) (i:Nat):Val:=T.getD i (.is undef)
variable {P:Program} {Q:Exit->Act->World->Prop}
def sp (ops:Array Oper) (a0:Act) (T:List Val) (o:Oper) (a:Act) (w:World) (t:Nat):Prop:=
 match o.after.toList.find? (fun e=>Region.binds .any e && ((ops[e.on]?).bind (·.dst)) == some t) with
 | some e=>∃ v,a.tmps[t]?=some v/\(LS T e.on).ok v w
 | none=>a.tmps[t]?=a0.tmps[t]?
def Does (P:Program) (ops:Array Oper) (Q:Exit->Act->World->Prop) (V:Val) (o:Oper) (a:Act) (w:World):Prop:=
 if Region.wanted o (yielded ops a.tmps)=true then o.wp P a w (fun a' w'=>∃ v,a'=a.put o.dst v/\V.ok v w'/\Below w w w') Q else V.ok undef w
theorem ev {a:Act} {t:Nat} {v:Value} (h:a.tmps[t]?=some v):a.eval (.tmp t)=v:=by
 show a.tmps.getD t undef=v
 rw [Array.getD_eq_getD_getElem?,h];rfl
theorem A_ {a:Act} {t:Nat} {x:Value} {w:World} (h:∃ v,a.tmps[t]?=some v/\(Val.is x).ok v w):a.tmps[t]?=some x:=by
 obtain ⟨v,h1,rfl⟩:=h;exact h1
theorem aS {ops:Array Oper} {o:Oper} {a:Act} {w:World} {x:Value} (hw:Region.wanted o (yielded ops a.tmps)=true) (h:(execOp a.eval o).run P w=.ok (.value x) w):Does P ops Q (.is x) o a w:=by
 unfold Does;rw [if_pos hw];unfold Oper.wp;rw [h];exact ⟨x,rfl,rfl,KS _ _⟩
theorem Hj {ops:Array Oper} {o:Oper} {a:Act} {w:World} (hw:Region.wanted o (yielded ops a.tmps)=false):Does P ops Q (.is undef) o a w:=by
 unfold Does;rw [if_neg (by rw [hw];exact Bool.false_ne_true)];exact rfl
theorem L8 {ops:Array Oper} {a:Act} {j t:Nat} {b:Bool} (h1:(ops[j]?).bind (·.dst)=some t) (h2:a.tmps[t]?=some (.bool b)):yielded ops a.tmps j=some b:=by
 unfold yielded;rw [h1]
 show (match a.tmps[t]? with | some (.bool b)=>some b | _=>none)=some b
 rw [h2]
theorem cR {o:Oper} {y:Nat->Option Bool} {j:Nat} {b:Bool} (hg:o.guard=some (j,b)) (hy:y j=some b):Region.wanted o y=true:=by
 unfold Region.wanted;rw [hg]
 show (y j == some b)=true
 rw [hy]
 cases b <;> rfl
theorem AM {o:Oper} {y:Nat->Option Bool} {j:Nat} {b:Bool} (hg:o.guard=some (j,!b)) (hy:y j=some b):Region.wanted o y=false:=by
 unfold Region.wanted;rw [hg]
 show (y j == some (!b))=false
 rw [hy]
 cases b <;> rfl
theorem wr {x:Int} (h1:-9223372036854775808<=x) (h2:x<=9223372036854775807):IntKind.i64.wrap x=x:=by rw [IntKind.wrap_i64];omega
theorem rO {ops:Array Oper} {o:Oper} {a:Act} {w:World} {x:Value} {V:Val} {ob:Obj} (hw:Region.wanted o (yielded ops a.tmps)=true) (h:(execOp a.eval o).run P w=.ok (.value x) (w.alloc ob)) (hV:V.ok x (w.alloc ob)):Does P ops Q V o a w:=by
 unfold Does;rw [if_pos hw];unfold Oper.wp;rw [h];exact ⟨x,rfl,hV,(KS _ _).alloc (KT _) ob⟩
theorem aj {ops:Array Oper} {o:Oper} {a:Act} {w:World} {V:Val} {f:FuncId} {args:Array Value} (hw:Region.wanted o (yielded ops a.tmps)=true) (h:(execOp a.eval o).run P w=.ok (.enter f args) w)
  (hc:Calls P f args w fun e w'=>∃ v,e=.returned v/\V.ok v w'/\Below w w w'):Does P ops Q V o a w:=by
 unfold Does;rw [if_pos hw];exact was8
theorem bO {ops:Array Oper} {o:Oper} {a:Act} {w:World} {v:Value} {f:FuncId} {args:Array Value} (hw:Region.wanted o (yielded ops a.tmps)=true) (h:(execOp a.eval o).run P w=.ok (.enter f args) w)
  (hc:Calls P f args w fun e w'=>e=.returned v/\Below w w w'):Does P ops Q (.is v) o a w:=
 aj hw h (hc.mono fun _ _ ⟨e,b⟩=>⟨v,e,rfl,b⟩)
theorem ef (a:Act):∀ f,a.eval (.func f)=.func (.func f) #[] #[]:=fun _=>rfl
theorem ec (a:Act):∀ v,a.eval (.const v)=v:=fun _=>rfl
theorem wo {x:Int} (h:-9223372036854775808<=x/\x<=9223372036854775807):IntKind.i64.wrap x=x:=wr h.1 h.2
end Rg
theorem ZG {p:Prop} (h:p:=by
 rename_i e he
 rw [he] at this;have h2:=List.find?_some he;rw [Bool.and_eq_true] at h2;exact ⟨_,this,hv e (Array.mem_toList_iff.1 (List.mem_of_find?_eq_some he)) h2.1⟩):p:=h
theorem SG {p:Prop} (h:p:=by unfold Region.wanted;rw [hn]):p:=h
namespace Rg
variable {P:Program} {Q:Exit->Act->World->Prop} {md:Region.Mode}
def SJ (md:Region.Mode) (ops:Array Oper):Nat->Nat->Nat->Bool
 | 0,_,_=>false
 | f+1,i,j=>match ops[i]? with
  | some o=>o.after.toList.any (fun e=>Region.binds md e && e.on == j) || o.after.toList.any (fun e=>Region.binds md e && SJ md ops f e.on j)
  | none=>false
def oR (md:Region.Mode) (ops:Array Oper) (n0:Nat):Bool:=decide (n0<=ops.size) && (List.range ops.size).all fun i=>decide (i<n0) || ((match ops[i]? with | some o=>o.guard.isNone | none=>true) && (List.range i).all fun j=>SJ md ops 3 i j)
def aU (P:Program) (Q:Exit->Act->World->Prop):List Oper->Act->World->Prop
 | [],a,w=>Q .normal a w
 | o :: os,a,w=>o.wp P a w (fun a' w'=>aU P Q os a' w') Q
theorem pu {ops:Array Oper} {L:Array Bool} (hdc:∀ i o,ops[i]?=some o->L.getD i false=true->∀ e ∈ o.after,Region.binds md e=true->L.getD e.on false=true):∀ (f i j:Nat) (o:Oper),ops[i]?=some o->
  (∀ e ∈ o.after,Region.binds md e=true->L.getD e.on false=true)->SJ md ops f i j=true->L.getD j false=true
 | 0,_,_,_,_,_,h=>by simp [SJ] at h
 | f+1,i,j,o,ho,hd,h=>by
  unfold SJ at h;rw [ho] at h;simp only [Bool.or_eq_true,List.any_eq_true,Bool.and_eq_true,beq_iff_eq] at h
  rcases h with ⟨e,he,hb,rfl⟩ | ⟨e,he,hb,ha⟩
  ·exact hd e (Array.mem_toList_iff.1 he) hb
  have hde:=hd e (Array.mem_toList_iff.1 he) hb
  cases ho2:ops[e.on]? with
  | none=>
   exfalso
   cases f with
   | zero=>simp [SJ] at ha
   | succ f=>unfold SJ at ha;rw [ho2] at ha;exact absurd ha σ
  | some o2=>exact pu hdc f e.on j o2 ho2 (hdc e.on o2 ho2 hde) ha
theorem sf {ops:Array Oper} {n0:Nat} (ht:oR md ops n0=true):n0<=ops.size/\∀ i,i<ops.size->n0<=i->(∀ o,ops[i]?=some o->o.guard=none)/\∀ j,j<i->SJ md ops 3 i j=true:=by
 rw [oR,Bool.and_eq_true] at ht;refine ⟨of_decide_eq_true ht.1,fun i hi hn=>?_⟩;have:=List.all_eq_true.1 ht.2 i (List.mem_range.2 hi);simp only [Bool.or_eq_true,decide_eq_true_eq,Bool.and_eq_true,List.all_eq_true,List.mem_range] at this
 rcases this with q | ⟨q1,q2⟩
 ·omega
 refine ⟨fun o ho=>?_,q2⟩;rw [ho] at q1;exact Option.isNone_iff_eq_none.1 q1
theorem yt {L:Array Bool} {i:Nat} (h:i<L.size):L.getD i true=L.getD i false:=by
 simp only [Array.getD_eq_getD_getElem?];rw [Array.getElem?_eq_getElem h];rfl
theorem yK {ops:Array Oper} {n0:Nat} (ht:oR md ops n0=true) (hac:∀ i o,ops[i]?=some o->∀ e ∈ o.after,Region.binds md e=true->e.on<i) :
  ∀ (fuel:Nat) (L:Array Bool) (a:Act) (w:World) (k:Nat),n0<=k->k<=ops.size->L.size=ops.size->(∀ j,j<ops.size->L.getD j false=decide (j<k))->
  ops.size - k<=fuel->aU P Q (ops.toList.drop k) a w->wpAny P md ops Q fuel L a w:=by
 obtain ⟨-,htl⟩:=sf ht
 have XE:∀ (L:Array Bool) (k:Nat),n0<=k->(∀ j,j<ops.size->L.getD j false=decide (j<k))->L.size=ops.size->∀ i,i ∈ Region.ready md ops L->i=k/\i<ops.size:=by
  intro L k hk hL hsz i hi;obtain ⟨hun,o,ho,O5⟩:=mem_ready.1 hi;have hilt:i<ops.size:=(Array.getElem?_eq_some_iff.1 ho).1;rw [yt ω,hL i hilt,decide_eq_false_iff_not] at hun;refine ⟨?_,hilt⟩
  rcases Nat.lt_or_ge k i with q | q
  ·exfalso
   have hdc:∀ i o,ops[i]?=some o->L.getD i false=true->∀ e ∈ o.after,Region.binds md e=true->L.getD e.on false=true:=by
    intro i' o' ho' hl' e he hb;have hi':i'<ops.size:=(Array.getElem?_eq_some_iff.1 ho').1;rw [hL i' hi',decide_eq_true_eq] at hl';have:=hac i' o' ho' e he hb;rw [hL e.on ω,decide_eq_true_eq];omega
   have:=pu hdc 3 i k o ho O5 ((htl i hilt ω).2 k q);rw [hL k ω,decide_eq_true_eq] at this;omega
  omega
 have hend:∀ (L:Array Bool) (a:Act) (w:World) (k:Nat),n0<=k->k<=ops.size->L.size=ops.size->(∀ j,j<ops.size->L.getD j false=decide (j<k))->aU P Q (ops.toList.drop k) a w->Region.ready md ops L=[]->Q .normal a w:=by
  intro L a w k hk hk2 hsz hL h hr
  have hks:k=ops.size:=by
   rcases Nat.lt_or_ge k ops.size with q | q
   ·exfalso
    have hm:k ∈ Region.ready md ops L:=by
     refine mem_ready.2 ⟨?_,_,Array.getElem?_eq_getElem q,fun e he hb=>?_⟩
     ·rw [yt ω,hL k q]
      simp
     have:=hac k _ (Array.getElem?_eq_getElem q) e he hb;rw [hL e.on ω,decide_eq_true_eq];exact this
    rw [hr] at hm;cases hm
   omega
  subst hks;rw [List.drop_eq_nil_of_le σ] at h;exact h
 intro fuel
 induction fuel with
 | zero=>
  intro L a w k hk hk2 hsz hL hf h
  have hr:Region.ready md ops L=[]:=by
   rw [List.eq_nil_iff_forall_not_mem];intro i hi;have:=XE L k hk hL hsz i hi;omega
  exact ⟨hr,hend L a w k hk hk2 hsz hL h hr⟩
 | succ fuel ih=>
 intro L a w k hk hk2 hsz hL hf h;refine ⟨hend L a w k hk hk2 hsz hL h,fun i hi=>?_⟩;obtain ⟨rfl,hilt⟩:=XE L k hk hL hsz i hi;have ho:ops[i]?=some ops[i]:=Array.getElem?_eq_getElem hilt
 have hdr:ops.toList.drop i=ops[i] :: ops.toList.drop (i+1):=by
  rw [List.drop_eq_getElem_cons (by simpa using hilt)];simp
 rw [hdr] at h;unfold wpOp;rw [ho]
 dsimp only
 have hg:=(htl i hilt hk).1 _ ho
 have hw:Region.wanted ops[i] (yielded ops a.tmps)=true:=by
  unfold Region.wanted;rw [hg]
 rw [if_pos hw];refine Or.inl (Oper.wp_mono ?_ h);intro a' w' h';refine ih _ a' w' (i+1) ω ω (by simpa using hsz) (fun j hj=>?_) ω h';simp only [Array.getD_eq_getD_getElem?]
 by_cases hji:j=i
 ·subst hji
  rw [Array.getElem?_setIfInBounds_self_of_lt ω];simp
 rw [Array.getElem?_setIfInBounds_ne (fun e=>hji e.symm)];have:=hL j hj;simp only [Array.getD_eq_getD_getElem?] at this;rw [this,decide_eq_decide];omega
theorem yz {l:Nat->Bool} {k:Nat}:∀ n:Nat,(∀ j,j<n->l j=decide (j<k))->left l n=n - min k n
 | 0,_=>by simp [left]
 | n+1,h=>by
  unfold left;rw [yz n (fun j hj=>h j ω),h n ω]
  by_cases q:n<k
  ·rw [decide_eq_true q,if_pos rfl]
   omega
  rw [decide_eq_false q,if_neg δ];omega
theorem nW {l:Nat->Bool} {v:Nat->Value}:∀ (os:List Oper) (k m:Nat) (a:Act),(∀ j,k<=j->j<k+os.length->l j=decide (j<k+m))->fill l v os k a=fill (fun _=>true) v (os.take m) k a
 | [],k,m,a,_=>by rw [List.take_nil];rfl
 | o :: os,k,0,a,h=>by
  rw [List.take_zero];unfold fill
  rw [h k (KT _) σ,decide_eq_false ω,if_neg δ,nW os (k+1) 0 a (fun j h1 h2=>by
   rw [h j ω (by simp;omega),decide_eq_decide]
   omega),List.take_zero]
  rfl
 | o :: os,k,m+1,a,h=>by
  rw [List.take_succ_cons];unfold fill;rw [h k (KT _) σ,decide_eq_true ω,if_pos rfl]
  exact nW os (k+1) m _ fun j h1 h2=>by
   rw [h j ω (by simp;omega),decide_eq_decide];omega
section
variable (P) (Q) (md) (ops:Array Oper) (S:World->Prop) (V:Nat->Value->World->Prop) (a0:Act) (fr:Nat->Bool)
def CJ (i:Nat) (o:Oper) (a:Act) (w:World):Prop:=
 if Region.wanted o (yielded ops a.tmps)=true then o.wp P a w (fun a' w'=>∃ v,a'=a.put o.dst v/\V i v w'/\S w'/\(∀ j u,V j u w->V j u w')/\(fr i=true->∀ j u,fr j=true->V j u w->u≠v)) Q else V i undef w/\fr i=false
def H5 (i:Nat) (o:Oper):Prop:=∀ (a:Act) (w:World) (vals:Nat->Value),S w->(∀ e ∈ o.after,Region.binds md e=true->V e.on (vals e.on) w)->(∀ t ∈ o.looksAt ops,a.tmps[t]?=rd md ops a0 vals o t)->CJ P Q ops S V fr i o a w
def pm:List Oper->Nat->Prop
 | [],_=>True
 | o :: os,k=>H5 P Q md ops S V a0 fr k o/\pm os (k+1)
theorem pm.at {os:List Oper} {k:Nat} (h:pm P Q md ops S V a0 fr os k):∀ {i:Nat} {o:Oper},os[i]?=some o->H5 P Q md ops S V a0 fr (k+i) o:=by
 induction os generalizing k with
 | nil=>intro i o hi;simp at hi
 | cons x os ih=>
 intro i o hi
 cases i with
 | zero=>
  exact U5
 | succ i=>
 have:=ih h.2 (i:=i) (o:=o) (by simpa using hi);rw [show k+(i+1)=k+1+i from ω];exact this
def JO (L:Array Bool) (a:Act) (w:World):Prop:=
 L.size=ops.size/\S w/\(∀ i o,ops[i]?=some o->L.getD i false=true->∀ e ∈ o.after,Region.binds md e=true->L.getD e.on false=true)/\
 ∃ vals:Nat->Value,a=fill (fun j=>L.getD j false) vals ops.toList 0 a0/\(∀ i,i<ops.size->L.getD i false=true->V i (vals i) w)/\
  ∀ i j,i<ops.size->j<ops.size->L.getD i false=true->L.getD j false=true->i≠j->fr i=true->fr j=true->vals i≠vals j
end
theorem Br {ops:Array Oper} {S:World->Prop} {V:Nat->Value->World->Prop} {a0:Act} {n0:Nat} {fr:Nat->Bool} (hok:eo md ops a0.tmps.size=true) (ht:oR md ops n0=true)
  (hR:pm P Q md ops S V a0 fr (ops.toList.take n0) 0) (hF:∀ (vals:Nat->Value) (w:World),S w->(∀ i,i<n0->V i (vals i) w)->(∀ i j,i<n0->j<n0->i≠j->fr i=true->fr j=true->vals i≠vals j)->aU P Q (ops.toList.drop n0) (fill (fun _=>true) vals (ops.toList.take n0) 0 a0) w) :
  ∀ (fuel:Nat) (L:Array Bool) (a:Act) (w:World),left (fun j=>L.getD j false) ops.size<=fuel->(∀ i,i<ops.size->L.getD i false=true->i<n0)->JO md ops S V a0 fr L a w->wpAny P md ops Q fuel L a w:=by
 obtain ⟨hn0,hta⟩:=sf ht;rw [eo,Bool.and_eq_true,Bool.and_eq_true] at hok;obtain ⟨⟨hap,hrd⟩,hac⟩:=hok
 have Ly:∀ i o,ops[i]?=some o->(∀ e ∈ o.after,Region.binds md e=true->e.on<i)/\∀ d,o.dst=some d->d<a0.tmps.size:=fun i o hi=>by
  exact Rv
 have htl:∀ i,ops.toList[i]?=ops[i]?:=fun i=>Array.getElem?_toList
 have hall:∀ L:Array Bool,L.size=ops.size->Region.ready md ops L=[]->∀ i,i<ops.size->L.getD i false=true:=by
  exact Ue
 have hdone:∀ (fuel:Nat) (L:Array Bool) (a:Act) (w:World),left (fun j=>L.getD j false) ops.size<=fuel->(∀ i,i<ops.size->L.getD i false=true->i<n0)->JO md ops S V a0 fr L a w->(∀ j,j<n0->L.getD j false=true)->wpAny P md ops Q fuel L a w:=by
  rintro fuel L a w hl hb ⟨hL,hS,hdc,vals,rfl,hv,hfr⟩ hj
  have hLj:∀ j,j<ops.size->L.getD j false=decide (j<n0):=fun j hjs=>by
   by_cases q:j<n0
   ·rw [hj j q,decide_eq_true q]
   rw [decide_eq_false q]
   cases hc:L.getD j false
   ·rfl
   exact absurd (hb j hjs hc) q
  rw [yz (k:=n0) ops.size hLj] at hl;refine yK ht (fun i o hi=>(Ly i o hi).1) fuel L _ w n0 (KT _) hn0 hL hLj ω ?_;rw [nW (l:=fun j=>L.getD j false) (m:=n0) ops.toList 0 a0 (fun j _ h2=>by rw [Nat.zero_add];exact hLj j (by simpa using h2))]
  exact hF vals w hS (fun i hi=>hv i ω (hj i hi)) fun i j hi hj' hne=>hfr i j ω ω (hj i hi) (hj j hj') hne
 intro fuel
 induction fuel with
 | zero=>
  intro L a w hl hb hI;have hz:=iP _ (Nat.le_zero.1 hl);exact hdone 0 L a w hl hb hI (fun j hj=>hz j ω)
 | succ fuel ih=>
 intro L a w hl hb hI
 by_cases hj:∀ j,j<n0->L.getD j false=true
 ·exact hdone _ L a w hl hb hI hj
 refine ⟨fun hr=>absurd (fun j hjn=>hall L hI.1 hr j ω) hj,fun i hi=>?_⟩;obtain ⟨hL,hS,hdc,vals,rfl,hv,hfr⟩:=hI;obtain ⟨hun,o,ho,O5⟩:=mem_ready.1 hi;have hilt:i<ops.size:=(Array.getElem?_eq_some_iff.1 ho).1
 have hin:i<n0:=by
  rcases Nat.lt_or_ge i n0 with q | q
  ·exact q
  exact absurd (fun j hjn=>pu hdc 3 i j o ho O5 ((hta i hilt q).2 j ω)) hj
 have hun':L.getD i false=false:=by
  exact R_
 have hq:=pm.at P Q md ops S V a0 fr hR (i:=i) (o:=o) (by rw [List.getElem?_take_of_lt hin,htl];exact ho);rw [Nat.zero_add] at hq
 have hst:=hq (fill (fun j=>L.getD j false) vals ops.toList 0 a0) w vals hS
  (fun e he hb=>hv e.on (by have:=(Ly i o ho).1 e he hb;omega) (O5 e he hb))
  (fun t ht=>by
   exact YB)
 have hnext:∀ (v:Value) (w':World),V i v w'->S w'->(∀ j u,V j u w->V j u w')->(fr i=true->∀ j u,fr j=true->V j u w->u≠v)->wpAny P md ops Q fuel (L.setIfInBounds i true) ((fill (fun j=>L.getD j false) vals ops.toList 0 a0).put o.dst v) w':=by
  intro v w' h1 h2 h3 h4
  have e1:∀ j,(L.setIfInBounds i true).getD j false=if j=i then true else L.getD j false:=fun j=>by
   exact Rx
  refine ih _ _ _ ?_ (fun j hjs hlj=>by rw [e1] at hlj;split at hlj <;> first | omega | exact hb j hjs hlj) ⟨by simpa using hL,h2,?_,fun j=>if j=i then v else vals j,?_,?_,?_⟩
  ·exact Uo
  ·intro j x hx hlj e he hb
   exact Uv
  ·exact ZX
  ·intro j hj hlj
   exact ZR
  intro j k hj hk hlj hlk hne fj fk;rw [e1] at hlj hlk
  show (if j=i then v else vals j)≠(if k=i then v else vals k)
  split at hlj
  ·rename_i hji
   subst hji;rw [if_pos rfl,if_neg (fun e=>hne e.symm)];rw [if_neg (fun e=>hne e.symm)] at hlk
   exact fun e=>h4 fj k (vals k) fk (hv k hk hlk) e.symm
  rename_i hji
  rw [if_neg hji]
  split at hlk
  ·rename_i hki
   rw [if_pos hki];subst hki;exact h4 fk j (vals j) fj (hv j hj hlj)
  rename_i hki
  rw [if_neg hki];exact hfr j k hj hk hlj hlk hne fj fk
 unfold wpOp;rw [ho];unfold CJ at hst
 dsimp only
 split at hst
 ·rename_i hw
  rw [if_pos hw];refine Or.inl (Oper.wp_mono ?_ hst);rintro a' w' ⟨v,rfl,h1,h2,h3,h4⟩;exact hnext v w' h1 h2 h3 h4
 rename_i hw
 rw [if_neg hw]
 exact hnext undef w hst.1 hS (fun _ _ h=>h) fun e=>by rw [hst.2] at e;cases e
theorem GZ {id:Nat} {ops:Array Oper} {a0:Act} {w:World} {n0:Nat} (fr:Nat->Bool) (S:World->Prop) (V:Nat->Value->World->Prop) (hm:P.follows .mixedOrders=true) (hok:eo .any ops a0.tmps.size=true) (ht:oR .any ops n0=true)
  (hS:S { w with drawn:=w.drawn+1 }) (hR:pm P Q .any ops S V a0 fr (ops.toList.take n0) 0)
  (hF:∀ (vals:Nat->Value) (w:World),S w->(∀ i,i<n0->V i (vals i) w)->(∀ i j,i<n0->j<n0->i≠j->fr i=true->fr j=true->vals i≠vals j)->aU P Q (ops.toList.drop n0) (fill (fun _=>true) vals (ops.toList.take n0) 0 a0) w):(Code.region id ops true).wp P Q a0 w:=by
 have rep:∀ j,(Array.replicate ops.size false).getD j false=false:=fun j=>by
  exact SC
 refine wp_region_any hm (Br hok ht hR hF _ _ _ _ ?_ (fun i _ hl=>by rw [rep] at hl;cases hl) ⟨σ,hS,?_,fun _=>undef,?_,?_,?_⟩)
 ·exact Ut
 ·intro i o hi hl
  rw [rep] at hl;cases hl
 ·exact YY
 ·intro i hi hl
  rw [rep] at hl;cases hl
 intro i j _ _ hl;rw [rep] at hl;cases hl
def gR (P:Program) (ops:Array Oper) (Q:Exit->Act->World->Prop) (a0:Act) (T:List Val) (w1:World) (i:Nat) (o:Oper):Prop:=
 match LS T i with
 | .new B Ty xs=>∀ (a:Act) (w:World),Below w1 w1 w->(∀ t ∈ o.looksAt ops,sp ops a0 T o a w t)->B<=w.heap.size/\Region.wanted o (yielded ops a.tmps)=true/\(execOp a.eval o).run P w=.ok (.value (.pointer (some ⟨w,0,none⟩))) (w.alloc (.cells xs Ty))
 | V=>∀ (a:Act) (w:World),Below w1 w1 w->(∀ t ∈ o.looksAt ops,sp ops a0 T o a w t)->Does P ops Q V o a w
def Val.jy:Val->Bool
 | .new _ _ _=>true
 | _=>false
def wu (P:Program) (ops:Array Oper) (Q:Exit->Act->World->Prop) (a0:Act) (T:List Val) (w1:World) (n0:Nat):List Oper->Nat->Prop
 | [],_=>True
 | o :: os,k=>(k<n0->gR P ops Q a0 T w1 k o)/\wu P ops Q a0 T w1 n0 os (k+1)
theorem Ga {ops:Array Oper} {a0:Act} {T:List Val} {w1:World} {k:Nat} {o:Oper} (h:gR P ops Q a0 T w1 k o):H5 P Q .any ops (fun w=>Below w1 w1 w) (fun i v w=>(LS T i).ok v w) a0 (fun i=>(LS T i).jy) k o:=by
 intro a w vals hS hv hr
 have hl:∀ t ∈ o.looksAt ops,sp ops a0 T o a w t:=fun t ht=>by
  have:=hr t ht;unfold rd at this;unfold sp
  split
  ·exact ZG
  rename_i he
  rw [he] at this;exact this
 unfold CJ
 dsimp only
 by_cases hn:(LS T k).jy=true
 ·cases hT:LS T k with
  | new B Ty xs=>
   unfold gR at h;rw [hT] at h;obtain ⟨h0,h1,h2⟩:=h a w hS hl;rw [if_pos h1];unfold Oper.wp;rw [h2];refine ⟨_,rfl,⟨w,h0,rfl,?_⟩,hS.trans (((KS _ _).alloc (KT _) _).mono hS.size),fun j u hu=>Val.keep ((KS _ _).alloc (KT _) _) _ _ hu,fun _ j u hj hu=>?_⟩
   ·show (w.heap.push _)[w.heap.size]?=_
    simp
   cases hTj:LS T j with
   | new B' Ty' xs'=>
    rw [hTj] at hu;obtain ⟨g,-,rfl,hg⟩:=hu;intro e;have hlt:=(Array.getElem?_eq_some_iff.1 hg).1
    injection e with e
    injection e with e
    injection e with e
    omega
   | _=>rw [hTj] at hj;cases hj
  | _=>rw [hT] at hn;cases hn
 have h1:Does P ops Q (LS T k) o a w:=by
  unfold gR at h
  split at h
  ·rename_i hT
   rw [hT] at hn;exact absurd rfl hn
  exact h a w hS hl
 unfold Does at h1
 split
 ·rename_i hw
  rw [if_pos hw] at h1;refine Oper.wp_mono ?_ h1;rintro a' w' ⟨v,e1,e2,e3⟩;exact ⟨v,e1,e2,p_ hS e3,fun j u hu=>Val.keep e3 _ _ hu,fun e=>absurd e hn⟩
 rename_i hw
 rw [if_neg hw] at h1;exact ⟨h1,by simpa using hn⟩
theorem sV {ops:Array Oper} {a0:Act} {T:List Val} {w1:World} {n0:Nat}:∀ (os:List Oper) (k m:Nat),k+m=n0->wu P ops Q a0 T w1 n0 os k->pm P Q .any ops (fun w=>Below w1 w1 w) (fun i v w=>(LS T i).ok v w) a0 (fun i=>(LS T i).jy) (os.take m) k
 | [],_,m,_,_=>by rw [List.take_nil];trivial
 | o :: os,k,0,_,_=>by rw [List.take_zero];trivial
 | o :: os,k,m+1,h,hr=>by rw [List.take_succ_cons];exact ⟨Ga (hr.1 ω),sV os (k+1) m ω hr.2⟩
theorem be {id:Nat} {ops:Array Oper} {a0:Act} {w:World} (n0:Nat) (T:List Val) (hm:P.follows .mixedOrders=true) (hok:eo .any ops a0.tmps.size=true) (ht:oR .any ops n0=true)
  (hR:wu P ops Q a0 T w n0 ops.toList 0)
  (hF:∀ (vals:Nat->Value) (w':World),Below w w w'->(∀ i,i<n0->(LS T i).ok (vals i) w')->(∀ i j,i<n0->j<n0->i≠j->(LS T i).jy=true->(LS T j).jy=true->vals i≠vals j)->aU P Q (ops.toList.drop n0) (fill (fun _=>true) vals (ops.toList.take n0) 0 a0) w'):(Code.region id ops true).wp P Q a0 w:=
 GZ (fun i=>(LS T i).jy) (fun w'=>Below w w w') (fun i v w'=>(LS T i).ok v w') hm hok ht ((KS _ w).drew) (sV _ 0 n0 (Nat.zero_add _) hR) hF
theorem cX {p:Value->World->Prop} {v:Value} {w:World} (h:(Val.at p).ok v w):p v w:=h w (KS _ _)
theorem Om {ops:Array Oper} {o:Oper} {a:Act} {w:World} {G:Bool} {v:Value} {j:Nat} (hg:o.guard=some (j,false)) (hy:yielded ops a.tmps j=some G) (h:G=false->Does P ops Q (.is v) o a w):Does P ops Q (.is (bif G then undef else v)) o a w:=by
 cases G
 ·exact h rfl
 exact Hj (AM (b:=true) hg hy)
def vl (ops:Array Oper) (a0:Act) (T:List Val) (o:Oper) (t:Nat):Option Value:=
 match o.after.toList.find? (fun e=>Region.binds .any e && ((ops[e.on]?).bind (·.dst)) == some t) with
 | some e=>match LS T e.on with
  | .is x=>some x
  | _=>none
 | none=>a0.tmps[t]?
theorem ia {ops:Array Oper} {a0:Act} {T:List Val} {o:Oper} {a:Act} {w:World} {t:Nat} {x:Value} (h:sp ops a0 T o a w t) (hx:vl ops a0 T o t=some x):a.tmps[t]?=some x:=by
 unfold sp at h;unfold vl at hx
 split at h
 ·rename_i e he
  rw [he] at hx
  dsimp only at hx
  split at hx
  ·rename_i y hy
   rw [hy] at h;cases hx
   exact A_ h
  cases hx
 rename_i he
 rw [he] at hx;exact h.trans hx
theorem Rf {ops:Array Oper} {a0:Act} {T:List Val} {w1:World} {i:Nat} {o:Oper} {V:Val} (hy:LS T i=V) (hn:V.jy=false) (h:∀ (a:Act) (w:World),Below w1 w1 w->(∀ t ∈ o.looksAt ops,sp ops a0 T o a w t)->Does P ops Q V o a w):gR P ops Q a0 T w1 i o:=by
 unfold gR;rw [hy];cases V
 case new=>cases hn
 all_goals exact h
theorem sk {ops:Array Oper} {a0:Act} {T:List Val} {w1:World} {n0 i j:Nat} {o:Oper} {b:Bool} (t:Nat) (hy:LS T i=.is undef:=by rfl) (hl:t ∈ o.looksAt ops:=by decide) (hx:vl ops a0 T o t=some (.bool b):=by rfl) (hg:o.guard=some (j,!b):=by rfl) (hd:(ops[j]?).bind (·.dst)=some t:=by rfl):i<n0->gR P ops Q a0 T w1 i o:=fun _=>Rf hy rfl fun a w hB hr=>Hj (AM hg (L8 hd (ia (hr t hl) hx)))
theorem b0 {ops:Array Oper} {a0:Act} {T:List Val} {w1:World} {n0 i:Nat} {o:Oper} {v:Value} (h:∀ (a:Act) (w:World),Below w1 w1 w->(execOp a.eval o).run P w=.ok (.value v) w) (hy:LS T i=.is v:=by rfl) (hn:o.guard=none:=by rfl) (hl:o.looksAt ops=[]:=by rfl):i<n0->gR P ops Q a0 T w1 i o:=fun _=>Rf hy rfl fun a w hB hr=>aS SG (h a w hB)
theorem o0 {ops:Array Oper} {a0:Act} {T:List Val} {w1:World} {n0 i:Nat} {o:Oper} {V:Val} (h:∀ (a:Act) (w:World),Below w1 w1 w->Does P ops Q V o a w) (hy:LS T i=V:=by rfl) (hn:V.jy=false:=by rfl) (hl:o.looksAt ops=[]:=by rfl):i<n0->gR P ops Q a0 T w1 i o:=fun _=>Rf hy hn fun a w hB hr=>h a w hB
theorem b1 {ops:Array Oper} {a0:Act} {T:List Val} {w1:World} {n0 i:Nat} {o:Oper} {t:Nat} {x:Value} {v:Value} (h:∀ (a:Act) (w:World),Below w1 w1 w->a.tmps[t]?=some x->(execOp a.eval o).run P w=.ok (.value v) w) (hy:LS T i=.is v:=by rfl) (hn:o.guard=none:=by rfl) (hl:o.looksAt ops=[t]:=by rfl) (et:vl ops a0 T o t=some x:=by rfl):i<n0->gR P ops Q a0 T w1 i o:=fun _=>Rf hy rfl fun a w hB hr=>aS SG (h a w hB (ia (hr t (by rw [hl];simp)) et))
theorem o1 {ops:Array Oper} {a0:Act} {T:List Val} {w1:World} {n0 i:Nat} {o:Oper} {t:Nat} {x:Value} {V:Val} (h:∀ (a:Act) (w:World),Below w1 w1 w->a.tmps[t]?=some x->Does P ops Q V o a w) (hy:LS T i=V:=by rfl) (hn:V.jy=false:=by rfl) (hl:o.looksAt ops=[t]:=by rfl) (et:vl ops a0 T o t=some x:=by rfl):i<n0->gR P ops Q a0 T w1 i o:=fun _=>Rf hy hn fun a w hB hr=>h a w hB (ia (hr t (by rw [hl];simp)) et)
theorem b2 {ops:Array Oper} {a0:Act} {T:List Val} {w1:World} {n0 i:Nat} {o:Oper} {t s:Nat} {x y:Value} {v:Value} (h:∀ (a:Act) (w:World),Below w1 w1 w->a.tmps[t]?=some x->a.tmps[s]?=some y->(execOp a.eval o).run P w=.ok (.value v) w) (hy:LS T i=.is v:=by rfl) (hn:o.guard=none:=by rfl) (hl:o.looksAt ops=[t,s]:=by rfl) (et:vl ops a0 T o t=some x:=by rfl) (es:vl ops a0 T o s=some y:=by rfl):i<n0->gR P ops Q a0 T w1 i o:=fun _=>Rf hy rfl fun a w hB hr=>aS SG (h a w hB (ia (hr t (by rw [hl];simp)) et) (ia (hr s (by rw [hl];simp)) es))
theorem o2 {ops:Array Oper} {a0:Act} {T:List Val} {w1:World} {n0 i:Nat} {o:Oper} {t s:Nat} {x y:Value} {V:Val} (h:∀ (a:Act) (w:World),Below w1 w1 w->a.tmps[t]?=some x->a.tmps[s]?=some y->Does P ops Q V o a w) (hy:LS T i=V:=by rfl) (hn:V.jy=false:=by rfl) (hl:o.looksAt ops=[t,s]:=by rfl) (et:vl ops a0 T o t=some x:=by rfl) (es:vl ops a0 T o s=some y:=by rfl):i<n0->gR P ops Q a0 T w1 i o:=fun _=>Rf hy hn fun a w hB hr=>h a w hB (ia (hr t (by rw [hl];simp)) et) (ia (hr s (by rw [hl];simp)) es)
theorem b3 {ops:Array Oper} {a0:Act} {T:List Val} {w1:World} {n0 i:Nat} {o:Oper} {t s u:Nat} {x y z:Value} {v:Value} (h:∀ (a:Act) (w:World),Below w1 w1 w->a.tmps[t]?=some x->a.tmps[s]?=some y->a.tmps[u]?=some z->(execOp a.eval o).run P w=.ok (.value v) w) (hy:LS T i=.is v:=by rfl) (hn:o.guard=none:=by rfl) (hl:o.looksAt ops=[t,s,u]:=by rfl) (et:vl ops a0 T o t=some x:=by rfl) (es:vl ops a0 T o s=some y:=by rfl) (eu:vl ops a0 T o u=some z:=by rfl):i<n0->gR P ops Q a0 T w1 i o:=fun _=>Rf hy rfl fun a w hB hr=>aS SG (h a w hB (ia (hr t (by rw [hl];simp)) et) (ia (hr s (by rw [hl];simp)) es) (ia (hr u (by rw [hl];simp)) eu))
theorem o3 {ops:Array Oper} {a0:Act} {T:List Val} {w1:World} {n0 i:Nat} {o:Oper} {t s u:Nat} {x y z:Value} {V:Val} (h:∀ (a:Act) (w:World),Below w1 w1 w->a.tmps[t]?=some x->a.tmps[s]?=some y->a.tmps[u]?=some z->Does P ops Q V o a w) (hy:LS T i=V:=by rfl) (hn:V.jy=false:=by rfl) (hl:o.looksAt ops=[t,s,u]:=by rfl) (et:vl ops a0 T o t=some x:=by rfl) (es:vl ops a0 T o s=some y:=by rfl) (eu:vl ops a0 T o u=some z:=by rfl):i<n0->gR P ops Q a0 T w1 i o:=fun _=>Rf hy hn fun a w hB hr=>h a w hB (ia (hr t (by rw [hl];simp)) et) (ia (hr s (by rw [hl];simp)) es) (ia (hr u (by rw [hl];simp)) eu)
end Rg
end
section
open Go.RowKit open Gr M Rg Rw Wh
theorem Zg {p:Prop} (h:p:=by
 simp only [Value.ownBlock,Option.some.injEq] at e;subst e;unfold aG at hv;rw [hv] at hh
 injection hh with hh
 injection hh with _ h2
 exact hT h2):p:=h
theorem Z8 {p:Prop} (h:p:=by
 rw [World.setCell]
 show (W.heap.modify g _)[k]?=_
 rw [Array.getElem?_modify,if_neg (fun e=>hne (by rw [e]))]):p:=h
theorem wat2 {p:Prop} (h:p:=by obtain ⟨sl,rfl,ho⟩:=h;obtain ⟨a,c,rfl,-,-⟩:=aF.view ho;exact ⟨_,a,_,c,KO rfl,rfl,ho⟩):p:=h
def aG (W:World) (g:Nat) (T:TypeId) (xs:Array Value):Prop:=W.heap[g]?=some (.cells xs T (0,0))
namespace aG
variable {W W':World} {g:Nat} {T:TypeId} {xs:Array Value}
theorem lt (h:aG W g T xs):g<W.heap.size:=(Array.getElem?_eq_some_iff.1 h).1
theorem keep (h:aG W g T xs) (hb:Below W W W'):aG W' g T xs:=(hb.block g h.lt).trans h
theorem new (w:World) (xs:Array Value) (T:TypeId):aG (w.alloc (.cells xs T)) w T xs:=by
 show (w.heap.push (.cells xs T))[w.heap.size]?=_
 simp
theorem alloc (h:aG W g T xs) (o:Obj):aG (W.alloc o) g T xs:=h.keep ((KS _ _).alloc (KT _) o)
theorem drew (h:aG W g T xs):aG W.drew g T xs:=h
theorem cell (h:aG W g T xs) (i:Nat):W.cell? ⟨g,i,none⟩=xs[i]?:=by
 unfold aG at h;simp [World.cell?,h]
theorem Kx (h:aG W g T xs) (i:Nat):W.frozen? ⟨g,i,none⟩=false:=by
 unfold aG at h;simp [World.frozen?,h]
theorem set (h:aG W g T xs) (i:Nat) (x:Value):aG (W.setCell ⟨g,i,none⟩ x) g T (xs.setIfInBounds i x):=by
 have hl:=h.lt;unfold aG at *;rw [World.setCell]
 show (W.heap.modify g _)[g]?=_
 rw [Array.getElem?_modify,if_pos rfl,h];rfl
theorem other (h:aG W g T xs) {k i:Nat} (hk:g≠k) (x:Value):aG (W.setCell ⟨k,i,none⟩ x) g T xs:=by
 unfold aG at *;rw [World.setCell]
 show (W.heap.modify k _)[g]?=_
 rw [Array.getElem?_modify,if_neg (fun e=>hk e.symm),h]
theorem box {u v:Value} (h:aG W g T #[u,v]):bJ W g u v:=⟨h.cell 0,h.cell 1,h.Kx 0,h.Kx 1,h.lt⟩
theorem aI {u v x y:Value} (h:aG W g T #[u,v,x,y]):lR W g u v x y:=by
 refine ⟨h.cell 0,h.cell 1,h.cell 2,h.cell 3,h.Kx 0,h.Kx 1,h.Kx 2,h.Kx 3,h.lt⟩
theorem set2 {u v:Value} (h:aG W g T #[u,v]) (x y:Value):aG ((W.setCell ⟨g,0,none⟩ x).setCell ⟨g,1,none⟩ y) g T #[x,y]:=(h.set 0 x).set 1 y
theorem oK {u v p q:Value} (h:aG W g T #[u,v,p,q]) (x y z t:Value):aG ((((W.setCell ⟨g,0,none⟩ x).setCell ⟨g,1,none⟩ y).setCell ⟨g,2,none⟩ z).setCell ⟨g,3,none⟩ t) g T #[x,y,z,t]:=(((h.set 0 x).set 1 y).set 2 z).set 3 t
theorem b2 {u v:Value} (h:aG W g T #[u,v]):W.cell? ⟨g,0,none⟩=some u/\W.cell? ⟨g,1,none⟩=some v:=⟨h.cell 0,h.cell 1⟩
theorem L_ {u v:Value} (h:aG W g T #[u,v]):W.cell? ⟨g,0,none⟩=some u/\W.cell? ⟨g,1,none⟩=some v/\W.frozen? ⟨g,0,none⟩=false/\W.frozen? ⟨g,1,none⟩=false:=⟨h.cell 0,h.cell 1,h.Kx 0,h.Kx 1⟩
theorem b4 {u v x y:Value} (h:aG W g T #[u,v,x,y]):W.cell? ⟨g,0,none⟩=some u/\W.cell? ⟨g,1,none⟩=some v/\W.cell? ⟨g,2,none⟩=some x/\W.cell? ⟨g,3,none⟩=some y:=⟨h.cell 0,h.cell 1,h.cell 2,h.cell 3⟩
theorem LA {u v x y:Value} (h:aG W g T #[u,v,x,y]):W.cell? ⟨g,0,none⟩=some u/\W.cell? ⟨g,1,none⟩=some v/\W.cell? ⟨g,2,none⟩=some x/\W.cell? ⟨g,3,none⟩=some y/\W.frozen? ⟨g,0,none⟩=false/\W.frozen? ⟨g,1,none⟩=false/\W.frozen? ⟨g,2,none⟩=false/\W.frozen? ⟨g,3,none⟩=false:=⟨h.cell 0,h.cell 1,h.cell 2,h.cell 3,h.Kx 0,h.Kx 1,h.Kx 2,h.Kx 3⟩
theorem one {u:Value} (h:aG W g T #[u]) (x:Value):aG (W.setCell ⟨g,0,none⟩ x) g T #[x]:=h.set 0 x
end aG
theorem bA (w:World) (o:Obj):Below w w (w.alloc o):=(KS _ w).alloc (KT _) o
theorem cJ (w:World) (xs1:Array Value) (T1:TypeId):∃ wc,w.alloc (.cells xs1 T1)=wc/\aG wc w T1 xs1/\Below w w wc:=
 ⟨_,rfl,aG.new w xs1 T1,bA w _⟩
theorem dQ (w:World) (xs1:Array Value) (T1:TypeId) (xs2:Array Value) (T2:TypeId):∃ wc,(w.alloc (.cells xs1 T1)).alloc (.cells xs2 T2)=wc/\aG wc w T1 xs1/\aG wc (w.heap.size+1) T2 xs2/\Below w w wc:=by
 obtain ⟨wc,rfl,h1,hb⟩:=cJ w xs1 T1;have h2:=aG.new (w.alloc (.cells xs1 T1)) xs2 T2;rw [KQ] at h2;exact ⟨_,rfl,h1.alloc _,h2,hb.alloc hb.size _⟩
theorem dF (w:World) (xs1:Array Value) (T1:TypeId) (xs2:Array Value) (T2:TypeId) (Sc:Array Value) (T3:TypeId):∃ wc,((w.alloc (.cells xs1 T1)).alloc (.cells xs2 T2)).alloc (.cells Sc T3)=wc/\aG wc w T1 xs1/\aG wc (w.heap.size+1) T2 xs2/\aG wc (w.heap.size+1+1) T3 Sc/\Below w w wc:=by
 obtain ⟨wc,rfl,h1,h2,hb⟩:=dQ w xs1 T1 xs2 T2;have h3:=aG.new ((w.alloc (.cells xs1 T1)).alloc (.cells xs2 T2)) Sc T3;rw [KQ,KQ] at h3;exact ⟨_,rfl,h1.alloc _,h2.alloc _,h3,hb.alloc hb.size _⟩
theorem fP (w:World) (xs1:Array Value) (T1:TypeId) (xs2:Array Value) (T2:TypeId) (Sc:Array Value) (T3:TypeId) (xs4:Array Value) (T4:TypeId):∃ wc,(((w.alloc (.cells xs1 T1)).alloc (.cells xs2 T2)).alloc (.cells Sc T3)).alloc (.cells xs4 T4)=wc/\aG wc w T1 xs1/\aG wc (w.heap.size+1) T2 xs2/\aG wc (w.heap.size+1+1) T3 Sc/\aG wc (w.heap.size+1+1+1) T4 xs4/\Below w w wc:=by
 obtain ⟨wc,rfl,h1,h2,h3,hb⟩:=dF w xs1 T1 xs2 T2 Sc T3;have h4:=aG.new (((w.alloc (.cells xs1 T1)).alloc (.cells xs2 T2)).alloc (.cells Sc T3)) xs4 T4;rw [KQ,KQ,KQ] at h4;exact ⟨_,rfl,h1.alloc _,h2.alloc _,h3.alloc _,h4,hb.alloc hb.size _⟩
theorem aF.apart {W:World} {base g:Nat} {T:TypeId} {sl:Value} {xs:List Int} {ys:Array Value} (h:aF W base sl xs) (hv:aG W g T ys) (hT:T≠3):sl.ownBlock≠some g:=by
 intro e;obtain ⟨-,h⟩:=h
 rcases h with ⟨rfl,-⟩ | ⟨g',cap,cur,rfl,-,hh,-⟩
 ·simp [Value.ownBlock] at e
 exact Zg
theorem aF.fU {W:World} {base g i:Nat} {T:TypeId} {sl:Value} {xs:List Int} {ys:Array Value} (h:aF W base sl xs) (hv:aG W g T ys) (hT:T≠3) (x:Value):aF (W.setCell ⟨g,i,none⟩ x) base sl xs:=by
 refine World.ownsRow.kept (row:=some g) h ⟨rfl,rfl,rfl,by simp [go_sem],fun k hk hne=>?_⟩ (by
  cases hs:sl.ownBlock with
  | none=>exact Or.inl rfl
  | some k=>exact Or.inr fun e=>h.apart hv hT (by rw [hs];exact e))
 exact Z8
theorem aF.bV {W:World} {base g:Nat} {T:TypeId} {sl:Value} {xs:List Int} {u v:Value} (h:aF W base sl xs) (hv:aG W g T #[u,v]) (hT:T≠3) (x y:Value):aF ((W.setCell ⟨g,0,none⟩ x).setCell ⟨g,1,none⟩ y) base sl xs:=
 (h.fU hv hT x).fU (hv.set 0 x) hT y
theorem aF.eR {W:World} {base g:Nat} {T:TypeId} {sl:Value} {xs:List Int} {u v p q:Value} (h:aF W base sl xs) (hv:aG W g T #[u,v,p,q]) (hT:T≠3) (x y z t:Value):aF ((((W.setCell ⟨g,0,none⟩ x).setCell ⟨g,1,none⟩ y).setCell ⟨g,2,none⟩ z).setCell ⟨g,3,none⟩ t) base sl xs:=
 (((h.fU hv hT x).fU (hv.set 0 x) hT y).fU ((hv.set 0 x).set 1 y) hT z).fU (((hv.set 0 x).set 1 y).set 2 z) hT t
theorem kO {w w':World} {base:Nat} {sl:Value} {xs:List Int} (h:Hid (aF w base sl xs)) (hb:Below w w w'):Hid (aF w' base sl xs):=KO (aF.below h.out hb)
theorem sO {W:World} {base g:Nat} {T:TypeId} {sl:Value} {xs:List Int} {u v:Value} (h:Hid (aF W base sl xs)) (hv:aG W g T #[u,v]) (hT:T≠3) (x y:Value):Hid (aF ((W.setCell ⟨g,0,none⟩ x).setCell ⟨g,1,none⟩ y) base sl xs):=KO (h.out.bV hv hT x y)
def aK (base:Nat) (z:Int) (v:Value) (W:World):Prop:=∃ sl,v=.agg #[decide (z<0),sl]/\aF W base sl (Wh.a_ z.natAbs)
theorem aK.view {base:Nat} {z:Int} {v:Value} {W:World} (h:aK base z v W):∃ (s:Bool) (a:Option Addr) (l c:Nat),Hid (s=decide (z<0))/\v=.agg #[s,.slice a l c]/\aF W base (.slice a l c) (Wh.a_ z.natAbs):=by
 exact wat2
theorem aK.at1 {base k:Nat} {z:Int} {sl:Value} {W:World} (h:aF W k sl (Wh.a_ z.natAbs)) (hk:base<=k):(Rg.Val.at (aK base z)).ok (.agg #[decide (z<0),sl]) W:=fun _ hb=>⟨sl,rfl,(aF.below h hb).base hk⟩
theorem aK.at {base k:Nat} {z:Int} {sl:Value} {W:World} (h:af W k sl z) (hk:base<=k):(Rg.Val.at (aK base z)).ok (.agg #[decide (z<0),sl]) W:=aK.at1 h hk
theorem aK.get {a:Option Value} {base:Nat} {z:Int} {W:World} (h:∃ v,a=some v/\(Rg.Val.at (aK base z)).ok v W):∃ (s:Bool) (A:Option Addr) (l c:Nat),Hid (s=decide (z<0))/\a=some (.agg #[s,.slice A l c])/\aF W base (.slice A l c) (Wh.a_ z.natAbs):=by
 obtain ⟨v,h1,h2⟩:=h;obtain ⟨s,A,l,c,hs,rfl,o⟩:=(cX h2).view;exact ⟨s,A,l,c,hs,h1,o⟩
theorem aK.ret {P:Program} {f:FuncId} {args:Array Value} {w1 W:World} {z:Int} (hB:Below w1 w1 W) (h:Calls P f args W fun e w'=>∃ sl,e=.returned (.agg #[decide (z<0),sl])/\af w' W sl z/\Below W W w') :
  Calls P f args W fun e w'=>∃ v,e=.returned v/\(Rg.Val.at (aK w1 z)).ok v w'/\Below W W w':=
 h.mono fun _ _ ⟨_,h1,h2,h3⟩=>⟨_,h1,aK.at h2 hB.size,h3⟩
def FJ (base:Nat) (z r:Int) (v:Value) (W:World):Prop:=∃ sl,v=.tuple #[.agg #[decide (z<0),sl],r]/\aF W base sl (Wh.a_ z.natAbs)
theorem FJ.view {base:Nat} {z r:Int} {v:Value} {W:World} (h:FJ base z r v W):∃ (s:Bool) (a:Option Addr) (l c:Nat),Hid (s=decide (z<0))/\v=.tuple #[.agg #[s,.slice a l c],r]/\aF W base (.slice a l c) (Wh.a_ z.natAbs):=by
 exact wat2
theorem FJ.at {base k:Nat} {z r:Int} {sl:Value} {W:World} (h:af W k sl z) (hk:base<=k):(Rg.Val.at (FJ base z r)).ok (.tuple #[.agg #[decide (z<0),sl],r]) W:=fun _ hb=>⟨sl,rfl,(aF.below h hb).base hk⟩
def cW (base:Nat) (zs:List Int) (v:Value) (W:World):Prop:=∃ g,v=.slice (some ⟨g,0,none⟩) zs.length zs.length/\cK W g zs
inductive bq (W:World):List Int->List Value->Prop where
 | nil:bq W [] []
 | cons {z:Int} {zs:List Int} {s:Bool} {a:Option Addr} {l c b:Nat} {us:List Value} (hs:s=decide (z<0)) (ho:aF W b (.slice a l c) (Wh.a_ z.natAbs)) (h:bq W zs us):bq W (z :: zs) (.bool s :: .slice a l c :: us)
theorem bq.get {W:World}:∀ {zs:List Int} {us:List Value},bq W zs us->∀ (k:Nat) (z:Int),zs[k]?=some z->∃ (a:Option Addr) (cap:Nat),us[k*2]?=some (.bool (decide (z<0)))/\us[k*2+1]?=some (.slice a (Wh.a_ z.natAbs).length cap)/\aF W 0 (.slice a (Wh.a_ z.natAbs).length cap) (Wh.a_ z.natAbs)
 | _,_,.nil,k,z,h=>by simp at h
 | _,_,.cons (l:=l) hs ho hr,0,z,h=>by
  simp only [List.getElem?_cons_zero,Option.some.injEq] at h;subst h;subst hs;obtain ⟨a',c',e,-,-⟩:=aF.view ho
  injection e with e1 e2 e3
  subst e1 e2 e3;exact ⟨_,_,rfl,rfl,ho.base (Nat.zero_le _)⟩
 | _,_,.cons hs ho hr,k+1,z,h=>by
  obtain ⟨a,cap,h1,h2,h3⟩:=hr.get k z (by simpa using h);refine ⟨a,cap,?_,?_,h3⟩
  ·rw [show (k+1)*2=k*2+1+1 by omega];simpa using h1
  rw [show (k+1)*2+1=k*2+1+1+1 by omega];simpa using h2
theorem cW.at {base:Nat} {zs:List Int} {us:List Value} {W:World} {T:TypeId} {n:Nat} (hb:base<=W.heap.size) (h:bq W zs us) (hn:n=zs.length):(Rg.Val.at (cW base zs)).ok (.slice (some ⟨W,0,none⟩) n n) (W.alloc (.cells us.toArray T)):=by
 subst hn
 refine fun w' hb'=>⟨W,rfl,fun k z hz=>?_⟩
 obtain ⟨a,cap,h1,h2,h3⟩:=h.get k z hz;have hv:=(aG.new W us.toArray T).keep hb';refine ⟨a,cap,(hv.cell _).trans (by simpa using h1),(hv.cell _).trans (by simpa using h2),aF.below (aF.alloc h3 _) hb'⟩
def JU (base:Nat) (T:TypeId) (xs:Array Value) (v:Value) (W:World):Prop:=∃ g,base<=g/\v=.pointer (some ⟨g,0,none⟩)/\aG W g T xs
theorem JU.at {base:Nat} {T:TypeId} {xs:Array Value} {W:World} (hb:base<=W.heap.size):(Rg.Val.at (JU base T xs)).ok (.pointer (some ⟨W,0,none⟩)) (W.alloc (.cells xs T)):=
 fun _ hb'=>⟨_,hb,rfl,(aG.new W xs T).keep hb'⟩
theorem Rg.I3 {P:Program} {Q:Exit->Act->World->Prop} {ops:Array Oper} {o:Oper} {a:Act} {w:World} {x:Value} {V:Rg.Val} (hw:Region.wanted o (yielded ops a.tmps)=true) (h:(execOp a.eval o).run P w=.ok (.value x) w) (hV:V.ok x w):Rg.Does P ops Q V o a w:=by
 unfold Rg.Does;rw [if_pos hw];unfold Oper.wp;rw [h];exact ⟨x,rfl,hV,KS _ _⟩
instance {W W':World} {g:Nat} {T:TypeId} {xs:Array Value}:HAdd (PLift (aG W g T xs)) (PLift (Below W W W')) (PLift (aG W' g T xs)):=⟨fun x h=>⟨x.down.keep h.down⟩⟩
theorem M4 {p:Prop} (h:p:=by
 intro _ zZ w_ hB hr
 exact ⟨by have:=hB.size;omega,rfl,by first | (go_simp;done) | (go_simp;rfl)⟩):p:=h
theorem M5 {p:Prop} (h:p:=by first | (go_simp;done) | (go_simp;exact ⟨rfl,rfl⟩) | (go_simp;rfl)):p:=h
theorem SA {p:Prop} (h:p:=by
 go_wp2_with fail
 go_meet
 first
 | exact (wX _ _ hz3 _ _ _ _ _).1
 | exact (wX _ _ hz3 _ _ _ _ _).2):p:=h
theorem Z_ {p:Prop} (h:p:=by obtain ⟨g15,rfl,Vf⟩:=cX n15;have ef:=Rg.ef zZ;refine aj rfl τ ?_;exact aK.ret hB (R1.out _ _ _ Vf)):p:=h
theorem wat0 {p:Prop} (h:p:=by
 refine Rg.o1 ?_;intro zZ w_ hB e
 have ef:=Rg.ef zZ;refine aj rfl τ ?_;exact aK.ret hB (N1.out _)):p:=h
theorem wat1 {p:Prop} (h:p:=by
 refine Rg.o1 ?_;intro zZ w_ hB e
 have ef:=Rg.ef zZ;refine aj rfl τ ?_;exact aK.ret hB (N2.out _)):p:=h
theorem wX (w3:World) (n:Nat) (hn:w3.heap.size=n) (u v x y:Value) (T:TypeId) :
  (∃ gx gz,n<=gx/\n<=gz/\Value.pointer (some ⟨n,0,none⟩)=.pointer (some ⟨gx,0,none⟩)/\Value.pointer (some ⟨n+1,0,none⟩)=.pointer (some ⟨gz,0,none⟩)/\aG ((w3.alloc (.cells #[u,v] T)).alloc (.cells #[x,y] T)).drew gx T #[u,v]/\aG ((w3.alloc (.cells #[u,v] T)).alloc (.cells #[x,y] T)).drew gz T #[x,y]/\Below n w3 ((w3.alloc (.cells #[u,v] T)).alloc (.cells #[x,y] T)).drew)/\
  (∃ gx gz,n<=gx/\n<=gz/\Value.pointer (some ⟨n+1,0,none⟩)=.pointer (some ⟨gx,0,none⟩)/\Value.pointer (some ⟨n,0,none⟩)=.pointer (some ⟨gz,0,none⟩)/\aG ((w3.alloc (.cells #[u,v] T)).alloc (.cells #[x,y] T)).drew gx T #[x,y]/\aG ((w3.alloc (.cells #[u,v] T)).alloc (.cells #[x,y] T)).drew gz T #[u,v]/\Below n w3 ((w3.alloc (.cells #[u,v] T)).alloc (.cells #[x,y] T)).drew):=by
 subst hn;have h1:aG ((w3.alloc (.cells #[u,v] T)).alloc (.cells #[x,y] T)).drew w3 T #[u,v]:=(aG.new w3 #[u,v] T).alloc _
 have h2:aG ((w3.alloc (.cells #[u,v] T)).alloc (.cells #[x,y] T)).drew (w3.heap.size+1) T #[x,y]:=by
  have:=aG.new (w3.alloc (.cells #[u,v] T)) #[x,y] T;rw [KQ] at this;exact this
 have hb:Below w3 w3 ((w3.alloc (.cells #[u,v] T)).alloc (.cells #[x,y] T)).drew:=(((KS _ _).alloc (KT _) _).alloc (by rw [KQ];omega) _).drew;exact ⟨⟨_,_,KT _,Nat.le_succ _,rfl,rfl,h1,h2,hb⟩,⟨_,_,Nat.le_succ _,KT _,rfl,rfl,h2,h1,hb⟩⟩
theorem lP (a b x z:Int) (vx vz:Value) (w:World) (bx bz:Nat) (hox:af w bx vx x) (LH:af w bz vz z) (hx:Wh.sz x 1000) (hz:Wh.sz z 1000) (ha1:-1000<=a) (ha2:a<=1000) (hb1:-10000<=b) (hb2:b<=10000) :
  Calls prog 183 #[.agg #[a,b],.agg #[decide (x<0),vx,decide (z<0),vz]] w fun e w'=>∃ sl,e=.returned (.agg #[decide (bB a b x z<0),sl])/\af w' w sl (bB a b x z)/\Below w w w':=by
 obtain ⟨ax,cx,rfl,-,-⟩:=aF.view hox;obtain ⟨az,cz,rfl,-,-⟩:=aF.view LH;have hq1:Wh.sz (-2*a) 1000:=aL (bi ω ω) ω;have hq2:Wh.sz (-8*b) 1000:=aL (bi ω ω) ω;have haa:-1000000<=a*a/\a*a<=1000000:=aH (x:=a) (y:=a) (m:=1000) (n:=1000);have hq3:Wh.sz (a*a) 1000:=aL (bi ω ω) ω
 have mm:∀ (l:List Int),(∀ y ∈ l,Wh.sz y 1000)->l.length<=5->∀ k,Wh.small ((l.take k).foldl (·*·) 1):=fun l h hl k=>cg (aL (mu h k) (show 1+l.length*1000<=8000 by omega)) ω
 have mp:∀ (l:List Int),(∀ y ∈ l,Wh.sz y 1000)->l.length<=5->Wh.sz (l.foldl (·*·) 1) 6000:=fun l h hl=>by have:=mu h l.length;rw [List.take_length] at this;exact aL this ω
 have m0:∀ (l:List Int),(∀ y ∈ l,Wh.sz y 1000)->∀ y ∈ l,Wh.small y:=fun l h y hy=>cg (h y hy) ω
 have m1:∀ y ∈ ([x,x,x,x]:List Int),Wh.sz y 1000:=by intro y h;simp only [List.mem_cons,List.not_mem_nil,or_false] at h;rcases h with h | h | h | h <;> (subst h;assumption)
 have R1:=fun g cap W (h:cK W g [x,x,x,x])=>bk [x,x,x,x] g cap W h σ (m0 _ m1) (mm _ m1 σ)
 have p1:=mp _ m1 σ
 have m2:∀ y ∈ ([-2*a,x,x,z,z]:List Int),Wh.sz y 1000:=by intro y h;simp only [List.mem_cons,List.not_mem_nil,or_false] at h;rcases h with h | h | h | h | h <;> (subst h;assumption)
 have R2:=fun g cap W (h:cK W g [-2*a,x,x,z,z])=>bk [-2*a,x,x,z,z] g cap W h σ (m0 _ m2) (mm _ m2 σ)
 have p2:=mp _ m2 σ
 have m3:∀ y ∈ ([-8*b,x,z,z,z]:List Int),Wh.sz y 1000:=by intro y h;simp only [List.mem_cons,List.not_mem_nil,or_false] at h;rcases h with h | h | h | h | h <;> (subst h;assumption)
 have R3:=fun g cap W (h:cK W g [-8*b,x,z,z,z])=>bk [-8*b,x,z,z,z] g cap W h σ (m0 _ m3) (mm _ m3 σ)
 have p3:=mp _ m3 σ
 have m4:∀ y ∈ ([a*a,z,z,z,z]:List Int),Wh.sz y 1000:=by intro y h;simp only [List.mem_cons,List.not_mem_nil,or_false] at h;rcases h with h | h | h | h | h <;> (subst h;assumption)
 have R4:=fun g cap W (h:cK W g [a*a,z,z,z,z])=>bk [a*a,z,z,z,z] g cap W h σ (m0 _ m4) (mm _ m4 σ)
 have p4:=mp _ m4 σ;have hT:=Bl a b x z;generalize hp1:([x,x,x,x]:List Int).foldl (·*·) 1=N4 at *;generalize hp2:([-2*a,x,x,z,z]:List Int).foldl (·*·) 1=N5 at *;generalize hp3:([-8*b,x,z,z,z]:List Int).foldl (·*·) 1=N6 at *;generalize Qq:([a*a,z,z,z,z]:List Int).foldl (·*·) 1=Vj at *
 have ms:∀ y ∈ [N4,N5,N6,Vj],Wh.sz y 6000:=by intro y h;simp only [List.mem_cons,List.not_mem_nil,or_false] at h;rcases h with h | h | h | h <;> (subst h;assumption)
 have R5:=fun g cap W (h:cK W g [N4,N5,N6,Vj])=>ov [N4,N5,N6,Vj] g cap W h σ (fun y hy=>cg (ms y hy) ω) (fun k=>cg (aL (uV ms ω k) (show 6000+4<=7000 by omega)) ω)
 rw [hT] at R5
 have N1:=fun W=>bw (-2*a) W ω ω
 have N2:=fun W=>bw (-8*b) W ω ω
 have N3:=fun W=>bw (a*a) W ω ω
 have i1:IntKind.i64.wrap (-2*a)=-2*a:=IntWalk.i64_in _ ω;have i2:IntKind.i64.wrap (-8*b)=-8*b:=IntWalk.i64_in _ ω;have i3:IntKind.i64.wrap (a*a)=a*a:=IntWalk.i64_in _ ω;replace R1:=KO R1;replace R2:=KO R2;replace R3:=KO R3;replace R4:=KO R4;replace R5:=KO R5;replace N1:=KO N1;replace N2:=KO N2;replace N3:=KO N3;replace i1:=KO i1;replace i2:=KO i2;replace i3:=KO i3;generalize hF:bB a b x z=F at *;generalize hs1:decide (x<0)=s1 at *;replace hs1:=KO hs1.symm;generalize hs2:decide (z<0)=s2 at *;replace hs2:=KO hs2.symm;replace hox:=KO (show aF _ _ _ _ from hox);replace LH:=KO (show aF _ _ _ _ from LH);generalize (Wh.a_ z.natAbs).length=lz,(Wh.a_ x.natAbs).length=lx at *;obtain ⟨w3,hw3,b1,b2,b3,hB⟩:=dF w #[a,b] 24 #[s1,.slice ax lx cx,s2,.slice az lz cz] 162 #[false,.slice none 0 0] 145;have Nc:=KO (aF.below hox.out hB);have Nd:=KO (aF.below LH.out hB)
 have hz3:w3.heap.size=w.heap.size+3:=by rw [←hw3,KQ,iW]
 clear hox LH;have e0:=b2.aI.c0;have e1:=b2.aI.c1;have e2:=b2.aI.c2;have e3:=b2.aI.c3;go_enter func183,ntmps183
 go_wp2
 go_upto_region 1 with fail
 go_cut [5,6] (fun p q wx=>∃ gx gz,w.heap.size+3<=gx/\w.heap.size+3<=gz/\p=.pointer (some ⟨gx,0,none⟩)/\q=.pointer (some ⟨gz,0,none⟩)/\aG wx gx 145 #[s1,.slice ax lx cx]/\aG wx gz 145 #[s2,.slice az lz cz]/\Below (w.heap.size+3) w3 wx)
 case first=>
  go_region
  all_goals
   exact SA
 case rest=>
 obtain ⟨gx,gz,hgx,hgz,rfl,rfl,X,Z,hbx⟩:=hcut;rw [←hz3] at hbx;have ox:=KO (aF.below Nc.out hbx);have oz:=KO (aF.below Nd.out hbx);have C:=b1.keep hbx;have R:=b3.keep hbx;have hw:=p_ hB hbx
 have Nz:w.heap.size+3<=wc.heap.size:=by have:=hbx.size;omega
 clear hz3
 go_upto_region 2 with fail
 refine be 40 [.is (.agg #[s1,.slice ax lx cx]),.is (.agg #[s1,.slice ax lx cx]),.is (.agg #[s1,.slice ax lx cx]),.is (.agg #[s1,.slice ax lx cx]),.at (cW (wc.heap.size) [x,x,x,x]),.at (aK (wc.heap.size) (N4)),.is (.pointer (some ⟨w,0,none⟩)),.is a,.is ((-2)*a:Int),.at (aK (wc.heap.size) (-2*a)),.is (.agg #[s1,.slice ax lx cx]),.is (.agg #[s1,.slice ax lx cx]),.is (.agg #[s2,.slice az lz cz]),.is (.agg #[s2,.slice az lz cz]),.at (cW (wc.heap.size) [-2*a,x,x,z,z]),.at (aK (wc.heap.size) (N5)),.is (.pointer (some ⟨w,1,none⟩)),.is b,.is ((-8)*b:Int),.at (aK (wc.heap.size) (-8*b)),.is (.agg #[s1,.slice ax lx cx]),.is (.agg #[s2,.slice az lz cz]),.is (.agg #[s2,.slice az lz cz]),.is (.agg #[s2,.slice az lz cz]),.at (cW (wc.heap.size) [-8*b,x,z,z,z]),.at (aK (wc.heap.size) (N6)),.is (.pointer (some ⟨w,0,none⟩)),.is a,.is (.pointer (some ⟨w,0,none⟩)),.is a,.is (a*a:Int),.at (aK (wc.heap.size) (a*a)),.is (.agg #[s2,.slice az lz cz]),.is (.agg #[s2,.slice az lz cz]),.is (.agg #[s2,.slice az lz cz]),.is (.agg #[s2,.slice az lz cz]),.at (cW (wc.heap.size) [a*a,z,z,z,z]),.at (aK (wc.heap.size) (Vj)),.at (cW (wc.heap.size) [N4,N5,N6,Vj]),.at (aK (wc.heap.size) (F))] κ κ κ ⟨?_,?_,?_,?_,?_,?_,?_,?_,?_,?_,?_,?_,?_,?_,?_,?_,?_,?_,?_,?_,?_,?_,?_,?_,?_,?_,?_,?_,?_,?_,?_,?_,?_,?_,?_,?_,?_,?_,?_,?_,fun h_=>absurd h_ δ,trivial⟩ ?_
 all_goals try ((first | (refine Rg.b1 ?_;intro zZ w_ hB e) | (refine Rg.b2 ?_;intro zZ w_ hB e f));have kz:=aE hB X.box.c0;have kz:=aE hB X.box.c1;have kz:=aE hB C.box.c0;have ec:=Rg.ec zZ;have kz:=aE hB Z.box.c0;have kz:=aE hB Z.box.c1;have kz:=aE hB C.box.c1;(first | (go_simp;done) | (go_simp;exact Rg.wo ω)))
 ·intro _ zZ w_ hB hr
  have e11:=Rg.A_ (hr 11 δ);have e12:=Rg.A_ (hr 12 δ);have e13:=Rg.A_ (hr 13 δ);have e14:=Rg.A_ (hr 14 δ);refine rO rfl (x:=.slice (some ⟨w_,0,none⟩) 4 4) (ob:=.cells (List.toArray [.bool s1,.slice ax lx cx,.bool s1,.slice ax lx cx,.bool s1,.slice ax lx cx,.bool s1,.slice ax lx cx]) 145) M5 (cW.at (by have:=hB.size;omega) ?_ rfl);exact bq.cons hs1.out (aF.below ox.out hB) (bq.cons hs1.out (aF.below ox.out hB) (bq.cons hs1.out (aF.below ox.out hB) (bq.cons hs1.out (aF.below ox.out hB) (bq.nil))))
 ·intro _ zZ w_ hB hr
  obtain ⟨v15,e15,n15⟩:∃ v,zZ.tmps[15]?=some v/\(Rg.Val.at (cW (wc.heap.size) [x,x,x,x])).ok v w_:=hr 15 δ;exact Z_
 ·exact wat0
 ·intro _ zZ w_ hB hr
  obtain ⟨s20,a20,l20,c20,hs20,e20,o20⟩:=aK.get (hr 20 δ);have e21:=Rg.A_ (hr 21 δ);have e22:=Rg.A_ (hr 22 δ);have e23:=Rg.A_ (hr 23 δ);have e24:=Rg.A_ (hr 24 δ);refine rO rfl (x:=.slice (some ⟨w_,0,none⟩) 5 5) (ob:=.cells (List.toArray [.bool s20,.slice a20 l20 c20,.bool s1,.slice ax lx cx,.bool s1,.slice ax lx cx,.bool s2,.slice az lz cz,.bool s2,.slice az lz cz]) 145) M5 (cW.at (by have:=hB.size;omega) ?_ rfl);exact bq.cons hs20.out o20 (bq.cons hs1.out (aF.below ox.out hB) (bq.cons hs1.out (aF.below ox.out hB) (bq.cons hs2.out (aF.below oz.out hB) (bq.cons hs2.out (aF.below oz.out hB) (bq.nil)))))
 ·intro _ zZ w_ hB hr
  obtain ⟨v25,e25,n25⟩:∃ v,zZ.tmps[25]?=some v/\(Rg.Val.at (cW (wc.heap.size) [-2*a,x,x,z,z])).ok v w_:=hr 25 δ;obtain ⟨g25,rfl,o25⟩:=cX n25;have ef:=Rg.ef zZ;refine aj rfl τ ?_;exact aK.ret hB (R2.out _ _ _ o25)
 ·exact wat1
 ·intro _ zZ w_ hB hr
  obtain ⟨s30,a30,l30,c30,hs30,e30,o30⟩:=aK.get (hr 30 δ);have e31:=Rg.A_ (hr 31 δ);have e32:=Rg.A_ (hr 32 δ);have e33:=Rg.A_ (hr 33 δ);have e34:=Rg.A_ (hr 34 δ);refine rO rfl (x:=.slice (some ⟨w_,0,none⟩) 5 5) (ob:=.cells (List.toArray [.bool s30,.slice a30 l30 c30,.bool s1,.slice ax lx cx,.bool s2,.slice az lz cz,.bool s2,.slice az lz cz,.bool s2,.slice az lz cz]) 145) M5 (cW.at (by have:=hB.size;omega) ?_ rfl);exact bq.cons hs30.out o30 (bq.cons hs1.out (aF.below ox.out hB) (bq.cons hs2.out (aF.below oz.out hB) (bq.cons hs2.out (aF.below oz.out hB) (bq.cons hs2.out (aF.below oz.out hB) (bq.nil)))))
 ·intro _ zZ w_ hB hr
  obtain ⟨v35,e35,n35⟩:∃ v,zZ.tmps[35]?=some v/\(Rg.Val.at (cW (wc.heap.size) [-8*b,x,z,z,z])).ok v w_:=hr 35 δ;obtain ⟨g35,rfl,o35⟩:=cX n35;have ef:=Rg.ef zZ;refine aj rfl τ ?_;exact aK.ret hB (R3.out _ _ _ o35)
 ·refine Rg.o1 ?_;intro zZ w_ hB e
  have ef:=Rg.ef zZ;refine aj rfl τ ?_;exact aK.ret hB (N3.out _)
 ·intro _ zZ w_ hB hr
  obtain ⟨s42,a42,l42,c42,hs42,e42,o42⟩:=aK.get (hr 42 δ);have e43:=Rg.A_ (hr 43 δ);have e44:=Rg.A_ (hr 44 δ);have e45:=Rg.A_ (hr 45 δ);have e46:=Rg.A_ (hr 46 δ);refine rO rfl (x:=.slice (some ⟨w_,0,none⟩) 5 5) (ob:=.cells (List.toArray [.bool s42,.slice a42 l42 c42,.bool s2,.slice az lz cz,.bool s2,.slice az lz cz,.bool s2,.slice az lz cz,.bool s2,.slice az lz cz]) 145) M5 (cW.at (by have:=hB.size;omega) ?_ rfl);exact bq.cons hs42.out o42 (bq.cons hs2.out (aF.below oz.out hB) (bq.cons hs2.out (aF.below oz.out hB) (bq.cons hs2.out (aF.below oz.out hB) (bq.cons hs2.out (aF.below oz.out hB) (bq.nil)))))
 ·intro _ zZ w_ hB hr
  obtain ⟨v47,e47,n47⟩:∃ v,zZ.tmps[47]?=some v/\(Rg.Val.at (cW (wc.heap.size) [a*a,z,z,z,z])).ok v w_:=hr 47 δ;obtain ⟨g47,rfl,o47⟩:=cX n47;have ef:=Rg.ef zZ;refine aj rfl τ ?_;exact aK.ret hB (R4.out _ _ _ o47)
 ·intro _ zZ w_ hB hr
  obtain ⟨s16,a16,OX,c16,Mw,e16,o16⟩:=aK.get (hr 16 δ);obtain ⟨s26,a26,l26,c26,T0,e26,o26⟩:=aK.get (hr 26 δ);obtain ⟨s36,a36,l36,c36,hs36,e36,o36⟩:=aK.get (hr 36 δ);obtain ⟨Xn,a48,Xb,WY,T7,e48,o48⟩:=aK.get (hr 48 δ);refine rO rfl (x:=.slice (some ⟨w_,0,none⟩) 4 4) (ob:=.cells (List.toArray [.bool s16,.slice a16 OX c16,.bool s26,.slice a26 l26 c26,.bool s36,.slice a36 l36 c36,.bool Xn,.slice a48 Xb WY]) 145) M5 (cW.at (by have:=hB.size;omega) ?_ rfl);exact bq.cons Mw.out o16 (bq.cons T0.out o26 (bq.cons hs36.out o36 (bq.cons T7.out o48 (bq.nil))))
 ·intro _ zZ w_ hB hr
  obtain ⟨v49,e49,n49⟩:∃ v,zZ.tmps[49]?=some v/\(Rg.Val.at (cW (wc.heap.size) [N4,N5,N6,Vj])).ok v w_:=hr 49 δ;obtain ⟨g49,rfl,o49⟩:=cX n49;have ef:=Rg.ef zZ;refine aj rfl τ ?_;exact aK.ret hB (R5.out _ _ _ o49)
 intro vals wz hB hv hne;have n50:(Rg.Val.at (aK (wc.heap.size) (F))).ok (vals 39) wz:=hv 39 δ;simp only [bD,Rg.fill,Act.put,Nat.reduceAdd];obtain ⟨s50,a50,l50,c50,hs50,v_39,o50⟩:=(cX n50).view;simp only [v_39];have R2:=R.keep hB;have ⟨c0,c1,f0,f1,_⟩:=R2.box;have hr1:=aF.base (aF.bV o50 R2 δ (.bool s50) (.slice a50 l50 c50)) (Nat.le_trans (Nat.le_add_right _ 3) Nz);have hr2:Below w w ((wz.setCell ⟨w.heap.size+1+1,0,none⟩ (.bool s50)).setCell ⟨w.heap.size+1+1,1,none⟩ (.slice a50 l50 c50)):=KR (KR (p_ hw hB) (by simp <;> omega) _) (by simp <;> omega) _;unfold aU aU Oper.wp;go_simp
 go_wp2;exact KU (v:=.agg #[s50,.slice a50 l50 c50]) results183 ⟨_,by rw [hs50.out],hr1,hr2⟩
theorem fx (a b x z:Int) (vx vz:Value) (w:World) (bx bz:Nat) (hox:af w bx vx x) (LH:af w bz vz z) (hx:Wh.sz x 1000) (hz:Wh.sz z 1000) (ha1:-1000<=a) (ha2:a<=1000) (hb1:-10000<=b) (hb2:b<=10000) :
  Calls prog 163 #[.agg #[a,b],.agg #[decide (x<0),vx,decide (z<0),vz]] w fun e w'=>∃ sl,e=.returned (.agg #[decide (ah a b x z<0),sl])/\af w' w sl (ah a b x z)/\Below w w w':=by
 obtain ⟨ax,cx,rfl,-,-⟩:=aF.view hox;obtain ⟨az,cz,rfl,-,-⟩:=aF.view LH;have hq1:Wh.sz a 1000:=aL (bi ω ω) ω;have hq2:Wh.sz b 1000:=aL (bi ω ω) ω;have hq3:Wh.sz 4 1000:=aL (bi ω ω) ω
 have mm:∀ (l:List Int),(∀ y ∈ l,Wh.sz y 1000)->l.length<=5->∀ k,Wh.small ((l.take k).foldl (·*·) 1):=fun l h hl k=>cg (aL (mu h k) (show 1+l.length*1000<=8000 by omega)) ω
 have mp:∀ (l:List Int),(∀ y ∈ l,Wh.sz y 1000)->l.length<=4->Wh.sz (l.foldl (·*·) 1) 4001:=fun l h hl=>by have:=mu h l.length;rw [List.take_length] at this;exact aL this ω
 have m0:∀ (l:List Int),(∀ y ∈ l,Wh.sz y 1000)->∀ y ∈ l,Wh.small y:=fun l h y hy=>cg (h y hy) ω
 have m1:∀ y ∈ ([x,x,x]:List Int),Wh.sz y 1000:=by intro y h;simp only [List.mem_cons,List.not_mem_nil,or_false] at h;rcases h with h | h | h <;> (subst h;assumption)
 have R1:=fun g cap W (h:cK W g [x,x,x])=>bk [x,x,x] g cap W h σ (m0 _ m1) (mm _ m1 σ)
 have p1:=mp _ m1 σ
 have m2:∀ y ∈ ([a,x,z,z]:List Int),Wh.sz y 1000:=by intro y h;simp only [List.mem_cons,List.not_mem_nil,or_false] at h;rcases h with h | h | h | h <;> (subst h;assumption)
 have R2:=fun g cap W (h:cK W g [a,x,z,z])=>bk [a,x,z,z] g cap W h σ (m0 _ m2) (mm _ m2 σ)
 have p2:=mp _ m2 σ
 have m3:∀ y ∈ ([b,z,z,z]:List Int),Wh.sz y 1000:=by intro y h;simp only [List.mem_cons,List.not_mem_nil,or_false] at h;rcases h with h | h | h | h <;> (subst h;assumption)
 have R3:=fun g cap W (h:cK W g [b,z,z,z])=>bk [b,z,z,z] g cap W h σ (m0 _ m3) (mm _ m3 σ)
 have p3:=mp _ m3 σ;have hT:=AW a b x z;generalize hp1:([x,x,x]:List Int).foldl (·*·) 1=N4 at *;generalize hp2:([a,x,z,z]:List Int).foldl (·*·) 1=N5 at *;generalize hp3:([b,z,z,z]:List Int).foldl (·*·) 1=N6 at *
 have ms:∀ y ∈ [N4,N5,N6],Wh.sz y 4001:=by intro y h;simp only [List.mem_cons,List.not_mem_nil,or_false] at h;rcases h with h | h | h <;> (subst h;assumption)
 have R5:=fun g cap W (h:cK W g [N4,N5,N6])=>ov [N4,N5,N6] g cap W h σ (fun y hy=>cg (ms y hy) ω) (fun k=>cg (aL (uV ms ω k) (show 4001+3<=7000 by omega)) ω)
 have hq5:=uV ms ω 3;rw [show ([N4,N5,N6]:List Int).take 3=[N4,N5,N6] from rfl] at hq5;generalize Nf:([N4,N5,N6]:List Int).foldl (·+·) 0=UK at *;have hq6:Wh.sz UK 4004:=hq5
 have R6:=fun g cap W (h:cK W g [4,z,UK])=>bk [4,z,UK] g cap W h σ (by
  intro y h;simp only [List.mem_cons,List.not_mem_nil,or_false] at h;rcases h with h | h | h
  ·subst h;exact cg hq3 ω
  ·subst h;exact cg hz ω
  ·subst h;exact cg hq6 ω) (fun k=>by
  have y0:=En;have y1:=ay y0 hq3;have y2:=ay y1 hz;have y3:=ay y2 hq6
  match k with
  | 0=>exact cg y0 ω
  | 1=>exact cg y1 ω
  | 2=>exact cg y2 ω
  | k+3=>rw [List.take_of_length_le σ];exact cg y3 ω)
 rw [hT] at R6
 have N1:=fun W=>bw a W ω ω
 have N2:=fun W=>bw b W ω ω
 have N3:=fun W=>bw 4 W ω ω
 clear m1 m2 m3 p1 p2 p3 hp1 hp2 hp3 ms mm mp m0 hT Nf hq5 hq6;replace R1:=KO R1;replace R2:=KO R2;replace R3:=KO R3;replace R5:=KO R5;replace R6:=KO R6;replace N1:=KO N1;replace N2:=KO N2;replace N3:=KO N3;generalize hF:ah a b x z=F at *;generalize hs1:decide (x<0)=s1 at *;replace hs1:=KO hs1.symm;generalize hs2:decide (z<0)=s2 at *;replace hs2:=KO hs2.symm;replace hox:=KO (show aF _ _ _ _ from hox);replace LH:=KO (show aF _ _ _ _ from LH);generalize (Wh.a_ z.natAbs).length=lz,(Wh.a_ x.natAbs).length=lx at *;obtain ⟨w3,hw3,b1,b2,b3,hB⟩:=dF w #[a,b] 24 #[s1,.slice ax lx cx,s2,.slice az lz cz] 162 #[false,.slice none 0 0] 145;have Nc:=KO (aF.below hox.out hB);have Nd:=KO (aF.below LH.out hB)
 have hz3:w3.heap.size=w.heap.size+3:=by rw [←hw3,KQ,iW]
 clear hox LH;have e0:=b2.aI.c0;have e1:=b2.aI.c1;have e2:=b2.aI.c2;have e3:=b2.aI.c3;go_enter func163,ntmps163
 go_wp2
 go_upto_region 1 with fail
 go_cut [5,6] (fun p q wx=>∃ gx gz,w.heap.size+3<=gx/\w.heap.size+3<=gz/\p=.pointer (some ⟨gx,0,none⟩)/\q=.pointer (some ⟨gz,0,none⟩)/\aG wx gx 145 #[s1,.slice ax lx cx]/\aG wx gz 145 #[s2,.slice az lz cz]/\Below (w.heap.size+3) w3 wx)
 case first=>
  go_region
  all_goals
   exact SA
 case rest=>
 obtain ⟨gx,gz,hgx,hgz,rfl,rfl,X,Z,hbx⟩:=hcut;rw [←hz3] at hbx;have ox:=KO (aF.below Nc.out hbx);have oz:=KO (aF.below Nd.out hbx);have C:=b1.keep hbx;have R:=b3.keep hbx;have hw:=p_ hB hbx
 have Nz:w.heap.size+3<=wc.heap.size:=by have:=hbx.size;omega
 clear hz3
 go_upto_region 2 with fail
 refine be 24 [.is (.agg #[s1,.slice ax lx cx]),.is (.agg #[s1,.slice ax lx cx]),.is (.agg #[s1,.slice ax lx cx]),.at (cW (wc.heap.size) [x,x,x]),.at (aK (wc.heap.size) (N4)),.is (.pointer (some ⟨w,0,none⟩)),.is a,.at (aK (wc.heap.size) (a)),.is (.agg #[s1,.slice ax lx cx]),.is (.agg #[s2,.slice az lz cz]),.is (.agg #[s2,.slice az lz cz]),.at (cW (wc.heap.size) [a,x,z,z]),.at (aK (wc.heap.size) (N5)),.is (.pointer (some ⟨w,1,none⟩)),.is b,.at (aK (wc.heap.size) (b)),.is (.agg #[s2,.slice az lz cz]),.is (.agg #[s2,.slice az lz cz]),.is (.agg #[s2,.slice az lz cz]),.at (cW (wc.heap.size) [b,z,z,z]),.at (aK (wc.heap.size) (N6)),.at (cW (wc.heap.size) [N4,N5,N6]),.at (aK (wc.heap.size) (UK)),.new (wc.heap.size) 145 #[false,.slice none 0 0]] κ κ κ ⟨?_,?_,?_,?_,?_,?_,?_,?_,?_,?_,?_,?_,?_,?_,?_,?_,?_,?_,?_,?_,?_,?_,?_,?_,fun h_=>absurd h_ δ,trivial⟩ ?_
 all_goals try ((refine Rg.b1 ?_;intro zZ w_ hB e);have kz:=aE hB X.box.c0;have kz:=aE hB X.box.c1;have kz:=aE hB C.box.c0;have kz:=aE hB Z.box.c0;have kz:=aE hB Z.box.c1;have kz:=aE hB C.box.c1;(go_simp;done))
 ·intro _ zZ w_ hB hr
  have e12:=Rg.A_ (hr 12 δ);have e13:=Rg.A_ (hr 13 δ);have e14:=Rg.A_ (hr 14 δ);refine rO rfl (x:=.slice (some ⟨w_,0,none⟩) 3 3) (ob:=.cells (List.toArray [.bool s1,.slice ax lx cx,.bool s1,.slice ax lx cx,.bool s1,.slice ax lx cx]) 145) M5 (cW.at (by have:=hB.size;omega) ?_ rfl);exact bq.cons hs1.out (aF.below ox.out hB) (bq.cons hs1.out (aF.below ox.out hB) (bq.cons hs1.out (aF.below ox.out hB) (bq.nil)))
 ·intro _ zZ w_ hB hr
  obtain ⟨v15,e15,n15⟩:∃ v,zZ.tmps[15]?=some v/\(Rg.Val.at (cW (wc.heap.size) [x,x,x])).ok v w_:=hr 15 δ;exact Z_
 ·exact wat0
 ·intro _ zZ w_ hB hr
  obtain ⟨Pa,QI,Ou,c19,Mx,e19,Vg⟩:=aK.get (hr 19 δ);have e20:=Rg.A_ (hr 20 δ);have e21:=Rg.A_ (hr 21 δ);have e22:=Rg.A_ (hr 22 δ);refine rO rfl (x:=.slice (some ⟨w_,0,none⟩) 4 4) (ob:=.cells (List.toArray [.bool Pa,.slice QI Ou c19,.bool s1,.slice ax lx cx,.bool s2,.slice az lz cz,.bool s2,.slice az lz cz]) 145) M5 (cW.at (by have:=hB.size;omega) ?_ rfl);exact bq.cons Mx.out Vg (bq.cons hs1.out (aF.below ox.out hB) (bq.cons hs2.out (aF.below oz.out hB) (bq.cons hs2.out (aF.below oz.out hB) (bq.nil))))
 ·intro _ zZ w_ hB hr
  obtain ⟨v23,e23,n23⟩:∃ v,zZ.tmps[23]?=some v/\(Rg.Val.at (cW (wc.heap.size) [a,x,z,z])).ok v w_:=hr 23 δ;obtain ⟨g23,rfl,Xj⟩:=cX n23;have ef:=Rg.ef zZ;refine aj rfl τ ?_;exact aK.ret hB (R2.out _ _ _ Xj)
 ·exact wat1
 ·intro _ zZ w_ hB hr
  obtain ⟨UO,a27,UF,TD,T5,e27,o27⟩:=aK.get (hr 27 δ);have e28:=Rg.A_ (hr 28 δ);have e29:=Rg.A_ (hr 29 δ);have e30:=Rg.A_ (hr 30 δ);refine rO rfl (x:=.slice (some ⟨w_,0,none⟩) 4 4) (ob:=.cells (List.toArray [.bool UO,.slice a27 UF TD,.bool s2,.slice az lz cz,.bool s2,.slice az lz cz,.bool s2,.slice az lz cz]) 145) M5 (cW.at (by have:=hB.size;omega) ?_ rfl);exact bq.cons T5.out o27 (bq.cons hs2.out (aF.below oz.out hB) (bq.cons hs2.out (aF.below oz.out hB) (bq.cons hs2.out (aF.below oz.out hB) (bq.nil))))
 ·intro _ zZ w_ hB hr
  obtain ⟨v31,e31,n31⟩:∃ v,zZ.tmps[31]?=some v/\(Rg.Val.at (cW (wc.heap.size) [b,z,z,z])).ok v w_:=hr 31 δ;obtain ⟨g31,rfl,o31⟩:=cX n31;have ef:=Rg.ef zZ;refine aj rfl τ ?_;exact aK.ret hB (R3.out _ _ _ o31)
 ·intro _ zZ w_ hB hr
  obtain ⟨s16,a16,OX,c16,Mw,e16,o16⟩:=aK.get (hr 16 δ);obtain ⟨s24,a24,Qv,c24,O6,e24,Vh⟩:=aK.get (hr 24 δ);obtain ⟨s32,a32,l32,c32,T6,e32,o32⟩:=aK.get (hr 32 δ);refine rO rfl (x:=.slice (some ⟨w_,0,none⟩) 3 3) (ob:=.cells (List.toArray [.bool s16,.slice a16 OX c16,.bool s24,.slice a24 Qv c24,.bool s32,.slice a32 l32 c32]) 145) M5 (cW.at (by have:=hB.size;omega) ?_ rfl);exact bq.cons Mw.out o16 (bq.cons O6.out Vh (bq.cons T6.out o32 (bq.nil)))
 ·intro _ zZ w_ hB hr
  obtain ⟨v33,e33,n33⟩:∃ v,zZ.tmps[33]?=some v/\(Rg.Val.at (cW (wc.heap.size) [N4,N5,N6])).ok v w_:=hr 33 δ;obtain ⟨g33,rfl,UI⟩:=cX n33;have ef:=Rg.ef zZ;refine aj rfl τ ?_;exact aK.ret hB (R5.out _ _ _ UI)
 ·exact M4
 intro vals wz hB hv hne;have n7:(Rg.Val.new (wc.heap.size) 145 #[false,.slice none 0 0]).ok (vals 23) wz:=hv 23 δ;have n34:(Rg.Val.at (aK (wc.heap.size) (UK))).ok (vals 22) wz:=hv 22 δ;simp only [bD,Rg.fill,Act.put,Nat.reduceAdd];obtain ⟨g7,SP,Rr,o7⟩:=n7;replace o7:aG wz g7 145 #[false,.slice none 0 0]:=o7;obtain ⟨Vl,a34,Vd,c34,hs34,Oc,o34⟩:=(cX n34).view;simp only [Rr,Oc];have hB2:Below wc wc ((wz.setCell ⟨g7,0,none⟩ (.bool Vl)).setCell ⟨g7,1,none⟩ (.slice a34 Vd c34)):=KR (KR hB SP _) SP _;have D:=aG.set2 o7 (.bool Vl) (.slice a34 Vd c34);have oD:=KO (aF.bV o34 o7 δ (.bool Vl) (.slice a34 Vd c34));have ⟨c0,c1,f0,f1,_⟩:=o7.box;unfold aU aU Oper.wp;go_simp
 clear c0 c1 f0 f1 o7 o34;generalize ((wz.setCell ⟨g7,0,none⟩ (.bool Vl)).setCell ⟨g7,1,none⟩ (.slice a34 Vd c34))=wd at *;replace ⟨Z,R⟩:=Kt hB2 Z R;replace oz:=KO (aF.below oz.out hB2);replace hw:=p_ hw hB2;have O9:wc.heap.size<=wd.heap.size:=hB2.size
 go_upto_region 3 with fail
 clear hB2;refine be 5 [.at (aK (wd.heap.size) (4)),.is (.agg #[s2,.slice az lz cz]),.is (.agg #[Vl,.slice a34 Vd c34]),.at (cW (wd.heap.size) [4,z,UK]),.at (aK (wd.heap.size) (F))] κ κ κ ⟨?_,?_,?_,?_,?_,fun h_=>absurd h_ δ,trivial⟩ ?_
 all_goals try ((refine Rg.b1 ?_;intro zZ w_ hB e);have kz:=aE hB Z.box.c0;have kz:=aE hB Z.box.c1;have kz:=aE hB D.box.c0;have kz:=aE hB D.box.c1;(go_simp;done))
 ·refine Rg.o0 ?_;intro zZ w_ hB
  have ec:=Rg.ec zZ;have ef:=Rg.ef zZ;refine aj rfl τ ?_;exact aK.ret hB (N3.out _)
 ·intro _ zZ w_ hB hr
  obtain ⟨s35,a35,l35,c35,hs35,e35,o35⟩:=aK.get (hr 35 δ);have e36:=Rg.A_ (hr 36 δ);have e37:=Rg.A_ (hr 37 δ);refine rO rfl (x:=.slice (some ⟨w_,0,none⟩) 3 3) (ob:=.cells (List.toArray [.bool s35,.slice a35 l35 c35,.bool s2,.slice az lz cz,.bool Vl,.slice a34 Vd c34]) 145) M5 (cW.at (by have:=hB.size;omega) ?_ rfl);exact bq.cons hs35.out o35 (bq.cons hs2.out (aF.below oz.out hB) (bq.cons hs34.out (aF.below oD.out hB) (bq.nil)))
 ·intro _ zZ w_ hB hr
  obtain ⟨v38,e38,n38⟩:∃ v,zZ.tmps[38]?=some v/\(Rg.Val.at (cW (wd.heap.size) [4,z,UK])).ok v w_:=hr 38 δ;obtain ⟨g38,rfl,o38⟩:=cX n38;have ef:=Rg.ef zZ;refine aj rfl τ ?_;exact aK.ret hB (R6.out _ _ _ o38)
 intro vals wy hB4 hv hne;have n39:(Rg.Val.at (aK (wd.heap.size) (F))).ok (vals 4) wy:=hv 4 δ;simp only [bD,Rg.fill,Act.put,Nat.reduceAdd];obtain ⟨s39,a39,l39,c39,hs39,Pg,o39⟩:=(cX n39).view;simp only [Pg];have R2:=R.keep hB4;have ⟨c0,c1,f0,f1,_⟩:=R2.box;have hr1:=aF.base (aF.bV o39 R2 δ (.bool s39) (.slice a39 l39 c39)) (show w.heap.size<=wd.heap.size from hw.size);have hr2:Below w w ((wy.setCell ⟨w.heap.size+1+1,0,none⟩ (.bool s39)).setCell ⟨w.heap.size+1+1,1,none⟩ (.slice a39 l39 c39)):=KR (KR (p_ hw hB4) (by simp <;> omega) _) (by simp <;> omega) _;unfold aU aU Oper.wp;go_simp
 go_wp2;exact KU (v:=.agg #[s39,.slice a39 l39 c39]) results163 ⟨_,by rw [hs39.out],hr1,hr2⟩
theorem rK (a b x z:Int) (vx vz:Value) (w:World) (bx bz:Nat) (hox:af w bx vx x) (LH:af w bz vz z) (hx:Wh.sz x 1000) (hz:Wh.sz z 1000) (ha1:-1000<=a) (ha2:a<=1000) (hb1:-10000<=b) (hb2:b<=10000) :
  Calls prog 169 #[.agg #[a,b],.agg #[decide (x<0),vx,decide (z<0),vz]] w fun e w'=>∃ sl,e=.returned (.agg #[decide (ah a b x z<0),sl])/\af w' w sl (ah a b x z)/\Below w w w':=by
 obtain ⟨ax,cx,rfl,-,-⟩:=aF.view hox;obtain ⟨az,cz,rfl,-,-⟩:=aF.view LH;have m1:=ay hx hx;have m0:=ay hz hz;have m2:=ay m1 hx;have m3:=ay hx m0;have m4:=ay m3 (bi (n:=a) ω ω);have m5:=kT (aL m2 (show 1000+1000+1000<=4000 by omega)) (aL m4 (show _<=4000 by omega));have m6:=ay hz m0;have m7:=ay m6 (bi (n:=b) ω ω);have m8:=kT (aL m5 (show 4000+1<=4100 by omega)) (aL m7 (show _<=4100 by omega));have m9:=ay hz m8
 have P0:=fun v W k (h:aF W k v (Wh.a_ (z).natAbs))=>fX (z) v W k h (aR.2 (aL hz ω))
 have P1:=fun v W k (h:aF W k v (Wh.a_ (x).natAbs))=>fX (x) v W k h (aR.2 (aL hx ω))
 have P2:=fun v v' W k k' (h:aF W k v (Wh.a_ (x*x).natAbs)) (h':aF W k' v' (Wh.a_ (x).natAbs))=>gD (x*x) (x) v v' W k k' h h' (aR.2 (aL m1 ω)) (aR.2 (aL hx ω))
 have P3:=fun v v' W k k' (h:aF W k v (Wh.a_ (x).natAbs)) (h':aF W k' v' (Wh.a_ (z*z).natAbs))=>gD (x) (z*z) v v' W k k' h h' (aR.2 (aL hx ω)) (aR.2 (aL m0 ω))
 have P4:=fun v W k (h:aF W k v (Wh.a_ (x*(z*z)).natAbs))=>gK (x*(z*z)) (a) v W k h (aR.2 (aL m3 ω)) ω ω
 have P5:=fun v v' W k k' (h:aF W k v (Wh.a_ (x*x*x).natAbs)) (h':aF W k' v' (Wh.a_ (x*(z*z)*a).natAbs))=>pD (x*x*x) (x*(z*z)*a) v v' W k k' h h' (aR.2 (aL m2 ω)) (aR.2 (aL m4 ω))
 have P6:=fun v v' W k k' (h:aF W k v (Wh.a_ (z).natAbs)) (h':aF W k' v' (Wh.a_ (z*z).natAbs))=>gD (z) (z*z) v v' W k k' h h' (aR.2 (aL hz ω)) (aR.2 (aL m0 ω))
 have P7:=fun v W k (h:aF W k v (Wh.a_ (z*(z*z)).natAbs))=>gK (z*(z*z)) (b) v W k h (aR.2 (aL m6 ω)) ω ω
 have P8:=fun v v' W k k' (h:aF W k v (Wh.a_ (x*x*x+x*(z*z)*a).natAbs)) (h':aF W k' v' (Wh.a_ (z*(z*z)*b).natAbs))=>pD (x*x*x+x*(z*z)*a) (z*(z*z)*b) v v' W k k' h h' (aR.2 (aL m5 ω)) (aR.2 (aL m7 ω))
 have P9:=fun v v' W k k' (h:aF W k v (Wh.a_ (z).natAbs)) (h':aF W k' v' (Wh.a_ (x*x*x+x*(z*z)*a+z*(z*z)*b).natAbs))=>gD (z) (x*x*x+x*(z*z)*a+z*(z*z)*b) v v' W k k' h h' (aR.2 (aL hz ω)) (aR.2 (aL m8 ω))
 have PA:=fun v W k (h:aF W k v (Wh.a_ (z*(x*x*x+x*(z*z)*a+z*(z*z)*b)).natAbs))=>gK (z*(x*x*x+x*(z*z)*a+z*(z*z)*b)) (4) v W k h (aR.2 (aL m9 ω)) ω ω
 have hT:=uo a b x z;rw [hT] at PA;clear hT m1 m0 m2 m3 m4 m5 m6 m7 m8 m9;generalize ah a b x z=F at *;generalize Wl:x*x*x+x*(z*z)*a+z*(z*z)*b=S2 at *;generalize Wk:x*x*x+x*(z*z)*a=S1 at *;generalize hGzb:z*(z*z)*b=zb at *;generalize hGzc:z*(z*z)=zc at *;generalize hGxa:x*(z*z)*a=xa at *;generalize hGxz:x*(z*z)=xz at *;generalize hGxc:x*x*x=xc at *;generalize Wm:x*x=xq at *;generalize Wn:z*z=zq at *;generalize hGg:z*S2=zs2 at *;clear Wl Wk hGzb hGzc hGxa hGxz hGxc Wm Wn hGg;replace P0:=KO P0;replace P1:=KO P1;replace P2:=KO P2;replace P3:=KO P3;replace P4:=KO P4;replace P5:=KO P5;replace P6:=KO P6;replace P7:=KO P7;replace P8:=KO P8;replace P9:=KO P9;replace PA:=KO PA;generalize hs1:decide (x<0)=s1 at *;replace hs1:=KO hs1.symm;generalize hs2:decide (z<0)=s2 at *;replace hs2:=KO hs2.symm;replace hox:=KO (show aF _ _ _ _ from hox);replace LH:=KO (show aF _ _ _ _ from LH);generalize (Wh.a_ z.natAbs).length=lz,(Wh.a_ x.natAbs).length=lx at *;obtain ⟨w3,hw3,b1,b2,b3,hB⟩:=dF w #[a,b] 24 #[s1,.slice ax lx cx,s2,.slice az lz cz] 162 #[false,.slice none 0 0] 145;have Nc:=KO (aF.below hox.out hB);have Nd:=KO (aF.below LH.out hB)
 have hz3:w3.heap.size=w.heap.size+3:=by rw [←hw3,KQ,iW]
 clear hox LH;have e0:=b2.aI.c0;have e1:=b2.aI.c1;have e2:=b2.aI.c2;have e3:=b2.aI.c3;go_enter func169,ntmps169
 go_wp2
 go_upto_region 1 with fail
 go_cut [5,6] (fun p q wx=>∃ gx gz,w.heap.size+3<=gx/\w.heap.size+3<=gz/\p=.pointer (some ⟨gx,0,none⟩)/\q=.pointer (some ⟨gz,0,none⟩)/\aG wx gx 145 #[s1,.slice ax lx cx]/\aG wx gz 145 #[s2,.slice az lz cz]/\Below (w.heap.size+3) w3 wx)
 case first=>
  go_region
  all_goals
   exact SA
 case rest=>
 obtain ⟨gx,gz,hgx,hgz,rfl,rfl,X,Z,hbx⟩:=hcut;rw [←hz3] at hbx;have ox:=KO (aF.below Nc.out hbx);have oz:=KO (aF.below Nd.out hbx);have C:=b1.keep hbx;have R:=b3.keep hbx;have hw:=p_ hB hbx
 have Nz:w.heap.size+3<=wc.heap.size:=by have:=hbx.size;omega
 clear hz3;clear b1 b2 b3 e0 e1 e2 e3 hB hbx Nc Nd;have z0:=Z.box.c0;have z1:=Z.box.c1
 go_wp2_with ((with_reducible refine (P0.out _ _ _ oz.out).mono ?_);rintro e w4 ⟨v3,rfl,ho3,hb4⟩;obtain ⟨a3,k3,rfl,hm3,hv3⟩:=aF.view ho3;clear hm3 hv3 z0 z1)
 have MG:wc.heap.size<=w4.heap.size:=hb4.size;generalize (Wh.a_ zq.natAbs).length=l3 at *;generalize hs3:decide (zq<0)=s3 at *;replace hs3:=KO hs3.symm;have o3:=KO (aF.alloc (show aF _ _ _ _ from ho3) (.cells #[s3,.slice a3 l3 k3] 145));clear ho3;have T:=aG.new w4 #[s3,.slice a3 l3 k3] 145;have hB2:Below wc wc (w4.alloc (.cells #[s3,.slice a3 l3 k3] 145)):=hb4.alloc MG (.cells #[s3,.slice a3 l3 k3] 145);have SP:wc.heap.size<=w4.heap.size:=MG;have Wz:gz<wc.heap.size:=Z.lt
 go_upto_region 3 with fail
 generalize w4.alloc (.cells #[s3,.slice a3 l3 k3] 145)=wd at *;replace ⟨X,Z,C,R⟩:=Kl hB2 X Z C R;replace ox:=KO (aF.below ox.out hB2);replace oz:=KO (aF.below oz.out hB2);replace hw:=p_ hw hB2;have O9:wc.heap.size<=wd.heap.size:=hB2.size
 replace Wz:gz<wd.heap.size:=ω
 replace Nz:w.heap.size+3<=wd.heap.size:=ω
 clear hB2 hb4;refine be 12 [.is (.agg #[s1,.slice ax lx cx]),.at (aK (wd.heap.size) (xq)),.is (.agg #[s1,.slice ax lx cx]),.at (aK (wd.heap.size) (xc)),.is (.agg #[s1,.slice ax lx cx]),.is (.agg #[s3,.slice a3 l3 k3]),.at (aK (wd.heap.size) (xz)),.is (.pointer (some ⟨w,0,none⟩)),.is a,.at (aK (wd.heap.size) (xa)),.at (aK (wd.heap.size) (S1)),.new (wd.heap.size) 145 #[false,.slice none 0 0]] κ κ κ ⟨?_,?_,?_,?_,?_,?_,?_,?_,?_,?_,?_,?_,fun h_=>absurd h_ δ,trivial⟩ ?_
 all_goals try ((refine Rg.b1 ?_;intro zZ w_ hB e);have kz:=aE hB X.box.c0;have kz:=aE hB X.box.c1;have kz:=aE hB T.box.c0;have kz:=aE hB T.box.c1;have kz:=aE hB C.box.c0;(go_simp;done))
 ·refine Rg.o1 ?_;intro zZ w_ hB e
  have ef:=Rg.ef zZ;refine aj rfl τ ?_;exact aK.ret hB (P1.out _ _ _ (aF.below ox.out hB))
 ·intro _ zZ w_ hB hr
  obtain ⟨s16,a16,OX,c16,Mw,e16,o16⟩:=aK.get (hr 16 δ);have e17:=Rg.A_ (hr 17 δ);have ef:=Rg.ef zZ;refine aj rfl τ ?_;obtain rfl:=Mw.out;exact aK.ret hB (P2.out _ _ _ _ _ o16 (aF.below ox.out hB))
 ·intro _ zZ w_ hB hr
  have e19:=Rg.A_ (hr 19 δ);have e20:=Rg.A_ (hr 20 δ);have ef:=Rg.ef zZ;refine aj rfl τ ?_;exact aK.ret hB (P3.out _ _ _ _ _ (aF.below ox.out hB) (aF.below o3.out hB))
 ·intro _ zZ w_ hB hr
  obtain ⟨s21,a21,l21,c21,hs21,e21,o21⟩:=aK.get (hr 21 δ);have e23:=Rg.A_ (hr 23 δ);have ef:=Rg.ef zZ;refine aj rfl τ ?_;obtain rfl:=hs21.out;exact aK.ret hB (P4.out _ _ _ o21)
 ·intro _ zZ w_ hB hr
  obtain ⟨s18,a18,l18,c18,Tw,e18,o18⟩:=aK.get (hr 18 δ);obtain ⟨s24,a24,Qv,c24,O6,e24,Vh⟩:=aK.get (hr 24 δ);have ef:=Rg.ef zZ;refine aj rfl τ ?_;obtain rfl:=Tw.out;obtain rfl:=O6.out;exact aK.ret hB (P5.out _ _ _ _ _ o18 Vh)
 ·exact M4
 intro vals wz hB hv hne;have n8:(Rg.Val.new (wd.heap.size) 145 #[false,.slice none 0 0]).ok (vals 11) wz:=hv 11 δ;have n25:(Rg.Val.at (aK (wd.heap.size) (S1))).ok (vals 10) wz:=hv 10 δ;simp only [bD,Rg.fill,Act.put,Nat.reduceAdd];clear hv;obtain ⟨g8,Th,MV,o8⟩:=n8;replace o8:aG wz g8 145 #[false,.slice none 0 0]:=o8;obtain ⟨Xm,a25,Xa,WX,hs25,LG,o25⟩:=(cX n25).view;simp only [MV,LG];clear MV LG;have hB2:Below wd wd ((wz.setCell ⟨g8,0,none⟩ (.bool Xm)).setCell ⟨g8,1,none⟩ (.slice a25 Xa WX)):=KR (KR hB Th _) Th _;have U:=aG.set2 o8 (.bool Xm) (.slice a25 Xa WX);have oU:=KO (aF.bV o25 o8 δ (.bool Xm) (.slice a25 Xa WX));have ⟨c0,c1,f0,f1,_⟩:=o8.box;unfold aU aU Oper.wp;go_simp
 clear c0 c1 f0 f1 o8 o25;generalize ((wz.setCell ⟨g8,0,none⟩ (.bool Xm)).setCell ⟨g8,1,none⟩ (.slice a25 Xa WX))=we at *;replace ⟨Z,C,R,T⟩:=Kl hB2 Z C R T;replace oz:=KO (aF.below oz.out hB2);replace o3:=KO (aF.below o3.out hB2);replace hw:=p_ hw hB2;have O9:wd.heap.size<=we.heap.size:=hB2.size
 go_upto_region 4 with fail
 clear hB2 hB;refine be 8 [.is (.agg #[Xm,.slice a25 Xa WX]),.is (.agg #[s2,.slice az lz cz]),.is (.agg #[s3,.slice a3 l3 k3]),.at (aK (we.heap.size) (zc)),.is (.pointer (some ⟨w,1,none⟩)),.is b,.at (aK (we.heap.size) (zb)),.at (aK (we.heap.size) (S2))] κ κ κ ⟨?_,?_,?_,?_,?_,?_,?_,?_,fun h_=>absurd h_ δ,trivial⟩ ?_
 all_goals try ((refine Rg.b1 ?_;intro zZ w_ hB e);have kz:=aE hB U.box.c0;have kz:=aE hB U.box.c1;have kz:=aE hB Z.box.c0;have kz:=aE hB Z.box.c1;have kz:=aE hB T.box.c0;have kz:=aE hB T.box.c1;have kz:=aE hB C.box.c1;(go_simp;done))
 ·intro _ zZ w_ hB hr
  have e27:=Rg.A_ (hr 27 δ);have e28:=Rg.A_ (hr 28 δ);have ef:=Rg.ef zZ;refine aj rfl τ ?_;exact aK.ret hB (P6.out _ _ _ _ _ (aF.below oz.out hB) (aF.below o3.out hB))
 ·intro _ zZ w_ hB hr
  obtain ⟨s29,a29,l29,c29,hs29,e29,o29⟩:=aK.get (hr 29 δ);have e31:=Rg.A_ (hr 31 δ);have ef:=Rg.ef zZ;refine aj rfl τ ?_;obtain rfl:=hs29.out;exact aK.ret hB (P7.out _ _ _ o29)
 ·intro _ zZ w_ hB hr
  have e26:=Rg.A_ (hr 26 δ);obtain ⟨s32,a32,l32,c32,T6,e32,o32⟩:=aK.get (hr 32 δ);have ef:=Rg.ef zZ;refine aj rfl τ ?_;obtain rfl:=T6.out;rw [hs25.out];exact aK.ret hB (P8.out _ _ _ _ _ (aF.below oU.out hB) o32)
 intro vals wy hB hv hne;have n33:(Rg.Val.at (aK (we.heap.size) (S2))).ok (vals 7) wy:=hv 7 δ;simp only [bD,Rg.fill,Act.put,Nat.reduceAdd];clear hv;obtain ⟨Rh,a33,Rc,RC,QW,Mi,UI⟩:=(cX n33).view;simp only [Mi];clear Mi;have U2:=U.keep hB;have hB2:Below wd we ((wy.setCell ⟨g8,0,none⟩ (.bool Rh)).setCell ⟨g8,1,none⟩ (.slice a33 Rc RC)):=KR (KR (hB.mono O9) Th _) Th _;have oS:=KO (aF.bV UI U2 δ (.bool Rh) (.slice a33 Rc RC));have U3:=aG.set2 U2 (.bool Rh) (.slice a33 Rc RC)
 have hgz9:gz<wd.heap.size/\w.heap.size+1+1<wd.heap.size:=⟨Wz,by have:=Nz;omega⟩
 have Z5:aG ((wy.setCell ⟨g8,0,none⟩ (.bool Rh)).setCell ⟨g8,1,none⟩ (.slice a33 Rc RC)) gz 145 #[s2,.slice az lz cz]:=((Z.keep hB).other ω _).other ω _;have R5:aG ((wy.setCell ⟨g8,0,none⟩ (.bool Rh)).setCell ⟨g8,1,none⟩ (.slice a33 Rc RC)) (w.heap.size+1+1) 145 #[false,.slice none 0 0]:=((R.keep hB).other ω _).other ω _;have oz5:=KO (aF.bV (aF.below oz.out hB) U2 δ (.bool Rh) (.slice a33 Rc RC));have Vb:=hw.trans (hB2.mono (show w.heap.size<=wd.heap.size by omega));have ⟨c0,c1,f0,f1,_⟩:=U2.box;unfold aU aU Oper.wp;go_simp
 clear c0 c1 f0 f1 U2;generalize ((wy.setCell ⟨g8,0,none⟩ (.bool Rh)).setCell ⟨g8,1,none⟩ (.slice a33 Rc RC))=wf at *;have y0:=Z5.box.c0;have y1:=Z5.box.c1;have y2:=U3.box.c0;have y3:=U3.box.c1;obtain rfl:=QW.out
 go_wp2_with (first | ((with_reducible refine (P9.out _ _ _ _ _ oz5.out oS.out).mono ?_);rintro e w6 ⟨v6,rfl,SS,hb6⟩;obtain ⟨a6,k6,rfl,hm6,hv6⟩:=aF.view SS;clear hm6 hv6;have Me:=(show aF _ _ _ _ from SS)) | ((with_reducible refine (PA.out _ _ _ Me).mono ?_);rintro e w7 ⟨v7,rfl,Nx,KY⟩;obtain ⟨a7,k7,rfl,hm7,hv7⟩:=aF.view Nx;clear hm7 hv7;have R7:=(R5.keep hb6).keep KY;(have ⟨c0,c1,f0,f1,_⟩:=R7.box)))
 generalize decide (F<0)=s7,(Wh.a_ F.natAbs).length=l7 at *;have hb67:=Vb.trans ((hb6.mono Vb.size).trans (KY.mono (Nat.le_trans Vb.size hb6.size)));have hr1:=aF.base (aF.bV Nx R7 δ (.bool s7) (.slice a7 l7 k7)) (show w.heap.size<=w6.heap.size from Nat.le_trans Vb.size hb6.size);have hr2:Below w w ((w7.setCell ⟨w.heap.size+1+1,0,none⟩ (.bool s7)).setCell ⟨w.heap.size+1+1,1,none⟩ (.slice a7 l7 k7)):=Pf hb67;exact KU results169 ⟨_,rfl,hr1,hr2⟩
end
end Go.Proofs.YtlnjcilaflfnlaaGreatDoor
