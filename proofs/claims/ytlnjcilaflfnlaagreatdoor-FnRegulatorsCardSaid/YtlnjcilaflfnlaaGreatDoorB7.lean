/-
  Joined: contracts, lemmas.
-/
import Derived.Test.YtlnjcilaflfnlaaGreatDoorB6
import Derived.Test.YtlnjcilaflfnlaaGreatDoorRows
import Derived.ProofKit
import Derived.OpenShut
import Derived.Lib.SmallJoins
import Derived.Carry
import Derived.Laws.IdiomCopy
import Derived.Deep.Slices
import Derived.Lib.ItoaNum
import Derived.Laws.BytesArg
import Derived.Laws.Concat
import Derived.Lib.ItoaMem
import Derived.Lib.Join
import Derived.Test.YtlnjcilaflfnlaaGreatDoorShS
import Derived.Lib.AppendIntMem
set_option linter.unusedSimpArgs false
set_option linter.unusedVariables false
set_option maxRecDepth 100000
set_option maxHeartbeats 8000000
namespace Go.Proofs.YtlnjcilaflfnlaaGreatDoor
open _root_.Go.Proofs.Tryz
section
open Go.RowKit open Gr M Rg Rw Wh
theorem Lo {p:Prop} (h:p:=by (first | (go_simp;done) | (go_simp;exact Rg.wr ω ω) | (go_simp;omega) | (go_simp;rfl))):p:=h
theorem YF {p:Prop} (h:p:=by
 clear PQ PR
 go_wp2_with ((with_reducible refine (PX.out _ K).mono ?_);rintro e w6 ⟨rfl,hb6⟩;have KY:=bI hb6;replace B2:=ig B2 K0 K hb6;replace S:=(S.other (i:=0) nS (.bool fn)).keep KY;replace R:=(R.other (i:=0) nR (.bool fn)).keep KY;replace K:=(K.one (.bool fn)).keep KY;(have ⟨s0,s1,y0,y1,sl⟩:=S.box))
 go_roundw
 case rel=>exact ⟨c+1,ω,ν,by rw [←hfn.out];exact (K.other nS2 _).other nS2 _,by rw [←VY.out,←VW.out];exact aG.set2 S _ _,(R.other ω _).other ω _,by rw [aO,aO];omega,by rw [←hfn.out];exact KR (KR B2 (by show w.heap.size<=wc.heap.size;omega) _) (by show w.heap.size<=wc.heap.size;omega) _⟩
 case measure=>simp [intOf] <;> omega):p:=h
theorem ZM {p:Prop} (h:p:=by obtain ⟨h1,h2⟩:=K8;obtain ⟨r,rfl⟩:=List.length_eq_one_iff.1 h1;obtain ⟨q,rfl⟩:=List.length_eq_one_iff.1 (h2 r (List.mem_cons_self ..));exact ⟨q,rfl⟩):p:=h
theorem ZN {p:Prop} (h:p:=by
 unfold aw
 rw [if_neg δ];intro zZ w_ n_ d_ Li hJ hr;refine ⟨rfl,?_⟩;have e10:zZ.tmps[10]?=some (.slice (some ⟨gi,0,none⟩) (n+2) Kn):=hr 10 δ;go_simp):p:=h
theorem Ze {p:Prop} (h:p:=by
 unfold bp
 rw [if_neg δ,if_neg δ,if_neg δ];intro zZ w_ hH hr;have e0:zZ.tmps[0]?=some (.pointer (some ⟨g,0,none⟩)):=hr 0 δ;exact aS rfl γ):p:=h
theorem Zj {p:Prop} (h:p:=by
 unfold aw
 rw [if_neg δ];intro zZ w_ n_ d_ Li hJ hr;refine ⟨rfl,?_⟩;have e6:zZ.tmps[6]?=some (.int .i64 ((c:Nat):Int)):=hr 6 δ;go_simp):p:=h
theorem was7 {p:Prop} (h:p:=by
 go_wp2
 go_roundw
 case rel=>exact ⟨i+1,_,ω,ν,rfl,hM2,hB2⟩
 case measure=>simp [intOf] <;> omega):p:=h
theorem wau3 {p:Prop} (h:p:=by have h:=hrow.out;rw [List.take_of_length_le (by rw [Oo.out];omega)] at h;exact h):p:=h
theorem bj.held {w1 w:World} {base g:Nat} {T:TypeId} {v x:Value} {vs:List Value} {rows:List (List (Int × Int))} (h:bj w1 base v vs rows) (hH:Rg.Held w1 g w) (K:aG w1 g T #[x]) (hT:T≠72) (Qp:T≠70):bj w base v vs rows:=by
 have key:∀ {t:TypeId} {k n:Nat} {u:Value} {zs:List Value},w1.ownsRow base t k u n zs->T≠t->w.ownsRow base t k u n zs:=fun {t k n u zs} h ht=>by
  refine ⟨h.1,?_⟩
  rcases h.2 with h2 | ⟨g1,c1,QK,e,h3,h4,h5⟩
  ·exact Or.inl h2
  have hne:g1≠g:=fun e2=>by
   subst e2;unfold aG at K;rw [h4] at K
   injection K with K
   injection K with _ K2
   exact ht K2.symm
  exact Or.inr ⟨g1,c1,QK,e,h3,hH.2 g1 t QK hne h4,h5⟩
 obtain ⟨h1,h2,h3,h4⟩:=h;exact ⟨key h1 Qp,h2,fun i u r hu hr=>key (h3 i u r hu hr) hT,h4⟩
def JK (n:Nat) (s1 s2:Value) (nr:List (Int × Int)) (b2:Nat) (rows:M.LD) (w0 w2:World) (x8 x9 x10 x11 x12:Value) (w:World):Prop:=match n with
 | 0=>Below w0.heap.size w0 w
 | 1=>∃ h,x8=.slice (some ⟨h,0,none⟩) 2 2/\w.cell? ⟨h,0,none⟩=some s1/\w.cell? ⟨h,1,none⟩=some s2/\Below w0.heap.size w0 w
 | 2=>Rw.Own EP w w0.heap.size x9 nr/\Below w0.heap.size w0 w
 | 3=>∃ w3,w=w3.alloc (.cells #[x9] 70)/\x10=.slice (some ⟨w3.heap.size,0,none⟩) 1 1/\Rw.Own EP w3 w0.heap.size x9 nr/\Below w0.heap.size w0 w3
 | 4=>gC w b2 x11 (rows ++ [nr])/\Below b2 w2 w
 | _=>gC w b2 x12 (rows ++ [nr])/\Below b2 w2 w
theorem Je (n:Nat):∀ (m:M.LD) (v:Value) (g base:Nat) (ok:Bool) (w:World),n<=3->M.square (n+1) m->M.UJ m->gC w base v m->aG w g 83 #[ok]->
  Calls prog 73 #[.pointer (some ⟨g,0,none⟩),v] w fun e w'=>e=.returned (.agg #[M.Kd (jU ok (n+1) m),M.Kj (jU ok (n+1) m)])/\Below w.heap.size (w.setCell ⟨g,0,none⟩ (.bool (ok && (dZ (n+1) m).isSome))) w':=by
 induction n with
 | zero=>
  intro m v g base ok w hn K8 hok hm K
  obtain ⟨q,rfl⟩:∃ q,m=[[q]]:=by
   exact ZM
  obtain ⟨q1,q2⟩:=q;obtain ⟨gm,cap,g2,cap2,rfl,k0,k1,k2⟩:=hm.at (i:=0) (j:=0) rfl rfl;simp only [Nat.zero_mul,Nat.zero_add,List.length_cons,List.length_nil] at k0 k1 k2 ⊢;have e1:M.Kd (jU ok 1 [[(q1,q2)]])=q1:=rfl;have e2:M.Kj (jU ok 1 [[(q1,q2)]])=q2:=rfl
  have e3:(ok && (dZ 1 [[(q1,q2)]]).isSome)=ok:=by cases ok <;> rfl
  rw [e1,e2,e3];clear e1 e2 e3 hok K8 hm;have B:=(KS w.heap.size w).alloc (KT _) (.cells #[(0:Int),(0:Int)] 72);have R:=aG.new w #[(0:Int),(0:Int)] 72;replace k0:=aE B k0;replace k1:=aE B k1;replace k2:=aE B k2;replace B:=gU K B;generalize hw3:w.alloc (.cells #[(0:Int),(0:Int)] 72)=wc at *;have ⟨r0,r1,z0,z1,rl⟩:=R.box;go_enter func73,ntmps73
  go_wp2;exact KU results73 ⟨rfl,KR (KR B σ _) σ _⟩
 | succ n ih=>
 intro m v g base ok w hn K8 hok hm K0;obtain ⟨vs,hm⟩:=hm;have hml:m.length=n+2:=K8.1
 obtain ⟨r0,hr0⟩:∃ r,m[0]?=some r:=⟨_,List.getElem?_eq_getElem ω⟩
 have Mf:r0.length=n+2:=K8.2 r0 (List.mem_of_getElem? hr0)
 have hhd:m.headD []=r0:=by
  cases m with
  | nil=>cases hr0
  | cons x m=>exact Option.some.inj hr0
 obtain ⟨gm,OK,rfl,hcm,hcm2,hgm⟩:=hm.form (fun h=>by rw [h] at hml;simp only [List.length_nil] at hml;omega);obtain ⟨g0,cap0,hv0,hc0,hg0⟩:=hm.rowIs hr0 (fun h=>by rw [h] at Mf;simp only [List.length_nil] at Mf;omega);rw [Mf] at hv0 hc0;rw [hml] at hm hcm ⊢;have Qu:=hm.iD hv0;have hsd:jY ok n m (n+2)=jU ok (n+1+1) m/\(ok && (fA n m (n+2)).isSome)=(ok && (dZ (n+1+1) m).isSome):=Em (ok:=ok) K8;have hsd:=KO hsd;have K8:=KO K8;have hr0:=KO hr0;have Mf:=KO Mf;have hml:=KO hml;have hhd:=KO hhd;have hok:=KO hok;have hm:=KO hm;have hv0:=KO hv0;have ih:=KO ih;have hsz:=KQ w (.cells #[(0:Int),(0:Int)] 72);obtain ⟨wc,hw3,R,B⟩:=cJ w #[(0:Int),(0:Int)] 72;rw [hw3] at hsz;have S:=aG.new wc #[(0:Int),(0:Int)] 72;replace B:=B.alloc ω (.cells #[(0:Int),(0:Int)] 72);replace R:=R.alloc (.cells #[(0:Int),(0:Int)] 72);have hgl:=K0.lt
 have nR:w.heap.size≠g:=ω
 have nS:wc.heap.size≠g:=ω
 have nR2:g≠w.heap.size:=ω
 have nS2:g≠wc.heap.size:=ω
 have hwl:w.heap.size<wc.heap.size:=ω
 clear hsz;have K:=K0.keep B;have hwz:wc.heap.size+1<=(wc.alloc (.cells #[(0:Int),(0:Int)] 72)).heap.size:=S.lt;replace Qu:=aE B Qu;replace B:=gU K0 B
 have hn1:(n:Int)<=2:=ω
 have hne1:((n:Int)+2 == 1)=false:=by rw [beq_eq_false_iff_ne];omega
 go_enter func73,ntmps73
 go_wp2
 go_loopw [25] (fun vc wq=>∃ c:Nat,c<=n+2/\vc=.int .i64 (c:Int)/\aG wq g 83 #[.bool (ok && (fA n m c).isSome)]/\aG wq wc.heap.size 72 #[M.Kd (jY ok n m c),M.Kj (jY ok n m c)]/\aG wq w.heap.size 72 #[(0:Int),(0:Int)]/\wc.heap.size+1<=wq.heap.size/\Below w.heap.size (w.setCell ⟨g,0,none⟩ (.bool (ok && (fA n m c).isSome))) wq) (fun vc _=>n+2 - (intOf vc).toNat)
 case atStart=>
  have e0:(ok && (fA n m 0).isSome)=ok:=by cases ok <;> rfl
  exact ⟨0,Nat.zero_le _,rfl,by rw [e0];exact K,S,R,hwz,by rw [e0];exact B⟩
 case round=>
 clear K S R B hwz Qu;obtain ⟨c,hc,rfl,K,S,R,hwz,B⟩:=hrel;generalize hwo:wr=wo at *;clear hwo
 by_cases hlt:c<n+2
 ·obtain ⟨q,hq⟩:∃ q,r0[c]?=some q:=⟨_,List.getElem?_eq_getElem (by have:=Mf.out;omega)⟩
  have XC:M.LR (some q):=fun p hp=>by
   obtain rfl:=Option.some.inj hp;exact hok.out r0 (List.mem_of_getElem? hr0.out) _ (List.mem_of_getElem? hq)
  have Oq:=KO (hm.out.Fs K0 δ δ B);obtain ⟨d0,d1⟩:=(Oq.out.rowFrom hv0.out hr0.out).at2 hq
  obtain ⟨fc,hfc⟩:∃ x,x=(ok && (fA n m c).isSome):=⟨_,rfl⟩
  obtain ⟨us,T_⟩:∃ x,x=jY ok n m c:=⟨_,rfl⟩
  obtain ⟨u1,hu1⟩:∃ x,x=jU fc (n+1) (br m c):=⟨_,rfl⟩
  obtain ⟨f1,hf1⟩:∃ x,x=(fc && (dZ (n+1) (br m c)).isSome):=⟨_,rfl⟩
  obtain ⟨u2,hu2⟩:∃ x,x=M.gd f1 (cn (some q) u1):=⟨_,rfl⟩
  obtain ⟨hk1,hk2⟩:=Af hfc hf1 hu1 (by rw [hhd.out];exact hq) hu2
  have hfs:fc=true->us.isSome=true:=fun h=>by rw [T_];exact Bj (by rw [←hfc];exact h)
  have Te:f1=true->fc=true:=fun h=>by rw [hf1,Bool.and_eq_true] at h;exact h.1
  have Wv:f1=true->u1.isSome=true:=fun h=>by rw [hu1];exact Ad (by rw [←hf1];exact h)
  have O7:u2.isSome=true->f1=true:=fun h=>by rw [hu2] at h;exact (ke h).1
  have Rb:=mr K8.out hlt;have hok1:=sS (c:=c) hok.out
  have PD:=fun vo b W h K=>ih.out (br m c) vo g b fc W ω Rb hok1 h K
  rw [←hu1,←hf1] at PD
  have PT:=fun W K=>qb g f1 (some q) u1 W K XC (by rw [hu1];exact FU hok1) (fun _=>rfl) Wv
  rw [←hu2] at PT
  have hsu:M.LR us:=by rw [T_];exact Gl
  have T9:M.LR u2:=by rw [hu2];exact kH kq
  have PP:=fun W K=>tg g u2.isSome us u2 W K hsu T9 (fun h=>hfs (Te (O7 h))) (fun h=>h)
  have PM:=fun W K=>qa g u2.isSome us u2 W K hsu T9 (fun h=>hfs (Te (O7 h))) (fun h=>h)
  rw [←T_] at hk1 hk2 S;rw [←hfc] at K B;rw [hk1] at hk2;have hmin:=KO (fun (i:Nat) (r:List (Int × Int)) (h:m[i+1]?=some r)=>BA (c:=c) h);have Oo:=KO (xZ (c:=c) (n:=n+1) hml.out)
  obtain ⟨mm,hmm⟩:∃ x,x=br m c:=⟨_,rfl⟩
  rw [←hmm] at hmin Oo PD;clear hmm Rb hok1 hfs Te Wv O7 hsu T9 hu2 hf1 hu1 hfc T_ XC;obtain ⟨q1,q2⟩:=q;have e1:M.Kd (some (q1,q2))=q1:=rfl;have e2:M.Kj (some (q1,q2))=q2:=rfl;rw [e1,e2] at PT;simp only [] at d0 d1;clear e1 e2 hq;generalize M.Kj u1=h1,M.Kd u1=l1 at *
  have hq2:fo us u2 c=if c % 2=0 then fQ us u2 else dX us u2:=rfl
  rw [hq2] at hk1;clear hq2
  obtain ⟨un,hun⟩:∃ x,x=jY ok n m (c+1):=⟨_,rfl⟩
  obtain ⟨fn,hfn⟩:∃ x,x=(ok && (fA n m (c+1)).isSome):=⟨_,rfl⟩
  rw [←hun] at hk1 hk2;rw [←hfn] at hk2;replace hun:=KO hun;replace hfn:=KO hfn
  obtain ⟨f2,hf2⟩:∃ x,x=u2.isSome:=⟨_,rfl⟩
  rw [←hf2] at PT PP PM hk1;clear hf2;generalize M.Kj u2=h2,M.Kd u2=l2 at *
  obtain ⟨l5,hl5⟩:∃ x,x=M.Kd us:=⟨_,rfl⟩
  obtain ⟨h5,hh5⟩:∃ x,x=M.Kj us:=⟨_,rfl⟩
  rw [←hl5,←hh5] at PP PM S;clear hl5 hh5
  obtain ⟨l6,VY⟩:∃ x,x=M.Kd un:=⟨_,rfl⟩
  obtain ⟨h6,VW⟩:∃ x,x=M.Kj un:=⟨_,rfl⟩
  have PQ:(c % 2=0->∀ W,aG W g 83 #[f2]->Calls prog 44 #[.pointer (some ⟨g,0,none⟩),.agg #[l5,h5],.agg #[l2,h2]] W fun e w'=>e=.returned (.agg #[l6,h6])/\Below W.heap.size (W.setCell ⟨g,0,none⟩ (.bool fn)) w'):=fun h W K=>by
   rw [if_pos h] at hk1;have:=PP W K;rw [hk1,hk2,←VY,←VW] at this;exact this
  have PR:(c % 2=1->∀ W,aG W g 83 #[f2]->Calls prog 115 #[.pointer (some ⟨g,0,none⟩),.agg #[l5,h5],.agg #[l2,h2]] W fun e w'=>e=.returned (.agg #[l6,h6])/\Below W.heap.size (W.setCell ⟨g,0,none⟩ (.bool fn)) w'):=fun h W K=>by
   rw [if_neg ω] at hk1;have:=PM W K;rw [hk1,hk2,←VY,←VW] at this;exact this
  rw [hun.out] at VY VW;have VY:=KO VY;have VW:=KO VW;clear PP PM hk1 hk2 hun us u1 u2 un;replace PD:=KO PD;replace PT:=KO PT;replace PQ:=KO PQ;replace PR:=KO PR
  have ngw:g≠wo.heap.size:=ω
  have Bv:=(KS wo.heap.size wo).alloc (KT _) (.cells #[q1,q2] 72);have X:=aG.new wo #[q1,q2] 72;have hX:=X.lt;have Oq:=KO (Oq.out.below Bv);have Kp:=B.size;rw [aO] at Kp;replace B:=B.trans (Bv.mono Kp);replace ⟨K,S,R⟩:=Ky Bv K S R;generalize hw2:wo.alloc (.cells #[q1,q2] 72)=wb at *;clear Bv
  have hcap1:¬ OK=1:=ω
  go_wp2
  go_loopw [8,33] (fun vo vi wi=>∃ (i:Nat) (u:Value),i<=n+1/\vi=.int .i64 (i:Int)/\u=vo/\Hid (gC wi wb.heap.size u (mm.take i))/\Below wb.heap.size wb wi) (fun _ vi _=>n+1 - (intOf vi).toNat)
  case atStart=>exact ⟨0,_,Nat.zero_le _,rfl,rfl,KO (gC.nil _ _),KS _ _⟩
  case round=>
  clear d0 d1;obtain ⟨i,vo,hi,rfl,rfl,hrow,Bi⟩:=hrel;have Lb:=KO (Oq.out.below Bi)
  by_cases hlt2:i<n+1
  ·obtain ⟨r,hr⟩:∃ r,m[i+1]?=some r:=⟨_,List.getElem?_eq_getElem (by have:=hml.out;omega)⟩
   have hrl:r.length=n+2:=K8.out.2 r (List.mem_of_getElem? hr);obtain ⟨gi,Kn,My,hci,hgi⟩:=Lb.out.rowIs hr (fun h=>by rw [h] at hrl;simp only [List.length_nil] at hrl;omega);have O_:=Lb.out.iD My;rw [Nat.add_comm i 1] at O_;have FR:=Lb.out.rowFrom My hr;rw [hrl] at O_ hci;have hcell:=hmin.out i r hr
   obtain ⟨nr,hnr⟩:∃ x,x=r.take c ++ r.drop (c+1):=⟨_,rfl⟩
   rw [←hnr] at hcell;have F1:=KO (FR.cut c);have F2:=KO (FR.zf (c+1) Kn ω)
   have hl1:(r.take c).length=c:=by rw [List.length_take];omega
   have hl2:(r.drop (c+1)).length=n+2 - (c+1):=by rw [List.length_drop,hrl]
   have PC:=fun W h k0 k1 (b:Below wr.heap.size wr W)=>Co h c Kn (n+2 - (c+1)) (Kn - (c+1)) _ _ (r.take c) (r.drop (c+1)) W k0 k1 hl1 hl2 (F1.out.below b) (F2.out.below b) ω ω
   rw [←hnr] at PC;have hnx:=M.fW hcell;have hnx:=KO hnx;obtain ⟨vs2,L5⟩:=hrow.out;have L5:=KO L5
   have hlen:(mm.take i).length<=1000000000:=by rw [List.length_take];omega
   have hEP:EP.k=2:=rfl;rw [hEP] at PC;clear hEP hcell hnr F1 F2 hl1 hl2 FR My hr hrl;replace PC:=KO PC
   have hcc:((c:Nat):Int)<=4:=ω
   have Td:((c:Nat):Int)<=((n+2:Nat):Int):=ω
   have hcc3:((c:Nat):Int)<=((Kn:Nat):Int):=ω
   have hcc4:((c:Nat):Int)+1<=((n+2:Nat):Int):=ω
   go_upto_region 11 with fail
   refine AJ (fun k v w=>JK k (.slice (some ⟨gi,0,none⟩) c Kn) (.slice (if Kn=c+1 then some ⟨gi,0,none⟩ else some ⟨gi,(c+1)*2,none⟩) (n+2 - (c+1)) (Kn - (c+1))) nr wb.heap.size (mm.take i) wr wb (v 8) (v 9) (v 10) (v 11) (v 12) w) [8,9,10,11,12] [vo,.slice (some ⟨gi,0,none⟩) (n+2) Kn,.int .i64 ((c:Nat):Int),.slice (some ⟨gi,0,none⟩) c Kn,.slice (some ⟨gi,0,none⟩) (n+2) Kn,.int .i64 ((c:Nat):Int),.int .i64 ((c:Nat)+1),.slice (if Kn=c+1 then some ⟨gi,0,none⟩ else some ⟨gi,(c+1)*2,none⟩) (n+2 - (c+1)) (Kn - (c+1)),undef,undef,undef,undef,undef] κ κ κ δ (fun k v v2 w h hj=>by rw [←h 8 δ,←h 9 δ,←h 10 δ,←h 11 δ,←h 12 δ];exact hj) (fun _=>(KS _ wr).drew) ⟨?_,?_,?_,?_,?_,?_,?_,?_,?_,?_,?_,?_,?_,trivial⟩ ?_
   ·unfold aw
    rw [if_neg δ];intro zZ w_ n_ d_ Li hJ hr;refine ⟨rfl,?_⟩;have e8:zZ.tmps[8]?=some (vo):=hr 8 δ;go_simp
   ·exact ZN
   ·exact Zj
   ·unfold aw
    rw [if_neg δ];intro zZ w_ n_ d_ Li hJ hr;refine ⟨rfl,?_⟩;have e38:zZ.tmps[38]?=some (.slice (some ⟨gi,0,none⟩) (n+2) Kn):=hr 38 δ;have e39:zZ.tmps[39]?=some (.int .i64 ((c:Nat):Int)):=hr 39 δ
    exact Lo
   ·exact ZN
   ·exact Zj
   ·unfold aw
    rw [if_neg δ];intro zZ w_ n_ d_ Li hJ hr;refine ⟨rfl,?_⟩;have e42:zZ.tmps[42]?=some (.int .i64 ((c:Nat):Int)):=hr 42 δ;have ec:=Rg.ec zZ
    exact Lo
   ·unfold aw
    rw [if_neg δ];intro zZ w_ n_ d_ Li hJ hr;refine ⟨rfl,?_⟩;have e41:zZ.tmps[41]?=some (.slice (some ⟨gi,0,none⟩) (n+2) Kn):=hr 41 δ;have e43:zZ.tmps[43]?=some (.int .i64 ((c:Nat)+1)):=hr 43 δ
    have hcN:((c:Nat):Int)+1<=((n+2:Nat):Int):=ω
    exact Lo
   ·unfold aw
    rw [if_pos δ];intro zZ w_ d_ hJ hr;have e40:zZ.tmps[40]?=some (.slice (some ⟨gi,0,none⟩) c Kn):=hr 40 δ;have e44:zZ.tmps[44]?=some (.slice (if Kn=c+1 then some ⟨gi,0,none⟩ else some ⟨gi,(c+1)*2,none⟩) (n+2 - (c+1)) (Kn - (c+1))):=hr 44 δ;refine ⟨rfl,?_⟩;have hJ:Below wr.heap.size wr w_:=hJ;refine rP (x:=.slice (some ⟨w_.heap.size,0,none⟩) 2 2) (ob:=.cells #[.slice (some ⟨gi,0,none⟩) c Kn,.slice (if Kn=c+1 then some ⟨gi,0,none⟩ else some ⟨gi,(c+1)*2,none⟩) (n+2 - (c+1)) (Kn - (c+1))] 70) Us ?_;exact ⟨_,rfl,ur _ _ _ 0 _ rfl,ur _ _ _ 1 _ rfl,hJ.alloc hJ.size _⟩
   ·unfold aw
    rw [if_pos δ];intro zZ w_ d_ hJ hr;have e45:zZ.tmps[45]?=some (d_ 8):=hr 45 δ
    have ef:∀ f,zZ.eval (.func f)=.func (.func f) #[] #[]:=fun _=>rfl
    refine ⟨rfl,?_⟩;obtain ⟨h_,Wa,k0_,k1_,Ka⟩:=hJ;rw [Wa] at e45;refine jk τ ?_;refine (PC.out w_ h_ k0_ k1_ Ka).mono ?_;rintro e w5 ⟨v5,rfl,LZ,hb5⟩;exact ⟨_,rfl,(LZ.down Ka.size:Rw.Own EP w5 wr.heap.size v5 nr),p_ Ka hb5⟩
   ·unfold aw
    rw [if_pos δ];intro zZ w_ d_ hJ hr;have e46:zZ.tmps[46]?=some (d_ 9):=hr 46 δ;refine ⟨rfl,?_⟩;obtain ⟨ME,Ka⟩:=hJ;have ME:Rw.Own EP w_ wr.heap.size (d_ 9) nr:=ME;refine rP (x:=.slice (some ⟨w_.heap.size,0,none⟩) 1 1) (ob:=.cells #[d_ 9] 70) (by rcases ME.forms with ⟨q_,-⟩ | ⟨g_,c_,q_,-⟩ <;> rw [q_] at e46 ⊢ <;> (first | (go_simp;done) | (go_simp;rfl))) ?_;exact ⟨w_,rfl,rfl,ME,Ka⟩
   ·unfold aw
    rw [if_pos δ];intro zZ w_ d_ hJ hr;have e37:zZ.tmps[37]?=some (vo):=hr 37 δ;have e47:zZ.tmps[47]?=some (d_ 10):=hr 47 δ;refine ⟨rfl,?_⟩;obtain ⟨w3,hw_,OL,ME,Ka⟩:=hJ;subst hw_;have OL:d_ 10=.slice (some ⟨w3.heap.size,0,none⟩) 1 1:=OL;have ME:Rw.Own EP w3 wr.heap.size (d_ 9) nr:=ME;rw [OL] at e47;have QX:Below wb.heap.size wb w3:=p_ Bi Ka;obtain ⟨v6,w6,PJ,PZ,Pw⟩:=rU (W:=wb) (w:=w3) 67 wb.heap.size (d_ 9) nr vs2 _ _ (L5.out.below Ka) (ME.down Bi.size) (L5.out.fresh ME (KT _)) QX QX.size hlen;refine gJ (x:=v6) (w2:=w6) (ie rfl (Rg.ev e37) (Rg.ev e47) PJ) ?_;exact ⟨⟨_,PZ⟩,Pw⟩
   ·unfold aw
    rw [if_pos δ];intro zZ w_ d_ hJ hr;have e48:zZ.tmps[48]?=some (d_ 11):=hr 48 δ;refine ⟨rfl,?_⟩;refine gJ (x:=d_ 11) (w2:=w_) Us ?_;exact hJ
   intro vals wz hJ hv;simp only [bD,Rg.fill,Act.put,Nat.reduceAdd];clear hv;obtain ⟨hM2,hB2⟩:=hJ;have hM2:gC wz wb.heap.size (vals 12) (mm.take i ++ [nr]):=hM2;rw [←hnx.out] at hM2;have hM2:=KO hM2;clear hnx L5 PC;exact was7
  obtain rfl:i=n+1:=ω
  have Mr:gC wr wb.heap.size vo mm:=by
   exact wau3
  have Mr:=KO Mr
  have hBs2:w.heap.size<=wb.heap.size:=ω
  replace B:=B.trans (Bi.mono hBs2);replace ⟨K,S,R,X⟩:=Kl Bi K S R X;clear hrow Lb Oq Bi
  have nXg:wo.heap.size≠g:=ω
  go_upto_region 13 with fail
  refine Ho (g) 83 (fun n=>match n with | 0=>.bool fc | 1=>.bool f1 | _=>.bool f2) [4,5] 6 7 72 #[(0:Int),(0:Int)] #[l2,h2] [.is (.pointer (some ⟨g,0,none⟩)),.is (.agg #[q1,q2]),.is (.pointer (some ⟨g,0,none⟩)),.is (vo),.is (.agg #[l1,h1]),.is (.agg #[l2,h2]),.is (undef),.is (undef)] κ κ κ (fun j h1 h2=>match j,h1,h2 with | 0,h1,h2=>rfl | 1,h1,h2=>rfl | 2,h1,h2=>rfl | 3,h1,h2=>rfl | 4,h1,h2=>rfl | 5,h1,h2=>rfl | 6,h1,h2=>absurd rfl h1 | 7,h1,h2=>absurd rfl h2 | n+8,_,_=>rfl) δ δ δ δ K ⟨?_,?_,?_,?_,?_,?_,?_,?_,trivial⟩ ?_
  ·exact Ze
  ·unfold bp
   rw [if_neg δ,if_neg δ,if_neg δ];intro zZ w_ hH hr;have e7:zZ.tmps[7]?=some (.pointer (some ⟨wo.heap.size,0,none⟩)):=hr 7 δ;have k0:=(hH.2 _ _ _ nXg X).box.c0;have k1:=(hH.2 _ _ _ nXg X).box.c1;exact aS rfl γ
  ·exact Ze
  ·unfold bp
   rw [if_neg δ,if_neg δ,if_neg δ];intro zZ w_ hH hr;have e8:zZ.tmps[8]?=some (vo):=hr 8 δ;exact aS rfl γ
  ·unfold bp
   rw [if_neg δ,if_neg δ,if_pos δ];intro zZ w_ K_ hH hr;replace K_:aG w_ (g) 83 #[fc]:=K_;have e52:=Rg.A_ (hr 52 δ);have e53:=Rg.A_ (hr 53 δ);have ef:=Rg.ef zZ;exact io rfl γ (PD.out _ _ _ (Mr.out.elim fun _ h_=>⟨_,h_.held hH K δ δ⟩) K_)
  ·unfold bp
   rw [if_neg δ,if_neg δ,if_pos δ];intro zZ w_ K_ hH hr;replace K_:aG w_ (g) 83 #[f1]:=K_;have e50:=Rg.A_ (hr 50 δ);have e51:=Rg.A_ (hr 51 δ);have e54:=Rg.A_ (hr 54 δ);have ef:=Rg.ef zZ;exact io rfl γ (PT.out _ K_)
  ·unfold bp
   exact Ph
  ·unfold bp
   rw [if_neg δ,if_pos rfl];intro zZ w_ h_ hh hn hr;have e11:zZ.tmps[11]?=some (.pointer (some ⟨h_,0,none⟩)):=hr 11 δ;have e55:=Rg.A_ (hr 55 δ);exact Ux
  intro vals wz h_ hh hn Px hB hv;replace hB:Below wr.heap.size (wr.setCell ⟨g,0,none⟩ (.bool f2)) wz:=hB;simp only [bD,Rg.fill,Act.put,Nat.reduceAdd];clear hv;simp only [Px];clear Px;have hB2:=bI hB;have B2:=ig B K0 K hB;replace S:=(S.other (i:=0) nS (.bool f2)).keep hB2;replace R:=(R.other (i:=0) nR (.bool f2)).keep hB2;replace K:=(K.one (.bool f2)).keep hB2;have ⟨s0,s1,y0,y1,sl⟩:=S.box;have ⟨t0,t1,_,_,_⟩:=hn.box;clear hB hB2 B PD PT Mr X;have ht:Int.tmod ((c:Nat):Int) 2=((c % 2:Nat):Int):=(Int.ofNat_tmod c 2).symm
  rcases Nat.mod_two_eq_zero_or_one c with hp | hp
  ·rw [hp] at ht
   have PX:=KO (PQ.out hp);exact YF
  rw [hp] at ht;have PX:=KO (PR.out hp);exact YF
 obtain rfl:c=n+2:=ω
 obtain ⟨e1,e2⟩:=hsd.out;rw [e1] at S;rw [e2] at B K;clear e1 e2 hsd
 obtain ⟨d1,hd1⟩:∃ x,x=M.Kd (jU ok (n+1+1) m):=⟨_,rfl⟩
 obtain ⟨d2,hd2⟩:∃ x,x=M.Kj (jU ok (n+1+1) m):=⟨_,rfl⟩
 rw [←hd1,←hd2] at S;have hd1:=KO hd1;have hd2:=KO hd2;have ⟨s0,s1,y0,y1,sl⟩:=S.box;have ⟨t0,t1,z0,z1,tl⟩:=R.box;go_wp2;exact KU (v:=.agg #[d1,d2]) results73 ⟨by rw [hd1.out,hd2.out],KR (KR B (KT _) _) (KT _) _⟩
theorem ZQ {p:Prop} (h:p:=by
 unfold aw
 rw [if_neg δ];intro zZ w_ n_ d_ Li hJ hr;refine ⟨rfl,?_⟩;have e7:zZ.tmps[7]?=some (.slice (some ⟨gi,0,none⟩) (n+2) Kn):=hr 7 δ;go_simp):p:=h
theorem Zi {p:Prop} (h:p:=by
 unfold aw
 rw [if_neg δ];intro zZ w_ n_ d_ Li hJ hr;refine ⟨rfl,?_⟩;have e1:zZ.tmps[1]?=some (.int .i64 ((c:Nat):Int)):=hr 1 δ;go_simp):p:=h
theorem cH.rowIs {w:World} {base:Nat} {v:Value} {vs:List Value} {rows:List (List (Int × Int × Int × Int))} (h:cH w base v vs rows) {i:Nat} {r:List (Int × Int × Int × Int)} (hr:rows[i]?=some r) (hne:r≠[]) :
  ∃ (g2 cap2:Nat),vs[i]?=some (.slice (some ⟨g2,0,none⟩) r.length cap2)/\r.length<=cap2/\g2<w.heap.size:=by
 exact Yb
theorem cH.form {w:World} {base:Nat} {v:Value} {vs:List Value} {rows:List (List (Int × Int × Int × Int))} (h:cH w base v vs rows) (hne:rows≠[]):∃ (g cap:Nat),v=.slice (some ⟨g,0,none⟩) rows.length cap/\rows.length<=cap/\cap<=9223372036854775807/\g<w.heap.size:=by
 exact Yt
theorem cH.iD {w:World} {base g n cap:Nat} {vs:List Value} {rows:List (List (Int × Int × Int × Int))} (h:cH w base (.slice (some ⟨g,0,none⟩) n cap) vs rows) {i:Nat} {u:Value} (hu:vs[i]?=some u):w.cell? ⟨g,i,none⟩=some u:=by
 exact Yp
theorem cH.rowFrom {w:World} {base:Nat} {v:Value} {vs:List Value} {rows:List (List (Int × Int × Int × Int))} (h:cH w base v vs rows) {i g2 cap2 n2:Nat} {r:List (Int × Int × Int × Int)} (hu:vs[i]?=some (.slice (some ⟨g2,0,none⟩) n2 cap2)) (hr:rows[i]?=some r):Rw.From EN w (some ⟨g2,0,none⟩) r:=by
 exact Ym
theorem Rw.From.at4 {w:World} {g c:Nat} {r:List (Int × Int × Int × Int)} {q:Int × Int × Int × Int} (h:Rw.From EN w (some ⟨g,0,none⟩) r) (hq:r[c]?=some q):w.cell? ⟨g,c*4,none⟩=some (.int .i64 q.1)/\w.cell? ⟨g,c*4+1,none⟩=some (.int .i64 q.2.1)/\w.cell? ⟨g,c*4+2,none⟩=some (.int .i64 q.2.2.1)/\w.cell? ⟨g,c*4+3,none⟩=some (.int .i64 q.2.2.2):=by
 have hadd:∀ b i:Nat,(⟨b,0,none⟩:Addr).add i=⟨b,i,none⟩:=fun b i=>by unfold Addr.add;split <;> simp_all
 have hc:∀ (t:Nat) (u:Value),t<4->(EN.cells q)[t]?=some u->w.cell? ⟨g,c*4+t,none⟩=some u:=fun t u ht hu=>by
  obtain ⟨ad,e,hh⟩:=h (c*4+t) u ((Rw.flat_get EN r c t q hq ht).trans hu);have:=Option.some.inj e;subst this;rw [hadd] at hh;exact hh
 exact ⟨hc 0 _ δ rfl,hc 1 _ δ rfl,hc 2 _ δ rfl,hc 3 _ δ rfl⟩
theorem Rw.mh {α:Type} {E:Rw.Enc α} {w W:World} {base:Nat} {v:Value} {xs:List α} {P:Program} {ts:TypeId} (F:Rw.Fits P E ts) (ty:TypeId) (ys:List α) (m:Nat) (hm:ys.length=m) (A:Option Addr) (c:Nat)
  (hr:Rw.From E w A ys) (hown:Rw.Own E w base v xs) (hW:Below base W w) (hB:base<=w.heap.size) (hl:xs.length+m<=100000000000) :
  ∃ v' w',(Builtin.append_ #[ts,ts] ty #[v,.slice A m c]).run P w=.ok v' w'/\Rw.Own E w' base v' (xs ++ ys)/\Below base W w':=by
 subst hm;exact wM F ty ys A c hr hown hW hB hl
abbrev N8:=List (List (Int × Int × Int × Int))
def M.kF (m:N8) (c:Nat):N8:=m.tail.map fun r=>r.take c ++ r.drop (c+1)
theorem M.BC {m:N8} {c i:Nat} {r:List (Int × Int × Int × Int)} (h:m[i+1]?=some r):(kF m c)[i]?=some (r.take c ++ r.drop (c+1)):=by
 unfold kF;rw [List.getElem?_map,List.getElem?_tail,h];rfl
theorem M.xd {m:N8} {c n:Nat} (h:m.length=n+1):(kF m c).length=n:=by
 unfold kF;rw [List.length_map,List.length_tail,h];rfl
def Ht (n:Nat) (r:List (Int × Int × Int × Int)) (c:Nat) (b2:Nat) (rows:N8) (w0 w2:World) (x1 x5 x10 x11 x12 x13:Value) (w:World):Prop:=match n with
 | 0=>Below w0.heap.size w0 w
 | 1=>Rw.Own EN w w0.heap.size x1 []/\Below w0.heap.size w0 w
 | 2=>Rw.Own EN w w0.heap.size x5 (r.take c)/\Below w0.heap.size w0 w
 | 3=>Rw.Own EN w w0.heap.size x10 (r.take c ++ r.drop (c+1))/\Below w0.heap.size w0 w
 | 4=>∃ w3,w=w3.alloc (.cells #[x10] 56)/\x11=.slice (some ⟨w3.heap.size,0,none⟩) 1 1/\Rw.Own EN w3 w0.heap.size x10 (r.take c ++ r.drop (c+1))/\Below w0.heap.size w0 w3
 | 5=>cZ w b2 x12 (rows ++ [r.take c ++ r.drop (c+1)])/\Below b2 w2 w
 | _=>cZ w b2 x13 (rows ++ [r.take c ++ r.drop (c+1)])/\Below b2 w2 w
theorem As (n c:Nat) (m:N8) (v:Value) (base:Nat) (w:World) (hn:n<=2) (hml:m.length=n+2) (hmr:∀ r ∈ m,r.length=n+2) (hc:c<n+2) (hm:cZ w base v m) :
  Calls prog 120 #[v,.int .i64 (c:Int)] w fun e w'=>∃ v',e=.returned v'/\cZ w' w.heap.size v' (kF m c)/\Below w.heap.size w w':=by
 obtain ⟨vs,hm⟩:=hm;obtain ⟨gm,OK,rfl,hcm,hcm2,hgm⟩:=hm.form (fun h=>by rw [h] at hml;simp only [List.length_nil] at hml;omega);rw [hml] at hm hcm ⊢;have hmin:=KO (fun (i:Nat) (r:List (Int × Int × Int × Int)) (h:m[i+1]?=some r)=>BC (c:=c) h);have Oo:=KO (xd (c:=c) (n:=n+1) hml)
 obtain ⟨mm,hmm⟩:∃ x,x=kF m c:=⟨_,rfl⟩
 rw [←hmm] at hmin Oo ⊢;clear hmm;have hml:=KO hml;have hmr:=KO hmr;have hm:=KO hm
 have hcap1:¬ OK=1:=ω
 have hn1:(n:Int)<=2:=ω
 go_enter func120,ntmps120
 go_wp2
 go_loopw [5,11] (fun vo vi wi=>∃ (i:Nat) (u:Value),i<=n+1/\vi=.int .i64 (i:Int)/\u=vo/\Hid (cZ wi w.heap.size u (mm.take i))/\Below w.heap.size w wi) (fun _ vi _=>n+1 - (intOf vi).toNat)
 case atStart=>exact ⟨0,_,Nat.zero_le _,rfl,rfl,KO (cZ.nil _ _),KS _ _⟩
 case round=>
 obtain ⟨i,vo,hi,rfl,rfl,hrow,Bi⟩:=hrel;have Lb:=KO (hm.out.below Bi)
 by_cases hlt2:i<n+1
 ·obtain ⟨r,hr⟩:∃ r,m[i+1]?=some r:=⟨_,List.getElem?_eq_getElem (by have:=hml.out;omega)⟩
  have hrl:r.length=n+2:=hmr.out r (List.mem_of_getElem? hr);obtain ⟨gi,Kn,My,hci,hgi⟩:=Lb.out.rowIs hr (fun h=>by rw [h] at hrl;simp only [List.length_nil] at hrl;omega);have O_:=Lb.out.iD My;rw [Nat.add_comm i 1] at O_;have FR:=Lb.out.rowFrom My hr;rw [hrl] at O_ hci;have hcell:=hmin.out i r hr;have F1:=KO (FR.cut c);have F2:=FR.zf (c+1) Kn ω;have hEN:EN.k=4:=rfl;rw [hEN] at F2;have F2:=KO F2
  have hl1:(r.take c).length=c:=by rw [List.length_take];omega
  have hl2:(r.drop (c+1)).length=n+2 - (c+1):=by rw [List.length_drop,hrl]
  have hl1:=KO hl1;have hl2:=KO hl2;have hnx:=KO (M.fW hcell);obtain ⟨vs2,L5⟩:=hrow.out;have L5:=KO L5
  have hlen:(mm.take i).length<=1000000000:=by rw [List.length_take];omega
  have hlen:=KO hlen;clear hEN hcell FR My hr hrl
  have hcc:((c:Nat):Int)<=4:=ω
  have Td:((c:Nat):Int)<=((n+2:Nat):Int):=ω
  have hcc3:((c:Nat):Int)<=((Kn:Nat):Int):=ω
  have hcc4:((c:Nat):Int)+1<=((n+2:Nat):Int):=ω
  go_upto_region 5 with fail
  refine AJ (fun k v w2_=>Ht k r c w.heap.size (mm.take i) wr w (v 1) (v 5) (v 10) (v 11) (v 12) (v 13) w2_) [1,5,10,11,12,13] [vo,undef,.slice (some ⟨gi,0,none⟩) (n+2) Kn,.int .i64 ((c:Nat):Int),.slice (some ⟨gi,0,none⟩) c Kn,undef,.slice (some ⟨gi,0,none⟩) (n+2) Kn,.int .i64 ((c:Nat):Int),.int .i64 ((c:Nat)+1),.slice (if Kn=c+1 then some ⟨gi,0,none⟩ else some ⟨gi,(c+1)*4,none⟩) (n+2 - (c+1)) (Kn - (c+1)),undef,undef,undef,undef] κ κ κ δ (fun k v v2 w h hj=>by rw [←h 1 δ,←h 5 δ,←h 10 δ,←h 11 δ,←h 12 δ,←h 13 δ];exact hj) (fun _=>(KS _ wr).drew) ⟨?_,?_,?_,?_,?_,?_,?_,?_,?_,?_,?_,?_,?_,?_,trivial⟩ ?_
  ·unfold aw
   rw [if_neg δ];intro zZ w_ n_ d_ Li hJ hr;refine ⟨rfl,?_⟩;have e5:zZ.tmps[5]?=some (vo):=hr 5 δ;go_simp
  ·unfold aw
   rw [if_pos δ];intro zZ w_ d_ hJ hr;refine ⟨rfl,?_⟩;have hJ:Below wr.heap.size wr w_:=hJ;refine rP (x:=.slice (some ⟨w_.heap.size,0,none⟩) 0 0) (ob:=.cells #[] 34) (by (first | (go_simp;done) | (go_simp;rfl))) ?_;exact ⟨(Rw.Own.Ax EN w_ _ hJ.size:Rw.Own EN _ wr.heap.size _ []),hJ.alloc hJ.size _⟩
  ·exact ZQ
  ·exact Zi
  ·unfold aw
   rw [if_neg δ];intro zZ w_ n_ d_ Li hJ hr;refine ⟨rfl,?_⟩;have e17:zZ.tmps[17]?=some (.slice (some ⟨gi,0,none⟩) (n+2) Kn):=hr 17 δ;have e18:zZ.tmps[18]?=some (.int .i64 ((c:Nat):Int)):=hr 18 δ
   exact Lo
  ·unfold aw
   rw [if_pos δ];intro zZ w_ d_ hJ hr;have e16:zZ.tmps[16]?=some (d_ 1):=hr 16 δ;have e19:zZ.tmps[19]?=some (.slice (some ⟨gi,0,none⟩) c Kn):=hr 19 δ;refine ⟨rfl,?_⟩;obtain ⟨ME,Ka⟩:=hJ;have ME:Rw.Own EN w_ wr.heap.size (d_ 1) []:=ME;obtain ⟨v6,w6,PJ,PZ,Pw⟩:=mh ro (W:=wr) 56 (r.take c) c hl1.out (some ⟨gi,0,none⟩) Kn (F1.out.below Ka) ME Ka Ka.size (by simp only [List.length_nil];omega);refine gJ (x:=v6) (w2:=w6) (ie rfl (Rg.ev e16) (Rg.ev e19) PJ) ?_;exact ⟨PZ,Pw⟩
  ·exact ZQ
  ·exact Zi
  ·unfold aw
   rw [if_neg δ];intro zZ w_ n_ d_ Li hJ hr;refine ⟨rfl,?_⟩;have e22:zZ.tmps[22]?=some (.int .i64 ((c:Nat):Int)):=hr 22 δ;have ec:=Rg.ec zZ
   exact Lo
  ·unfold aw
   rw [if_neg δ];intro zZ w_ n_ d_ Li hJ hr;refine ⟨rfl,?_⟩;have e21:zZ.tmps[21]?=some (.slice (some ⟨gi,0,none⟩) (n+2) Kn):=hr 21 δ;have e23:zZ.tmps[23]?=some (.int .i64 ((c:Nat)+1)):=hr 23 δ
   have hcN:((c:Nat):Int)+1<=((n+2:Nat):Int):=ω
   exact Lo
  ·unfold aw
   rw [if_pos δ];intro zZ w_ d_ hJ hr;have e20:zZ.tmps[20]?=some (d_ 5):=hr 20 δ;have e24:zZ.tmps[24]?=some (.slice (if Kn=c+1 then some ⟨gi,0,none⟩ else some ⟨gi,(c+1)*4,none⟩) (n+2 - (c+1)) (Kn - (c+1))):=hr 24 δ;refine ⟨rfl,?_⟩;obtain ⟨ME,Ka⟩:=hJ;have ME:Rw.Own EN w_ wr.heap.size (d_ 5) (r.take c):=ME;obtain ⟨v6,w6,PJ,PZ,Pw⟩:=mh ro (W:=wr) 56 (r.drop (c+1)) (n+2 - (c+1)) hl2.out _ (Kn - (c+1)) (F2.out.below Ka) ME Ka Ka.size (by rw [hl1.out];omega);refine gJ (x:=v6) (w2:=w6) (ie rfl (Rg.ev e20) (Rg.ev e24) PJ) ?_;exact ⟨PZ,Pw⟩
  ·unfold aw
   rw [if_pos δ];intro zZ w_ d_ hJ hr;have e25:zZ.tmps[25]?=some (d_ 10):=hr 25 δ;refine ⟨rfl,?_⟩;obtain ⟨ME,Ka⟩:=hJ;have ME:Rw.Own EN w_ wr.heap.size (d_ 10) _:=ME;refine rP (x:=.slice (some ⟨w_.heap.size,0,none⟩) 1 1) (ob:=.cells #[d_ 10] 56) (by rcases ME.forms with ⟨q_,-⟩ | ⟨g_,c_,q_,-⟩ <;> rw [q_] at e25 ⊢ <;> (first | (go_simp;done) | (go_simp;rfl))) ?_;exact ⟨w_,rfl,rfl,ME,Ka⟩
  ·unfold aw
   rw [if_pos δ];intro zZ w_ d_ hJ hr;have e15:zZ.tmps[15]?=some (vo):=hr 15 δ;have e26:zZ.tmps[26]?=some (d_ 11):=hr 26 δ;refine ⟨rfl,?_⟩;obtain ⟨w3,hw_,OL,ME,Ka⟩:=hJ;subst hw_;have OL:d_ 11=.slice (some ⟨w3.heap.size,0,none⟩) 1 1:=OL;have ME:Rw.Own EN w3 wr.heap.size (d_ 10) _:=ME;rw [OL] at e26;have QX:Below w.heap.size w w3:=p_ Bi Ka;obtain ⟨v6,w6,PJ,PZ,Pw⟩:=rT (W:=w) (w:=w3) 28 w.heap.size (d_ 10) _ vs2 _ _ (L5.out.below Ka) (ME.down Bi.size) (L5.out.fresh ME (KT _)) QX QX.size hlen.out;refine gJ (x:=v6) (w2:=w6) (ie rfl (Rg.ev e15) (Rg.ev e26) PJ) ?_;exact ⟨⟨_,PZ⟩,Pw⟩
  ·unfold aw
   rw [if_pos δ];intro zZ w_ d_ hJ hr;have e27:zZ.tmps[27]?=some (d_ 12):=hr 27 δ;refine ⟨rfl,?_⟩;refine gJ (x:=d_ 12) (w2:=w_) (by (first | (go_simp;done) | (go_simp;rfl))) ?_;exact hJ
  intro vals wz hJ hv;simp only [bD,Rg.fill,Act.put,Nat.reduceAdd];clear hv;obtain ⟨hM2,hB2⟩:=hJ;have hM2:cZ wz w.heap.size (vals 13) (mm.take i ++ [r.take c ++ r.drop (c+1)]):=hM2;rw [←hnx.out] at hM2;have hM2:=KO hM2;clear hnx L5;exact was7
 obtain rfl:i=n+1:=ω
 have Mr:cZ wr w.heap.size vo mm:=by
  exact wau3
 have Mr:=KO Mr;clear hrow Lb;go_wp2;go_ret;exact ⟨_,rfl,Mr.out,Bi⟩
theorem Ry {p:Prop} (h:p:=by exact KU (v:=.tuple #[.agg #[(0:Int),(0:Int),(0:Int),(0:Int)],false]) results74 ⟨by rw [hfin.out];rfl,KR (KR (KR (KR B (KT _) _) (KT _) _) (KT _) _) (KT _) _⟩):p:=h
theorem Nn {p:Prop} (h:p:=by show w.heap.size<=w8.heap.size;omega):p:=h
theorem Yg {p:Prop} (h:p:=by
 go_roundw
 case rel=>exact ⟨c+1,sx,ω,ν,hnx,by rw [←hx1.out,←hx2.out,←hx3.out,←hx4.out];exact aG.oK S _ _ _ _,R.kJ nRS _ _ _ _,by rw [aO,aO,aO,aO];omega,KR (KR (KR (KR B hsb _) hsb _) hsb _) hsb _⟩
 case measure=>simp [intOf] <;> omega):p:=h
theorem Zz {p:Prop} (h:p:=by
 cases m with
 | nil=>have:=K8.1;simp only [List.length_nil] at this;omega
 | cons r m=>exact K8.2 r (List.mem_cons_self ..)):p:=h
namespace M
noncomputable def MS (m:LD):N8:=m.map fun r=>r.map fun q=>Mo (some q)
theorem BD (m:LD) (c:Nat):kF (MS m) c=MS (br m c):=by
 unfold kF MS br;rw [←List.map_tail,List.map_map,List.map_map]
 refine List.map_congr_left fun r _=>?_
 simp only [Function.comp,List.map_append,List.map_take,List.map_drop]
theorem xU {m:LD} {i:Nat} {r:List (Int × Int)} (h:m[i]?=some r):(MS m)[i]?=some (r.map fun q=>Mo (some q)):=by
 unfold MS;rw [List.getElem?_map,h];rfl
theorem pM (m:LD):(MS m).length=m.length:=by unfold MS;rw [List.length_map]
theorem Ik {n:Nat} {m:LD} (h:square n m):∀ r ∈ MS m,r.length=n:=fun r hr=>by
 unfold MS at hr;obtain ⟨s,hs,rfl⟩:=List.mem_map.1 hr;rw [List.length_map];exact h.2 s hs
theorem Cy {n:Nat} {m:LD} {c:Nat} (K8:square (n+2) m) (hc:c<n+2) (h:fA n m (c+1)=none):dZ (n+2) m=none:=by
 have hl:(m.headD []).length=n+2:=by
  exact Zz
 rw [iv,hl];exact se h _ ω
theorem C4 {n:Nat} {m:LD} (K8:square (n+2) m):dZ (n+2) m=fA n m (n+2):=by
 have hl:(m.headD []).length=n+2:=by
  exact Zz
 rw [iv,hl]
theorem yv:Kc (some (0,0))=0/\Kf (some (0,0))=1/\Kg (some (0,0))=0/\Kh (some (0,0))=1:=by
 obtain ⟨k1,k2⟩:=vw (n:=0) δ δ;exact ⟨k1,k2,k1,k2⟩
theorem mT:Kc none=0/\Kf none=0/\Kg none=0/\Kh none=0/\(none:Sp).isSome=false:=⟨rfl,rfl,rfl,rfl,rfl⟩
end M
theorem Fo (n:Nat):∀ (m:M.LD) (v:Value) (base:Nat) (w:World),n<=3->M.square (n+1) m->M.UJ m->cZ w base v (M.MS m)->
  cB 74 #[v] w (.tuple #[.agg #[M.Kc (dZ (n+1) m),M.Kf (dZ (n+1) m),M.Kg (dZ (n+1) m),M.Kh (dZ (n+1) m)],.bool (dZ (n+1) m).isSome]):=by
 induction n with
 | zero=>
  intro m v base w hn K8 hok hm
  obtain ⟨q,rfl⟩:∃ q,m=[[q]]:=by
   exact ZM
  have hd:dZ (0+1) [[q]]=some q:=rfl;rw [hd];obtain ⟨gm,cap,g2,cap2,rfl,k0,k1,k2,k3,k4⟩:=hm.at (i:=0) (j:=0) (q:=M.Mo (some q)) (r:=[M.Mo (some q)]) rfl rfl;have hl:(M.MS [[q]]).length=1:=rfl;simp only [Nat.zero_mul,Nat.zero_add,List.length_cons,List.length_nil,hl,M.Mo] at k0 k1 k2 k3 k4 ⊢;have e5:(some q:M.Sp).isSome=true:=rfl;rw [e5];generalize M.Kc (some q)=q1 at *;generalize M.Kf (some q)=q2 at *;generalize M.Kg (some q)=q3 at *;generalize M.Kh (some q)=q4 at *;obtain ⟨wc,hw3,R,B⟩:=cJ w #[(0:Int),(0:Int),(0:Int),(0:Int)] 34;replace k0:=aE B k0;replace k1:=aE B k1;replace k2:=aE B k2;replace k3:=aE B k3;replace k4:=aE B k4;have ⟨r0,r1,r2,r3,z0,z1,z2,z3,rl⟩:=R.aI;go_enter func74,ntmps74
  go_wp2;exact KU results74 ⟨rfl,KR (KR (KR (KR B (KT _) _) (KT _) _) (KT _) _) (KT _) _⟩
 | succ n ih=>
 intro m v base w hn K8 hok hm;obtain ⟨vs,hm⟩:=hm;have hml:m.length=n+2:=K8.1
 have RT:(M.MS m).length=n+2:=by rw [pM];exact hml
 obtain ⟨r0,hr0⟩:∃ r,m[0]?=some r:=⟨_,List.getElem?_eq_getElem ω⟩
 have Mf:r0.length=n+2:=K8.2 r0 (List.mem_of_getElem? hr0)
 have hhd:m.headD []=r0:=by
  cases m with
  | nil=>cases hr0
  | cons x m=>exact Option.some.inj hr0
 obtain ⟨rN,Ng⟩:∃ x,x=r0.map fun q=>M.Mo (some q):=⟨_,rfl⟩
 have RV:(M.MS m)[0]?=some rN:=by rw [Ng];exact xU hr0
 have MF:rN.length=n+2:=by rw [Ng,List.length_map];exact Mf
 obtain ⟨gm,OK,rfl,hcm,hcm2,hgm⟩:=hm.form (fun h=>by rw [h] at RT;simp only [List.length_nil] at RT;omega);obtain ⟨g0,cap0,hv0,hc0,hg0⟩:=hm.rowIs RV (fun h=>by rw [h] at MF;simp only [List.length_nil] at MF;omega);rw [MF] at hv0 hc0;rw [RT] at hm hcm ⊢;have Qu:=hm.iD hv0;have PMn:=KO (fun c (hc:c<n+2) W h=>As n c (M.MS m) (.slice (some ⟨gm,0,none⟩) (n+2) OK) base W ω RT (Ik K8) hc h);have hnone:=KO (fun c (hc:c<n+2) h=>Cy (n:=n) (m:=m) (c:=c) K8 hc h);have hsome:=KO (C4 (n:=n) (m:=m) K8);have K8:=KO K8;have Ng:=KO Ng;have hr0:=KO hr0;have RV:=KO RV;have Mf:=KO Mf;have hml:=KO hml;have hhd:=KO hhd;have hok:=KO hok;have hm:=KO hm;have hv0:=KO hv0;have ih:=KO ih
 have PI:=KO fun W=>tR 0 W
 obtain ⟨wc,hw3,R,B⟩:=cJ w #[(0:Int),(0:Int),(0:Int),(0:Int)] 34;replace Qu:=aE B Qu
 have hn1:(n:Int)<=2:=ω
 have hne1:((n:Int)+2 == 1)=false:=by rw [beq_eq_false_iff_ne];omega
 go_enter func74,ntmps74
 go_wp2_with (with_reducible refine G_ PI fun w5 hb5=>?_;replace ⟨B,R⟩:=Kt hb5 B R;replace Qu:=aE hb5 Qu;have kr1:=aE ((KS _ w5).alloc (KT _) (.cells #[(0:Int),(1:Int),(0:Int),(1:Int)] 34)) Qu)
 have S:=aG.new w5 #[(0:Int),(1:Int),(0:Int),(1:Int)] 34;have hrl:=R.lt;replace R:=R.alloc (.cells #[(0:Int),(1:Int),(0:Int),(1:Int)] 34);replace B:=B.alloc B.size (.cells #[(0:Int),(1:Int),(0:Int),(1:Int)] 34);have hsl:=S.lt
 have nSR:w5.heap.size≠w.heap.size:=ω
 have nRS:w.heap.size≠w5.heap.size:=ω
 have hsb:w.heap.size<=w5.heap.size:=ω
 go_loopw [28] (fun vc wq=>∃ (c:Nat) (s:Int × Int),c<=n+2/\vc=.int .i64 (c:Int)/\Hid (fA n m c=some s)/\aG wq w5 34 #[M.Kc (some s),M.Kf (some s),M.Kg (some s),M.Kh (some s)]/\aG wq w 34 #[(0:Int),(0:Int),(0:Int),(0:Int)]/\w5.heap.size+1<=wq.heap.size/\Below w w wq) (fun vc _=>n+2 - (intOf vc).toNat)
 case atStart=>
  obtain ⟨e1,e2,e3,e4⟩:=yv;exact ⟨0,(0,0),Nat.zero_le _,rfl,KO rfl,by rw [e1,e2,e3,e4];exact S,R,hsl,B⟩
 case round=>
 clear S R B Qu hrl hsl;generalize w5.heap.size=sb at *;obtain ⟨c,s,hc,rfl,hs,S,R,hwz,B⟩:=hrel;generalize hwo:wr=wo at *
 by_cases hlt:c<n+2
 ·obtain ⟨q,hq⟩:∃ q,r0[c]?=some q:=⟨_,List.getElem?_eq_getElem (by have:=Mf.out;omega)⟩
  have Qr:aJ q.1 q.2=true:=hok.out r0 (List.mem_of_getElem? hr0.out) _ (List.mem_of_getElem? hq)
  have Ts:rN[c]?=some (M.Mo (some q)):=by rw [Ng.out,List.getElem?_map,hq];rfl
  have Oq:=KO (hm.out.below B);obtain ⟨d0,d1,d2,d3⟩:=(Oq.out.rowFrom hv0.out RV.out).at4 Ts;simp only [M.Mo] at d0 d1 d2 d3;have hss:aJ s.1 s.2=true:=tw (n:=n) (m:=m) c s hs.out;have Rb:=mr K8.out hlt;have hok1:=sS (c:=c) hok.out
  have PD:=fun vo b W h=>ih.out (br m c) vo b W ω Rb hok1 h
  have PN:=PMn.out c hlt;rw [BD] at PN;have hdo:=pQ hok1 (n+1);have hnx:=iX n m c;rw [hs.out,hhd.out,hq] at hnx;have hno:=hnone.out c hlt
  obtain ⟨mm,hmm⟩:∃ x,x=br m c:=⟨_,rfl⟩
  obtain ⟨dd,hdd⟩:∃ x,x=dZ (n+1) (br m c):=⟨_,rfl⟩
  rw [←hdd] at PD hnx hdo;rw [←hmm] at PD PN;have hnx:=KO hnx;have hno:=KO hno;have Bv:=(KS wo wo).alloc (KT _) (.cells #[M.Kc (some q),M.Kf (some q),M.Kg (some q),M.Kh (some q)] 34);have X:=aG.new wo #[M.Kc (some q),M.Kf (some q),M.Kg (some q),M.Kh (some q)] 34;replace ⟨B,S,R⟩:=Ky Bv B S R;have Oq:=KO (Oq.out.below Bv);generalize hw2:wo.alloc (.cells #[M.Kc (some q),M.Kf (some q),M.Kg (some q),M.Kh (some q)] 34)=wb at *
  have hwz2:sb+1<=wb.heap.size:=by have:=S.lt;omega
  have hmw:=KO (show cZ wb base (.slice (some ⟨gm,0,none⟩) (n+2) OK) (M.MS m) from ⟨vs,Oq.out⟩)
  cases dd with
  | none=>
   have hfin:dZ (n+1+1) m=none:=hno.out (by rw [hnx.out];exact ez _ _);have hfin:=KO hfin;have e9:=KO mT;rw [e9.out.1,e9.out.2.1,e9.out.2.2.1,e9.out.2.2.2.1,e9.out.2.2.2.2] at PD;generalize M.Kc (some q)=q1 at *;generalize M.Kf (some q)=q2 at *;generalize M.Kg (some q)=q3 at *;generalize M.Kh (some q)=q4 at *;replace PD:=KO PD;replace PN:=KO PN
   go_wp2_with first | ((with_reducible refine (PN.out _ hmw.out).mono ?_);rintro e w4 ⟨vo,rfl,QM,hb4⟩;replace ⟨B,X,S,R⟩:=Kl hb4 B X S R) | (with_reducible refine Km (PD.out _ _ _ QM) fun w6 hb6=>?_;replace B:=(p_ B hb6).alloc (Nat.le_trans B.size hb6.size) (.cells #[(0:Int),(0:Int),(0:Int),(0:Int)] 34);replace X:=(X.keep hb6).alloc (.cells #[(0:Int),(0:Int),(0:Int),(0:Int)] 34);replace S:=(S.keep hb6).alloc (.cells #[(0:Int),(0:Int),(0:Int),(0:Int)] 34);replace R:=(R.keep hb6).alloc (.cells #[(0:Int),(0:Int),(0:Int),(0:Int)] 34);have Y:=aG.new w6 #[(0:Int),(0:Int),(0:Int),(0:Int)] 34;(have ⟨XW,XX,XY,XZ,_,_,_,_,_⟩:=Y.aI);(have ⟨XS,XT,XU,XV,_,_,_,_,_⟩:=X.aI);(have ⟨r0,r1,r2,r3,z0,z1,z2,z3,rl⟩:=R.aI))
   exact Ry
  | some d=>
  have hds:aJ d.1 d.2=true:=hdo d rfl
  have PX:=fun W=>qZ q d W Qr hds
  have e5:(some d:M.Sp).isSome=true:=rfl;rw [e5] at PD
  obtain ⟨pp,hpp⟩:∃ x,x=cn (some q) (some d):=⟨_,rfl⟩
  have hpo:M.LR pp:=by rw [hpp];exact kq
  have hnx2:=hnx.out;rw [←hpp] at hnx2 PX;replace hnx:=KO hnx2;generalize M.Kc (some q)=q1 at *;generalize M.Kf (some q)=q2 at *;generalize M.Kg (some q)=q3 at *;generalize M.Kh (some q)=q4 at *;generalize M.Kc (some d)=d1 at *;generalize M.Kf (some d)=d2 at *;generalize M.Kg (some d)=d3 at *;generalize M.Kh (some d)=d4 at *;replace PD:=KO PD;replace PN:=KO PN
  cases pp with
  | none=>
   have hfin:dZ (n+1+1) m=none:=hno.out (by rw [hnx.out];exact ez _ _);have hfin:=KO hfin;have e9:=KO mT;rw [e9.out.1,e9.out.2.1,e9.out.2.2.1,e9.out.2.2.2.1,e9.out.2.2.2.2] at PX;replace PX:=KO PX
   go_wp2_with first | ((with_reducible refine (PN.out _ hmw.out).mono ?_);rintro e w4 ⟨vo,rfl,QM,hb4⟩;replace ⟨B,X,S,R⟩:=Kl hb4 B X S R) | (with_reducible refine Km (PD.out _ _ _ QM) fun w6 hb6=>?_;replace B:=(p_ B hb6).alloc (Nat.le_trans B.size hb6.size) (.cells #[d1,d2,d3,d4] 34);replace X:=(X.keep hb6).alloc (.cells #[d1,d2,d3,d4] 34);replace S:=(S.keep hb6).alloc (.cells #[d1,d2,d3,d4] 34);replace R:=(R.keep hb6).alloc (.cells #[d1,d2,d3,d4] 34);have Y:=aG.new w6 #[d1,d2,d3,d4] 34;(have ⟨XW,XX,XY,XZ,_,_,_,_,_⟩:=Y.aI);(have ⟨XS,XT,XU,XV,_,_,_,_,_⟩:=X.aI);(have ⟨r0,r1,r2,r3,z0,z1,z2,z3,rl⟩:=R.aI)) | (with_reducible refine G_ PX fun w7 KY=>?_;replace B:=(p_ B KY).alloc (Nat.le_trans B.size KY.size) (.cells #[(0:Int),(0:Int),(0:Int),(0:Int)] 34);replace S:=(S.keep KY).alloc (.cells #[(0:Int),(0:Int),(0:Int),(0:Int)] 34);replace R:=(R.keep KY).alloc (.cells #[(0:Int),(0:Int),(0:Int),(0:Int)] 34);have Z:=aG.new w7 #[(0:Int),(0:Int),(0:Int),(0:Int)] 34;(have ⟨SW,SX,SY,SZ,_,_,_,_,_⟩:=Z.aI);(have ⟨OT,OU,OV,OW,_,_,_,_,_⟩:=S.aI);(have ⟨r0,r1,r2,r3,z0,z1,z2,z3,rl⟩:=R.aI))
   exact Ry
  | some p=>
  have hps:aJ p.1 p.2=true:=hpo p rfl;have e5:(some p:M.Sp).isSome=true:=rfl;rw [e5] at PX
  have PA:=fun W=>qX s p W hss hps
  have PS:=fun W=>vS s p W hss hps
  have hst:fo (some s) (some p) c=if c % 2=0 then fQ (some s) (some p) else dX (some s) (some p):=rfl
  have hnx2:=hnx.out;rw [hst] at hnx2
  obtain ⟨ad,had⟩:∃ x,x=fQ (some s) (some p):=⟨_,rfl⟩
  obtain ⟨su,hsu⟩:∃ x,x=dX (some s) (some p):=⟨_,rfl⟩
  rw [←had,←hsu] at hnx2;rw [←had] at PA;rw [←hsu] at PS;generalize M.Kc (some p)=p1 at *;generalize M.Kf (some p)=p2 at *;generalize M.Kg (some p)=p3 at *;generalize M.Kh (some p)=p4 at *;generalize M.Kc (some s)=s1 at *;generalize M.Kf (some s)=s2 at *;generalize M.Kg (some s)=s3 at *;generalize M.Kh (some s)=s4 at *;replace PX:=KO PX;have ht:Int.tmod ((c:Nat):Int) 2=((c % 2:Nat):Int):=(Int.ofNat_tmod c 2).symm
  rcases Nat.mod_two_eq_zero_or_one c with hp | hp
  ·rw [hp] at ht
   rw [if_pos hp] at hnx2
   cases ad with
   | none=>
    have hfin:dZ (n+1+1) m=none:=hno.out hnx2;have hfin:=KO hfin;have e9:=KO mT;rw [e9.out.1,e9.out.2.1,e9.out.2.2.1,e9.out.2.2.2.1,e9.out.2.2.2.2] at PA;replace PA:=KO PA
    go_wp2_with first | ((with_reducible refine (PN.out _ hmw.out).mono ?_);rintro e w4 ⟨vo,rfl,QM,hb4⟩;replace ⟨B,X,S,R⟩:=Kl hb4 B X S R) | (with_reducible refine Km (PD.out _ _ _ QM) fun w6 hb6=>?_;replace B:=(p_ B hb6).alloc (Nat.le_trans B.size hb6.size) (.cells #[d1,d2,d3,d4] 34);replace X:=(X.keep hb6).alloc (.cells #[d1,d2,d3,d4] 34);replace S:=(S.keep hb6).alloc (.cells #[d1,d2,d3,d4] 34);replace R:=(R.keep hb6).alloc (.cells #[d1,d2,d3,d4] 34);have Y:=aG.new w6 #[d1,d2,d3,d4] 34;(have ⟨XW,XX,XY,XZ,_,_,_,_,_⟩:=Y.aI);(have ⟨XS,XT,XU,XV,_,_,_,_,_⟩:=X.aI);(have ⟨r0,r1,r2,r3,z0,z1,z2,z3,rl⟩:=R.aI)) | (with_reducible refine G_ PX fun w7 KY=>?_;replace B:=(p_ B KY).alloc (Nat.le_trans B.size KY.size) (.cells #[p1,p2,p3,p4] 34);replace S:=(S.keep KY).alloc (.cells #[p1,p2,p3,p4] 34);replace R:=(R.keep KY).alloc (.cells #[p1,p2,p3,p4] 34);have Z:=aG.new w7 #[p1,p2,p3,p4] 34;(have ⟨SW,SX,SY,SZ,_,_,_,_,_⟩:=Z.aI);(have ⟨OT,OU,OV,OW,_,_,_,_,_⟩:=S.aI);(have ⟨r0,r1,r2,r3,z0,z1,z2,z3,rl⟩:=R.aI)) | (with_reducible refine G_ PA fun w8 Ko=>?_;have XI:=KO (S.keep Ko).lt;have Tu:=KO (R.keep Ko).lt;replace B:=(p_ B Ko).alloc (Nat.le_trans B.size Ko.size) (.cells #[(0:Int),(0:Int),(0:Int),(0:Int)] 34);replace S:=(S.keep Ko).alloc (.cells #[(0:Int),(0:Int),(0:Int),(0:Int)] 34);replace R:=(R.keep Ko).alloc (.cells #[(0:Int),(0:Int),(0:Int),(0:Int)] 34);replace Z:=(Z.keep Ko).alloc (.cells #[(0:Int),(0:Int),(0:Int),(0:Int)] 34);have N:=aG.new w8 #[(0:Int),(0:Int),(0:Int),(0:Int)] 34;(have ⟨XO,XP,XQ,XR,Xe,Xf,Xg,Xh,nl⟩:=N.aI);(have ⟨SW,SX,SY,SZ,_,_,_,_,_⟩:=Z.aI);(have ⟨OT,OU,OV,OW,Xp,Xq,Xr,Xs,sl⟩:=S.aI);(have ⟨r0,r1,r2,r3,z0,z1,z2,z3,rl⟩:=R.aI))
    exact Ry
   | some sx=>
   have hnx:=KO hnx2;have e5:(some sx:M.Sp).isSome=true:=rfl;rw [e5] at PA
   obtain ⟨x1,hx1⟩:∃ x,x=M.Kc (some sx):=⟨_,rfl⟩
   obtain ⟨x2,hx2⟩:∃ x,x=M.Kf (some sx):=⟨_,rfl⟩
   obtain ⟨x3,hx3⟩:∃ x,x=M.Kg (some sx):=⟨_,rfl⟩
   obtain ⟨x4,hx4⟩:∃ x,x=M.Kh (some sx):=⟨_,rfl⟩
   rw [←hx1,←hx2,←hx3,←hx4] at PA;replace hx1:=KO hx1;replace hx2:=KO hx2;replace hx3:=KO hx3;replace hx4:=KO hx4;replace PA:=KO PA
   go_wp2_with first | ((with_reducible refine (PN.out _ hmw.out).mono ?_);rintro e w4 ⟨vo,rfl,QM,hb4⟩;replace ⟨B,X,S,R⟩:=Kl hb4 B X S R) | (with_reducible refine Km (PD.out _ _ _ QM) fun w6 hb6=>?_;replace B:=(p_ B hb6).alloc (Nat.le_trans B.size hb6.size) (.cells #[d1,d2,d3,d4] 34);replace X:=(X.keep hb6).alloc (.cells #[d1,d2,d3,d4] 34);replace S:=(S.keep hb6).alloc (.cells #[d1,d2,d3,d4] 34);replace R:=(R.keep hb6).alloc (.cells #[d1,d2,d3,d4] 34);have Y:=aG.new w6 #[d1,d2,d3,d4] 34;(have ⟨XW,XX,XY,XZ,_,_,_,_,_⟩:=Y.aI);(have ⟨XS,XT,XU,XV,_,_,_,_,_⟩:=X.aI);(have ⟨r0,r1,r2,r3,z0,z1,z2,z3,rl⟩:=R.aI)) | (with_reducible refine G_ PX fun w7 KY=>?_;replace B:=(p_ B KY).alloc (Nat.le_trans B.size KY.size) (.cells #[p1,p2,p3,p4] 34);replace S:=(S.keep KY).alloc (.cells #[p1,p2,p3,p4] 34);replace R:=(R.keep KY).alloc (.cells #[p1,p2,p3,p4] 34);have Z:=aG.new w7 #[p1,p2,p3,p4] 34;(have ⟨SW,SX,SY,SZ,_,_,_,_,_⟩:=Z.aI);(have ⟨OT,OU,OV,OW,_,_,_,_,_⟩:=S.aI);(have ⟨r0,r1,r2,r3,z0,z1,z2,z3,rl⟩:=R.aI)) | (with_reducible refine G_ PA fun w8 Ko=>?_;have XI:=KO (S.keep Ko).lt;have Tu:=KO (R.keep Ko).lt;replace B:=(p_ B Ko).alloc (Nat.le_trans B.size Ko.size) (.cells #[x1,x2,x3,x4] 34);replace S:=(S.keep Ko).alloc (.cells #[x1,x2,x3,x4] 34);replace R:=(R.keep Ko).alloc (.cells #[x1,x2,x3,x4] 34);replace Z:=(Z.keep Ko).alloc (.cells #[x1,x2,x3,x4] 34);have N:=aG.new w8 #[x1,x2,x3,x4] 34;(have ⟨XO,XP,XQ,XR,Xe,Xf,Xg,Xh,nl⟩:=N.aI);(have ⟨SW,SX,SY,SZ,_,_,_,_,_⟩:=Z.aI);(have ⟨OT,OU,OV,OW,Xp,Xq,Xr,Xs,sl⟩:=S.aI);(have ⟨r0,r1,r2,r3,z0,z1,z2,z3,rl⟩:=R.aI))
   exact Yg
  rw [hp] at ht;rw [if_neg ω] at hnx2;generalize M.Kc ad=v1 at *;generalize M.Kf ad=v2 at *;generalize M.Kg ad=v3 at *;generalize M.Kh ad=v4 at *;generalize ad.isSome=fv at *;replace PA:=KO PA
  cases su with
  | none=>
   have hfin:dZ (n+1+1) m=none:=hno.out hnx2;have hfin:=KO hfin;have e9:=KO mT;rw [e9.out.1,e9.out.2.1,e9.out.2.2.1,e9.out.2.2.2.1,e9.out.2.2.2.2] at PS;replace PS:=KO PS
   go_wp2_with first | ((with_reducible refine (PN.out _ hmw.out).mono ?_);rintro e w4 ⟨vo,rfl,QM,hb4⟩;replace ⟨B,X,S,R⟩:=Kl hb4 B X S R) | (with_reducible refine Km (PD.out _ _ _ QM) fun w6 hb6=>?_;replace B:=(p_ B hb6).alloc (Nat.le_trans B.size hb6.size) (.cells #[d1,d2,d3,d4] 34);replace X:=(X.keep hb6).alloc (.cells #[d1,d2,d3,d4] 34);replace S:=(S.keep hb6).alloc (.cells #[d1,d2,d3,d4] 34);replace R:=(R.keep hb6).alloc (.cells #[d1,d2,d3,d4] 34);have Y:=aG.new w6 #[d1,d2,d3,d4] 34;(have ⟨XW,XX,XY,XZ,_,_,_,_,_⟩:=Y.aI);(have ⟨XS,XT,XU,XV,_,_,_,_,_⟩:=X.aI);(have ⟨r0,r1,r2,r3,z0,z1,z2,z3,rl⟩:=R.aI)) | (with_reducible refine G_ PX fun w7 KY=>?_;replace B:=(p_ B KY).alloc (Nat.le_trans B.size KY.size) (.cells #[p1,p2,p3,p4] 34);replace S:=(S.keep KY).alloc (.cells #[p1,p2,p3,p4] 34);replace R:=(R.keep KY).alloc (.cells #[p1,p2,p3,p4] 34);have Z:=aG.new w7 #[p1,p2,p3,p4] 34;(have ⟨SW,SX,SY,SZ,_,_,_,_,_⟩:=Z.aI);(have ⟨OT,OU,OV,OW,_,_,_,_,_⟩:=S.aI);(have ⟨r0,r1,r2,r3,z0,z1,z2,z3,rl⟩:=R.aI)) | (with_reducible refine G_ PA fun w8 Ko=>?_;have XI:=KO (S.keep Ko).lt;have Tu:=KO (R.keep Ko).lt;replace B:=(p_ B Ko).alloc (Nat.le_trans B.size Ko.size) (.cells #[v1,v2,v3,v4] 34);replace S:=(S.keep Ko).alloc (.cells #[v1,v2,v3,v4] 34);replace R:=(R.keep Ko).alloc (.cells #[v1,v2,v3,v4] 34);replace Z:=(Z.keep Ko).alloc (.cells #[v1,v2,v3,v4] 34);have N:=aG.new w8 #[v1,v2,v3,v4] 34;(have ⟨XO,XP,XQ,XR,Xe,Xf,Xg,Xh,nl⟩:=N.aI);(have ⟨SW,SX,SY,SZ,_,_,_,_,_⟩:=Z.aI);(have ⟨OT,OU,OV,OW,Xp,Xq,Xr,Xs,sl⟩:=S.aI);(have ⟨r0,r1,r2,r3,z0,z1,z2,z3,rl⟩:=R.aI)) | (with_reducible refine G_ PS fun w9 Kr=>?_;(have n1_:sb≠w8.heap.size:=by have:=XI.out;omega);(have SV:w.heap.size<=w8.heap.size:=by have:=Tu.out;omega);(have ND:w.heap.size≠w8.heap.size:=by have:=Tu.out;omega);replace B:=KR (KR (KR (KR (p_ B Kr) (p:=⟨w8,0,none⟩) Nn (.int .i64 0)) (p:=⟨w8,1,none⟩) Nn (.int .i64 0)) (p:=⟨w8,2,none⟩) Nn (.int .i64 0)) (p:=⟨w8,3,none⟩) Nn (.int .i64 0);replace S:=(S.keep Kr).kJ n1_ (.int .i64 0) (.int .i64 0) (.int .i64 0) (.int .i64 0);replace R:=(R.keep Kr).kJ ND (.int .i64 0) (.int .i64 0) (.int .i64 0) (.int .i64 0);replace N:=(N.keep Kr);(have ⟨XO,XP,XQ,XR,Xe,Xf,Xg,Xh,nl⟩:=N.aI);replace N:=N.oK (.int .i64 0) (.int .i64 0) (.int .i64 0) (.int .i64 0);(have ⟨km0,km1,km2,km3,_,_,_,_,_⟩:=N.aI);(have ⟨OT,OU,OV,OW,Xp,Xq,Xr,Xs,sl⟩:=S.aI);(have ⟨r0,r1,r2,r3,z0,z1,z2,z3,rl⟩:=R.aI))
   exact Ry
  | some sx=>
  have hnx:=KO hnx2;have e5:(some sx:M.Sp).isSome=true:=rfl;rw [e5] at PS
  obtain ⟨x1,hx1⟩:∃ x,x=M.Kc (some sx):=⟨_,rfl⟩
  obtain ⟨x2,hx2⟩:∃ x,x=M.Kf (some sx):=⟨_,rfl⟩
  obtain ⟨x3,hx3⟩:∃ x,x=M.Kg (some sx):=⟨_,rfl⟩
  obtain ⟨x4,hx4⟩:∃ x,x=M.Kh (some sx):=⟨_,rfl⟩
  rw [←hx1,←hx2,←hx3,←hx4] at PS;replace hx1:=KO hx1;replace hx2:=KO hx2;replace hx3:=KO hx3;replace hx4:=KO hx4;replace PS:=KO PS
  go_wp2_with first | ((with_reducible refine (PN.out _ hmw.out).mono ?_);rintro e w4 ⟨vo,rfl,QM,hb4⟩;replace ⟨B,X,S,R⟩:=Kl hb4 B X S R) | (with_reducible refine Km (PD.out _ _ _ QM) fun w6 hb6=>?_;replace B:=(p_ B hb6).alloc (Nat.le_trans B.size hb6.size) (.cells #[d1,d2,d3,d4] 34);replace X:=(X.keep hb6).alloc (.cells #[d1,d2,d3,d4] 34);replace S:=(S.keep hb6).alloc (.cells #[d1,d2,d3,d4] 34);replace R:=(R.keep hb6).alloc (.cells #[d1,d2,d3,d4] 34);have Y:=aG.new w6 #[d1,d2,d3,d4] 34;(have ⟨XW,XX,XY,XZ,_,_,_,_,_⟩:=Y.aI);(have ⟨XS,XT,XU,XV,_,_,_,_,_⟩:=X.aI);(have ⟨r0,r1,r2,r3,z0,z1,z2,z3,rl⟩:=R.aI)) | (with_reducible refine G_ PX fun w7 KY=>?_;replace B:=(p_ B KY).alloc (Nat.le_trans B.size KY.size) (.cells #[p1,p2,p3,p4] 34);replace S:=(S.keep KY).alloc (.cells #[p1,p2,p3,p4] 34);replace R:=(R.keep KY).alloc (.cells #[p1,p2,p3,p4] 34);have Z:=aG.new w7 #[p1,p2,p3,p4] 34;(have ⟨SW,SX,SY,SZ,_,_,_,_,_⟩:=Z.aI);(have ⟨OT,OU,OV,OW,_,_,_,_,_⟩:=S.aI);(have ⟨r0,r1,r2,r3,z0,z1,z2,z3,rl⟩:=R.aI)) | (with_reducible refine G_ PA fun w8 Ko=>?_;have XI:=KO (S.keep Ko).lt;have Tu:=KO (R.keep Ko).lt;replace B:=(p_ B Ko).alloc (Nat.le_trans B.size Ko.size) (.cells #[v1,v2,v3,v4] 34);replace S:=(S.keep Ko).alloc (.cells #[v1,v2,v3,v4] 34);replace R:=(R.keep Ko).alloc (.cells #[v1,v2,v3,v4] 34);replace Z:=(Z.keep Ko).alloc (.cells #[v1,v2,v3,v4] 34);have N:=aG.new w8 #[v1,v2,v3,v4] 34;(have ⟨XO,XP,XQ,XR,Xe,Xf,Xg,Xh,nl⟩:=N.aI);(have ⟨SW,SX,SY,SZ,_,_,_,_,_⟩:=Z.aI);(have ⟨OT,OU,OV,OW,Xp,Xq,Xr,Xs,sl⟩:=S.aI);(have ⟨r0,r1,r2,r3,z0,z1,z2,z3,rl⟩:=R.aI)) | (with_reducible refine G_ PS fun w9 Kr=>?_;(have n1_:sb≠w8.heap.size:=by have:=XI.out;omega);(have SV:w.heap.size<=w8.heap.size:=by have:=Tu.out;omega);(have ND:w.heap.size≠w8.heap.size:=by have:=Tu.out;omega);replace B:=KR (KR (KR (KR (p_ B Kr) (p:=⟨w8,0,none⟩) Nn (.int .i64 x1)) (p:=⟨w8,1,none⟩) Nn (.int .i64 x2)) (p:=⟨w8,2,none⟩) Nn (.int .i64 x3)) (p:=⟨w8,3,none⟩) Nn (.int .i64 x4);replace S:=(S.keep Kr).kJ n1_ (.int .i64 x1) (.int .i64 x2) (.int .i64 x3) (.int .i64 x4);replace R:=(R.keep Kr).kJ ND (.int .i64 x1) (.int .i64 x2) (.int .i64 x3) (.int .i64 x4);replace N:=(N.keep Kr);(have ⟨XO,XP,XQ,XR,Xe,Xf,Xg,Xh,nl⟩:=N.aI);replace N:=N.oK (.int .i64 x1) (.int .i64 x2) (.int .i64 x3) (.int .i64 x4);(have ⟨km0,km1,km2,km3,_,_,_,_,_⟩:=N.aI);(have ⟨OT,OU,OV,OW,Xp,Xq,Xr,Xs,sl⟩:=S.aI);(have ⟨r0,r1,r2,r3,z0,z1,z2,z3,rl⟩:=R.aI))
  exact Yg
 obtain rfl:c=n+2:=ω
 have hd:dZ (n+1+1) m=some s:=by rw [←hs.out];exact hsome.out
 have hd:=KO hd
 obtain ⟨x1,hx1⟩:∃ x,x=M.Kc (some s):=⟨_,rfl⟩
 obtain ⟨x2,hx2⟩:∃ x,x=M.Kf (some s):=⟨_,rfl⟩
 obtain ⟨x3,hx3⟩:∃ x,x=M.Kg (some s):=⟨_,rfl⟩
 obtain ⟨x4,hx4⟩:∃ x,x=M.Kh (some s):=⟨_,rfl⟩
 rw [←hx1,←hx2,←hx3,←hx4] at S;replace hx1:=KO hx1;replace hx2:=KO hx2;replace hx3:=KO hx3;replace hx4:=KO hx4;have ⟨OT,OU,OV,OW,_,_,_,_,_⟩:=S.aI;have ⟨r0,r1,r2,r3,z0,z1,z2,z3,rl⟩:=R.aI;go_wp2;exact KU (v:=.tuple #[.agg #[x1,x2,x3,x4],true]) results74 ⟨by rw [hd.out,hx1.out,hx2.out,hx3.out,hx4.out];rfl,KR (KR (KR (KR B (KT _) _) (KT _) _) (KT _) _) (KT _) _⟩
namespace M
theorem GF {a b:Int} {l:List Pt} {i j:Nat}:LR (ent a b l i j):=by
 have hp:∀ X1 Y1 E1 X2 Y2 E2,LR (ep a b X1 Y1 E1 X2 Y2 E2):=fun X1 Y1 E1 X2 Y2 E2=>by
  unfold ep
  split
  ·exact pR
  exact eN
 unfold ent
 split
 ·split
  ·exact tv
  split <;> exact hp _ _ _ _ _ _
 exact eN
theorem mj {s:Sp} (h:s.isSome=true):some (spc s)=s:=by
 cases s with
 | none=>cases h
 | some p=>rfl
theorem pH {a b:Int} {l:List Pt} (h:Ld a b l=true) {i j:Nat} (hi:i<l.length) (hj:j<l.length):(ent a b l i j).isSome=true:=by
 unfold Ld at h;simp only [List.all_eq_true,List.mem_range] at h;exact h i hi j hj
theorem kK {a b:Int} {l:List Pt} (h:Ld a b l=true):cf a b l=(List.range l.length).map (fun i=>(List.range l.length).map fun j=>spc (ent a b l i j)):=by
 unfold cf;rw [h];rfl
theorem fh {a b:Int} {l:List Pt} (h:Ld a b l=true):square l.length (cf a b l):=by
 rw [kK h];refine ⟨by rw [List.length_map,List.length_range],fun r hr=>?_⟩;obtain ⟨i,hi,rfl⟩:=List.mem_map.1 hr;rw [List.length_map,List.length_range]
theorem gq {a b:Int} {l:List Pt} (h:Ld a b l=true):UJ (cf a b l):=by
 rw [kK h];intro r hr q hq;obtain ⟨i,hi,rfl⟩:=List.mem_map.1 hr;obtain ⟨j,hj,rfl⟩:=List.mem_map.1 hq;have:=pH h (List.mem_range.1 hi) (List.mem_range.1 hj);exact GF (a:=a) (b:=b) (l:=l) (i:=i) (j:=j) _ (mj this).symm
theorem qg {a b:Int} {l:List Pt} (h:Ld a b l=true):mY a b l=MS (cf a b l):=by
 rw [sQ h,kK h];unfold MS mX;rw [List.map_map]
 refine List.map_congr_left fun i hi=>?_
 simp only [Function.comp,List.map_map]
 refine List.map_congr_left fun j hj=>?_
 simp only [Function.comp];rw [mj (pH h (List.mem_range.1 hi) (List.mem_range.1 hj))]
noncomputable def fi (a b:Int) (l:List Pt):Sp:=if Ld a b l=true then dZ l.length (cf a b l) else none
theorem mc {a b:Int} {l:List Pt} (h:Ld a b l=false):fi a b l=none:=by unfold fi;rw [h];rfl
theorem me {a b:Int} {l:List Pt} (h:Ld a b l=true):fi a b l=dZ l.length (cf a b l):=by unfold fi;rw [h];rfl
theorem Ae (n:Nat) (m:LD):jU true n m=dZ n m:=by
 unfold jU
 split
 ·rename_i h;rw [h]
 rfl
end M
theorem kP (a b:Int) (v:Value) (l:List Pt) (w:World) (hx:dC w v l) (hg:M.good a b=true) (h1:1<=l.length) (hn:l.length<=4) (hp:∀ p ∈ l,aV a b p.1 p.2.1 p.2.2=true) :
  cB 33 #[.agg #[a,b],v] w (.tuple #[.agg #[M.Kd (fi a b l),M.Kj (fi a b l)],.bool (fi a b l).isSome]):=by
 obtain ⟨n,hl⟩:∃ n,l.length=n+1:=⟨l.length - 1,ω⟩
 have PM:=fun W h=>fy a b v l W h hg hn hp
 have PD:=fun (h:M.Ld a b l=true) v g base W hm K=>Je n (cf a b l) v g base true W ω (by rw [←hl];exact fh h) (gq h) hm K
 have RX:=fun h=>me (a:=a) (b:=b) (l:=l) h
 have hrn:=fun h=>mc (a:=a) (b:=b) (l:=l) h
 rw [hl] at RX;generalize cf a b l=rows,fi a b l=rs at *;replace hx:=KO hx;obtain ⟨wc,hw3,C,R,B⟩:=dQ w #[a,b] 24 #[(0:Int),(0:Int)] 72;have hxc:=KO (hx.out.below B)
 have hzz:w.heap.size+2<=wc.heap.size:=by have:=R.lt;omega
 have f_:=C.box.c0;have j_:=C.box.c1
 cases hm:M.Ld a b l with
 | false=>
  rw [hm] at PM;have hfin:=KO (hrn hm);replace PM:=KO PM;clear PD RX hrn hm;go_enter func33,ntmps33
  go_wp2_with ((with_reducible refine (PM.out _ hxc.out).mono ?_);rintro e w4 ⟨mv,rfl,hM,hb4⟩;replace ⟨B,R⟩:=Kt hb4 B R;(have ⟨r0,r1,z0,z1,rl⟩:=R.box))
  exact KU (v:=.tuple #[.agg #[(0:Int),(0:Int)],false]) results33 ⟨by rw [hfin.out];rfl,KR (KR B σ _) σ _⟩
 | true=>
 rw [hm] at PM;replace PD:=PD hm;simp only [Ae,Bool.true_and] at PD;rw [←RX hm] at PD;replace PM:=KO PM;replace PD:=KO PD;generalize M.Kj rs=hi,M.Kd rs=lo,rs.isSome=f at *;clear RX hrn hm;go_enter func33,ntmps33
 go_wp2_with first | ((with_reducible refine (PM.out _ hxc.out).mono ?_);rintro e w4 ⟨mv,rfl,hM,hb4⟩;have MG:=hb4.size;have Ba:=(KS w4 w4).alloc (KT _) (.cells #[true] 83);have K:=aG.new w4 #[true] 83;replace hM:=KO (hM.below Ba);replace R:=(R.keep hb4).keep Ba;replace B:=(p_ B hb4).trans (Ba.mono (Nat.le_trans B.size hb4.size));(have nR:w.heap.size+1≠w4.heap.size:=by omega);have hsz:=B.size;(have nB:w.heap.size<=w4.heap.size:=by omega);clear Ba f_ j_ C hxc) | ((with_reducible refine (PD.out _ _ _ _ hM.out K).mono ?_);rintro e w6 ⟨rfl,hb6⟩;have KY:=bI hb6;replace R:=(R.other (i:=0) nR (.bool f)).keep KY;replace K:=(K.one (.bool f)).keep KY;replace B:=(KR B nB (.bool f)).trans (hb6.mono hsz);have Ba:=(KS w6 w6).alloc (KT _) (.cells #[lo,hi] 72);have V:=aG.new w6 #[lo,hi] 72;replace ⟨B,R,K⟩:=Ky Ba B R K;have k0:=K.cell 0;(have ⟨v0,v1,_,_,_⟩:=V.box);(have ⟨r0,r1,z0,z1,rl⟩:=R.box);clear hb6 KY Ba)
 go_region
 all_goals
  go_wp2;exact KU results33 ⟨rfl,Below.drew (KR (KR B σ _) σ _)⟩
theorem iG (a b:Int) (v:Value) (l:List Pt) (w:World) (hx:dC w v l) (hg:M.good a b=true) (h1:1<=l.length) (hn:l.length<=4) (hp:∀ p ∈ l,aV a b p.1 p.2.1 p.2.2=true) :
  cB 34 #[.agg #[a,b],v] w (.tuple #[.agg #[M.Kc (fi a b l),M.Kf (fi a b l),M.Kg (fi a b l),M.Kh (fi a b l)],.bool (fi a b l).isSome]):=by
 obtain ⟨n,hl⟩:∃ n,l.length=n+1:=⟨l.length - 1,ω⟩
 have PM:=fun W h=>jC a b v l W h hg hn hp
 have PD:=fun (h:M.Ld a b l=true) v base W hm=>Fo n (cf a b l) v base W ω (by rw [←hl];exact fh h) (gq h) hm
 have RX:=fun h=>me (a:=a) (b:=b) (l:=l) h
 have hrn:=fun h=>mc (a:=a) (b:=b) (l:=l) h
 have hiv:=fun h=>qg (a:=a) (b:=b) (l:=l) h
 rw [hl] at RX;generalize cf a b l=rows,fi a b l=rs at *;replace hx:=KO hx;obtain ⟨wc,hw3,C,R,B⟩:=dQ w #[a,b] 24 #[(0:Int),(0:Int),(0:Int),(0:Int)] 34;have hxc:=KO (hx.out.below B);have f_:=C.box.c0;have j_:=C.box.c1
 cases hm:M.Ld a b l with
 | false=>
  rw [hm] at PM;have hfin:=KO (hrn hm);replace PM:=KO PM;clear PD RX hrn hm;go_enter func34,ntmps34
  go_wp2_with ((with_reducible refine (PM.out _ hxc.out).mono ?_);rintro e w4 ⟨mv,rfl,hM,hb4⟩;replace ⟨B,R⟩:=Kt hb4 B R;(have ⟨r0,r1,r2,r3,z0,z1,z2,z3,rl⟩:=R.aI))
  exact KU (v:=.tuple #[.agg #[(0:Int),(0:Int),(0:Int),(0:Int)],false]) results34 ⟨by rw [hfin.out];rfl,KR (KR (KR (KR B σ _) σ _) σ _) σ _⟩
 | true=>
 rw [hm] at PM;replace PD:=PD hm;rw [←RX hm] at PD;rw [hiv hm] at PM;replace PM:=KO PM;replace PD:=KO PD;generalize M.Kh rs=i4,M.Kg rs=i3,M.Kf rs=i2,M.Kc rs=i1,rs.isSome=f at *;clear RX hrn hm hiv;go_enter func34,ntmps34
 go_wp2_with first | ((with_reducible refine (PM.out _ hxc.out).mono ?_);rintro e w4 ⟨mv,rfl,hM,hb4⟩;replace hM:=KO hM;replace ⟨B,R⟩:=Kt hb4 B R) | ((with_reducible refine (PD.out _ _ _ hM.out).mono ?_);rintro e w6 ⟨rfl,hb6⟩;replace ⟨B,R⟩:=Kt hb6 B R;(have ⟨r0,r1,r2,r3,z0,z1,z2,z3,rl⟩:=R.aI))
 exact KU results34 ⟨rfl,KR (KR (KR (KR B σ _) σ _) σ _) σ _⟩
end
section
open Gr M Rg Rw Wh
namespace M
open r_
def PL (l:List Pt) (i:Nat):r_:=match l[i]? with
 | some p=>da p.1 p.2.1 p.2.2
 | none=>.O
theorem iT {a b:Int} {l:List Pt} (h:ai a b l=true):good a b=true/\1<=l.length/\l.length<=4/\∀ p ∈ l,aV a b p.1 p.2.1 p.2.2=true:=by
 unfold ai at h;rw [Bool.and_eq_true,Bool.and_eq_true,List.all_eq_true] at h;obtain ⟨h1,h2⟩:=iB.1 h.1.2;exact ⟨h.1.1,ω,ω,h.2⟩
theorem yR {l:List Pt} {i:Nat} {p:Pt} (h:l[i]?=some p):PL l i=da p.1 p.2.1 p.2.2:=by
 unfold PL;rw [h]
theorem HC {a b:Int} {l:List Pt} (h:∀ p ∈ l,aV a b p.1 p.2.1 p.2.2=true) (i:Nat):On a b (PL l i):=by
 unfold PL
 cases e:l[i]? with
 | none=>trivial
 | some p=>exact gH (h p (List.mem_of_getElem? e))
theorem yl {a b:Int} {l:List Pt} (hg:good a b=true) (h:∀ p ∈ l,aV a b p.1 p.2.1 p.2.2=true) {i j:Nat} {p:Int × Int} (e:ent a b l i j=some p):LO (fun n=>pr a (PL l j) (PL l i) n) p.1 p.2:=by
 unfold ent at e
 cases hi:l[i]? with
 | none=>rw [hi] at e;cases e
 | some P=>
 cases hj:l[j]? with
 | none=>rw [hi,hj] at e;cases e
 | some Q=>
 rw [hi,hj] at e
 dsimp only at e
 have hP:=h P (List.mem_of_getElem? hi);have hQ:=h Q (List.mem_of_getElem? hj);rw [yR hi,yR hj]
 split at e
 ·rename_i q
  subst q;rw [hi] at hj;obtain rfl:=Option.some.inj hj;exact Ea hg hP e
 split at e
 ·exact (vm hg hP hQ e).cl (Cl.of fun n=>zT (eJ hg) (gH hP) (gH hQ) n)
 exact vm hg hQ hP e
theorem I7 {a b:Int} {l:List Pt} {p:Int × Int} (h:ai a b l=true) (e:fi a b l=some p):∃ k,l.length=k+1/\HK k (fun n=>Dt.LP (k+1) fun i q=>pr a (PL l q) (PL l i) n) p.1 p.2:=by
 obtain ⟨hg,h1,-,hall⟩:=iT h
 obtain ⟨k,hk⟩:∃ k,l.length=k+1:=⟨l.length - 1,ω⟩
 refine ⟨k,hk,?_⟩
 cases hm:Ld a b l with
 | false=>rw [mc hm] at e;cases e
 | true=>
 rw [me hm,hk] at e;obtain ⟨s1,s2⟩:=fh hm;rw [hk] at s1 s2;refine Cx k (cf a b l) (fun n i q=>pr a (PL l q) (PL l i) n) p s1 s2 ?_ e;intro i j r q hr hq;rw [kK hm,List.getElem?_map] at hr;obtain ⟨i',hi,rfl⟩:=Option.map_eq_some_iff.1 hr;have hi0:=(List.getElem?_eq_some_iff.1 hi).1;rw [List.length_range] at hi0;rw [List.getElem?_range hi0] at hi;obtain rfl:=Option.some.inj hi;rw [List.getElem?_map] at hq;obtain ⟨j',hj,rfl⟩:=Option.map_eq_some_iff.1 hq;have hj0:=(List.getElem?_eq_some_iff.1 hj).1;rw [List.length_range] at hj0;rw [List.getElem?_range hj0] at hj;obtain rfl:=Option.some.inj hj;exact yl hg hall (mj (pH hm hi0 hj0)).symm
theorem GY {a b:Int} {l:List Pt} {p:Int × Int} (h:ai a b l=true) (e:fi a b l=some p) {P:Pt} (hP:P ∈ l) (ht:(mZ a P.1 P.2.1 P.2.2).isSome=true):p.1<=0:=by
 obtain ⟨k,hk,H⟩:=I7 h e;obtain ⟨hg,-,-,hall⟩:=iT h;obtain ⟨m,m1,-,hm⟩:=zK hg (hall P hP) ht;obtain ⟨j,hj⟩:=List.getElem?_of_mem hP;have hj0:=(List.getElem?_eq_some_iff.1 hj).1;rw [hk] at hj0;refine Ey (m:=m) (j:=j) (eJ hg) (HC hall) hj0 ω ?_ H;rw [yR hj];exact hm
end M
end
section
open Go.RowKit open Gr M Rg Rw Wh
theorem YK {p:Prop} (h:p:=by
 have hkb:((k:Int) == 0)=false:=by simpa using (show ¬ (k:Int)=0 by omega)
 have hg:=hl2 ω
 obtain ⟨g,rfl,hpa⟩:∃ g,A9=some ⟨g,0,none⟩/\gy w9 g l:=by
  rcases hA with h | h
  ·rw [h] at hg;simp at hg
  exact h
 obtain ⟨d0,d1,d2⟩:=hpa _ _ hg
 obtain ⟨j,rfl⟩:∃ j,k=j+1:=⟨k - 1,ω⟩
 rw [show j+1 - 1=j from rfl] at d0 d1 d2
 have hje:((j+1:Nat):Int) - 1=(j:Int):=ω
 have hjl:(j:Int)<((j+1:Nat):Int):=ω
 have hjl2:j<j+1:=ω
 dsimp only at d0 d1 d2
 clear hl2 hA hown hl1 hg hpa;go_wp2;exact KU results80 ⟨rfl,MN B⟩):p:=h
theorem YS {p:Prop} (h:p:=by
 replace PT:=KO PT;replace PN:=KO PN;rw [if_neg δ];go_enter func59,ntmps59
 go_wp2_with (first | (with_reducible refine G_ PT fun w4 hb4=>?_;replace ⟨B,C,Q,R⟩:=Kl hb4 B C Q R;have f_:=C.box.c0;have j_:=C.box.c1;(have ⟨q0,q1,q2,y0,y1,y2⟩:=Q.bQ);(have ⟨r0,r1,r2,z0,z1,z2⟩:=R.bQ)) | (with_reducible refine Kw (PN.out _) ?_))
 exact KU results59 ⟨rfl,MN B⟩):p:=h
theorem YT {p:Prop} (h:p:=by
 replace PT:=KO PT;replace PN:=KO PN;rw [if_neg δ];go_enter func80,ntmps80
 go_wp2_with (first | (with_reducible refine G_ PT fun w4 hb4=>?_;replace ⟨B,C,Q,R⟩:=Kl hb4 B C Q R;have f_:=C.box.c0;have j_:=C.box.c1;(have ⟨q0,q1,q2,y0,y1,y2⟩:=Q.bQ);(have ⟨r0,r1,r2,z0,z1,z2⟩:=R.bQ)) | (with_reducible refine Kw (PN.out _) ?_))
 exact KU results80 ⟨rfl,MN B⟩):p:=h
theorem Ya {p:Prop} (h:p:=by
 go_upto_region 6 with (go_at_call 127;(refine (PM.out _).mono ?_);rintro e w9 ⟨v9,rfl,hM,Kr⟩;replace ⟨B,R⟩:=Kt Kr B R;(have ⟨r0,r1,r2,z0,z1,z2⟩:=R.bQ))
 obtain ⟨l,hown,-⟩:=hM;obtain ⟨A9,c9,rfl,-,-,-⟩:=hown.seen;go_wp2;exact KU results80 ⟨rfl,MN B⟩):p:=h
namespace M
noncomputable def MW (a b X Y E n:Int):Option LM:=if (gw a b X Y E && ins n (-12) 12)=true then jZ a X Y E n else none
end M
theorem Rw.Own.uH {α:Type} {E:Rw.Enc α} {w:World} {base k i:Nat} {v:Value} {xs:List α} (h:Rw.Own E w base v xs) (hk:k<base) (x:Value):Rw.Own E (w.setCell ⟨k,i,none⟩ x) base v xs:=
 h.kept (Gr.set (World.grownBy.refl _ _) _ _) (fun g hg e=>by
  injection hg with hg
  have:=(h.lt _ e).1
  omega)
def H0 (k:Nat) (r:Option M.LM) (v:Value) (base:Nat) (W:World):Prop:=∃ l,Rw.Own N7 W base v l/\(r.isSome=true->l.length=k/\(1<=k->l[k - 1]?=r))
theorem vZ (a b X Y E:Int) (k:Nat) (w:World) (hg:M.good a b=true) (hp:aV a b X Y E=true) (hk:k<=12) :
  Calls prog 127 #[.agg #[a,b],.agg #[X,Y,E],.int .i64 (k:Int)] w fun e w'=>∃ v',e=.returned (.tuple #[v',.bool (M.Lq a X Y E k).isSome])/\H0 k (M.Lq a X Y E k) v' w w'/\Below w w w':=by
 have PA:=fun (p:M.LM) (h:aV a b p.1 p.2.1 p.2.2=true) W=>iA a b p.1 p.2.1 p.2.2 X Y E W hg h hp
 have HT:=jM hg hp
 obtain ⟨res,hres⟩:∃ r,M.Lq a X Y E k=r:=⟨_,rfl⟩
 rw [hres];replace hres:=KO hres;replace PA:=KO PA;replace HT:=KO HT
 have hnext:=KO fun (n:Nat) (p:M.LM) (h:M.Lq a X Y E n=some p)=>iZ h
 have hnone:=KO fun (n:Nat) (h:M.Lq a X Y E n=none) (hn:n<=k)=>kU h k hn
 clear hg hp;obtain ⟨wc,hw3,C,Q,B⟩:=dQ w #[a,b] 24 #[X,Y,E] 47;have O:=aG.new wc #[(0:Int),(0:Int),(0:Int)] 47;have UD:=B.size;have hQl:=Q.lt;replace B:=B.alloc UD (.cells #[(0:Int),(0:Int),(0:Int)] 47);replace C:=C.alloc (.cells #[(0:Int),(0:Int),(0:Int)] 47);replace Q:=Q.alloc (.cells #[(0:Int),(0:Int),(0:Int)] 47);have hol:=O.lt;go_enter func127,ntmps127
 go_wp2;generalize wc.heap.size=ko at *
 go_loopw [8,14] (fun vs vi wq=>∃ (j:Nat) (p:M.LM) (l:List M.LM),j<=k/\vi=.int .i64 j/\Hid (M.Lq a X Y E j=some p)/\Hid (l.length=j/\(1<=j->l[j - 1]?=some p))/\Hid (Rw.Own N7 wq (ko+1) vs l)/\Below w w wq/\aG wq ko 47 #[p.1,p.2.1,p.2.2]/\aG wq w 24 #[a,b]/\aG wq (w.heap.size+1) 47 #[X,Y,E]/\ko+1<=wq.heap.size) (fun _ vi _=>k - (intOf vi).toNat)
 case atStart=>exact ⟨0,(0,0,0),[],ω,rfl,KO rfl,KO ⟨rfl,fun h=>ω⟩,KO (Rw.Own.nil N7 _ _),B,O,C,Q,hol⟩
 case round=>
 clear B O C Q;obtain ⟨j,⟨px,py,pe⟩,l,hj,rfl,ht,hl,hown,B,O,C,Q,hko⟩:=hrel
 by_cases hlt:j<k
 ·have hnx:=hnext.out _ _ ht.out
  have hno:=hnone.out (j+1);replace PA:=PA.out _ (HT.out _ _ ht.out)
  dsimp only at hnx PA O
  generalize dI a px py pe X Y E=o3,eD a px py pe X Y E=E3,ft a px py pe X Y E=Y3,eI a px py pe X Y E=X3 at *;have ⟨c0,c1,_,_,_⟩:=C.box;have ⟨q0,q1,q2⟩:=Q.aM;have ⟨o0,o1,o2⟩:=O.aM;replace PA:=KO PA;clear hnext hnone
  have hie:(j:Int)<(k:Int):=ω
  cases o3 with
  | false=>
   have hnn:res=none:=hres.out.symm.trans (hno (hnx.trans (if_neg δ)) ω);subst hnn;clear hno hres hnx ht
   go_wp2_with (with_reducible refine G_ PA fun w4 hb4=>?_;have MG:=(p_ B hb4).size;replace B:=(p_ B hb4).alloc MG (.cells #[X3,Y3,E3] 47))
   go_ret2;exact ⟨.slice none 0 0,rfl,⟨[],Rw.Own.nil N7 _ _,fun h=>by cases h⟩,B⟩
  | true=>
  replace hnx:=KO (hnx.trans (if_pos rfl));clear hno ht;have hol:=O.lt;obtain ⟨Av,cv,rfl,-,-,-⟩:=hown.out.seen;have hll:=hl.out.1;rw [hll] at hown ⊢;replace hll:=KO hll;clear hl;have Ny:=B.size
  go_upto_region 9 with (with_reducible refine G_ PA fun w4 hb4=>?_;have MG:=hb4.size;have hz5:=(p_ B hb4).size;replace B:=(p_ B hb4).alloc hz5 (.cells #[X3,Y3,E3] 47);replace C:=(C.keep hb4).alloc (.cells #[X3,Y3,E3] 47);replace Q:=(Q.keep hb4).alloc (.cells #[X3,Y3,E3] 47);replace O:=(O.keep hb4).alloc (.cells #[X3,Y3,E3] 47);replace hown:=KO ((hown.out.below hb4).alloc (.cells #[X3,Y3,E3] 47));have V:=aG.new w4 #[X3,Y3,E3] 47;(have ⟨v0,v1,v2⟩:=V.aM);(have ⟨o0,o1,o2,z0,z1,z2⟩:=O.bQ))
  have hw4:ko+1<=(w4.alloc (.cells #[X3,Y3,E3] 47)).heap.size:=by rw [KQ];omega
  replace B:Below w w _:=KR (KR (KR B (p:=⟨ko,0,none⟩) (by dsimp only;omega) (.int .i64 X3)) (p:=⟨ko,1,none⟩) (by dsimp only;omega) (.int .i64 Y3)) (p:=⟨ko,2,none⟩) (by dsimp only;omega) (.int .i64 E3);replace C:=((C.other (k:=ko) (i:=0) ω (.int .i64 X3)).other (k:=ko) (i:=1) ω (.int .i64 Y3)).other (k:=ko) (i:=2) ω (.int .i64 E3);replace Q:=((Q.other (k:=ko) (i:=0) ω (.int .i64 X3)).other (k:=ko) (i:=1) ω (.int .i64 Y3)).other (k:=ko) (i:=2) ω (.int .i64 E3);replace O:=O.rC (.int .i64 X3) (.int .i64 Y3) (.int .i64 E3);replace hown:=KO (((hown.out.uH (k:=ko) ω (i:=0) (.int .i64 X3)).uH (k:=ko) ω (i:=1) (.int .i64 Y3)).uH (k:=ko) ω (i:=2) (.int .i64 E3));clear v0 v1 v2 o0 o1 o2 z0 z1 z2 V c0 c1 q0 q1 q2
  replace hw4:ko+1<=((((w4.alloc (.cells #[X3,Y3,E3] 47)).setCell ⟨ko,0,none⟩ (.int .i64 X3)).setCell ⟨ko,1,none⟩ (.int .i64 Y3)).setCell ⟨ko,2,none⟩ (.int .i64 E3)).heap.size:=by simpa [World.setCell] using hw4
  generalize (((w4.alloc (.cells #[X3,Y3,E3] 47)).setCell ⟨ko,0,none⟩ (.int .i64 X3)).setCell ⟨ko,1,none⟩ (.int .i64 Y3)).setCell ⟨ko,2,none⟩ (.int .i64 E3)=w8 at *;have ⟨o0,o1,o2⟩:=O.aM;have Nz:=B.size
  go_wp2_with (at_builtin;refine sZ tO (ko+1) [(X3,Y3,E3)] l _ ⟨_,0,none⟩ 1 1 (by rfl) (by rfl) (.tmp 26) (.tmp 28) (by rfl) (by rfl) (by rfl) (tS X3 Y3 E3 σ) (hown.out.alloc _) (by simp;omega) (by have:=hll.out;simp;omega) ?_;intro v6 w6 hown6 Mu RP)
  have Vc:=Mu.size;rw [KQ] at Vc
  go_roundw
  case rel=>
   refine ⟨j+1,(X3,Y3,E3),l ++ [(X3,Y3,E3)],ω,ν,hnx,KO ⟨by rw [List.length_append,hll.out];rfl,fun _=>by rw [show j+1 - 1=l.length from by have:=hll.out;omega];simp⟩,KO hown6,?_,(O.alloc _).sL Mu ?_,(C.alloc _).sL Mu ?_,(Q.alloc _).sL Mu ?_,ω⟩
   ·exact Below.grown (B.alloc Nz _) Mu (by rw [KQ];omega) fun k hk=>by have:=(hown.out.lt k hk).1;omega
   all_goals exact fun k hk=>by have:=(hown.out.lt k hk).1;omega
  case measure=>simp [intOf];omega
 obtain rfl:j=k:=ω
 obtain rfl:res=some (px,py,pe):=hres.out.symm.trans ht.out;obtain ⟨Av,cv,rfl,-,-,-⟩:=hown.out.seen;go_wp2;go_ret2;exact ⟨_,rfl,⟨l,hown.out.down ω,fun _=>hl.out⟩,B⟩
theorem lK (a b X Y E n:Int) (w:World) :
  cB 59 #[.agg #[a,b],.agg #[X,Y,E],n] w (.tuple #[.agg #[M.pX (M.MW a b X Y E n),M.pY (M.MW a b X Y E n),M.pE (M.MW a b X Y E n)],.bool (M.MW a b X Y E n).isSome]):=by
 have PT:∀ W,cB 52 #[.agg #[a,b],.agg #[X,Y,E]] W (gw a b X Y E):=fun W=>jb a b X Y E W
 have PN:∀ W,cP 70 #[n,(-12:Int),(12:Int)] W (M.ins n (-12) 12):=fun W=>eW n (-12) 12 W
 unfold M.MW;obtain ⟨wc,hw3,C,Q,R,B⟩:=dF w #[a,b] 24 #[X,Y,E] 47 #[(0:Int),(0:Int),(0:Int)] 47;have f_:=C.box.c0;have j_:=C.box.c1;have ⟨q0,q1,q2,y0,y1,y2⟩:=Q.bQ
 have zQ:w.heap.size+1≠w.heap.size+1+1:=ω
 cases h0:gw a b X Y E with
 | false=>
  simp only [h0,Bool.true_and,Bool.false_and,Bool.and_false] at PT PN ⊢;exact YS
 | true=>
 cases h1:M.ins n (-12) 12 with
 | false=>
  simp only [h0,h1,Bool.true_and,Bool.false_and,Bool.and_false] at PT PN ⊢;exact YS
 | true=>
 simp only [h0,h1,Bool.and_self] at PT PN ⊢;rw [if_pos trivial];obtain ⟨hg,hp⟩:=lc h0;obtain ⟨n1,n2⟩:=iB.1 h1;replace PT:=KO PT;replace PN:=KO PN;clear h0 h1
 have PP:=fun W=>ky a b X Y E n W hg hp ω ω
 generalize (jZ a X Y E n).isSome=ok,M.pE (jZ a X Y E n)=x3,M.pY (jZ a X Y E n)=x2,M.pX (jZ a X Y E n)=x1 at *;replace PP:=KO PP;clear hg hp;go_enter func59,ntmps59
 go_wp2_with (first | (with_reducible refine G_ PT fun w4 hb4=>?_;replace ⟨B,C,Q,R⟩:=Kl hb4 B C Q R;have f_:=C.box.c0;have j_:=C.box.c1;(have ⟨q0,q1,q2,y0,y1,y2⟩:=Q.bQ);(have ⟨r0,r1,r2,z0,z1,z2⟩:=R.bQ)) | (with_reducible refine Kw (PN.out _) ?_) | (with_reducible refine G_ PP fun w6 hb6=>?_;replace ⟨B,C,Q,R⟩:=Kl hb6 B C Q R;have f_:=C.box.c0;have j_:=C.box.c1;(have ⟨q0,q1,q2,y0,y1,y2⟩:=Q.bQ);(have ⟨r0,r1,r2,z0,z1,z2⟩:=R.bQ)))
 exact KU results59 ⟨rfl,MN B⟩
theorem lI (a b X Y E n:Int) (w:World) :
  cB 80 #[.agg #[a,b],.agg #[X,Y,E],n] w (.tuple #[.agg #[M.pX (M.MW a b X Y E n),M.pY (M.MW a b X Y E n),M.pE (M.MW a b X Y E n)],.bool (M.MW a b X Y E n).isSome]):=by
 have PT:∀ W,cB 50 #[.agg #[a,b],.agg #[X,Y,E]] W (gw a b X Y E):=fun W=>kh a b X Y E W
 have PN:∀ W,cP 62 #[n,(-12:Int),(12:Int)] W (M.ins n (-12) 12):=fun W=>dW n (-12) 12 W
 unfold M.MW;obtain ⟨wc,hw3,C,Q,R,B⟩:=dF w #[a,b] 24 #[X,Y,E] 47 #[(0:Int),(0:Int),(0:Int)] 47;have f_:=C.box.c0;have j_:=C.box.c1;have ⟨q0,q1,q2,y0,y1,y2⟩:=Q.bQ
 have zQ:w.heap.size+1≠w.heap.size+1+1:=ω
 cases h0:gw a b X Y E with
 | false=>
  simp only [h0,Bool.true_and,Bool.false_and,Bool.and_false] at PT PN ⊢;exact YT
 | true=>
 cases h1:M.ins n (-12) 12 with
 | false=>
  simp only [h0,h1,Bool.true_and,Bool.false_and,Bool.and_false] at PT PN ⊢;exact YT
 | true=>
 simp only [h0,h1,Bool.and_self] at PT PN ⊢;rw [if_pos trivial];obtain ⟨hg,hp⟩:=lc h0;obtain ⟨n1,n2⟩:=iB.1 h1;replace PT:=KO PT;replace PN:=KO PN;clear h0 h1;obtain ⟨-,-,-,-,Pl,Qj⟩:=df (ae hg) hp
 obtain ⟨k,hk⟩:∃ k:Nat,k=n.natAbs:=⟨_,rfl⟩
 obtain ⟨Z,hZ⟩:∃ Z,Z=M.Qc n Y:=⟨_,rfl⟩
 have hpz:aV a b X Z E=true:=by
  rw [hZ];unfold M.Qc
  split
  ·exact mb hp
  exact hp
 have hk12:k<=12:=ω
 have PM:=fun W=>vZ a b X Z E k W hg hpz hk12
 have hr:jZ a X Y E n=M.Lq a X Z E k:=by unfold jZ;rw [←hZ,←hk]
 rw [hr]
 have ht0:k=0->M.Lq a X Z E k=some (0,0,0):=fun h=>by rw [h];rfl
 generalize M.Lq a X Z E k=tk at *;replace PM:=KO PM;replace ht0:=KO ht0
 have PO:=fun W=>qr X Y E W ω ω
 clear hr hg hp hpz
 by_cases hneg:n<0
 ·have hkn:-n=(k:Int):=ω
  have hZy:-Y=Z:=by rw [hZ];unfold M.Qc;exact (if_pos hneg).symm
  rw [hZy] at PO
  have hk1:1<=k:=ω
  have hkz:((k:Int) == 0)=false:=by simpa using (show ¬ (k:Int)=0 by omega)
  replace PO:=KO PO;clear hZ hZy hk;go_enter func80,ntmps80
  go_upto_region 5 with (first | (with_reducible refine G_ PT fun w4 hb4=>?_;replace ⟨B,C,Q,R⟩:=Kl hb4 B C Q R;have f_:=C.box.c0;have j_:=C.box.c1;(have ⟨q0,q1,q2,y0,y1,y2⟩:=Q.bQ);(have ⟨r0,r1,r2,z0,z1,z2⟩:=R.bQ)) | (with_reducible refine Kw (PN.out _) ?_) | (with_reducible refine G_ PO fun w6 hb6=>?_;replace ⟨B,C,Q,R⟩:=Kl hb6 B C Q R;have f_:=C.box.c0;have j_:=C.box.c1;(have ⟨q0,q1,q2,y0,y1,y2⟩:=Q.bQ);(have ⟨r0,r1,r2,z0,z1,z2⟩:=R.bQ)))
  replace B:Below w w _:=KR (KR (KR B (p:=⟨w.heap.size+1,0,none⟩) (by dsimp only;omega) (.int .i64 X)) (p:=⟨w.heap.size+1,1,none⟩) (by dsimp only;omega) (.int .i64 Z)) (p:=⟨w.heap.size+1,2,none⟩) (by dsimp only;omega) (.int .i64 E);replace C:=((C.other (k:=w.heap.size+1) (i:=0) ω (.int .i64 X)).other (k:=w.heap.size+1) (i:=1) ω (.int .i64 Z)).other (k:=w.heap.size+1) (i:=2) ω (.int .i64 E);replace R:=((R.other (k:=w.heap.size+1) (i:=0) ω (.int .i64 X)).other (k:=w.heap.size+1) (i:=1) ω (.int .i64 Z)).other (k:=w.heap.size+1) (i:=2) ω (.int .i64 E);replace Q:=Q.rC (.int .i64 X) (.int .i64 Z) (.int .i64 E);clear f_ j_ q0 q1 q2 y0 y1 y2 r0 r1 r2 z0 z1 z2;generalize ((w6.setCell ⟨w.heap.size+1,0,none⟩ (.int .i64 X)).setCell ⟨w.heap.size+1,1,none⟩ (.int .i64 Z)).setCell ⟨w.heap.size+1,2,none⟩ (.int .i64 E)=w8 at *
  try rw [hkn]
  have f_:=C.box.c0;have j_:=C.box.c1;have ⟨q0,q1,q2⟩:=Q.aM
  cases tk with
  | none=>
   exact Ya
  | some p=>
  obtain ⟨px,py,pe⟩:=p
  go_upto_region 6 with (go_at_call 127;(refine (PM.out _).mono ?_);rintro e w9 ⟨v9,rfl,hM,Kr⟩;replace ⟨B,R⟩:=Kt Kr B R;(have ⟨r0,r1,r2,z0,z1,z2⟩:=R.bQ))
  obtain ⟨l,hown,hl⟩:=hM;obtain ⟨hl1,hl2⟩:=hl rfl;have hpv:=hown.seen.ptx;obtain ⟨A9,c9,rfl,hA⟩:=hpv;rw [hl1]
  by_cases hk0:k=0
  ·exact absurd hk0 ω
  exact YK
 have hkn:n=(k:Int):=ω
 have hZy:Z=Y:=by rw [hZ];unfold M.Qc;exact if_neg hneg
 subst hZy hkn;clear hZ hk PO;go_enter func80,ntmps80
 go_upto_region 5 with (first | (with_reducible refine G_ PT fun w4 hb4=>?_;replace ⟨B,C,Q,R⟩:=Kl hb4 B C Q R;have f_:=C.box.c0;have j_:=C.box.c1;(have ⟨q0,q1,q2,y0,y1,y2⟩:=Q.bQ);(have ⟨r0,r1,r2,z0,z1,z2⟩:=R.bQ)) | (with_reducible refine Kw (PN.out _) ?_))
 clear f_ j_ q0 q1 q2 y0 y1 y2 r0 r1 r2 z0 z1 z2;have f_:=C.box.c0;have j_:=C.box.c1;have ⟨q0,q1,q2⟩:=Q.aM
 cases tk with
 | none=>
  exact Ya
 | some p=>
 obtain ⟨px,py,pe⟩:=p
 go_upto_region 6 with (go_at_call 127;(refine (PM.out _).mono ?_);rintro e w9 ⟨v9,rfl,hM,Kr⟩;replace ⟨B,R⟩:=Kt Kr B R;(have ⟨r0,r1,r2,z0,z1,z2⟩:=R.bQ))
 obtain ⟨l,hown,hl⟩:=hM;obtain ⟨hl1,hl2⟩:=hl rfl;have hpv:=hown.seen.ptx;obtain ⟨A9,c9,rfl,hA⟩:=hpv;rw [hl1]
 by_cases hk0:k=0
 ·have hp0:=ht0.out hk0
  cases hp0
  have hkb:((k:Int) == 0)=true:=by simpa using (show (k:Int)=0 by omega)
  clear hl2 hA hown hl1;go_wp2;exact KU results80 ⟨rfl,MN B⟩
 exact YK
end
section
open Go.ChangeShapes Go.WideShapes Go.ChangeAt Go.RowKit Go.Joins Go.Deep open M
theorem own:ownKnob prog.godebug=none:=κ
theorem laidOut:laidOutB prog=true:=κ
section
variable {H:Type} {enc:TypeId × Value->H} {P:Program} {w:World} {base:Nat} {spare:Nat->Bool} {held:Bool}
theorem lQ (hl:laidOutB P=true):∀ (ts:List TypeId) (hts:∀ t ∈ ts,P.readableRec t=true/\t<P.types.size) {W W':World} {vs:List Value} {ds:List (DataW H)} {ps:List MemPlace}
  (_:DataW.TrodAll enc P W 0 (fun _=>true) true ts vs ds ps) (_:Below W W W') (_:∀ x ∈ ps,x.block<W.heap.size),DataW.TrodAll enc P W' 0 (fun b=>decide (b<W.heap.size)) true ts vs ds ps
 | [],_,_,_,_,_,_,h,_,_=>by
  obtain ⟨rfl,rfl,rfl⟩:=trodAll_nil h;exact trodAll_mk0
 | t :: ts,hts,_,_,_,_,_,h,hb,hlt=>by
  obtain ⟨v,vs',d,ds',p,q,rfl,rfl,rfl,h1,h2⟩:=trodAll_cons h;refine ⟨p,q,Below.trod hl (hts t List.mem_cons_self).1 (hts t List.mem_cons_self).2 h1 hb fun x hx=>hlt x (List.mem_append_left _ hx),?_,rfl⟩
  exact lQ hl ts (fun t' ht'=>hts t' (List.mem_cons_of_mem _ ht')) h2 hb fun x hx=>hlt x (List.mem_append_right _ hx)
theorem law_post {f:Func} {s:ChangeSpec} {W W':World} {args:Array Value} {ds:List (DataW H)} {before:List MemPlace} {tb:TypeId}
  (hl:laidOutB P=true) (hts:∀ t ∈ f.params.toList,P.readableRec t=true/\t<P.types.size)
  (hvars:s.vars=[]) (hf:s.fn H ds={ results:=[.lit (.bool true)],args:=ds }) (hrt:f.resultTypes=#[tb]) (Wu:P.underlying tb=some .bool)
  (hW:DataW.Whole enc P f.params.toList s.vars false W args.toList ds [] before) (hb:Below W W W') :
  s.post enc P f false true false false W args (.bool true) W':=by
 have hlt:∀ p ∈ before,p.block<W.heap.size:=fun p hp=>hW.lt p hp
 obtain ⟨p,q,hA,hV,hpq,hz,hn⟩:=id hW;rw [hvars] at hV;obtain ⟨_,rfl⟩:=trodVars_none hV
 have hbp:before=p:=by simpa using hpq
 subst hbp
 have e1:s.fn H (ds ++ [])={ results:=[.lit (.bool true)],args:=ds }:=by rw [List.append_nil];exact hf
 refine ⟨ds,[],before,[],before,[],hW,?_,?_,?_,World.keptBut_mono (fun x hx=>⟨hx,Or.inr (Or.inl hx)⟩) (hb.frame (· ∈ before)),fun h=>by cases h⟩
 ·rw [e1,hrt]
  exact trodAll_mk1 (shut_bool Wu true)
 ·rw [e1]
  exact lQ hl _ hts hA hb hlt
 rw [e1,hvars];exact rfl
end
end
section
open Go.RowKit Go.Shelf open Gr M Rg Rw Wh
def Lh:Rw.Enc (Int × Int × Int) where
 t:=47
 k:=3
 cells:=fun q=>[.int .i64 q.1,.int .i64 q.2.1,.int .i64 q.2.2]
 len:=fun _=>rfl
 one:=fun x u hu=>by simp only [List.mem_cons,List.not_mem_nil,or_false] at hu;rcases hu with rfl | rfl | rfl <;> rfl
 pos:=δ
theorem Ih:(prog.info? 47).map (fun i=>(i.zero,i.size,i.bytes))=some (some (.agg #[(0:Int),(0:Int),(0:Int)]),3,24):=κ
theorem qO:Rw.Fits prog Lh 25:=⟨Tryz.underlying25,by
 obtain ⟨i0,hi,hz0,hz1,hz2⟩:=info_parts Ih
 exact ⟨i0,_,hi,hz0,hz1,ω,rfl⟩⟩
theorem Rw.Seen.pts {w:World} {hi:Nat} {v:Value} {l:List Pt} (h:Rw.Seen Lh w hi v l):dC w v l:=jT.v <| by
 exact YO
def pj (w:World) (v:Value) (xs:List Pt):Prop:=
 ∃ (A:Option Addr) (cap:Nat),v=.slice A xs.length cap/\(xs.length:Int)<=9223372036854775807/\
  ∀ k,k<xs.length->∃ g o x,A=some ⟨g,o,none⟩/\g<w.heap.size/\Hid (xs[k]?=some x)/\w.cell? ⟨g,o+k*3,none⟩=some (.int .i64 x.1)/\w.cell? ⟨g,o+k*3+1,none⟩=some (.int .i64 x.2.1)/\w.cell? ⟨g,o+k*3+2,none⟩=some (.int .i64 x.2.2)
theorem pj.keep {w w':World} {v:Value} {xs:List Pt} (h:pj w v xs) (hb:Below w w w'):pj w' v xs:=by
 obtain ⟨A,cap,rfl,hm,hv⟩:=h;refine ⟨A,cap,rfl,hm,fun k hk=>?_⟩;obtain ⟨g,o,x,hA,hg,hx,h0,h1,h2⟩:=hv k hk;exact ⟨g,o,x,hA,Nat.lt_of_lt_of_le hg hb.size,hx,aE hb h0,aE hb h1,aE hb h2⟩
end
section
open Go.ChangeShapes Go.WideShapes Go.ChangeAt Go.RowKit Go.Joins Go.Deep open Gr M Rg Rw Wh
def cE (w:World) (v:Value) (xs:List Int):Prop:=
 ∃ (A:Option Addr) (cap:Nat),v=.slice A xs.length cap/\(xs.length:Int)<=9223372036854775807/\
  ∀ k,k<xs.length->∃ g o x,A=some ⟨g,o,none⟩/\g<w.heap.size/\Hid (xs[k]?=some x)/\w.cell? ⟨g,o+k,none⟩=some (.int .i64 x)
theorem cE.keep {w w':World} {v:Value} {xs:List Int} (h:cE w v xs) (hb:Below w w w'):cE w' v xs:=by
 obtain ⟨A,cap,rfl,hm,hv⟩:=h;refine ⟨A,cap,rfl,hm,fun k hk=>?_⟩;obtain ⟨g,o,x,hA,hg,hx,h0⟩:=hv k hk;exact ⟨g,o,x,hA,Nat.lt_of_lt_of_le hg hb.size,hx,aE hb h0⟩
end
section
open Go.RowKit open Gr M Rg Rw Wh
namespace M
def nz (n:List Int):Bool:=n.any fun x=>!(x == 0)
end M
theorem AP {p:Int->Bool} {xs:List Int} {k:Nat} {x:Int} (hx:xs[k]?=some x) (h:(xs.take k).any p=false) (h':p x=false):(xs.take (k+1)).any p=false:=by
 rw [List.take_add_one,hx,List.any_append,h]
 simpa using h'
theorem cE.at {w:World} {m c k:Nat} {a:Option Addr} {n:List Int} {x:Int} (h:cE w (.slice a m c) n) (hk:n[k]?=some x):∃ g o,a=some ⟨g,o,none⟩/\w.cell? ⟨g,o+k,none⟩=some (.int .i64 x):=by
 obtain ⟨a2,c2,e,-,h⟩:=h;cases e
 obtain ⟨g,o,y,rfl,-,hy,hc⟩:=h k (List.getElem?_eq_some_iff.1 hk).1;rw [hk] at hy;obtain rfl:=Option.some.inj hy.out;exact ⟨g,o,rfl,hc⟩
theorem Da (g:Nat) (eg:∀ args w,(callFunc g args).run prog w=.ok (.enter g args) w) (p:Int->Bool) (v:Value) (xs:List Int) (w:World) (hx:cE w v xs) (hp:∀ (x:Int) (W:World),Calls prog g #[x] W fun e W'=>e=.returned (.bool (p x))/\Below W W W') :
  Calls prog 125 #[v,.func (.func g) #[] #[]] w fun e w'=>∃ r:Int,e=.returned (.int .i64 r)/\decide (0<=r)=xs.any p/\Below w w w':=by
 obtain ⟨a,cap,rfl,hm,hv⟩:=hx;have hv:=KO hv;have hp:=KO hp
 obtain ⟨N,hN⟩:∃ N,Hid (xs.length=N):=⟨_,KO rfl⟩
 rw [hN.out] at hm hv ⊢;go_enter func125,ntmps125
 go_wp2
 go_loopw [5,8] (fun _ vi wr=>∃ k:Nat,k<=N/\vi=.int .i64 k/\Hid ((xs.take k).any p=false)/\Below w w wr) (fun _ vi _=>N - (intOf vi).toNat)
 case atStart=>exact ⟨0,ω,rfl,KO rfl,KS _ _⟩
 case round=>
 obtain ⟨k,hk,rfl,hall,hbr⟩:=hrel
 by_cases hlt:k<N
 ·obtain ⟨b,o_,x,rfl,hg,hx,hcell⟩:=hv.out k hlt
  have d0:=aE hbr hcell;have hcall:=hp.out x wr
  have hnx:=fun h=>AP hx.out hall.out h
  have hf:=fun (h:p x=true)=>(List.any_eq_true.2 ⟨x,List.mem_of_getElem? hx.out,h⟩:xs.any p=true)
  clear hcell
  cases hq:p x
  ·rw [hq] at hcall
   replace hcall:=KO hcall;replace hnx:=KO (hnx hq);clear hf hq
   exact ZI
  rw [hq] at hcall;replace hcall:=KO hcall;replace hf:=KO (hf hq);clear hnx hq
  go_wp2_with (go_at_fn g;refine (hcall.out).mono ?_;rintro e w2 ⟨rfl,hb2⟩)
  go_ret;exact ⟨_,rfl,by rw [hf.out];exact decide_eq_true ω,bX hbr hb2⟩
 obtain rfl:k=N:=ω
 have Ls:=hall;rw [←hN.out,List.take_length] at Ls;go_wp2;go_ret;exact ⟨_,rfl,by rw [Ls.out];rfl,hbr⟩
theorem uy (g:Nat) (eg:∀ args w,(callFunc g args).run prog w=.ok (.enter g args) w) (p:Int->Bool) (v:Value) (xs:List Int) (w:World) (hx:cE w v xs) (hp:∀ (x:Int) (W:World),Calls prog g #[x] W fun e W'=>e=.returned (.bool (p x))/\Below W W W') :
  cB 78 #[v,.func (.func g) #[] #[]] w (xs.any p):=by
 have P:=KO (Da g eg p v xs w hx hp);generalize xs.any p=t at *;clear hx hp;go_enter func78,ntmps78
 go_wp2_with (go_at_call 125;refine P.out.mono ?_;rintro e w2 ⟨r,rfl,h1,hb2⟩)
 go_ret;exact ⟨by rw [←h1];simp,hb2⟩
theorem lO (a:Option Addr) (m cap:Nat) (v:Value) (n:List Int) (w:World) (hx:cE w v n) :
  cB 39 #[.slice a m cap,v] w (M.fits n m):=by
 have PF:=uy 79 (fun _ _=>rfl) (fun x=>!(M.ins x (-12) 12)) v n w hx (fun x W=>ui x W)
 have hfit:M.fits n m=(((n.length:Int) == (m:Int)) && !n.any (fun x=>!(M.ins x (-12) 12))):=by rw [DM];rfl
 obtain ⟨sa,cp,rfl,-,-⟩:=hx;replace PF:=KO PF;rw [hfit];generalize n.any (fun x=>!(M.ins x (-12) 12))=t at *;clear hfit;generalize n.length=N at *
 cases hc:((N:Int) == (m:Int))
 all_goals
  go_enter func39,ntmps39
  go_wp2_with (go_at_call 78;(refine PF.out.mono ?_);rintro e w4 ⟨rfl,hb4⟩)
  go_ret
  first | exact ⟨rfl,hb4⟩ | exact ⟨rfl,KS _ _⟩
end
section
open Gr M Rg Rw Wh
namespace M
noncomputable def IM (a b:Int) (s:Option LM) (p:Option Pt) (k:Option Int):Option LM:=
 s.bind fun s=>p.bind fun p=>k.bind fun k=>(MW a b p.1 p.2.1 p.2.2 k).bind fun q=>
  if dI a s.1 s.2.1 s.2.2 q.1 q.2.1 q.2.2=true then some (eI a s.1 s.2.1 s.2.2 q.1 q.2.1 q.2.2,ft a s.1 s.2.1 s.2.2 q.1 q.2.1 q.2.2,eD a s.1 s.2.1 s.2.2 q.1 q.2.1 q.2.2) else none
noncomputable def gE (a b:Int) (l:List Pt) (n:List Int):Nat->Option LM
 | 0=>some (0,0,0)
 | j+1=>IM a b (gE a b l n j) l[j]? n[j]?
noncomputable def dJ (a b:Int) (l:List Pt) (n:List Int):Option LM:=if (ai a b l && fits n l.length)=true then gE a b l n l.length else none
noncomputable def rlV (a b:Int) (l:List Pt) (n:List Int):Bool:=(dJ a b l n).any fun s=>nz n && iC a s
theorem Gs {a b X Y E n:Int} {q:LM} (hg:good a b=true) (hp:aV a b X Y E=true) (h:jZ a X Y E n=some q):aV a b q.1 q.2.1 q.2.2=true:=by
 unfold jZ Qc at h
 split at h
 ·exact jM hg (mb hp) _ q h
 exact jM hg hp _ q h
theorem Du {a b X Y E n:Int} {q:LM} (h:MW a b X Y E n=some q):aV a b q.1 q.2.1 q.2.2=true:=by
 unfold MW at h
 split at h
 ·rename_i hc
  rw [Bool.and_eq_true] at hc;obtain ⟨hg,hp⟩:=lc hc.1;exact Gs hg hp h
 cases h
theorem AZ {a b:Int} {l:List Pt} {n:List Int} {j:Nat} {s:LM} {p:Pt} {k:Int} (hs:gE a b l n j=some s) (hp:l[j]?=some p) (hk:n[j]?=some k):gE a b l n (j+1)=(MW a b p.1 p.2.1 p.2.2 k).bind fun q=>
  if dI a s.1 s.2.1 s.2.2 q.1 q.2.1 q.2.2=true then some (eI a s.1 s.2.1 s.2.2 q.1 q.2.1 q.2.2,ft a s.1 s.2.1 s.2.2 q.1 q.2.1 q.2.2,eD a s.1 s.2.1 s.2.2 q.1 q.2.1 q.2.2) else none:=by
 conv=>lhs;unfold gE
 rw [hs,hp,hk];rfl
theorem nP {a b:Int} {l:List Pt} {n:List Int} {j:Nat} (h:gE a b l n j=none):∀ k,j<=k->gE a b l n k=none
 | 0,hk=>by
  obtain rfl:j=0:=ω
  exact h
 | k+1,hk=>by
  by_cases e:j=k+1
  ·rw [←e];exact h
  conv=>lhs;unfold gE
  rw [nP h k ω];rfl
theorem tH {a b:Int} {l:List Pt} {n:List Int} (hg:good a b=true):∀ j s,gE a b l n j=some s->aV a b s.1 s.2.1 s.2.2=true
 | 0,s,h=>by
  cases h
  exact kx a b
 | j+1,s,h=>by
  unfold gE IM at h;obtain ⟨s0,h0,h⟩:=Option.bind_eq_some_iff.1 h;obtain ⟨p,hp,h⟩:=Option.bind_eq_some_iff.1 h;obtain ⟨k,hk,h⟩:=Option.bind_eq_some_iff.1 h;obtain ⟨q,hq,h⟩:=Option.bind_eq_some_iff.1 h
  split at h
  ·cases h
   exact nI (ae hg) (tH hg j s0 h0) (Du hq)
  cases h
end M
end
section
open Go.RowKit open Gr M Rg Rw Wh
theorem YJ {p:Prop} (h:p:=by
 rw [hd];go_enter func10,ntmps10
 go_wp2_with first | (with_reducible refine Km (PL.out _ hxc.out) fun w4 hb4=>?_;replace ⟨B,C⟩:=Kt hb4 B C;replace hxc:=KO (hxc.out.below hb4);have f_:=C.box.c0;have j_:=C.box.c1) | (with_reducible refine Km (PR.out _ hxc.out) fun w5 hb5=>?_;replace B:=(p_ B hb5).alloc (Nat.le_trans B.size hb5.size) (.cells #[i1,i2,i3,i4] 34);have V:=aG.new w5 #[i1,i2,i3,i4] 34;(have ⟨v0,v1,v2,v3,_,_,_,_,_⟩:=V.aI))
 go_ret2;exact ⟨by first | rfl | simp [hd],B⟩):p:=h
theorem YM {p:Prop} (h:p:=by
 rw [hd];go_enter func9,ntmps9
 go_wp2_with first | (with_reducible refine Km (PL.out _ hxc.out) fun w4 hb4=>?_;replace ⟨B,C⟩:=Kt hb4 B C;replace hxc:=KO (hxc.out.below hb4);have f_:=C.box.c0;have j_:=C.box.c1) | (with_reducible refine Km (PR.out _ hxc.out) fun w5 hb5=>?_;replace B:=(p_ B hb5).alloc (Nat.le_trans B.size hb5.size) (.cells #[lo,hi] 72);have V:=aG.new w5 #[lo,hi] 72;(have ⟨v0,v1,_,_,_⟩:=V.box))
 go_ret2;exact ⟨by first | rfl | simp [hd],B⟩):p:=h
theorem Yr {p:Prop} (h:p:=by
 go_wp2_with (with_reducible refine Km (PL.out _ hxc.out) fun w4 hb4=>?_;replace ⟨B,C⟩:=Kt hb4 B C;replace hxc:=KO (hxc.out.below hb4);have f_:=C.box.c0;have j_:=C.box.c1)
 go_ret2;exact ⟨rfl,B⟩):p:=h
namespace M
theorem aX {a b:Int} {l:List Pt} (h:ai a b l=true):good a b=true/\1<=l.length/\l.length<=4/\∀ p ∈ l,aV a b p.1 p.2.1 p.2.2=true:=by
 unfold ai at h;rw [Bool.and_eq_true,Bool.and_eq_true] at h;obtain ⟨⟨h1,h2⟩,h3⟩:=h;unfold ins at h2;simp only [Bool.and_eq_true,decide_eq_true_eq] at h2;exact ⟨h1,ω,ω,List.all_eq_true.1 h3⟩
theorem Ix {x:Int} (h1:-409600000<=x) (h2:x<=409600000):decide (pn x > 0)=decide (x > 0):=by
 obtain ⟨-,-,-,-,h3,h4,-,-,-⟩:=iF (bC h1 h2)
 have:pn x > 0 ↔ x > 0:=by
  generalize pn x=n,4096 / pd x=t at *;subst h3
  constructor
  ·intro h;exact Int.mul_pos h ω
  intro h
  exact Z3
 simp only [this]
theorem yu {s:Sp} (h:LR s):decide (Kc s > 0)=decide (Kd s > 0):=by
 cases s with
 | none=>rfl
 | some p=>
 obtain ⟨-,h1,h2⟩:=kG h;have h3:=(kG h).1;exact Ix h1 (Int.le_trans h3 h2)
theorem zD {a b:Int} {l:List Pt}:LR (fi a b l):=by
 cases h:Ld a b l
 ·rw [mc h];exact eN
 rw [me h];exact pQ (gq h) _
noncomputable def dS (a b:Int) (l:List Pt):Sp:=if ai a b l=true then fi a b l else none
theorem jK {a b:Int} {l:List Pt} (h:ai a b l=false):dS a b l=none:=by unfold dS;rw [h];rfl
theorem gu {a b:Int} {l:List Pt} (h:ai a b l=true):dS a b l=fi a b l:=by unfold dS;rw [h];rfl
theorem kI {a b:Int} {l:List Pt}:LR (dS a b l):=by
 cases h:ai a b l
 ·rw [jK h];exact eN
 rw [gu h];exact zD
noncomputable def tY (a b:Int) (l:List Pt):Bool:=(dS a b l).isSome && decide (Kd (dS a b l) > 0)
theorem zR {s:Sp} (h:LR s):pick (s.isSome && aJ (Kd s) (Kj s)) (pn (Kd s))=Kc s/\pick (s.isSome && aJ (Kd s) (Kj s)) (pd (Kd s))=Kf s/\pick (s.isSome && aJ (Kd s) (Kj s)) (pn (Kj s))=Kg s/\pick (s.isSome && aJ (Kd s) (Kj s)) (pd (Kj s))=Kh s/\(s.isSome && aJ (Kd s) (Kj s))=s.isSome:=by
 cases s with
 | none=>exact ⟨rfl,rfl,rfl,rfl,rfl⟩
 | some p=>
 have hs:=h p rfl;have e:((some p:Sp).isSome && aJ (Kd (some p)) (Kj (some p)))=true:=hs;rw [e];exact ⟨rfl,rfl,rfl,rfl,rfl⟩
end M
theorem mS (a b:Int) (v:Value) (l:List Pt) (w:World) (hx:dC w v l) (hn:l.length<=4000000) :
  cB 7 #[.agg #[a,b],v] w (.tuple #[.agg #[M.Kc (dS a b l),M.Kf (dS a b l),M.Kg (dS a b l),M.Kh (dS a b l)],.bool (dS a b l).isSome]):=by
 have PL:=fun W h=>er a b v l W h hn
 have PR:=fun (hp:ai a b l=true) W h=>(kP) a b v l W h (aX hp).1 (aX hp).2.1 (aX hp).2.2.1 (aX hp).2.2.2
 have hyes:=fun h=>gu (a:=a) (b:=b) (l:=l) h
 have hno:=fun h=>jK (a:=a) (b:=b) (l:=l) h
 have hok:=kI (a:=a) (b:=b) (l:=l);generalize dS a b l=rv at *;replace hx:=KO hx;obtain ⟨wc,hw3,C,R,B⟩:=dQ w #[a,b] 24 #[(0:Int),(0:Int),(0:Int),(0:Int)] 34;have hxc:=KO (hx.out.below B);have f_:=C.box.c0;have j_:=C.box.c1
 cases hp:ai a b l with
 | false=>
  rw [hp] at PL;have hfin:=KO (hno hp);replace PL:=KO PL;clear PR hyes hno hp hok;rw [hfin.out];go_enter func7,ntmps7
  go_wp2_with (with_reducible refine Km (PL.out _ hxc.out) fun w4 hb4=>?_;replace ⟨B,C⟩:=Kt hb4 B C;replace hxc:=KO (hxc.out.below hb4);have f_:=C.box.c0;have j_:=C.box.c1;replace R:=R.keep hb4;(have ⟨r0,r1,r2,r3,z0,z1,z2,z3,rl⟩:=R.aI))
  exact KU results7 ⟨rfl,KR (KR (KR (KR B σ _) σ _) σ _) σ _⟩
 | true=>
 rw [hp] at PL;replace PR:=PR hp;rw [←hyes hp] at PR;replace PL:=KO PL;clear hyes hno hp
 have PI:=fun W=>jD (M.Kd rv) (M.Kj rv) rv.isSome W
 obtain ⟨q1,q2,q3,q4,q5⟩:=zR hok;rw [q1,q2,q3,q4,q5] at PI;clear q1 q2 q3 q4 q5;generalize M.Kh rv=i4,M.Kg rv=i3,M.Kf rv=i2,M.Kc rv=i1 at *;replace PI:=KO PI;clear hok;generalize M.Kj rv=hi,M.Kd rv=lo,rv.isSome=f at *;replace PR:=KO PR;go_enter func7,ntmps7
 go_wp2_with first | (with_reducible refine Km (PL.out _ hxc.out) fun w4 hb4=>?_;replace ⟨B,C⟩:=Kt hb4 B C;replace hxc:=KO (hxc.out.below hb4);have f_:=C.box.c0;have j_:=C.box.c1;replace R:=R.keep hb4;(have ⟨r0,r1,r2,r3,z0,z1,z2,z3,rl⟩:=R.aI)) | (with_reducible refine Km (PR.out _ hxc.out) fun w5 hb5=>?_;replace B:=(p_ B hb5).alloc (Nat.le_trans B.size hb5.size) (.cells #[lo,hi] 72);replace R:=(R.keep hb5).alloc (.cells #[lo,hi] 72);have V:=aG.new w5 #[lo,hi] 72;(have ⟨v0,v1,_,_,_⟩:=V.box)) | (with_reducible refine G_ PI fun w6 hb6=>?_;replace ⟨B,R⟩:=Kt hb6 B R;(have ⟨r0,r1,r2,r3,z0,z1,z2,z3,rl⟩:=R.aI))
 exact KU results7 ⟨rfl,KR (KR (KR (KR B σ _) σ _) σ _) σ _⟩
theorem mo (a b:Int) (v:Value) (l:List Pt) (w:World) (hx:dC w v l) (hn:l.length<=4000000) :
  cB 8 #[.agg #[a,b],v] w (.tuple #[.agg #[M.Kc (dS a b l),M.Kf (dS a b l),M.Kg (dS a b l),M.Kh (dS a b l)],.bool (dS a b l).isSome]):=by
 have PL:=fun W h=>gj a b v l W h hn
 have PR:=fun (hp:ai a b l=true) W h=>(iG) a b v l W h (aX hp).1 (aX hp).2.1 (aX hp).2.2.1 (aX hp).2.2.2
 have hyes:=fun h=>gu (a:=a) (b:=b) (l:=l) h
 have hno:=fun h=>jK (a:=a) (b:=b) (l:=l) h
 have hok:=kI (a:=a) (b:=b) (l:=l);generalize dS a b l=rv at *;replace hx:=KO hx;obtain ⟨wc,hw3,C,R,B⟩:=dQ w #[a,b] 24 #[(0:Int),(0:Int),(0:Int),(0:Int)] 34;have hxc:=KO (hx.out.below B);have f_:=C.box.c0;have j_:=C.box.c1
 cases hp:ai a b l with
 | false=>
  rw [hp] at PL;have hfin:=KO (hno hp);replace PL:=KO PL;clear PR hyes hno hp hok;rw [hfin.out];go_enter func8,ntmps8
  go_wp2_with (with_reducible refine Km (PL.out _ hxc.out) fun w4 hb4=>?_;replace ⟨B,C⟩:=Kt hb4 B C;replace hxc:=KO (hxc.out.below hb4);have f_:=C.box.c0;have j_:=C.box.c1;replace R:=R.keep hb4;(have ⟨r0,r1,r2,r3,z0,z1,z2,z3,rl⟩:=R.aI))
  exact KU results8 ⟨rfl,KR (KR (KR (KR B σ _) σ _) σ _) σ _⟩
 | true=>
 rw [hp] at PL;replace PR:=PR hp;rw [←hyes hp] at PR;replace PL:=KO PL;clear hyes hno hp;generalize M.Kh rv=i4,M.Kg rv=i3,M.Kf rv=i2,M.Kc rv=i1 at *;clear hok;generalize rv.isSome=f at *;replace PR:=KO PR;go_enter func8,ntmps8
 go_wp2_with first | (with_reducible refine Km (PL.out _ hxc.out) fun w4 hb4=>?_;replace ⟨B,C⟩:=Kt hb4 B C;replace hxc:=KO (hxc.out.below hb4);have f_:=C.box.c0;have j_:=C.box.c1;replace R:=R.keep hb4;(have ⟨r0,r1,r2,r3,z0,z1,z2,z3,rl⟩:=R.aI)) | (with_reducible refine Km (PR.out _ hxc.out) fun w5 hb5=>?_;replace ⟨B,R⟩:=Kt hb5 B R;(have ⟨r0,r1,r2,r3,z0,z1,z2,z3,rl⟩:=R.aI))
 exact KU results8 ⟨rfl,KR (KR (KR (KR B σ _) σ _) σ _) σ _⟩
theorem jv (a b:Int) (v:Value) (l:List Pt) (w:World) (hx:dC w v l) (hn:l.length<=4000000) :
  cB 9 #[.agg #[a,b],v] w (.tuple #[tY a b l,.bool (dS a b l).isSome]):=by
 have PL:=fun W h=>er a b v l W h hn
 have PR:=fun (hp:ai a b l=true) W h=>(kP) a b v l W h (aX hp).1 (aX hp).2.1 (aX hp).2.2.1 (aX hp).2.2.2
 have hyes:=fun h=>gu (a:=a) (b:=b) (l:=l) h
 have hno:=fun h=>jK (a:=a) (b:=b) (l:=l) h
 have hok:=kI (a:=a) (b:=b) (l:=l);have QP:tY a b l=((dS a b l).isSome && decide (M.Kd (dS a b l) > 0)):=rfl;rw [QP];clear QP;generalize dS a b l=rv at *;replace hx:=KO hx;obtain ⟨wc,hw3,C,B⟩:=cJ w #[a,b] 24;have hxc:=KO (hx.out.below B);have f_:=C.box.c0;have j_:=C.box.c1
 cases hp:ai a b l with
 | false=>
  rw [hp] at PL;have hfin:=KO (hno hp);replace PL:=KO PL;clear PR hyes hno hp hok;rw [hfin.out];go_enter func9,ntmps9
  exact Yr
 | true=>
 rw [hp] at PL;replace PR:=PR hp;rw [←hyes hp] at PR;replace PL:=KO PL;clear hyes hno hp;clear hok;generalize M.Kj rv=hi,M.Kd rv=lo,rv.isSome=f at *;replace PR:=KO PR
 cases f with
 | false=>
  go_enter func9,ntmps9
  go_wp2_with first | (with_reducible refine Km (PL.out _ hxc.out) fun w4 hb4=>?_;replace ⟨B,C⟩:=Kt hb4 B C;replace hxc:=KO (hxc.out.below hb4);have f_:=C.box.c0;have j_:=C.box.c1) | (with_reducible refine Km (PR.out _ hxc.out) fun w5 hb5=>?_;replace B:=(p_ B hb5).alloc (Nat.le_trans B.size hb5.size) (.cells #[lo,hi] 72);have V:=aG.new w5 #[lo,hi] 72;(have ⟨v0,v1,_,_,_⟩:=V.box))
  go_ret2;exact ⟨rfl,B⟩
 | true=>
 by_cases hpos:lo > 0
 ·have hd:decide (lo > 0)=true:=decide_eq_true hpos
  exact YM
 have hd:decide (lo > 0)=false:=decide_eq_false hpos;exact YM
theorem kR (a b:Int) (v:Value) (l:List Pt) (w:World) (hx:dC w v l) (hn:l.length<=4000000) :
  cB 10 #[.agg #[a,b],v] w (.tuple #[tY a b l,.bool (dS a b l).isSome]):=by
 have PL:=fun W h=>gj a b v l W h hn
 have PR:=fun (hp:ai a b l=true) W h=>(iG) a b v l W h (aX hp).1 (aX hp).2.1 (aX hp).2.2.1 (aX hp).2.2.2
 have hyes:=fun h=>gu (a:=a) (b:=b) (l:=l) h
 have hno:=fun h=>jK (a:=a) (b:=b) (l:=l) h
 have hok:=kI (a:=a) (b:=b) (l:=l);have QP:tY a b l=((dS a b l).isSome && decide (M.Kd (dS a b l) > 0)):=rfl;rw [QP];clear QP;generalize dS a b l=rv at *;replace hx:=KO hx;obtain ⟨wc,hw3,C,B⟩:=cJ w #[a,b] 24;have hxc:=KO (hx.out.below B);have f_:=C.box.c0;have j_:=C.box.c1
 cases hp:ai a b l with
 | false=>
  rw [hp] at PL;have hfin:=KO (hno hp);replace PL:=KO PL;clear PR hyes hno hp hok;rw [hfin.out];go_enter func10,ntmps10
  exact Yr
 | true=>
 rw [hp] at PL;replace PR:=PR hp;rw [←hyes hp] at PR;replace PL:=KO PL;clear hyes hno hp;rw [←yu hok];clear hok;generalize rv.isSome=f,M.Kh rv=i4,M.Kg rv=i3,M.Kf rv=i2,M.Kc rv=i1 at *;replace PR:=KO PR
 cases f with
 | false=>
  go_enter func10,ntmps10
  go_wp2_with first | (with_reducible refine Km (PL.out _ hxc.out) fun w4 hb4=>?_;replace ⟨B,C⟩:=Kt hb4 B C;replace hxc:=KO (hxc.out.below hb4);have f_:=C.box.c0;have j_:=C.box.c1) | (with_reducible refine Km (PR.out _ hxc.out) fun w5 hb5=>?_;replace B:=(p_ B hb5).alloc (Nat.le_trans B.size hb5.size) (.cells #[i1,i2,i3,i4] 34);have V:=aG.new w5 #[i1,i2,i3,i4] 34;(have ⟨v0,v1,v2,v3,_,_,_,_,_⟩:=V.aI))
  go_ret2;exact ⟨rfl,B⟩
 | true=>
 by_cases hpos:i1 > 0
 ·have hd:decide (i1 > 0)=true:=decide_eq_true hpos
  exact YJ
 have hd:decide (i1 > 0)=false:=decide_eq_false hpos;exact YJ
namespace M
noncomputable def kA (a b:Int) (s:List Int × List Pt) (i:Nat) (p:Pt):Option (List Int × List Pt):=
 match fi a b (s.2 ++ [p]) with
 | none=>none
 | some q=>if 0<q.1 then some (s.1 ++ [(i:Int)],s.2 ++ [p]) else some s
noncomputable def jW (a b:Int) (l:List Pt):Nat->Option (List Int × List Pt)
 | 0=>some ([],[])
 | i+1=>match jW a b l i with
  | none=>none
  | some s=>match l[i]? with
   | none=>none
   | some p=>kA a b s i p
theorem nd {a b:Int} {l:List Pt} {i:Nat} {s:List Int × List Pt} {p:Pt} (h:jW a b l i=some s) (hp:l[i]?=some p):jW a b l (i+1)=kA a b s i p:=by
 rw [jW,h,hp]
theorem nf {a b:Int} {l:List Pt} {i:Nat} (h:jW a b l i=none):∀ k,i<=k->jW a b l k=none
 | 0,hk=>by
  obtain rfl:i=0:=ω
  exact h
 | k+1,hk=>by
  rcases Nat.lt_or_ge k i with q | q
  ·obtain rfl:i=k+1:=ω
   exact h
  rw [jW,nf h k q]
theorem nc {a b:Int} {s:List Int × List Pt} {i:Nat} {p:Pt} (h:fi a b (s.2 ++ [p])=none):kA a b s i p=none:=by unfold kA;rw [h]
theorem lh {a b:Int} {s:List Int × List Pt} {i:Nat} {p:Pt} {q:Int × Int} (h:fi a b (s.2 ++ [p])=some q):kA a b s i p=if 0<q.1 then some (s.1 ++ [(i:Int)],s.2 ++ [p]) else some s:=by unfold kA;rw [h]
theorem mW {a b:Int} {l:List Pt}:∀ {i:Nat} {s:List Int × List Pt},i<=l.length->jW a b l i=some s->s.1.length=s.2.length/\s.2.length<=i/\∀ p ∈ s.2,p ∈ l
 | 0,s,_,h=>by
  rw [jW] at h;obtain rfl:=Option.some.inj h;exact ⟨rfl,KT _,fun p hp=>by cases hp⟩
 | i+1,s,hi,h=>by
  obtain ⟨p,hp⟩:∃ p,l[i]?=some p:=⟨_,List.getElem?_eq_getElem ω⟩
  cases hs:jW a b l i with
  | none=>rw [jW,hs] at h;cases h
  | some t=>
  obtain ⟨h1,h2,h3⟩:=mW ω hs;rw [nd hs hp] at h
  cases hr:fi a b (t.2 ++ [p]) with
  | none=>rw [nc hr] at h;cases h
  | some q=>
  rw [lh hr] at h
  split at h
  ·obtain rfl:=Option.some.inj h
   refine ⟨by simp [h1],by simp only [List.length_append,List.length_singleton];omega,fun x hx=>?_⟩
   rcases List.mem_append.1 hx with hx | hx
   ·exact h3 x hx
   obtain rfl:=List.mem_singleton.1 hx;exact List.mem_of_getElem? hp
  obtain rfl:=Option.some.inj h;exact ⟨h1,ω,h3⟩
noncomputable def td (a b:Int) (l:List Pt):Bool:=ai a b l && (jW a b l l.length).isSome
noncomputable def Qt (a b:Int) (l:List Pt):List Int:=if ai a b l=true then ((jW a b l l.length).map (·.1)).getD [] else []
theorem Dk {a b:Int} {l:List Pt} (h:ai a b l=false):td a b l=false/\Qt a b l=[]:=by unfold td Qt;rw [h];exact ⟨rfl,rfl⟩
theorem tf {a b:Int} {l:List Pt} (h:jW a b l l.length=none):td a b l=false/\Qt a b l=[]:=by
 unfold td Qt;rw [h]
 cases ai a b l <;> exact ⟨rfl,rfl⟩
theorem xW {a b:Int} {l:List Pt} {s:List Int × List Pt} (hp:ai a b l=true) (h:jW a b l l.length=some s):td a b l=true/\Qt a b l=s.1:=by
 unfold td Qt;rw [h,hp];exact ⟨rfl,rfl⟩
end M
end
section
open Go.RowKit Go.Shelf open Gr M Rg Rw Wh
theorem IC (b o i:Nat):(⟨b,o,none⟩:Addr).add i=⟨b,o+i,none⟩:=by unfold Addr.add;split <;> simp_all
theorem nG.from' {w:World} {g o:Nat} {l:List Pt} (h:nG w g o l):Rw.From Lh w (some ⟨g,o,none⟩) l:=by
 intro j u hu;refine ⟨_,rfl,?_⟩;rw [IC];have hlt:j<(l.flatMap Lh.cells).length:=(List.getElem?_eq_some_iff.1 hu).1;rw [cr] at hlt;have hlt:j<l.length*3:=hlt
 obtain ⟨p,hp⟩:∃ p,l[j / 3]?=some p:=⟨_,List.getElem?_eq_getElem ω⟩
 have hi:j % 3<Lh.k:=Nat.mod_lt _ δ;have hf:=Rw.flat_get Lh l (j / 3) (j % 3) p hp hi
 have hj:j / 3*Lh.k+j % 3=j:=by show j / 3*3+j % 3=j;omega
 rw [hj,hu] at hf;obtain ⟨h1,h2,h3⟩:=h _ _ hp
 have h4:j % 3=0∨j % 3=1∨j % 3=2:=ω
 rcases h4 with q | q | q
 ·rw [q] at hf
  obtain rfl:=Option.some.inj hf
  have e:o+j / 3*3=o+j:=ω
  rw [e] at h1;exact h1
 ·rw [q] at hf
  obtain rfl:=Option.some.inj hf
  have e:o+j / 3*3+1=o+j:=ω
  rw [e] at h2;exact h2
 rw [q] at hf;obtain rfl:=Option.some.inj hf
 have e:o+j / 3*3+2=o+j:=ω
 rw [e] at h3;exact h3
theorem dC.from' {w:World} {v:Value} {l:List Pt} (h:dC w v l):∃ A cap,v=.slice A l.length cap/\∀ w',Below w w w'->Rw.From Lh w' A l:=by
 obtain ⟨a,cap,rfl,h⟩:=h;refine ⟨a,cap,rfl,fun w' hb=>?_⟩
 rcases h with rfl | ⟨g,o,rfl,h⟩
 ·exact Rw.From.nil Lh w' a
 exact (h.below hb).from'
theorem Jv {w:World} {base:Nat} (hb:base<=w.heap.size):Rw.Own Lh (w.alloc (.cells #[] 47)) base (.slice (some ⟨w,0,none⟩) 0 0) []:=Rw.Own.Ax Lh w base hb
theorem xJ (xs:List Pt) (v:Value) (w:World) (hx:dC w v xs) (hl:xs.length<=1000000000) :
  Calls prog 37 #[v] w fun e w'=>∃ v',e=.returned v'/\Rw.Own Lh w' w v' xs/\Below w w w':=by
 obtain ⟨A,cap,rfl,hf⟩:=hx.from'
 clear hx;have hf:=KO hf
 cases A with
 | none=>
  have h0:xs=[]:=by
   cases xs with
   | nil=>rfl
   | cons p l=>
   obtain ⟨ad,h,-⟩:=hf.out w (KS _ _) 0 (.int .i64 p.1) rfl;cases h
  subst h0;simp only [List.length_nil];clear hf hl
  have he:∀ W:World,(binOp .eql 25 (.slice none 0 cap) (.slice none 0 0)).run prog W=.ok (.bool true) W:=fun _=>rfl
  go_enter func37,ntmps37
  go_wp2;go_ret;exact ⟨_,rfl,Rw.Own.nil Lh _ _,KS _ _⟩
 | some ad=>
 have he:∀ W:World,(binOp .eql 25 (.slice (some ad) xs.length cap) (.slice none 0 0)).run prog W=.ok (.bool false) W:=fun _=>rfl
 go_enter func37,ntmps37
 go_wp2_with (at_builtin;refine Rw.push qO (W:=w) w xs [] _ (some ad) _ _ (by rfl) (by rfl) (.tmp 5) (.tmp 6) (by rfl) (by rfl) (by rfl) (hf.out _ LV) (Jv (KT _)) LV σ (by simp;omega) ?_;rintro v1 w1 hown1 hb1)
 go_ret;exact ⟨_,rfl,hown1,hb1⟩
theorem aG.DS {α:Type} {E:Rw.Enc α} {w w':World} {g base:Nat} {T:TypeId} {xs:Array Value} {v:Value} {ps:List α} (hv:aG w g T xs) (ho:Rw.Own E w base v ps) (hg:w.grownBy w' v.ownBlock) (hT:T≠E.t):aG w' g T xs:=by
 refine (hg.block g hv.lt fun e=>?_).trans hv
 rcases ho.2 with ⟨rfl,-⟩ | ⟨g',cap,cur,rfl,-,hh,-⟩
 ·simp [Value.ownBlock] at e
 exact Zg
theorem Rw.From.keep {α:Type} {E:Rw.Enc α} {w w':World} {H:Nat} {ys:List α} (h:Rw.From E w (some ⟨H,0,none⟩) ys) (hH:H<w.heap.size) (hb:Below w w w'):Rw.From E w' (some ⟨H,0,none⟩) ys:=by
 intro j u hu;obtain ⟨ad,h1,h2⟩:=h j u hu;obtain rfl:=Option.some.inj h1
 have hblk:((⟨H,0,none⟩:Addr).add j).block=H:=by unfold Addr.add;split <;> rfl
 exact ⟨_,rfl,(hb.cell (p:=(⟨H,0,none⟩:Addr).add j) (by rw [hblk];exact hH)).trans h2⟩
structure Mk (W0:World) (ps:List Pt) (p:Pt) (T:TypeId) (ret:Value) (zs us:Array Value) (l:Nat->Bool) (v:Nat->Value) (w:World):Prop where
 B:Below W0 W0 w
 c:l 2=true->l 5=false->Rw.Own Lh w W0 (v 2) ps
 t:l 4=true->l 5=false->∃ H,v 4=.slice (some ⟨H,0,none⟩) 1 1/\H<w.heap.size/\Rw.From Lh w (some ⟨H,0,none⟩) [p]
 a:l 5=true->l 6=false->Rw.Own Lh w W0 (v 5) (ps ++ [p])
 r:l 6=true->v 6=ret
 n:l 10=true->l 11=false->∃ H,v 10=.pointer (some ⟨H,0,none⟩)/\W0.heap.size<=H/\aG w H T zs
 s:l 11=true->∃ H,v 10=.pointer (some ⟨H,0,none⟩)/\W0.heap.size<=H/\aG w H T us
namespace Mk
variable {W0:World} {ps:List Pt} {p:Pt} {T:TypeId} {ret:Value} {zs us:Array Value} {l l':Nat->Bool} {v v':Nat->Value} {w w':World}
theorem start:Mk W0 ps p T ret zs us (fun _=>false) v { W0 with drawn:=W0.drawn+1 } where
 B:=(KS _ _).drew
 c:=fun h=>by cases h
 t:=fun h=>by cases h
 a:=fun h=>by cases h
 r:=fun h=>by cases h
 n:=fun h=>by cases h
 s:=fun h=>by cases h
theorem congr (h:∀ i ∈ [2,4,5,6,10,11],l i=l' i/\v i=v' i) (j:Mk W0 ps p T ret zs us l v w):Mk W0 ps p T ret zs us l' v' w:=by
 have h1:=h 2 σ;have h2:=h 4 σ;have h3:=h 5 σ;have h4:=h 6 σ;have h5:=h 10 σ;have h6:=h 11 σ;obtain ⟨jB,jc,jt,ja,jr,jn,js⟩:=j;rw [h1.1,h1.2,h3.1] at jc;rw [h2.1,h2.2,h3.1] at jt;rw [h3.1,h3.2,h4.1] at ja;rw [h4.1,h4.2] at jr;rw [h5.1,h5.2,h6.1] at jn;rw [h6.1,h5.2] at js;exact ⟨jB,jc,jt,ja,jr,jn,js⟩
theorem keep (j:Mk W0 ps p T ret zs us l v w) (hb:Below w w w'):Mk W0 ps p T ret zs us l v w' where
 B:=j.B.trans (hb.mono j.B.size)
 c:=fun h1 h2=>(j.c h1 h2).below hb
 t:=fun h1 h2=>by
  obtain ⟨H,e,hH,hf⟩:=j.t h1 h2;exact ⟨H,e,Nat.lt_of_lt_of_le hH hb.size,hf.keep hH hb⟩
 a:=fun h1 h2=>(j.a h1 h2).below hb
 r:=j.r
 n:=fun h1 h2=>by
  obtain ⟨H,e,hH,hf⟩:=j.n h1 h2;exact ⟨H,e,hH,hf.keep hb⟩
 s:=fun h1=>by
  obtain ⟨H,e,hH,hf⟩:=j.s h1;exact ⟨H,e,hH,hf.keep hb⟩
theorem clone {u:Value} (j:Mk W0 ps p T ret zs us l v w) (hb:Below w w w') (hu:Rw.Own Lh w' w u ps):Mk W0 ps p T ret zs us (Rg.upd l 2) (dH v 2 u) w' where
 B:=(j.keep hb).B
 c:=fun _ _=>hu.down j.B.size
 t:=(j.keep hb).t
 a:=(j.keep hb).a
 r:=j.r
 n:=(j.keep hb).n
 s:=(j.keep hb).s
theorem lit (j:Mk W0 ps p T ret zs us l v w):Mk W0 ps p T ret zs us (Rg.upd l 4) (dH v 4 (.slice (some ⟨w,0,none⟩) 1 1)) (w.alloc (.cells #[p.1,p.2.1,p.2.2] 47)) where
 B:=(j.keep (bA w _)).B
 c:=(j.keep (bA w _)).c
 t:=fun _ _=>⟨w,rfl,σ,Rw.From.lit Lh w p _ rfl⟩
 a:=(j.keep (bA w _)).a
 r:=j.r
 n:=(j.keep (bA w _)).n
 s:=(j.keep (bA w _)).s
theorem var (j:Mk W0 ps p T ret zs us l v w) (h11:l 11=false):Mk W0 ps p T ret zs us (Rg.upd l 10) (dH v 10 (.pointer (some ⟨w,0,none⟩))) (w.alloc (.cells zs T)) where
 B:=(j.keep (bA w _)).B
 c:=(j.keep (bA w _)).c
 t:=(j.keep (bA w _)).t
 a:=(j.keep (bA w _)).a
 r:=j.r
 n:=fun _ _=>⟨w,rfl,j.B.size,aG.new w zs T⟩
 s:=fun h=>by
  have h:l 11=true:=h;rw [h11] at h;cases h
theorem app {u:Value} (j:Mk W0 ps p T ret zs us l v w) (hT:T≠Lh.t) (h2:l 2=true) (h5:l 5=false) (h6:l 6=false) (h11:l 11=false) (hg:w.grownBy w' (v 2).ownBlock) (hu:Rw.Own Lh w' W0 u (ps ++ [p])):Mk W0 ps p T ret zs us (Rg.upd l 5) (dH v 5 u) w' where
 B:=j.B.grown hg j.B.size (fun k hk=>((j.c h2 h5).lt k hk).1)
 c:=fun _ h=>by cases h
 t:=fun _ h=>by cases h
 a:=fun _ _=>hu
 r:=fun h=>by
  have h:l 6=true:=h;rw [h6] at h;cases h
 n:=fun h1 hs=>by
  obtain ⟨H,e,hH,hf⟩:=j.n h1 hs;exact ⟨H,e,hH,hf.DS (j.c h2 h5) hg hT⟩
 s:=fun h=>by
  have h:l 11=true:=h;rw [h11] at h;cases h
theorem res (j:Mk W0 ps p T ret zs us l v w) (hb:Below w w w'):Mk W0 ps p T ret zs us (Rg.upd l 6) (dH v 6 ret) w' where
 B:=(j.keep hb).B
 c:=(j.keep hb).c
 t:=(j.keep hb).t
 a:=fun _ h=>by cases h
 r:=fun _=>rfl
 n:=(j.keep hb).n
 s:=(j.keep hb).s
theorem put {u:Value} {H:Nat} (j:Mk W0 ps p T ret zs us l v w) (h2:l 2=true) (h4:l 4=true) (h5:l 5=true) (h6:l 6=true) (h10:v 10=.pointer (some ⟨H,0,none⟩)) (hH:W0.heap.size<=H) (hV:aG w' H T us) (hB:Below W0 W0 w'):Mk W0 ps p T ret zs us (Rg.upd l 11) (dH v 11 u) w' where
 B:=hB
 c:=fun _ h=>by
  have h:l 5=false:=h;rw [h5] at h;cases h
 t:=fun _ h=>by
  have h:l 5=false:=h;rw [h5] at h;cases h
 a:=fun _ h=>by
  have h:l 6=false:=h;rw [h6] at h;cases h
 r:=j.r
 n:=fun _ h=>by cases h
 s:=fun _=>⟨H,h10,hH,hV⟩
theorem _root_.Go.Proofs.YtlnjcilaflfnlaaGreatDoor.yF:(72:TypeId)≠Lh.t:=by show (72:TypeId)≠47;decide
end Mk
structure M6 (W0:World) (ps:List Pt) (p:Pt) (l:Nat->Bool) (v:Nat->Value) (w:World):Prop where
 B:Below W0 W0 w
 e:l 0=true->l 2=false->Rw.Own Lh w W0 (v 0) []
 c:l 2=true->l 5=false->Rw.Own Lh w W0 (v 2) ps
 t:l 4=true->l 5=false->∃ H,v 4=.slice (some ⟨H,0,none⟩) 1 1/\H<w.heap.size/\W0.heap.size<=H/\Rw.From Lh w (some ⟨H,0,none⟩) [p]/\(l 0=true->l 2=false->(v 0).ownBlock≠some H)
 a:l 5=true->Rw.Own Lh w W0 (v 5) (ps ++ [p])
 m:l 6=true->Rw.Own Lh w W0 (v 6) (ps ++ [p])
namespace M6
variable {W0:World} {ps:List Pt} {p:Pt} {l l':Nat->Bool} {v v':Nat->Value} {w w':World}
theorem start:M6 W0 ps p (fun _=>false) v { W0 with drawn:=W0.drawn+1 } where
 B:=(KS _ _).drew
 e:=fun h=>by cases h
 c:=fun h=>by cases h
 t:=fun h=>by cases h
 a:=fun h=>by cases h
 m:=fun h=>by cases h
theorem congr (h:∀ i ∈ [0,2,4,5,6],l i=l' i/\v i=v' i) (j:M6 W0 ps p l v w):M6 W0 ps p l' v' w:=by
 have h1:=h 0 σ;have h2:=h 2 σ;have h3:=h 4 σ;have h4:=h 5 σ;have h5:=h 6 σ;obtain ⟨jB,je,jc,jt,ja,jm⟩:=j;rw [h1.1,h1.2,h2.1] at je;rw [h2.1,h2.2,h4.1] at jc;rw [h3.1,h3.2,h4.1,h1.1,h1.2,h2.1] at jt;rw [h4.1,h4.2] at ja;rw [h5.1,h5.2] at jm;exact ⟨jB,je,jc,jt,ja,jm⟩
theorem keep (j:M6 W0 ps p l v w) (hb:Below w w w'):M6 W0 ps p l v w' where
 B:=j.B.trans (hb.mono j.B.size)
 e:=fun h1 h2=>(j.e h1 h2).below hb
 c:=fun h1 h2=>(j.c h1 h2).below hb
 t:=fun h1 h2=>by
  obtain ⟨H,e,hH,h0,hf,hn⟩:=j.t h1 h2;exact ⟨H,e,Nat.lt_of_lt_of_le hH hb.size,h0,hf.keep hH hb,hn⟩
 a:=fun h1=>(j.a h1).below hb
 m:=fun h1=>(j.m h1).below hb
theorem empty (j:M6 W0 ps p l v w) (h2:l 2=false):M6 W0 ps p (Rg.upd l 0) (dH v 0 (.slice (some ⟨w,0,none⟩) 0 0)) (w.alloc (.cells #[] 47)) where
 B:=(j.keep (bA w _)).B
 e:=fun _ _=>Rw.Own.Ax Lh w _ j.B.size
 c:=fun h=>by
  have h:l 2=true:=h;rw [h2] at h;cases h
 t:=fun h1 h2=>by
  obtain ⟨H,e,hH,h0,hf,-⟩:=j.t h1 h2
  exact ⟨H,e,Nat.lt_of_lt_of_le hH (bA w _).size,h0,hf.keep hH (bA w _),fun _ _ q=>by
   have q:some w.heap.size=some H:=q
   injection q with q
   omega⟩
 a:=(j.keep (bA w _)).a
 m:=(j.keep (bA w _)).m
theorem copy {u:Value} (j:M6 W0 ps p l v w) (h0:l 0=true) (h2:l 2=false) (h5:l 5=false) (h6:l 6=false) (hg:w.grownBy w' (v 0).ownBlock) (hu:Rw.Own Lh w' W0 u ps):M6 W0 ps p (Rg.upd l 2) (dH v 2 u) w' where
 B:=j.B.grown hg j.B.size (fun k hk=>((j.e h0 h2).lt k hk).1)
 e:=fun _ h=>by cases h
 c:=fun _ _=>hu
 t:=fun h1 h3=>by
  obtain ⟨H,e,hH,hh,hf,hn⟩:=j.t h1 h3;refine ⟨H,e,Nat.lt_of_lt_of_le hH hg.size,hh,?_,fun _ h=>by cases h⟩;intro i x hx;obtain ⟨ad,q1,q2⟩:=hf i x hx;obtain rfl:=Option.some.inj q1
  have hblk:((⟨H,0,none⟩:Addr).add i).block=H:=by unfold Addr.add;split <;> rfl
  exact ⟨_,rfl,hg.cell q2 (by rw [hblk];exact fun q=>hn h0 h2 q.symm)⟩
 a:=fun h=>by
  have h:l 5=true:=h;rw [h5] at h;cases h
 m:=fun h=>by
  have h:l 6=true:=h;rw [h6] at h;cases h
theorem lit (j:M6 W0 ps p l v w):M6 W0 ps p (Rg.upd l 4) (dH v 4 (.slice (some ⟨w,0,none⟩) 1 1)) (w.alloc (.cells #[p.1,p.2.1,p.2.2] 47)) where
 B:=(j.keep (bA w _)).B
 e:=(j.keep (bA w _)).e
 c:=(j.keep (bA w _)).c
 t:=fun _ _=>⟨w,rfl,σ,j.B.size,Rw.From.lit Lh w p _ rfl,fun h1 h2 q=>by
  have:=((j.e h1 h2).lt _ q).2
  omega⟩
 a:=(j.keep (bA w _)).a
 m:=(j.keep (bA w _)).m
theorem app {u:Value} (j:M6 W0 ps p l v w) (h2:l 2=true) (h5:l 5=false) (h6:l 6=false) (hg:w.grownBy w' (v 2).ownBlock) (hu:Rw.Own Lh w' W0 u (ps ++ [p])):M6 W0 ps p (Rg.upd l 5) (dH v 5 u) w' where
 B:=j.B.grown hg j.B.size (fun k hk=>((j.c h2 h5).lt k hk).1)
 e:=fun h1 h3=>by
  have h3:l 2=false:=h3;rw [h2] at h3;cases h3
 c:=fun _ h=>by cases h
 t:=fun _ h=>by cases h
 a:=fun _=>hu
 m:=fun h=>by
  have h:l 6=true:=h;rw [h6] at h;cases h
theorem take (j:M6 W0 ps p l v w) (h5:l 5=true):M6 W0 ps p (Rg.upd l 6) (dH v 6 (v 5)) w where
 B:=j.B
 e:=j.e
 c:=j.c
 t:=j.t
 a:=j.a
 m:=fun _=>j.a h5
end M6
theorem slV {w:World} {v:Value} {l:List Pt} (h:dC w v l):∃ sa cap,v=.slice sa l.length cap:=by
 obtain ⟨a,cap,e,-⟩:=h;exact ⟨a,cap,e⟩
end
section
open Gr M Rg Rw Wh
namespace M
open r_
theorem Gq {a b X Y E n:Int} {q:LM} (hg:good a b=true) (hp:aV a b X Y E=true) (h:jZ a X Y E n=some q):aV a b q.1 q.2.1 q.2.2=true/\da q.1 q.2.1 q.2.2=ws a n (da X Y E):=by
 unfold jZ Qc at h;unfold ws
 split at h
 ·rename_i hn
  have hm:=mb hp;rw [if_pos hn,←EC];exact ⟨jM hg hm _ q h,pV hg hm _ q h⟩
 rename_i hn
 rw [if_neg hn];exact ⟨jM hg hp _ q h,pV hg hp _ q h⟩
theorem yX {a b:Int} {l:List Pt} {n:List Int} (hg:good a b=true):∀ j s,gE a b l n j=some s->aV a b s.1 s.2.1 s.2.2=true/\da s.1 s.2.1 s.2.2=TJ a (PL l) (fun i=>n.getD i 0) j
 | 0,s,h=>by
  cases h
  exact ⟨kx a b,uF 0 0⟩
 | j+1,s,h=>by
  unfold gE IM at h;obtain ⟨s0,h0,h⟩:=Option.bind_eq_some_iff.1 h;obtain ⟨p,hp,h⟩:=Option.bind_eq_some_iff.1 h;obtain ⟨k,hk,h⟩:=Option.bind_eq_some_iff.1 h;obtain ⟨q,hq,h⟩:=Option.bind_eq_some_iff.1 h;obtain ⟨i1,i2⟩:=yX hg j s0 h0;unfold MW at hq
  split at hq
  ·rename_i hc
   rw [Bool.and_eq_true] at hc;obtain ⟨-,hpo⟩:=lc hc.1;obtain ⟨q1,q2⟩:=Gq hg hpo hq
   by_cases ha:dI a s0.1 s0.2.1 s0.2.2 q.1 q.2.1 q.2.2=true
   ·rw [if_pos ha] at h
    obtain rfl:=Option.some.inj h;refine ⟨nI (ae hg) i1 q1,?_⟩
    have e:n.getD j 0=k:=by rw [List.getD_eq_getElem?_getD,hk];rfl
    show _=r_.add a (TJ a (PL l) (fun i=>n.getD i 0) j) (ws a (n.getD j 0) (PL l j))
    rw [e,yR hp,←q2,←i2];exact sv hg i1 q1 ha
   rw [if_neg ha] at h;cases h
  cases hq
end M
end
section
open Go.RowKit open Gr M Rg Rw Wh
namespace M
def qJ (n:List Int) (i j:Nat):Int × Int:=(n.getD i 0*n.getD j 0*4096,n.getD i 0*n.getD j 0*4096)
def dj (n:List Int) (i:Nat) (r:List (Int × Int)) (s:Sp) (j:Nat):Sp:=(List.range j).foldl (fun s c=>fQ s (cn (some (qJ n i c)) (r[c]?))) s
def dV (n:List Int) (m:LD) (i:Nat):Sp:=(List.range i).foldl (fun s k=>dj n k (m.getD k []) s (m.getD k []).length) (some (0,0))
def rL (n:List Int) (m:LD):Sp:=cn (some (2048,2048)) (dV n m m.length)
theorem ej (n:List Int) (i:Nat) (r:List (Int × Int)) (s:Sp) (j:Nat):dj n i r s (j+1)=fQ (dj n i r s j) (cn (some (qJ n i j)) (r[j]?)):=by
 unfold dj;rw [List.range_succ,List.foldl_append];rfl
theorem gY {n:List Int} {m:LD} {i:Nat} {r:List (Int × Int)} (h:m[i]?=some r):dV n m (i+1)=dj n i r (dV n m i) r.length:=by
 have e:m.getD i []=r:=by rw [List.getD_eq_getElem?_getD,h];rfl
 unfold dV;rw [List.range_succ,List.foldl_append];simp only [List.foldl_cons,List.foldl_nil];rw [e]
theorem oh (n:List Int) (i:Nat) (r:List (Int × Int)):∀ j,dj n i r none j=none
 | 0=>rfl
 | j+1=>by rw [ej,oh n i r j];rfl
theorem oi {n:List Int} {i:Nat} {r:List (Int × Int)} {s:Sp} {j:Nat} (h:dj n i r s j=none):∀ k,j<=k->dj n i r s k=none
 | 0,hk=>by
  obtain rfl:j=0:=ω
  exact h
 | k+1,hk=>by
  rcases Nat.lt_or_ge k j with q | q
  ·obtain rfl:j=k+1:=ω
   exact h
  rw [ej,oi h k q];rfl
theorem qI {n:List Int} {m:LD} {i:Nat} (h:dV n m i=none):∀ k,i<=k->k<=m.length->dV n m k=none
 | 0,hk,_=>by
  obtain rfl:i=0:=ω
  exact h
 | k+1,hk,hl=>by
  rcases Nat.lt_or_ge k i with q | q
  ·obtain rfl:i=k+1:=ω
   exact h
  rw [gY (List.getElem?_eq_getElem (show k<m.length by omega)),qI h k q ω,oh]
theorem Aa {n:List Int} {m:LD} (h:dV n m m.length=none):rL n m=none:=by unfold rL;rw [h];rfl
theorem ll {n:List Int} {i:Nat} {r:List (Int × Int)} {s:Sp} (hs:LR s):∀ j,LR (dj n i r s j)
 | 0=>hs
 | j+1=>by rw [ej];exact tv
theorem D4:LR (some (0,0)):=fun p hp=>by
 exact VH
theorem iS {n:List Int} {m:LD}:∀ i,LR (dV n m i)
 | 0=>D4
 | i+1=>by
  unfold dV;rw [List.range_succ,List.foldl_append];exact ll (iS i) _
theorem mP {n:List Int} {k:Nat} (h:fits n k=true):n.length=k/\∀ x ∈ n,-12<=x/\x<=12:=by
 unfold fits at h;rw [Bool.and_eq_true,beq_iff_eq] at h;refine ⟨ω,fun x hx=>?_⟩;have:=List.all_eq_true.1 h.2 x hx;unfold ins at this;simp only [Bool.and_eq_true,decide_eq_true_eq] at this;exact this
theorem gG {n:List Int} {k i:Nat} (h:fits n k=true) (hi:i<k):n[i]?=some (n.getD i 0)/\-12<=n.getD i 0/\n.getD i 0<=12:=by
 obtain ⟨h1,h2⟩:=mP h;have e:n[i]?=some (n[i]' ω):=List.getElem?_eq_getElem ω
 have e2:n.getD i 0=n[i]' ω:=by rw [List.getD_eq_getElem?_getD,e];rfl
 rw [e2];exact ⟨e,h2 _ (List.getElem_mem _)⟩
theorem xu {x y:Int} (h1:-12<=x) (h2:x<=12) (h3:-12<=y) (h4:y<=12):-144<=x*y/\x*y<=144:=by
 have:=aH (x:=x) (y:=y) (m:=12) (n:=12);omega
theorem D2 {n:List Int} {k i j:Nat} (h:fits n k=true) (hi:i<k) (hj:j<k):LR (some (qJ n i j)):=fun p hp=>by
 have:qJ n i j=p:=Option.some.inj hp;subst this;obtain ⟨-,a1,a2⟩:=gG h hi;obtain ⟨-,b1,b2⟩:=gG h hj;have:=xu a1 a2 b1 b2;unfold qJ aJ;exact Qg
theorem Cm (s x q:Sp):gd (gd s.isSome (cn x q)).isSome (fQ s (gd s.isSome (cn x q)))=fQ s (cn x q):=by
 cases s with
 | none=>rfl
 | some p=>
 show gd (cn x q).isSome (fQ (some p) (cn x q))=fQ (some p) (cn x q)
 cases cn x q <;> rfl
theorem Ck (s x:Sp):gd s.isSome (cn x s)=cn x s:=by
 cases s with
 | none=>cases x <;> rfl
 | some p=>rfl
noncomputable def rg (a b:Int) (l:List Pt) (n:List Int):Bool:=ai a b l && fits n l.length
noncomputable def dg (a b:Int) (l:List Pt) (n:List Int):Sp:=if (rg a b l n && Ld a b l)=true then rL n (cf a b l) else none
theorem yZ {a b:Int} {l:List Pt} {n:List Int} (h:(rg a b l n && Ld a b l)=false):dg a b l n=none:=by unfold dg;rw [h];rfl
theorem ux {a b:Int} {l:List Pt} {n:List Int} (h:(rg a b l n && Ld a b l)=true):dg a b l n=rL n (cf a b l):=by unfold dg;rw [h];rfl
theorem pL:Kc (some (2048,2048))=1/\Kf (some (2048,2048))=2/\Kg (some (2048,2048))=1/\Kh (some (2048,2048))=2:=by
 have hf:=pJ (a:=2048) (g:=2048) (q:=2) (n:=1) δ δ δ δ
 have ho:iw 1 2=true:=δ
 rw [ho,if_pos rfl] at hf
 have k1:pn 2048=1:=by unfold pn;rw [hf];rfl
 have k2:pd 2048=2:=by unfold pd;rw [hf];rfl
 exact ⟨k1,k2,k1,k2⟩
end M
theorem ZD {p:Prop} (h:p:=by
 go_wp2_with (with_reducible refine Km (PL.out _ hxc.out) fun w4 hb4=>?_;replace B:=p_ B hb4)
 go_ret2;exact ⟨_,by rw [hfin.out];rfl,by rw [Tf.out];exact cZ.nil _ _,B⟩):p:=h
namespace M
noncomputable def dK (a b:Int) (l:List Pt):Bool:=ai a b l && Ld a b l
noncomputable def iH (a b:Int) (l:List Pt):N8:=if dK a b l=true then MS (cf a b l) else []
theorem km {a b:Int} {l:List Pt} (h:dK a b l=false):iH a b l=[]:=by unfold iH;rw [h];rfl
theorem qm {a b:Int} {l:List Pt} (h:dK a b l=true):iH a b l=MS (cf a b l):=by unfold iH;rw [h];rfl
theorem qk {a b:Int} {l:List Pt} (h:ai a b l=false):dK a b l=false:=by unfold dK;rw [h];rfl
theorem kE {a b:Int} {l:List Pt} (h:ai a b l=true):dK a b l=Ld a b l:=by unfold dK;rw [h];rfl
theorem xY {a b:Int} {l:List Pt} (h:ai a b l=true):iH a b l=mY a b l:=by
 cases h2:Ld a b l with
 | true=>rw [qm (by rw [kE h,h2]),qg h2]
 | false=>rw [km (by rw [kE h,h2]),vV h2]
end M
theorem lL (a b:Int) (v:Value) (l:List Pt) (w:World) (hx:dC w v l) (hn:l.length<=4000000) :
  Calls prog 6 #[.agg #[a,b],v] w fun e w'=>∃ mv,e=.returned (.tuple #[mv,dK a b l])/\cZ w' w mv (iH a b l)/\Below w w w':=by
 have PL:=fun W h=>gj a b v l W h hn
 have PM:=fun (hp:ai a b l=true) W h=>jC a b v l W h (aX hp).1 (aX hp).2.2.1 (aX hp).2.2.2
 have e1:=fun h=>qk (a:=a) (b:=b) (l:=l) h
 have e2:=fun h=>kE (a:=a) (b:=b) (l:=l) h
 have e3:=fun h=>xY (a:=a) (b:=b) (l:=l) h
 have e4:=fun h=>km (a:=a) (b:=b) (l:=l) h
 replace hx:=KO hx;obtain ⟨wc,hw3,C,B⟩:=cJ w #[a,b] 24;have hxc:=KO (hx.out.below B);have f_:=C.box.c0;have j_:=C.box.c1
 cases hp:ai a b l with
 | false=>
  rw [hp] at PL;have hfin:=KO (e1 hp);have Tf:=KO (e4 hfin.out);replace PL:=KO PL;clear PM e1 e2 e3 e4 hp;go_enter func6,ntmps6
  exact ZD
 | true=>
 rw [hp] at PL;replace PM:=PM hp;rw [e2 hp,e3 hp];replace PL:=KO PL;replace PM:=KO PM;clear e1 e2 e3 e4 hp;generalize mY a b l=rows,M.Ld a b l=ok at *;go_enter func6,ntmps6
 go_wp2_with first | (with_reducible refine Km (PL.out _ hxc.out) fun w4 hb4=>?_;replace ⟨B,C⟩:=Kt hb4 B C;replace hxc:=KO (hxc.out.below hb4);have f_:=C.box.c0;have j_:=C.box.c1) | ((with_reducible refine (PM.out _ hxc.out).mono ?_);rintro e w5 ⟨mv,rfl,hM,hb5⟩;have hbs:=B.size;replace hM:=KO (hM.base hbs);replace B:=p_ B hb5)
 go_ret2;exact ⟨_,rfl,hM.out,B⟩
theorem fz (a b:Int) (v:Value) (l:List Pt) (w:World) (hx:dC w v l) (hn:l.length<=4000000) :
  Calls prog 5 #[.agg #[a,b],v] w fun e w'=>∃ mv,e=.returned (.tuple #[mv,dK a b l])/\cZ w' w mv (iH a b l)/\Below w w w':=by
 have PL:=fun W h=>er a b v l W h hn
 have PM:=fun (hp:ai a b l=true) W h=>fy a b v l W h (aX hp).1 (aX hp).2.2.1 (aX hp).2.2.2
 have hpl:=fun h=>aX (a:=a) (b:=b) (l:=l) h
 have e1:=fun h=>qk (a:=a) (b:=b) (l:=l) h
 have e2:=fun h=>kE (a:=a) (b:=b) (l:=l) h
 have e3:=fun h=>qm (a:=a) (b:=b) (l:=l) h
 have e4:=fun h=>km (a:=a) (b:=b) (l:=l) h
 have K8:=fun h=>fh (a:=a) (b:=b) (l:=l) h
 have hok:=fun h=>gq (a:=a) (b:=b) (l:=l) h
 replace hx:=KO hx;obtain ⟨wc,hw3,C,B⟩:=cJ w #[a,b] 24;have hxc:=KO (hx.out.below B);have f_:=C.box.c0;have j_:=C.box.c1
 cases hp:ai a b l with
 | false=>
  rw [hp] at PL;have hfin:=KO (e1 hp);have Tf:=KO (e4 hfin.out);replace PL:=KO PL;clear PM e1 e2 e3 e4 hp K8 hok hpl;go_enter func5,ntmps5
  exact ZD
 | true=>
 rw [hp] at PL;obtain ⟨-,hl1,hl4,-⟩:=hpl hp;replace PM:=PM hp;have e2:=e2 hp;replace PL:=KO PL
 cases hm:M.Ld a b l with
 | false=>
  rw [hm] at PM e2;have hfin:=KO e2;have Tf:=KO (e4 hfin.out);replace PM:=KO PM;clear e1 e2 e3 e4 hp K8 hok hpl hm;go_enter func5,ntmps5
  go_wp2_with first | (with_reducible refine Km (PL.out _ hxc.out) fun w4 hb4=>?_;replace ⟨B,C⟩:=Kt hb4 B C;replace hxc:=KO (hxc.out.below hb4);have f_:=C.box.c0;have j_:=C.box.c1) | ((with_reducible refine (PM.out _ hxc.out).mono ?_);rintro e w5 ⟨mv,rfl,hM,hb5⟩;replace B:=p_ B hb5)
  go_ret2;exact ⟨_,by rw [hfin.out];rfl,by rw [Tf.out];exact cZ.nil _ _,B⟩
 | true=>
 rw [hm] at PM e2;have hfin:=KO e2;have Tf:=KO (e3 hfin.out);replace K8:=K8 hm;replace hok:=hok hm;replace PM:=KO PM;clear e1 e2 e3 e4 hp hpl hm
 obtain ⟨N,hN⟩:∃ N,N=l.length:=⟨_,rfl⟩
 rw [←hN] at hl1 hl4 K8
 obtain ⟨rows,hrows⟩:∃ r,r=cf a b l:=⟨_,rfl⟩
 rw [←hrows] at K8 hok PM Tf;clear hrows hN;have hml:=KO K8.1;have hmr:=KO K8.2;have hok:=KO hok;have hil:=KO ((pM rows).trans K8.1);clear K8;go_enter func5,ntmps5
 go_wp2_with first | (with_reducible refine Km (PL.out _ hxc.out) fun w4 hb4=>?_;replace ⟨B,C⟩:=Kt hb4 B C;replace hxc:=KO (hxc.out.below hb4);have f_:=C.box.c0;have j_:=C.box.c1) | ((with_reducible refine (PM.out _ hxc.out).mono ?_);rintro e w5 ⟨mv,rfl,⟨vs,hM⟩,hb5⟩;have hbs:=B.size;replace B:=p_ B hb5;clear C hxc f_ j_;obtain ⟨gm,OK,rfl,hcm,hcm2,hgm⟩:=hM.form (fun h=>by have:=hml.out;rw [h] at this;simp only [List.length_nil] at this;omega);(rw [hml.out] at hM hcm ⊢);replace hM:=KO hM)
 have QL:=B.size
 go_loopw [8,30] (fun vo vi wr=>∃ (i:Nat) (u:Value),i<=N/\vi=.int .i64 (i:Int)/\u=vo/\Hid (cZ wr w5 u ((M.MS rows).take i))/\Below w5 w5 wr) (fun _ vi _=>N - (intOf vi).toNat)
 case atStart=>exact ⟨0,_,Nat.zero_le _,rfl,rfl,KO (cZ.nil _ _),KS _ _⟩
 case round=>
 obtain ⟨i,vo,hi,rfl,rfl,hrow,Bi⟩:=hrel;have Lb:=KO (hM.out.below Bi)
 by_cases hlt:i<N
 ·obtain ⟨r,hr⟩:∃ r,rows[i]?=some r:=⟨_,List.getElem?_eq_getElem (by have:=hml.out;omega)⟩
  have hrl:r.length=N:=hmr.out r (List.mem_of_getElem? hr);obtain ⟨gi,Kn,My,hci,hgi⟩:=Lb.out.rowIs hr (fun h=>by rw [h] at hrl;simp only [List.length_nil] at hrl;omega);have O_:=Lb.out.iD My;have FR:=KO (Lb.out.rowFrom My hr);rw [hrl] at O_;have hro:=KO (hok.out r (List.mem_of_getElem? hr));have hcell:=xU hr
  obtain ⟨rN,Ng⟩:∃ x,x=r.map fun q=>M.Mo (some q):=⟨_,rfl⟩
  rw [←Ng] at hcell;have hnx:=KO (M.fW hcell)
  have MF:rN.length=N:=by rw [Ng,List.length_map];exact hrl
  have Ng:=KO Ng;have MF:=KO MF;have hrl:=KO hrl;clear hcell My hci hr;generalize hwo:wr=wo at *;clear hwo;go_wp2
  go_loopw [11,36] (fun vr vk wq=>∃ (k:Nat) (u:Value),k<=N/\vk=.int .i64 (k:Int)/\u=vr/\Hid (Rw.Own EN wq wo u (rN.take k))/\Below wo wo wq) (fun _ vk _=>N - (intOf vk).toNat)
  case atStart=>exact ⟨0,_,Nat.zero_le _,rfl,rfl,KO (Rw.Own.nil EN _ _),KS _ _⟩
  case round=>
  obtain ⟨k,vr,hk,rfl,rfl,hown,Bq⟩:=hrel
  by_cases hlt2:k<N
  ·obtain ⟨q,hq⟩:∃ q,r[k]?=some q:=⟨_,List.getElem?_eq_getElem (by have:=hrl.out;omega)⟩
   obtain ⟨d0,d1⟩:=(FR.out.below Bq).at2 hq
   have Ts:rN[k]?=some (M.Mo (some q)):=by rw [Ng.out,List.getElem?_map,hq];rfl
   have Qr:=hro.out q (List.mem_of_getElem? hq);have hnk:=KO (M.fW Ts)
   have PI:=fun W=>jD q.1 q.2 true W
   rw [Qr] at PI
   have hlen:(rN.take k).length<=4:=by rw [List.length_take];omega
   have hlen:=KO hlen;clear hq Ts Qr
   obtain ⟨p1,p2,p3,p4⟩:True/\True/\True/\True:=⟨trivial,trivial,trivial,trivial⟩
   replace hnk:Hid (rN.take (k+1)=rN.take k ++ [(M.pick (true && true) (M.pn q.1),M.pick (true && true) (M.pd q.1),M.pick (true && true) (M.pn q.2),M.pick (true && true) (M.pd q.2))]):=hnk;generalize M.pick (true && true) (M.pd q.2)=i4,M.pick (true && true) (M.pn q.2)=i3,M.pick (true && true) (M.pd q.1)=i2,M.pick (true && true) (M.pn q.1)=i1 at *;obtain ⟨q1,q2⟩:=q;simp only [] at d0 d1 PI;replace PI:=KO PI;have Bs:=(KS wr wr).alloc (KT _) (.cells #[q1,q2] 72);have UE:=Bq.size
   go_wp2_with first | (with_reducible refine G_ PI fun w7 KY=>?_;have V:=aG.new w7 #[i1,i2,i3,i4] 34;(have ⟨v0,v1,v2,v3,_,_,_,_,_⟩:=V.aI);replace Bs:=(p_ Bs KY).alloc (Nat.le_trans Bs.size KY.size) (.cells #[i1,i2,i3,i4] 34)) | (at_builtin;refine Rw.push ro (W:=wo) wo.heap.size [(i1,i2,i3,i4)] _ _ (some ⟨w7.heap.size+1,0,none⟩) 1 1 rfl rfl (.tmp 45) (.tmp 47) rfl rfl rfl (Rw.From.lit EN _ (i1,i2,i3,i4) (w7.heap.size+1) (KQ _ _)) (Rw.Own.alloc (hown.out.below Bs) _) ((p_ Bq Bs).alloc (Nat.le_trans UE Bs.size) _) (by rw [KQ];exact Nat.le_succ_of_le (Nat.le_trans UE Bs.size)) (by have:=hlen.out;simp only [List.length_cons,List.length_nil];omega) ?_;intro v8 w8 XA Ko)
   go_roundw
   case rel=>exact ⟨k+1,_,ω,ν,rfl,by rw [hnk.out];exact KO XA,Ko⟩
   case measure=>simp [intOf] <;> omega
  obtain rfl:N=k:=ω
  have hown2:=hown.out;rw [List.take_of_length_le (by rw [MF.out];omega)] at hown2
  obtain ⟨g4,c4,rfl⟩:∃ g4 c4,vr=Value.slice (some ⟨g4,0,none⟩) N c4:=by
   rcases hown2.forms with ⟨-,h4⟩ | ⟨g4,c4,h4,-⟩
   ·have:=MF.out;rw [h4] at this;simp only [List.length_nil] at this;omega
   rw [MF.out] at h4;exact ⟨g4,c4,h4⟩
  obtain ⟨vs2,L5⟩:=hrow.out;have hfr:=L5.fresh hown2 (KT _);have XJ:=L5.below Bq;have hrw:=hown2.down Bi.size;have Bw:=p_ Bi Bq
  have hlen:((M.MS rows).take i).length<=1000000000:=by rw [List.length_take];omega
  clear hown2 L5 hown
  go_wp2_with (at_builtin;refine sc (W:=w5) w5 _ _ vs2 _ _ wr rfl rfl (.tmp 50) (.tmp 52) rfl rfl rfl XJ hrw hfr Bw Bw.size hlen ?_;intro v9 w9 XB Kr)
  go_roundw
  case rel=>exact ⟨i+1,_,ω,ν,rfl,KO ⟨_,by rw [hnx.out];exact XB⟩,Kr⟩
  case measure=>simp [intOf] <;> omega
 obtain rfl:N=i:=ω
 have Mr:cZ wr w5 vo (M.MS rows):=by
  have h:=hrow.out;rw [List.take_of_length_le (by rw [hil.out];omega)] at h;exact h
 have Mr:=KO (Mr.base QL);clear hrow Lb;go_wp2;go_ret2;exact ⟨_,by rw [hfin.out];rfl,by rw [Tf.out];exact Mr.out,p_ B Bi⟩
end
section
open Go.RowKit open Gr M
def bs (l:List UInt8):ByteArray:=⟨l.toArray⟩
theorem kX (l:List UInt8):(bs l).size=l.length:=by simp [bs,ByteArray.size]
theorem nM (l m:List UInt8):bs l ++ bs m=bs (l ++ m):=by unfold bs;rw [ByteArray.mk_append_mk]
theorem ya (W:World) (b:Nat) (x:Int) (h:W.cell? ⟨b,0,none⟩=some (.int .u8 x)) :
  (convert 22 9 (.slice (some ⟨b,0,none⟩) 1 1)).run prog W=.ok (.string (bs [UInt8.ofNat x.toNat])) W:=by
 rw [run_convert_bytes_arg (P:=prog) W 22 5 Tryz.underlying22 Tryz.underlying5 b 0 1 1 [x] rfl (fun i hi=>by
  obtain rfl:i=0:=ω
  exact h) 9 Tryz.underlying9]
 rfl
theorem kY {n:Nat} (h:n<10):Lib.decDigits n=[UInt8.ofNat (48+n)]:=Lib.decDigits_one h
theorem yc {n:Nat} (h:¬ n<10):Lib.decDigits n=Lib.decDigits (n / 10) ++ [UInt8.ofNat (48+n % 10)]:=by rw [Lib.decDigits,dif_neg h]
end
section
open Go.RowKit open Gr M Rw
def Tab (B:Nat) (w:World):Prop:=Lib.TabBelow prog B w "internal/strconv.uint64pow10" .u64 Lib.pow10Tab
theorem Tab.at {B:Nat} {w w':World} (h:Tab B w) (hb:Below B w w'):Tab B w':=fun W hW=>h W (hb.trans hW)
end
section
open Go.RowKit open Gr M
theorem mJ {n:Nat} (h:n<10000000000):(Lib.decDigits n).length<=10:=by
 have go:∀ (k m:Nat),m<10 ^ (k+1)->(Lib.decDigits m).length<=k+1:=by
  intro k
  induction k with
  | zero=>intro m hm;rw [kY ω];simp
  | succ k ih=>
  intro m hm
  by_cases h10:m<10
  ·rw [kY h10];simp
  rw [yc h10,List.length_append];have:=ih (m / 10) (by rw [Nat.pow_succ] at hm;omega);simp only [List.length_singleton];omega
 exact go 9 n h
theorem qc (k:Nat):∀ (n:Nat) (w:World),n<=k->n<10000000000->
  cB 124 #[n] w (.string (bs (Lib.decDigits n))):=by
 induction k with
 | zero=>
  intro n w hk hn
  obtain rfl:n=0:=ω
  have hc:=ya (w.alloc (.cells #[.int .u8 48] 5)) w 48 (mH _ _ _ _);rw [show Lib.decDigits 0=[UInt8.ofNat (48:Int).toNat] from kY ω];generalize bs [UInt8.ofNat (48:Int).toNat]=c at *;go_enter func124,ntmps124
  go_wp2_with fail
  go_ret;exact ⟨rfl,LV⟩
 | succ k ih=>
 intro n w hk hn
 by_cases h10:n<10
 ·have hc:=ya (w.alloc (.cells #[.int .u8 (48+(n:Int))] 5)) w (48+(n:Int)) (mH _ _ _ _)
  rw [show (48+(n:Int)).toNat=48+n by omega] at hc;rw [kY h10];generalize bs [UInt8.ofNat (48+n)]=c at *;go_enter func124,ntmps124
  go_wp2_with fail
  go_ret;exact ⟨rfl,LV⟩
 have hc:=fun W b=>ya W b (48+((n % 10:Nat):Int))
 rw [show (48+((n % 10:Nat):Int)).toNat=48+n % 10 by omega] at hc
 have hcA:=fun (W:World)=>ya (W.alloc (.cells #[.int .u8 (48+((n % 10:Nat):Int))] 5)) W (48+((n % 10:Nat):Int)) (mH _ _ _ _)
 rw [show (48+((n % 10:Nat):Int)).toNat=48+n % 10 by omega] at hcA
 have hI:∀ (x:Int) (w:World),x=((n / 10:Nat):Int)->cB 124 #[x] w (.string (bs (Lib.decDigits (n / 10)))):=fun x w hx=>by subst hx;exact ih (n / 10) w ω ω
 have hI:=KO hI;have hl:=mJ (n:=n / 10) ω
 have hadd:∀ W,(Op.stringOp .add (bs (Lib.decDigits (n / 10))) (bs [UInt8.ofNat (48+n % 10)])).run prog W=.ok (.string (bs (Lib.decDigits n))) W:=fun W=>by
  rw [run_string_add_sum _ _ _ (by rw [kX,kX];simp;omega),nM,←yc h10]
 have hm1:((n:Int) % 10)=((n % 10:Nat):Int):=ω
 have hm2:((n:Int) / 10)=((n / 10:Nat):Int):=ω
 generalize hq:n / 10=q at *;generalize hr:n % 10=r at *;generalize bs [UInt8.ofNat (48+r)]=c,bs (Lib.decDigits n)=t,bs (Lib.decDigits q)=s at *
 have hr10:r<10:=ω
 have ht:(n:Int).tmod 10=(r:Int):=by rw [Int.tmod_eq_emod_of_nonneg ω];exact hm1
 have hw1:IntKind.i64.wrap (q:Int)=q:=IntWalk.i64_in _ ω;have hw2:IntKind.i64.wrap (48+(r:Int))=48+r:=IntWalk.i64_in _ ω
 have hw3:IntKind.u8.wrap (48+(r:Int))=48+r:=by rw [IntKind.wrap_u8];omega
 go_enter func124,ntmps124
 go_wp2_with fail
 go_region_with (first | (go_at_call 124;refine (hI.out _ _ (by first | rfl | exact hw1 | omega)).mono ?_;rintro e w' ⟨rfl,hb⟩;have O8:=hb.size;(try simp only [KQ,bE] at O8);(first | have hk_:=hc _ _ (aE hb (mH _ _ _ 0)) | skip)))
 all_goals
  go_wp2_with fail
  go_ret;exact ⟨rfl,LV⟩
theorem ek {n:Int} (h1:-10000000000<n) (h2:n<10000000000):(Lib.itoa n).length<=11:=by
 unfold Lib.itoa
 split
 ·have:=mJ (n:=n.natAbs) ω
  simp only [List.length_cons];omega
 have:=mJ (n:=n.toNat) ω;omega
theorem Dm (n:Int) (w:World) (h1:-10000000000<n) (h2:n<10000000000) :
  cB 123 #[n] w (.string (bs (Lib.itoa n))):=by
 by_cases hn:n<0
 ·obtain ⟨q,rfl⟩:∃ q:Nat,n=-(q:Int):=⟨n.natAbs,ω⟩
  have hl:=mJ (n:=q) ω
  have hI:∀ (x:Int) (w:World),x=(q:Int)->cB 124 #[x] w (.string (bs (Lib.decDigits q))):=fun x w hx=>by subst hx;exact qc q q w (KT _) ω
  have hI:=KO hI
  have hadd:∀ W,(Op.stringOp .add (ByteArray.mk #[45]) (bs (Lib.decDigits q))).run prog W=.ok (.string (bs (Lib.itoa (-(q:Int))))) W:=fun W=>by
   rw [Lib.itoa_neg q ω];have e:ByteArray.mk #[45]=bs [45]:=rfl;rw [e,run_string_add_sum _ _ _ (by rw [kX,kX];simp;omega),nM];rfl
  generalize bs (Lib.decDigits q)=s at *;generalize bs (Lib.itoa (-(q:Int)))=t at *;go_enter func123,ntmps123
  go_wp2_with (go_at_call 124;refine (hI.out _ _ ω).mono ?_;rintro e w' ⟨rfl,hb⟩)
  go_ret;exact ⟨rfl,LV⟩
 obtain ⟨q,rfl⟩:∃ q:Nat,n=(q:Int):=⟨n.toNat,ω⟩
 have hI:=KO fun w=>qc q q w (KT _) ω
 rw [Lib.itoa_nonneg q];generalize bs (Lib.decDigits q)=s at *;go_enter func123,ntmps123
 go_wp2_with (go_at_call 124;refine (hI.out _).mono ?_;rintro e w' ⟨rfl,hb⟩)
 go_ret;exact ⟨rfl,LV⟩
end
section
open Go.RowKit open Gr M Rg Rw Wh
theorem Y4 {p:Prop} (h:p:=by intro vals wz hB hv hne;have LG:vals 10=.string s5:=hv 10 δ;simp only [bD,Rg.fill,Act.put,Nat.reduceAdd];clear hv;simp only [LG];clear LG;unfold aU;go_wp2;go_ret;exact ⟨rfl,p_ B hB⟩):p:=h
theorem Y8 {p:Prop} (h:p:=by intro vals wz hB hv hne;have Od:vals 8=.string s4:=hv 8 δ;simp only [bD,Rg.fill,Act.put,Nat.reduceAdd];clear hv;simp only [Od];clear Od;unfold aU;go_wp2;go_ret;exact ⟨rfl,p_ B hB⟩):p:=h
theorem SD {p:Prop} (h:p:=by simp only [List.length_append,List.length_singleton];omega):p:=h
namespace M
noncomputable def LQ (n d:Int):List UInt8:=if d=1 then Lib.itoa n else Lib.itoa n ++ [47] ++ Lib.itoa d
noncomputable def QY (a b c d:Int):List UInt8:=[91] ++ LQ a b ++ [44] ++ LQ c d ++ [93]
theorem HU {n:Int}:LQ n 1=Lib.itoa n:=if_pos rfl
theorem HV {n d:Int} (h:d≠1):LQ n d=Lib.itoa n ++ [47] ++ Lib.itoa d:=if_neg h
theorem kd {n d:Int} (h1:-10000000000<n) (h2:n<10000000000) (h3:-10000000000<d) (h4:d<10000000000):(LQ n d).length<=23:=by
 have l1:=ek h1 h2;have l2:=ek h3 h4;unfold LQ
 split
 ·omega
 exact SD
theorem Fn {a b c d:Int} (h1:-10000000000<a) (h2:a<10000000000) (h3:-10000000000<b) (h4:b<10000000000) (h5:-10000000000<c) (h6:c<10000000000) (h7:-10000000000<d) (h8:d<10000000000):(QY a b c d).length<=49:=by
 have l1:=kd h1 h2 h3 h4;have l2:=kd h5 h6 h7 h8;unfold QY;exact SD
end M
theorem gA {l m:List UInt8} (h:l.length+m.length<=1000000) (W:World):(Op.stringOp .add (bs l) (bs m)).run prog W=.ok (.string (bs (l ++ m))) W:=by
 rw [run_string_add_sum _ _ _ (by rw [kX,kX];omega),nM]
theorem yx (n:Int) (B:Nat) (w:World) (ht:Tab B w) (h0:-10000000000<n) (h1:n<10000000000) :
  cB 122 #[n] w (.string (bs (Lib.itoa n))):=
 (Tryz.strconv_Itoa n ω ω w (Lib.TabBelow.here ht)).mono fun e w' ⟨he,k,os,hw⟩=>⟨he,by rw [hw];exact Lib.below_grow _ _ (KT _) k os⟩
theorem Dn (d:Int) (w:World) (h0:0<=d) (h1:d<10000000000):cB 124 #[d] w (.string (bs (Lib.itoa d))):=by
 obtain ⟨q,rfl⟩:∃ q:Nat,d=(q:Int):=⟨d.toNat,ω⟩
 rw [Lib.itoa_nonneg q];exact qc q q w (KT _) ω
theorem vJ (n d:Int) (w:World) (h1:-10000000000<n) (h2:n<10000000000) (h3:0<=d) (h4:d<10000000000) :
  cB 76 #[.agg #[n,d]] w (.string (bs (M.LQ n d))):=by
 have l1:=ek h1 h2;have l2:=ek (n:=d) ω h4;obtain ⟨wc,hw3,C,B⟩:=cJ w #[n,d] 32;have c0:=C.box.c0;have c1:=C.box.c1
 have HI:=fun W=>Dm n W h1 h2
 have HN:=fun W=>Dn d W h3 h4
 by_cases hd:d=1
 ·subst hd
  rw [HU];generalize bs (Lib.itoa n)=s1 at *;replace HI:=KO HI;clear HN l1 l2;go_enter func76,ntmps76
  go_wp2_with (go_at_call 123;(refine (HI.out _).mono ?_);rintro e w4 ⟨rfl,hb4⟩;replace B:=p_ B hb4)
  go_ret;exact ⟨rfl,B⟩
 rw [HV hd]
 have A1:∀ W,(Op.stringOp .add (bs (Lib.itoa n)) (ByteArray.mk #[47])).run prog W=.ok (.string (bs (Lib.itoa n ++ [47]))) W:=fun W=>gA (m:=[47]) (by simp;omega) W
 have A2:∀ W,(Op.stringOp .add (bs (Lib.itoa n ++ [47])) (bs (Lib.itoa d))).run prog W=.ok (.string (bs (Lib.itoa n ++ [47] ++ Lib.itoa d))) W:=fun W=>gA (by simp;omega) W
 generalize bs (Lib.itoa d)=s3,bs (Lib.itoa n)=s1,bs (Lib.itoa n ++ [47])=s2,bs (Lib.itoa n ++ [47] ++ Lib.itoa d)=s4 at *;replace HI:=KO HI;replace HN:=KO HN;clear l1 l2;have hd1:(d == 1)=false:=beq_eq_false_iff_ne.2 hd;go_enter func76,ntmps76
 go_upto_region 3 with fail
 refine be 9 [.is (.pointer (some ⟨w.heap.size,0,none⟩)),.is n,.is (.string s1),.is (.string s2),.is (.pointer (some ⟨w.heap.size,1,none⟩)),.is d,.is (.string s3),.is (.string s4),.is (.string s4)] κ κ κ ⟨?_,?_,?_,?_,?_,?_,?_,?_,?_,trivial⟩ ?_
 all_goals try ((first | (refine Rg.b1 ?_;intro zZ w_ hB e) | (refine Rg.b2 ?_;intro zZ w_ hB e f));have kz:=aE hB c0;have ec:=Rg.ec zZ;have kz:=aE hB c1;(go_simp;done))
 ·refine Rg.o1 ?_;intro zZ w_ hB e
  have ef:=Rg.ef zZ;exact bO rfl γ (HI.out _)
 ·refine Rg.o1 ?_;intro zZ w_ hB e
  have ef:=Rg.ef zZ;exact bO rfl γ (HN.out _)
 exact Y8
theorem Dg (a b c d:Int) (w:World) (h1:-10000000000<a) (h2:a<10000000000) (h3:0<=b) (h4:b<10000000000) (h5:-10000000000<c) (h6:c<10000000000) (h7:0<=d) (h8:d<10000000000) :
  cB 36 #[.agg #[a,b,c,d]] w (.string (bs (M.QY a b c d))):=by
 have l1:=kd h1 h2 (show -10000000000<b by omega) h4;have l2:=kd h5 h6 (show -10000000000<d by omega) h8;obtain ⟨wc,hw3,C,B⟩:=cJ w #[a,b,c,d] 34;have ⟨c0,c1,c2,c3,_,_,_,_,_⟩:=C.aI
 have P1:=fun W=>vJ a b W h1 h2 h3 h4
 have P2:=fun W=>vJ c d W h5 h6 h7 h8
 unfold M.QY
 have A1:∀ W,(Op.stringOp .add (ByteArray.mk #[91]) (bs (M.LQ a b))).run prog W=.ok (.string (bs ([91] ++ M.LQ a b))) W:=fun W=>gA (l:=[91]) (by simp;omega) W
 have A2:∀ W,(Op.stringOp .add (bs ([91] ++ M.LQ a b)) (ByteArray.mk #[44])).run prog W=.ok (.string (bs ([91] ++ M.LQ a b ++ [44]))) W:=fun W=>gA (m:=[44]) (by simp;omega) W
 have A3:∀ W,(Op.stringOp .add (bs ([91] ++ M.LQ a b ++ [44])) (bs (M.LQ c d))).run prog W=.ok (.string (bs ([91] ++ M.LQ a b ++ [44] ++ M.LQ c d))) W:=fun W=>gA (by simp;omega) W
 have A4:∀ W,(Op.stringOp .add (bs ([91] ++ M.LQ a b ++ [44] ++ M.LQ c d)) (ByteArray.mk #[93])).run prog W=.ok (.string (bs ([91] ++ M.LQ a b ++ [44] ++ M.LQ c d ++ [93]))) W:=fun W=>gA (m:=[93]) (by simp;omega) W
 generalize bs (M.LQ c d)=t2,bs (M.LQ a b)=t1,bs ([91] ++ M.LQ a b)=s2,bs ([91] ++ M.LQ a b ++ [44])=s3,bs ([91] ++ M.LQ a b ++ [44] ++ M.LQ c d)=s4,bs ([91] ++ M.LQ a b ++ [44] ++ M.LQ c d ++ [93])=s5 at *;replace P1:=KO P1;replace P2:=KO P2;clear l1 l2;go_enter func36,ntmps36
 go_upto_region 1 with fail
 refine be 11 [.is (.pointer (some ⟨w.heap.size,0,none⟩)),.is (.agg #[a,b]),.is (.string t1),.is (.string s2),.is (.string s3),.is (.pointer (some ⟨w.heap.size,2,none⟩)),.is (.agg #[c,d]),.is (.string t2),.is (.string s4),.is (.string s5),.is (.string s5)] κ κ κ ⟨?_,?_,?_,?_,?_,?_,?_,?_,?_,?_,?_,trivial⟩ ?_
 all_goals try ((first | (refine Rg.b1 ?_;intro zZ w_ hB e) | (refine Rg.b2 ?_;intro zZ w_ hB e f));have kz:=aE hB c0;have kz:=aE hB c1;have ec:=Rg.ec zZ;have kz:=aE hB c2;have kz:=aE hB c3;(go_simp;done))
 ·refine Rg.o1 ?_;intro zZ w_ hB e
  have ef:=Rg.ef zZ;exact bO rfl γ (P1.out _)
 ·refine Rg.o1 ?_;intro zZ w_ hB e
  have ef:=Rg.ef zZ;exact bO rfl γ (P2.out _)
 exact Y4
theorem jp (n d:Int) (w:World) (hT:Tab w.heap.size w) (h1:-10000000000<n) (h2:n<10000000000) (h3:0<=d) (h4:d<10000000000) :
  cB 75 #[.agg #[n,d]] w (.string (bs (M.LQ n d))):=by
 have l1:=ek h1 h2;have l2:=ek (n:=d) ω h4;obtain ⟨wc,hw3,C,B⟩:=cJ w #[n,d] 32;have c0:=C.box.c0;have c1:=C.box.c1;have HT:=KO hT;clear hT
 have HI:=fun W (ht:Tab w.heap.size W)=>yx n w.heap.size W ht h1 h2
 have HN:=fun W (ht:Tab w.heap.size W)=>yx d w.heap.size W ht ω h4
 by_cases hd:d=1
 ·subst hd
  rw [HU];generalize bs (Lib.itoa n)=s1 at *;replace HI:=KO HI;clear HN l1 l2;go_enter func75,ntmps75
  go_wp2_with (go_at_call 122;(refine (HI.out _ (HT.out.at B)).mono ?_);rintro e w4 ⟨rfl,hb4⟩;replace B:=p_ B hb4)
  go_ret;exact ⟨rfl,B⟩
 rw [HV hd]
 have A1:∀ W,(Op.stringOp .add (bs (Lib.itoa n)) (ByteArray.mk #[47])).run prog W=.ok (.string (bs (Lib.itoa n ++ [47]))) W:=fun W=>gA (m:=[47]) (by simp;omega) W
 have A2:∀ W,(Op.stringOp .add (bs (Lib.itoa n ++ [47])) (bs (Lib.itoa d))).run prog W=.ok (.string (bs (Lib.itoa n ++ [47] ++ Lib.itoa d))) W:=fun W=>gA (by simp;omega) W
 generalize bs (Lib.itoa d)=s3,bs (Lib.itoa n)=s1,bs (Lib.itoa n ++ [47])=s2,bs (Lib.itoa n ++ [47] ++ Lib.itoa d)=s4 at *;replace HI:=KO HI;replace HN:=KO HN;clear l1 l2;have hd1:(d == 1)=false:=beq_eq_false_iff_ne.2 hd;go_enter func75,ntmps75
 go_upto_region 3 with fail
 refine be 9 [.is (.pointer (some ⟨w.heap.size,0,none⟩)),.is n,.is (.string s1),.is (.string s2),.is (.pointer (some ⟨w.heap.size,1,none⟩)),.is d,.is (.string s3),.is (.string s4),.is (.string s4)] κ κ κ ⟨?_,?_,?_,?_,?_,?_,?_,?_,?_,trivial⟩ ?_
 all_goals try ((first | (refine Rg.b1 ?_;intro zZ w_ hB e) | (refine Rg.b2 ?_;intro zZ w_ hB e f));have kz:=aE hB c0;have ec:=Rg.ec zZ;have kz:=aE hB c1;(go_simp;done))
 ·refine Rg.o1 ?_;intro zZ w_ hB e
  have ef:=Rg.ef zZ;exact bO rfl γ (HI.out _ (HT.out.at (p_ B hB)))
 ·refine Rg.o1 ?_;intro zZ w_ hB e
  have ef:=Rg.ef zZ;exact bO rfl γ (HN.out _ (HT.out.at (p_ B hB)))
 exact Y8
theorem qV (a b c d:Int) (w:World) (hT:Tab w.heap.size w) (h1:-10000000000<a) (h2:a<10000000000) (h3:0<=b) (h4:b<10000000000) (h5:-10000000000<c) (h6:c<10000000000) (h7:0<=d) (h8:d<10000000000) :
  cB 35 #[.agg #[a,b,c,d]] w (.string (bs (M.QY a b c d))):=by
 have l1:=kd h1 h2 (show -10000000000<b by omega) h4;have l2:=kd h5 h6 (show -10000000000<d by omega) h8;obtain ⟨wc,hw3,C,B⟩:=cJ w #[a,b,c,d] 34;have ⟨c0,c1,c2,c3,_,_,_,_,_⟩:=C.aI;have HT:=KO hT;clear hT
 have NA:∀ W,Below wc.heap.size wc W->Tab W.heap.size W:=fun W hW W' hW'=>HT.out W' ((p_ B hW).trans (hW'.mono (Nat.le_trans B.size hW.size)))
 replace NA:=KO NA
 have P1:=fun W (ht:Tab W.heap.size W)=>jp a b W ht h1 h2 h3 h4
 have P2:=fun W (ht:Tab W.heap.size W)=>jp c d W ht h5 h6 h7 h8
 unfold M.QY
 have A1:∀ W,(Op.stringOp .add (ByteArray.mk #[91]) (bs (M.LQ a b))).run prog W=.ok (.string (bs ([91] ++ M.LQ a b))) W:=fun W=>gA (l:=[91]) (by simp;omega) W
 have A2:∀ W,(Op.stringOp .add (bs ([91] ++ M.LQ a b)) (ByteArray.mk #[44])).run prog W=.ok (.string (bs ([91] ++ M.LQ a b ++ [44]))) W:=fun W=>gA (m:=[44]) (by simp;omega) W
 have A3:∀ W,(Op.stringOp .add (bs ([91] ++ M.LQ a b ++ [44])) (bs (M.LQ c d))).run prog W=.ok (.string (bs ([91] ++ M.LQ a b ++ [44] ++ M.LQ c d))) W:=fun W=>gA (by simp;omega) W
 have A4:∀ W,(Op.stringOp .add (bs ([91] ++ M.LQ a b ++ [44] ++ M.LQ c d)) (ByteArray.mk #[93])).run prog W=.ok (.string (bs ([91] ++ M.LQ a b ++ [44] ++ M.LQ c d ++ [93]))) W:=fun W=>gA (m:=[93]) (by simp;omega) W
 generalize bs (M.LQ c d)=t2,bs (M.LQ a b)=t1,bs ([91] ++ M.LQ a b)=s2,bs ([91] ++ M.LQ a b ++ [44])=s3,bs ([91] ++ M.LQ a b ++ [44] ++ M.LQ c d)=s4,bs ([91] ++ M.LQ a b ++ [44] ++ M.LQ c d ++ [93])=s5 at *;replace P1:=KO P1;replace P2:=KO P2;clear l1 l2;go_enter func35,ntmps35
 go_upto_region 1 with fail
 refine be 11 [.is (.pointer (some ⟨w.heap.size,0,none⟩)),.is (.agg #[a,b]),.is (.string t1),.is (.string s2),.is (.string s3),.is (.pointer (some ⟨w.heap.size,2,none⟩)),.is (.agg #[c,d]),.is (.string t2),.is (.string s4),.is (.string s5),.is (.string s5)] κ κ κ ⟨?_,?_,?_,?_,?_,?_,?_,?_,?_,?_,?_,trivial⟩ ?_
 all_goals try ((first | (refine Rg.b1 ?_;intro zZ w_ hB e) | (refine Rg.b2 ?_;intro zZ w_ hB e f));have kz:=aE hB c0;have kz:=aE hB c1;have ec:=Rg.ec zZ;have kz:=aE hB c2;have kz:=aE hB c3;(go_simp;done))
 ·refine Rg.o1 ?_;intro zZ w_ hB e
  have ef:=Rg.ef zZ;exact bO rfl γ (P1.out _ (NA.out _ hB))
 ·refine Rg.o1 ?_;intro zZ w_ hB e
  have ef:=Rg.ef zZ;exact bO rfl γ (P2.out _ (NA.out _ hB))
 exact Y4
end
section
open Go.RowKit Go.Shelf open Gr M Rg Rw Wh
theorem Yh {p:Prop} (h:p:=by
 obtain rfl:j=L:=ω
 have P_:=P_.out;rw [←hL.out] at P_;generalize bs (dG (V.take k) ++ (r.take j).flatMap M.MU)=s1 at *;go_wp2
 go_roundw
 case rel=>exact ⟨k+1,ω,ν,by rw [Hs9.out],hbr.trans (hbq.mono zr)⟩
 case measure=>simp [intOf];omega):p:=h
theorem Yl {p:Prop} (h:p:=by
 obtain rfl:k=N:=ω
 have hend:=KO (show V.take k=V by rw [hN.out,List.take_length]);rw [hend.out];generalize ST:bs (dG V)=s9 at *;have Hs9:=KO ST;clear ST hend;go_wp2;go_ret2;exact ⟨by rw [Hs9.out];rfl,p_ B hbr⟩):p:=h
theorem Ys {p:Prop} (h:p:=by
 have h1:=tj (rows:=V.take k) (fun r hr=>⟨by have:=(hrows r (List.mem_of_mem_take hr)).1;omega,(hrows r (List.mem_of_mem_take hr)).2⟩)
 have h2:(V.take k).length<=4:=by rw [List.length_take];omega
 omega):p:=h
theorem Zn {p:Prop} (h:p:=by
 have h1:=pT (r:=r.take j) (fun q hq=>hrq.out q (List.mem_of_mem_take hq))
 have h2:(r.take j).length<=4:=by rw [List.length_take];omega
 omega):p:=h
theorem was4 {p:Prop} (h:p:=by rw [wH hqj.out,←List.append_assoc];exact gA (m:=M.MU q) (by simp only [List.length_append];omega) W):p:=h
theorem wau7 {p:Prop} (h:p:=by exact ⟨j+1,ω,ν,by rw [Hs3.out],(bF hbq _).trans (hb6.mono (by simp;omega))⟩):p:=h
namespace M
noncomputable def MU (q:Int × Int × Int × Int):List UInt8:=QY q.1 q.2.1 q.2.2.1 q.2.2.2
noncomputable def dG (rows:N8):List UInt8:=rows.flatMap fun r=>r.flatMap MU ++ [10]
def qT (q:Int × Int × Int × Int):Prop:=-10000000000<q.1/\q.1<10000000000/\0<=q.2.1/\q.2.1<10000000000/\-10000000000<q.2.2.1/\q.2.2.1<10000000000/\0<=q.2.2.2/\q.2.2.2<10000000000
theorem vW {rows:N8} {k:Nat} {r:List (Int × Int × Int × Int)} (h:rows[k]?=some r):dG (rows.take (k+1))=dG (rows.take k) ++ r.flatMap MU ++ [10]:=by
 unfold dG;rw [fW h,List.flatMap_append,List.flatMap_singleton,List.append_assoc]
theorem wH {r:List (Int × Int × Int × Int)} {j:Nat} {q:Int × Int × Int × Int} (h:r[j]?=some q):(r.take (j+1)).flatMap MU=(r.take j).flatMap MU ++ MU q:=by
 rw [fW h,List.flatMap_append,List.flatMap_singleton]
theorem tZ {q:Int × Int × Int × Int} (h:qT q):(MU q).length<=49:=by
 obtain ⟨h1,h2,h3,h4,h5,h6,h7,h8⟩:=h;exact Fn h1 h2 ω h4 h5 h6 ω h8
theorem pT:∀ {r:List (Int × Int × Int × Int)},(∀ q ∈ r,qT q)->(r.flatMap MU).length<=49*r.length
 | [],_=>σ
 | q :: r,h=>by
  have h1:=tZ (h q (List.mem_cons_self ..));have h2:=pT (r:=r) (fun x hx=>h x (List.mem_cons_of_mem _ hx));rw [List.flatMap_cons,List.length_append,List.length_cons];omega
theorem tj:∀ {rows:N8},(∀ r ∈ rows,r.length<=4/\∀ q ∈ r,qT q)->(dG rows).length<=200*rows.length
 | [],_=>by simp [dG]
 | r :: rows,h=>by
  obtain ⟨h0,h1⟩:=h r (List.mem_cons_self ..);have h3:=pT h1;have h2:=tj (rows:=rows) (fun x hx=>h x (List.mem_cons_of_mem _ hx));unfold dG at *;rw [List.flatMap_cons];simp only [List.length_append,List.length_cons,List.length_nil];omega
theorem DR {q:Int × Int} (h:aJ q.1 q.2=true):qT (Mo (some q)):=by
 obtain ⟨h1,h2,h3⟩:=bM h;have g1:=iF (bC (a:=q.1) h2 ω);have g2:=iF (bC (a:=q.2) ω h3);obtain ⟨-,p1,p2,-,-,-,-,p3,p4⟩:=g1;obtain ⟨-,r1,r2,-,-,-,-,r3,r4⟩:=g2
 show -10000000000<pn q.1/\pn q.1<10000000000/\0<=pd q.1/\pd q.1<10000000000/\-10000000000<pn q.2/\pn q.2<10000000000/\0<=pd q.2/\pd q.2<10000000000
 exact ⟨ω,ω,ω,ω,ω,ω,ω,ω⟩
theorem kj {a b:Int} {l:List Pt} (h:dK a b l=true):(iH a b l).length=l.length/\1<=l.length/\l.length<=4/\∀ r ∈ iH a b l,r.length=l.length/\∀ q ∈ r,qT q:=by
 rw [qm h];unfold dK at h;rw [Bool.and_eq_true] at h;obtain ⟨-,h1,h4,-⟩:=aX h.1;have hs:=fh h.2;have ho:=gq h.2;refine ⟨by rw [pM];exact hs.1,h1,h4,fun r hr=>?_⟩;unfold MS at hr;obtain ⟨s,hs1,rfl⟩:=List.mem_map.1 hr;refine ⟨by rw [List.length_map];exact hs.2 s hs1,fun q hq=>?_⟩;obtain ⟨t,ht,rfl⟩:=List.mem_map.1 hq;exact DR (ho s hs1 t ht)
end M
theorem cZ.form {w:World} {base:Nat} {v:Value} {rows:N8} (h:cZ w base v rows) (h1:1<=rows.length) (h2:∀ r ∈ rows,1<=r.length):∃ g cap,v=.slice (some ⟨g,0,none⟩) rows.length cap:=by
 match rows,h1,h2,h with
 | [] :: rows,_,h2,_=>have:=h2 [] (List.mem_cons_self ..);simp at this
 | (q :: r) :: rows,_,_,h=>
 obtain ⟨g,cap,-,-,e,-⟩:=h.at (i:=0) (j:=0) (r:=q :: r) (q:=q) rfl rfl;exact ⟨g,cap,e⟩
theorem cZ.oI {w:World} {base g n cap i:Nat} {rows:N8} {r:List (Int × Int × Int × Int)} (h:cZ w base (.slice (some ⟨g,0,none⟩) n cap) rows) (hr:rows[i]?=some r) (h0:1<=r.length) :
  ∃ g2 cap2,w.cell? ⟨g,i,none⟩=some (.slice (some ⟨g2,0,none⟩) r.length cap2)/\∀ j q,r[j]?=some q->w.cell? ⟨g2,j*4,none⟩=some (.int .i64 q.1)/\w.cell? ⟨g2,j*4+1,none⟩=some (.int .i64 q.2.1)/\w.cell? ⟨g2,j*4+2,none⟩=some (.int .i64 q.2.2.1)/\w.cell? ⟨g2,j*4+3,none⟩=some (.int .i64 q.2.2.2):=by
 have hq0:r[0]?=some r[0]:=List.getElem?_eq_getElem ω;obtain ⟨g',cap',g2,cap2,e,hc,-⟩:=h.at hr hq0
 injection e with e1 e2 e3
 injection e1 with e1
 injection e1 with e1
 subst e1;refine ⟨g2,cap2,hc,fun j q hq=>?_⟩;obtain ⟨g3,TF,g4,cap4,e,hc4,h1,h2,h3,h4⟩:=h.at hr hq
 injection e with e1 e2 e3
 injection e1 with e1
 injection e1 with e1
 subst e1;rw [hc] at hc4;have hc4:=Option.some.inj hc4
 injection hc4 with e1 e2 e3
 injection e1 with e1
 injection e1 with e1
 subst e1;exact ⟨h1,h2,h3,h4⟩
theorem oP (a b:Int) (v:Value) (l:List Pt) (w:World) (hx:dC w v l) (hn:l.length<=4000000) :
  cB 12 #[.agg #[a,b],v] w (.tuple #[.string (bs (dG (iH a b l))),dK a b l]):=by
 have e0:Hid (bs (dG [])=ByteArray.mk #[]):=KO rfl;obtain ⟨wc,hw3,C,B⟩:=cJ w #[a,b] 24;have hxc:=KO (hx.below B);have f_:=C.box.c0;have j_:=C.box.c1
 have PL:=fun W h=>gj a b v l W h hn
 have PM:=fun (hp:ai a b l=true) W h=>(xY hp) ▸ (kE hp) ▸ jC a b v l W h (aX hp).1 (aX hp).2.2.1 (aX hp).2.2.2
 have hn0:=fun (h:ai a b l=false)=>qk h
 have hv0:=fun (h:dK a b l=false)=>km h
 have hgood:=fun (h:dK a b l=true)=>kj h
 clear hx
 cases hp:ai a b l with
 | false=>
  rw [hn0 hp,hv0 (hn0 hp)];rw [hp] at PL;replace PL:=KO PL;clear PM hv0 hgood hn0 hp;generalize bs (dG [])=s0 at *;go_enter func12,ntmps12
  go_wp2_with (go_at_call 31;(refine (PL.out _ hxc.out).mono ?_);rintro e w3 ⟨rfl,hb3⟩;replace ⟨B,C⟩:=Kt hb3 B C;have hxd:=KO (hxc.out.below hb3);have f_:=C.box.c0;have j_:=C.box.c1)
  go_ret2;exact ⟨by rw [e0.out];rfl,B⟩
 | true=>
 rw [hp] at PL;replace PL:=KO PL;replace PM:=PM hp;clear hn0 hp
 cases hk:dK a b l with
 | false=>
  rw [hv0 hk] at PM ⊢;rw [hk] at PM;replace PM:=KO PM;clear hv0 hgood hk;generalize bs (dG [])=s0 at *;go_enter func12,ntmps12
  go_wp2_with first | (go_at_call 31;(refine (PL.out _ hxc.out).mono ?_);rintro e w3 ⟨rfl,hb3⟩;replace ⟨B,C⟩:=Kt hb3 B C;have hxd:=KO (hxc.out.below hb3);have f_:=C.box.c0;have j_:=C.box.c1) | (go_at_call 32;(refine (PM.out _ hxd.out).mono ?_);rintro e w4 ⟨mv,rfl,hM,hb4⟩;replace B:=p_ B hb4)
  go_ret2;exact ⟨by rw [e0.out];rfl,B⟩
 | true=>
 obtain ⟨hl,hl1,hl4,hrows⟩:=hgood hk;rw [hk] at PM;clear hv0 hgood hk;generalize iH a b l=V at *
 have hform:=KO fun W base mv (h:cZ W base mv V)=>h.form ω (fun r hr=>by have:=(hrows r hr).1;omega)
 obtain ⟨N,hN⟩:∃ N,N=V.length:=⟨_,rfl⟩
 have hN4:N<=4:=ω
 have HR:=KO (show ∀ r ∈ V,(1<=r.length/\r.length<=4)/\∀ q ∈ r,qT q from fun r hr=>⟨by have:=(hrows r hr).1;omega,(hrows r hr).2⟩)
 have HL:=KO (show ∀ k,(dG (V.take k)).length<=1000 from fun k=>by
  exact Ys)
 replace hN:=KO hN;replace PM:=KO PM;clear hl hl1 hl4 hrows;go_enter func12,ntmps12
 go_wp2_with first | (go_at_call 31;(refine (PL.out _ hxc.out).mono ?_);rintro e w3 ⟨rfl,hb3⟩;replace ⟨B,C⟩:=Kt hb3 B C;have hxd:=KO (hxc.out.below hb3);have f_:=C.box.c0;have j_:=C.box.c1) | (go_at_call 32;(refine (PM.out _ hxd.out).mono ?_);rintro e w4 ⟨mv,rfl,hM,hb4⟩;replace B:=p_ B hb4;obtain ⟨g,cap,rfl⟩:=hform.out _ _ _ hM;replace hM:=KO hM;(rw [←hN.out] at hM ⊢))
 go_loopw [8,27] (fun vs vi wr=>∃ k:Nat,k<=N/\vi=.int .i64 k/\vs=.string (bs (dG (V.take k)))/\Below w4.heap.size w4 wr) (fun _ vi _=>N - (intOf vi).toNat)
 case atStart=>exact ⟨0,ω,rfl,by rw [List.take_zero,e0.out],KS _ _⟩
 case round=>
 obtain ⟨k,hk,rfl,rfl,hbr⟩:=hrel;have zr:=hbr.size
 by_cases hlt:k<N
 ·obtain ⟨r,hr⟩:∃ r,Hid (V[k]?=some r):=⟨_,KO (List.getElem?_eq_getElem (by have:=hN.out;omega))⟩
  obtain ⟨⟨hr1,hr4⟩,hrq⟩:=HR.out r (List.mem_of_getElem? hr.out);obtain ⟨g2,cap2,e1,hq⟩:=(hM.out.below hbr).oI hr.out hr1;replace hq:=KO hq;replace hrq:=KO hrq;have hlk:=HL.out k
  have hrl:=KO (show ∀ j,((r.take j).flatMap M.MU).length<=200 from fun j=>by
   exact Zn)
  have P_:∀ W,(Op.stringOp .add (bs (dG (V.take k) ++ (r.take r.length).flatMap M.MU)) (ByteArray.mk #[10])).run prog W=.ok (.string (bs (dG (V.take (k+1))))) W:=fun W=>by
   rw [vW hr.out,List.take_length];refine gA (m:=[10]) ?_ W;have:=hrl.out r.length;rw [List.take_length] at this;exact SD
  have hs0:=KO (show bs (dG (V.take k))=bs (dG (V.take k) ++ (r.take 0).flatMap M.MU) by simp);rw [hs0.out];generalize ST:bs (dG (V.take (k+1)))=s9 at *;have Hs9:=KO ST;clear ST hs0;replace P_:=KO P_
  obtain ⟨L,hL⟩:∃ L,L=r.length:=⟨_,rfl⟩
  rw [←hL] at e1 hr4 hr1;replace hL:=KO hL;go_wp2
  go_loopw [8,33] (fun vs vj wq=>∃ j:Nat,j<=L/\vj=.int .i64 j/\vs=.string (bs (dG (V.take k) ++ (r.take j).flatMap M.MU))/\Below wr.heap.size wr wq) (fun _ vj _=>L - (intOf vj).toNat)
  case atStart=>exact ⟨0,ω,rfl,rfl,KS _ _⟩
  case round=>
  obtain ⟨j,hj,rfl,rfl,hbq⟩:=hrel;have zq:=hbq.size
  by_cases hjl:j<L
  ·obtain ⟨q,hqj⟩:∃ q,Hid (r[j]?=some q):=⟨_,KO (List.getElem?_eq_getElem (by have:=hL.out;omega))⟩
   obtain ⟨d0,d1,d2,d3⟩:=hq.out j q hqj.out;replace d0:=aE hbq d0;replace d1:=aE hbq d1;replace d2:=aE hbq d2;replace d3:=aE hbq d3;have Wy:=hrq.out q (List.mem_of_getElem? hqj.out);have hl1:=hrl.out j;have hl2:=tZ Wy;obtain ⟨u1,u2,u3,u4,u5,u6,u7,u8⟩:=Wy
   have IT:=fun W=>Dg q.1 q.2.1 q.2.2.1 q.2.2.2 W u1 u2 u3 u4 u5 u6 u7 u8
   have A1:∀ W,(Op.stringOp .add (bs (dG (V.take k) ++ (r.take j).flatMap M.MU)) (bs (M.QY q.1 q.2.1 q.2.2.1 q.2.2.2))).run prog W=.ok (.string (bs (dG (V.take k) ++ (r.take (j+1)).flatMap M.MU))) W:=fun W=>by
    exact was4
   generalize bs (dG (V.take k) ++ (r.take j).flatMap M.MU)=s1 at *;generalize hs3:bs (dG (V.take k) ++ (r.take (j+1)).flatMap M.MU)=s3 at *;have Hs3:=KO hs3;clear hs3 hl1 hl2 u1 u2 u3 u4 u5 u6 u7 u8;generalize bs (M.QY q.1 q.2.1 q.2.2.1 q.2.2.2)=s2 at *;replace IT:=KO IT;obtain ⟨q1,q2,q3,q4⟩:=q;simp only [] at d0 d1 d2 d3 IT;have Bq:=hbr.trans (hbq.mono zr)
   have Ba:=(bF Bq (.cells #[q1,q2,q3,q4] 34))
   go_wp2_with (go_at_call 36;(refine (IT.out _).mono ?_);rintro e w6 ⟨rfl,hb6⟩)
   go_roundw
   case rel=>exact wau7
   case measure=>simp [intOf];omega
  exact Yh
 exact Yl
theorem nZ (a b:Int) (v:Value) (l:List Pt) (w:World) (hT:Tab w.heap.size w) (hx:dC w v l) (hn:l.length<=4000000) :
  cB 11 #[.agg #[a,b],v] w (.tuple #[.string (bs (dG (iH a b l))),dK a b l]):=by
 have e0:Hid (bs (dG [])=ByteArray.mk #[]):=KO rfl;obtain ⟨wc,hw3,C,B⟩:=cJ w #[a,b] 24;have hxc:=KO (hx.below B);have f_:=C.box.c0;have j_:=C.box.c1;have HT:=KO hT;clear hT
 have PM:=fun W h=>fz a b v l W h hn
 have hv0:=fun (h:dK a b l=false)=>km h
 have hgood:=fun (h:dK a b l=true)=>kj h
 clear hx
 cases hk:dK a b l with
 | false=>
  rw [hv0 hk] at PM ⊢;rw [hk] at PM;replace PM:=KO PM;clear hv0 hgood hk;generalize bs (dG [])=s0 at *;go_enter func11,ntmps11
  go_wp2_with (go_at_call 5;(refine (PM.out _ hxc.out).mono ?_);rintro e w4 ⟨mv,rfl,hM,hb4⟩;replace B:=p_ B hb4)
  go_ret2;exact ⟨by rw [e0.out];rfl,B⟩
 | true=>
 obtain ⟨hl,hl1,hl4,hrows⟩:=hgood hk;rw [hk] at PM;clear hv0 hgood hk;generalize iH a b l=V at *
 have hform:=KO fun W base mv (h:cZ W base mv V)=>h.form ω (fun r hr=>by have:=(hrows r hr).1;omega)
 obtain ⟨N,hN⟩:∃ N,N=V.length:=⟨_,rfl⟩
 have hN4:N<=4:=ω
 have HR:=KO (show ∀ r ∈ V,(1<=r.length/\r.length<=4)/\∀ q ∈ r,qT q from fun r hr=>⟨by have:=(hrows r hr).1;omega,(hrows r hr).2⟩)
 have HL:=KO (show ∀ k,(dG (V.take k)).length<=1000 from fun k=>by
  exact Ys)
 replace hN:=KO hN;replace PM:=KO PM;clear hl hl1 hl4 hrows;go_enter func11,ntmps11
 go_wp2_with (go_at_call 5;(refine (PM.out _ hxc.out).mono ?_);rintro e w4 ⟨mv,rfl,hM,hb4⟩;replace B:=p_ B hb4;obtain ⟨g,cap,rfl⟩:=hform.out _ _ _ hM;replace hM:=KO hM;(rw [←hN.out] at hM ⊢))
 have NA:=KO (show ∀ W,Below w4.heap.size w4 W->Tab W.heap.size W from fun W hW W' hW'=>HT.out W' ((p_ B hW).trans (hW'.mono (Nat.le_trans B.size hW.size))))
 go_loopw [8,23] (fun vs vi wr=>∃ k:Nat,k<=N/\vi=.int .i64 k/\vs=.string (bs (dG (V.take k)))/\Below w4.heap.size w4 wr) (fun _ vi _=>N - (intOf vi).toNat)
 case atStart=>exact ⟨0,ω,rfl,by rw [List.take_zero,e0.out],KS _ _⟩
 case round=>
 obtain ⟨k,hk,rfl,rfl,hbr⟩:=hrel;have zr:=hbr.size
 by_cases hlt:k<N
 ·obtain ⟨r,hr⟩:∃ r,Hid (V[k]?=some r):=⟨_,KO (List.getElem?_eq_getElem (by have:=hN.out;omega))⟩
  obtain ⟨⟨hr1,hr4⟩,hrq⟩:=HR.out r (List.mem_of_getElem? hr.out);obtain ⟨g2,cap2,e1,hq⟩:=(hM.out.below hbr).oI hr.out hr1;replace hq:=KO hq;replace hrq:=KO hrq;have hlk:=HL.out k
  have hrl:=KO (show ∀ j,((r.take j).flatMap M.MU).length<=200 from fun j=>by
   exact Zn)
  have P_:∀ W,(Op.stringOp .add (bs (dG (V.take k) ++ (r.take r.length).flatMap M.MU)) (ByteArray.mk #[10])).run prog W=.ok (.string (bs (dG (V.take (k+1))))) W:=fun W=>by
   rw [vW hr.out,List.take_length];refine gA (m:=[10]) ?_ W;have:=hrl.out r.length;rw [List.take_length] at this;exact SD
  have hs0:=KO (show bs (dG (V.take k))=bs (dG (V.take k) ++ (r.take 0).flatMap M.MU) by simp);rw [hs0.out];generalize ST:bs (dG (V.take (k+1)))=s9 at *;have Hs9:=KO ST;clear ST hs0;replace P_:=KO P_
  obtain ⟨L,hL⟩:∃ L,L=r.length:=⟨_,rfl⟩
  rw [←hL] at e1 hr4 hr1;replace hL:=KO hL;go_wp2
  go_loopw [8,29] (fun vs vj wq=>∃ j:Nat,j<=L/\vj=.int .i64 j/\vs=.string (bs (dG (V.take k) ++ (r.take j).flatMap M.MU))/\Below wr.heap.size wr wq) (fun _ vj _=>L - (intOf vj).toNat)
  case atStart=>exact ⟨0,ω,rfl,rfl,KS _ _⟩
  case round=>
  obtain ⟨j,hj,rfl,rfl,hbq⟩:=hrel;have zq:=hbq.size
  by_cases hjl:j<L
  ·obtain ⟨q,hqj⟩:∃ q,Hid (r[j]?=some q):=⟨_,KO (List.getElem?_eq_getElem (by have:=hL.out;omega))⟩
   obtain ⟨d0,d1,d2,d3⟩:=hq.out j q hqj.out;replace d0:=aE hbq d0;replace d1:=aE hbq d1;replace d2:=aE hbq d2;replace d3:=aE hbq d3;have Wy:=hrq.out q (List.mem_of_getElem? hqj.out);have hl1:=hrl.out j;have hl2:=tZ Wy;obtain ⟨u1,u2,u3,u4,u5,u6,u7,u8⟩:=Wy
   have IT:=fun W (ht:Tab W.heap.size W)=>qV q.1 q.2.1 q.2.2.1 q.2.2.2 W ht u1 u2 u3 u4 u5 u6 u7 u8
   have A1:∀ W,(Op.stringOp .add (bs (dG (V.take k) ++ (r.take j).flatMap M.MU)) (bs (M.QY q.1 q.2.1 q.2.2.1 q.2.2.2))).run prog W=.ok (.string (bs (dG (V.take k) ++ (r.take (j+1)).flatMap M.MU))) W:=fun W=>by
    exact was4
   generalize bs (dG (V.take k) ++ (r.take j).flatMap M.MU)=s1 at *;generalize hs3:bs (dG (V.take k) ++ (r.take (j+1)).flatMap M.MU)=s3 at *;have Hs3:=KO hs3;clear hs3 hl1 hl2 u1 u2 u3 u4 u5 u6 u7 u8;generalize bs (M.QY q.1 q.2.1 q.2.2.1 q.2.2.2)=s2 at *;replace IT:=KO IT;obtain ⟨q1,q2,q3,q4⟩:=q;simp only [] at d0 d1 d2 d3 IT;have Bq:=hbr.trans (hbq.mono zr)
   have Ba:=(bF Bq (.cells #[q1,q2,q3,q4] 34))
   go_wp2_with (go_at_call 35;(refine (IT.out _ (NA.out _ Ba)).mono ?_);rintro e w6 ⟨rfl,hb6⟩)
   go_roundw
   case rel=>exact wau7
   case measure=>simp [intOf];omega
  exact Yh
 exact Yl
end
section
open Gr M Rg Rw Wh
namespace M
open r_
theorem LO.div {s:Nat->Int} {l h:Int} (k:LO (fun n=>4096*s n) (4096*l) (4096*h)):LO s l h:=by
 obtain ⟨c,k⟩:=k;refine ⟨max c 0,fun n=>?_⟩;have:=k n
 dsimp only at this
 rw [Int.mul_assoc,Int.mul_assoc] at this;omega
theorem zB {s:Nat->Int} {l h Z:Int} {q:Int × Int} (k:LO s l h) (e:cn (some (Z,Z)) (some (l,h))=some q):LO (fun n=>Z*s n) (4096*q.1) (4096*q.2):=by
 have e:=qn (show mkS (cO Z Z l h / 4096) (-(-cN Z Z l h / 4096))=some q from e);obtain ⟨c,k⟩:=k;subst e
 have t1:4096*(cO Z Z l h / 4096)<=Z*l/\4096*(cO Z Z l h / 4096)<=Z*h:=by unfold cO;omega
 have t2:Z*l<=4096*(-(-cN Z Z l h / 4096))/\Z*h<=4096*(-(-cN Z Z l h / 4096)):=by unfold cN;omega
 dsimp only
 generalize 4096*(cO Z Z l h / 4096)=q1,4096*(-(-cN Z Z l h / 4096))=q2 at *;refine ⟨(Z.natAbs:Int)*c,fun n=>?_⟩;have p:=gp n;obtain ⟨k1,k2⟩:=k n;generalize (4:Int) ^ n=A at *;have a1:=Int.mul_le_mul_of_nonneg_right t1.1 (show 0<=A by omega);have a2:=Int.mul_le_mul_of_nonneg_right t1.2 (show 0<=A by omega);have a3:=Int.mul_le_mul_of_nonneg_right t2.1 (show 0<=A by omega);have a4:=Int.mul_le_mul_of_nonneg_right t2.2 (show 0<=A by omega)
 have e1:4096*(Z*s n)=Z*(4096*s n):=φ
 have e2:Z*l*A=Z*(l*A):=φ
 have e3:Z*h*A=Z*(h*A):=φ
 rw [e1];rw [e2] at a1 a3;rw [e3] at a2 a4
 rcases Int.le_total 0 Z with hz | hz
 ·have b1:=Int.mul_le_mul_of_nonneg_left k1 hz
  have b2:=Int.mul_le_mul_of_nonneg_left k2 hz;rw [Int.mul_sub] at b1;rw [Int.mul_add] at b2;rw [show (Z.natAbs:Int)=Z by omega];omega
 have b1:=Int.mul_le_mul_of_nonpos_left hz k1;have b2:=Int.mul_le_mul_of_nonpos_left hz k2;rw [Int.mul_sub] at b1;rw [Int.mul_add] at b2;rw [show (Z.natAbs:Int)=-Z by omega,Int.neg_mul];omega
theorem zl {n:List Int} {i:Nat} {r:List (Int × Int)} {T:Nat->Nat->Int} (hT:∀ c p,r[c]?=some p->LO (T c) p.1 p.2) {s:Sp} {t:Nat->Int} (hs:∀ p,s=some p->LO t p.1 p.2) :
  ∀ j q,dj n i r s j=some q->LO (fun m=>t m+Dt.sm j fun c=>n.getD i 0*n.getD c 0*T c m) q.1 q.2
 | 0,q,e=>(hs q e).cl (r_.Cl.of fun m=>(Int.add_zero _).symm)
 | j+1,q,e=>by
  rw [ej] at e;obtain ⟨p,h1,e⟩:=Option.bind_eq_some_iff.1 e;obtain ⟨v,h3,e⟩:=Option.bind_eq_some_iff.1 e;obtain ⟨u,h2,-⟩:=Option.bind_eq_some_iff.1 (show (r[j]?).bind _=some v from h3);rw [h2] at h3;obtain rfl:=qn e;have hm:=zB (hT j u h2) h3;have hm:=LO.div (s:=fun m=>n.getD i 0*n.getD j 0*T j m) (hm.cl (r_.Cl.of fun m=>φ));refine ((zl hT hs j p h1).add hm).cl (r_.Cl.of fun m=>?_);exact Int.add_assoc _ _ _
theorem Eu {n:List Int} {m:LD} {T:Nat->Nat->Nat->Int} (hT:∀ i c r p,m[i]?=some r->r[c]?=some p->LO (T i c) p.1 p.2) :
  ∀ i q,i<=m.length->dV n m i=some q->LO (fun z=>Dt.sm i fun k=>Dt.sm ((m.getD k []).length) fun c=>n.getD k 0*n.getD c 0*T k c z) q.1 q.2
 | 0,q,_,e=>by
  obtain rfl:(0,0)=q:=Option.some.inj e;exact ⟨0,fun n=>by simp [Dt.sm]⟩
 | i+1,q,hi,e=>by
  have hr:m[i]?=some m[i]:=List.getElem?_eq_getElem ω;rw [gY hr] at e;have:=zl (T:=T i) (fun c p h=>hT i c _ p hr h) (fun p h=>Eu hT i p ω h) _ q e
  have hg:m.getD i []=m[i]:=by rw [List.getD_eq_getElem?_getD,hr];rfl
  refine this.cl (r_.Cl.of fun z=>?_)
  show _=Dt.sm i _+Dt.sm (m.getD i []).length _
  rw [hg]
theorem Cl.sm {v:Nat->Int} {f g:Nat->Nat->Int} (h:∀ q,Cl (f q) (g q)):∀ N,Cl (fun n=>Dt.sm N fun q=>v q*f q n) (fun n=>Dt.sm N fun q=>v q*g q n)
 | 0=>Cl.refl _
 | N+1=>(Cl.sm h N).add ((h N).mul (v N))
theorem FS {a b:Int} {l:List Pt} {n:List Int} {q:Int × Int} (hl:ai a b l=true) (hm:Ld a b l=true) (e:rL n (cf a b l)=some q):LO (hs a (TJ a (PL l) (fun i=>n.getD i 0) l.length)) q.1 q.2:=by
 obtain ⟨hg,-,-,hall⟩:=iT hl;have hd:=eJ hg;obtain ⟨s1,s2⟩:=fh hm;unfold rL at e;obtain ⟨p,h1,-⟩:=Option.bind_eq_some_iff.1 (show (dV n (cf a b l) (cf a b l).length).bind _=some q from e);rw [h1] at e
 have H:=Eu (T:=fun i c z=>pr a (PL l c) (PL l i) z) (fun i c r p hr hq=>by
  rw [kK hm,List.getElem?_map] at hr;obtain ⟨i',hi,rfl⟩:=Option.map_eq_some_iff.1 hr;have hi0:=(List.getElem?_eq_some_iff.1 hi).1;rw [List.length_range] at hi0;rw [List.getElem?_range hi0] at hi;obtain rfl:=Option.some.inj hi;rw [List.getElem?_map] at hq;obtain ⟨j',hj,rfl⟩:=Option.map_eq_some_iff.1 hq;have hj0:=(List.getElem?_eq_some_iff.1 hj).1;rw [List.length_range] at hj0;rw [List.getElem?_range hj0] at hj;obtain rfl:=Option.some.inj hj
  exact yl hg hall (mj (pH hm hi0 hj0)).symm) _ p (KT _) h1
 have hon:=HC hall;generalize hv:(fun i=>n.getD i 0)=v;have hR:=xK hd hon v l.length;have k1:=(xr hd hon v hR l.length).trans (Cl.sm (v:=v) (fun q=>D7 hd hR (hon q) (xr hd hon v (hon q) l.length)) l.length);have k2:=(zU hd hR).symm.trans k1
 have H2:=H.cl (t:=fun z=>2*hs a (TJ a (PL l) v l.length) z) <| by
  refine (Cl.of fun z=>?_).trans k2.symm;rw [s1]
  refine Dt.wS _ fun c hc=>?_
  have hr:(cf a b l)[c]?=some (cf a b l)[c]:=List.getElem?_eq_getElem ω
  have hlen:((cf a b l).getD c []).length=l.length:=by
   rw [List.getD_eq_getElem?_getD,hr];exact s2 _ (List.mem_of_getElem? hr)
  subst hv;rw [hlen];refine (Dt.yE (g:=fun k=>n.getD k 0*pr a (PL l k) (PL l c) z) (h:=fun _=>0) (x:=n.getD c 0) (y:=0) _ fun k _=>φ).trans (by rw [Int.zero_mul,Int.add_zero])
 exact LO.div ((zB H2 e).cl (Cl.of fun z=>φ))
theorem Cj {a b:Int} {l:List Pt} {n:List Int} {q:Int × Int} {p:LM} (e:dg a b l n=some q) (hp:dJ a b l n=some p) :
  ∃ d,cI a b p.1 p.2.1 p.2.2=some d/\q.1<=d.2/\d.1<=q.2:=by
 unfold dg at e
 split at e
 ·rename_i hc
  unfold rg at hc;rw [Bool.and_eq_true,Bool.and_eq_true] at hc;obtain ⟨⟨hl,hf⟩,hm⟩:=hc;obtain ⟨hg,-,-,hall⟩:=iT hl;unfold dJ at hp;rw [hl,hf] at hp;obtain ⟨s1,s2⟩:=yX hg _ p hp;have H1:=FS hl hm e;have H2:=fB (eJ hg) s1;rw [s2] at H2;refine ⟨_,by unfold cI gw;rw [hg,s1,dR hg s1];rfl,H1.meet H2 (Cl.refl _),H2.meet H1 (Cl.refl _)⟩
 cases e
theorem Fj {a b:Int} {l:List Pt} (h:tY a b l=true) {P:Pt} (hP:P ∈ l):gw a b P.1 P.2.1 P.2.2=true/\decide ((P.1,P.2.1,P.2.2) ∈ oV a b)=false:=by
 unfold tY at h;rw [Bool.and_eq_true,decide_eq_true_eq] at h;obtain ⟨h1,h2⟩:=h
 cases hl:ai a b l with
 | false=>rw [jK hl] at h1;cases h1
 | true=>
 rw [gu hl] at h1 h2;obtain ⟨hg,-,-,hall⟩:=iT hl;refine ⟨by unfold gw;rw [hg,hall P hP];rfl,?_⟩;rw [Ez hg (hall P hP)]
 cases e:fi a b l with
 | none=>rw [e] at h1;cases h1
 | some p=>
 rw [e] at h2;have h2:p.1 > 0:=h2
 cases q:(mZ a P.1 P.2.1 P.2.2).isSome with
 | false=>rfl
 | true=>
 have:=GY hl e hP q;omega
theorem GX {a b:Int} {l:List Pt} (h:(dS a b l).isSome=true):dK a b l=true:=by
 unfold dK
 cases hl:ai a b l with
 | false=>rw [jK hl] at h;cases h
 | true=>
 rw [gu hl] at h
 cases hm:Ld a b l with
 | true=>rfl
 | false=>rw [mc hm] at h;cases h
theorem Io {a b:Int} {l:List Pt} (h:dK a b l=true) {i k:Nat} {r:List (Int × Int × Int × Int)} {x:Int × Int × Int × Int} (hr:(iH a b l)[i]?=some r) (hx:r[k]?=some x) :
  ∃ r',(iH a b l)[k]?=some r'/\r'[i]?=some x:=by
 have hl:=h;unfold dK at hl;rw [Bool.and_eq_true] at hl;rw [xY hl.1] at hr ⊢;unfold mY at hr ⊢;rw [if_pos hl.2,List.getElem?_map] at hr;obtain ⟨i',hi,rfl⟩:=Option.map_eq_some_iff.1 hr;have hi0:=(List.getElem?_eq_some_iff.1 hi).1;rw [List.length_range] at hi0;rw [List.getElem?_range hi0] at hi;obtain rfl:=Option.some.inj hi;unfold mX at hx;rw [List.getElem?_map] at hx;obtain ⟨k',hk,rfl⟩:=Option.map_eq_some_iff.1 hx;have hk0:=(List.getElem?_eq_some_iff.1 hk).1;rw [List.length_range] at hk0;rw [List.getElem?_range hk0] at hk;obtain rfl:=Option.some.inj hk;refine ⟨_,by rw [if_pos hl.2,List.getElem?_map,List.getElem?_range hk0];rfl,?_⟩;unfold mX;rw [List.getElem?_map,List.getElem?_range hi0,mM];rfl
end M
end
section
open Go.RowKit open Gr M Rg Rw Wh
theorem L7 {p:Prop} (h:p:=by (first | (go_simp;done) | (go_simp;omega))):p:=h
theorem Yo {p:Prop} (h:p:=by
 unfold aY
 rw [if_neg δ,if_neg δ];intro zZ w_ hB hr;have e10:zZ.tmps[10]?=some (.pointer (some ⟨wr,0,none⟩)):=hr 10 δ;have k0:=aE hB X_.aM.1;have k1:=aE hB X_.aM.2.1;have k2:=aE hB X_.aM.2.2;exact aS rfl γ):p:=h
theorem Y5 {p:Prop} (h:p:=by
 go_roundw
 case rel=>exact ⟨i+1,(z1,z2,z3),ω,ν,KO hst.out,((C.other ω _).other ω _).other ω _,((R.other ω _).other ω _).other ω _,S.rC _ _ _,MN B⟩
 case measure=>simp [intOf];omega):p:=h
theorem ZB {p:Prop} (h:p:=by
 unfold aY
 rw [if_neg δ,if_neg δ];intro zZ w_ hB hr;have e3:zZ.tmps[3]?=some (.pointer (some ⟨w,0,none⟩)):=hr 3 δ;have k0:=aE hB C.box.c0;have k1:=aE hB C.box.c1;exact aS rfl γ):p:=h
theorem Zh {p:Prop} (h:p:=by
 unfold aY
 rw [if_neg δ,if_neg δ];intro zZ w_ hB hr;have e2:zZ.tmps[2]?=some (.slice (some ⟨gn,Vi,none⟩) N Lt):=hr 2 δ;exact aS rfl γ):p:=h
theorem Zk {p:Prop} (h:p:=by
 have ⟨y0,y1,y2,x0,x1,x2⟩:=hn.bQ;refine ⟨rfl,?_⟩;unfold Oper.wp;go_simp
 exact ⟨aG.rC hn _ _ _,KR (KR (KR (KS _ _) hh _) hh _) hh _⟩):p:=h
theorem Zw {p:Prop} (h:p:=by
 unfold aY
 rw [if_neg δ,if_neg δ];intro zZ w_ hB hr;have e9:zZ.tmps[9]?=some (.int .i64 ((i:Nat):Int)):=hr 9 δ;exact aS rfl γ):p:=h
theorem wat4 {p:Prop} (h:p:=by
 unfold aY
 rw [if_neg δ,if_neg δ];intro zZ w_ hB hr;have e23:=Rg.A_ (hr 23 δ);exact aS rfl γ):p:=h
theorem M.HZ (a b X Y E n:Int):aV a b (M.pX (M.MW a b X Y E n)) (M.pY (M.MW a b X Y E n)) (M.pE (M.MW a b X Y E n))=true:=by
 cases h:M.MW a b X Y E n with
 | none=>exact kx a b
 | some q=>exact Du h
theorem M.rf {a b:Int} {l:List Pt} {n:List Int} {j:Nat} {s:M.LM} {p:Pt} {k:Int} {r:Option M.LM} (hs:gE a b l n j=some s) (hp:l[j]?=some p) (hk:n[j]?=some k) (hr:M.MW a b p.1 p.2.1 p.2.2 k=r) :
  gE a b l n (j+1)=if (r.isSome && dI a s.1 s.2.1 s.2.2 (M.pX r) (M.pY r) (M.pE r))=true then some (eI a s.1 s.2.1 s.2.2 (M.pX r) (M.pY r) (M.pE r),ft a s.1 s.2.1 s.2.2 (M.pX r) (M.pY r) (M.pE r),eD a s.1 s.2.1 s.2.2 (M.pX r) (M.pY r) (M.pE r)) else none:=by
 rw [AZ hs hp hk,hr]
 cases r with
 | none=>rfl
 | some q=>rfl
theorem Ac (a b:Int) (v nv:Value) (l:List Pt) (n:List Int) (w:World) (hx:dC w v l) (hnx:cE w nv n) (hp:ai a b l=true) (hf:M.fits n l.length=true) :
  cB 40 #[.agg #[a,b],v,nv] w (.tuple #[.agg #[M.pX (gE a b l n l.length),M.pY (gE a b l n l.length),M.pE (gE a b l n l.length)],.bool (gE a b l n l.length).isSome]):=by
 obtain ⟨hg,hl1,hl4,hall⟩:=aX hp;have hfl:=(mP hf).1
 obtain ⟨res,hres⟩:∃ r,gE a b l n l.length=r:=⟨_,rfl⟩
 rw [hres]
 have hno:=KO fun j h hj=>hres.symm.trans (nP (j:=j) h l.length hj)
 have Ti:=KO fun j s h=>tH (l:=l) (n:=n) hg j s h
 have PA:=KO fun (s q:M.LM) W h1 h2=>iA a b s.1 s.2.1 s.2.2 q.1 q.2.1 q.2.2 W hg h1 h2
 have PM:=KO fun X Y E k W=>lI a b X Y E k W
 have hf:=KO hf;have hall:=KO hall;obtain ⟨pa,NE,rfl,hpv⟩:=hx;obtain ⟨na,Lt,rfl,hnl,hnc⟩:=hnx;have hnx:=KO (show cE w (.slice na n.length Lt) n from ⟨na,Lt,rfl,hnl,hnc⟩);obtain ⟨g,o_,rfl,Mv⟩:=hpv.resolve_left (fun h=>by rw [h] at hl1;simp at hl1)
 obtain ⟨N,hN⟩:∃ N,N=l.length:=⟨_,rfl⟩
 rw [hfl] at hnx hnl ⊢;rw [←hN] at hnx hnl hno hres hf hl1 hl4 ⊢;replace hN:=KO hN;replace hres:=KO hres;have Mv:=KO Mv;obtain ⟨wc,hw3,C,R,B⟩:=dQ w #[a,b] 24 #[(0:Int),(0:Int),(0:Int)] 47;have S:=aG.new wc #[(0:Int),(0:Int),(0:Int)] 47;have b_:=bA wc (.cells #[(0:Int),(0:Int),(0:Int)] 47);have hS:w.heap.size+1<wc.heap.size:=R.lt;go_enter func40,ntmps40
 go_wp2
 go_loopw [18] (fun vi wq=>∃ (i:Nat) (s:M.LM),i<=N/\vi=.int .i64 (i:Int)/\Hid (gE a b l n i=some s)/\aG wq w 24 #[a,b]/\aG wq (w.heap.size+1) 47 #[(0:Int),(0:Int),(0:Int)]/\aG wq wc 47 #[s.1,s.2.1,s.2.2]/\Below w w wq) (fun vi _=>N - (intOf vi).toNat)
 case atStart=>exact ⟨0,(0,0,0),Nat.zero_le _,rfl,KO rfl,C.keep b_,R.keep b_,S,p_ B b_⟩
 case round=>
 clear C R S B b_ hw3;obtain ⟨i,⟨X,Y,E⟩,hi,rfl,hs,C,R,S,B⟩:=hrel;have hsz:=B.size;have hSl:=S.lt
 by_cases hlt:i<N
 ·obtain ⟨⟨x1,x2,x3⟩,hq⟩:∃ p,l[i]?=some p:=⟨_,List.getElem?_eq_getElem (by have:=hN.out;omega)⟩
  obtain ⟨ni,-,-⟩:=gG hf.out hlt;obtain ⟨gn,Vi,hgn,ci⟩:=(hnx.out.keep B).at ni;have ⟨p0,p1,p2⟩:=Mv.out i _ hq
  dsimp only at p0 p1 p2
  replace p0:=aE B p0;replace p1:=aE B p1;replace p2:=aE B p2
  obtain ⟨r,hr⟩:∃ r,M.MW a b x1 x2 x3 (n.getD i 0)=r:=⟨_,rfl⟩
  have hst:=rf hs.out hq ni hr;have hp1:=HZ a b x1 x2 x3 (n.getD i 0)
  replace PM:=fun W=>PM.out x1 x2 x3 (n.getD i 0) W
  rw [hr] at hp1 PM
  replace PA:=fun W=>PA.out (X,Y,E) (M.pX r,M.pY r,M.pE r) W (Ti.out i _ hs.out) hp1
  replace hno:=KO fun h=>hno.out (i+1) h hlt
  dsimp only at PA hst
  generalize M.pE r=y3,M.pY r=y2,M.pX r=y1 at *;generalize eD a X Y E y1 y2 y3=z3,ft a X Y E y1 y2 y3=z2,eI a X Y E y1 y2 y3=z1 at *
  obtain ⟨f2,hf2⟩:∃ x,dI a X Y E y1 y2 y3=x:=⟨_,rfl⟩
  obtain ⟨f1,hf1⟩:∃ x,r.isSome=x:=⟨_,rfl⟩
  rw [hf2] at PA hst;rw [hf1] at PM hst;replace PA:=KO PA;replace PM:=KO PM;replace hst:=KO hst;generalize n.getD i 0=k at *;subst hgn
  have hii:((i:Nat):Int)<(N:Int):=ω
  have Bv:=bA wr (.cells #[x1,x2,x3] 47);have X_:=aG.new wr #[x1,x2,x3] 47;replace ⟨C,R,S,B⟩:=Kl Bv C R S B;replace ci:=aE Bv ci;generalize hw2:wr.alloc (.cells #[x1,x2,x3] 47)=wb at *
  go_upto_region 5 with fail
  refine AK 10 11 47 #[(0:Int),(0:Int),(0:Int)] #[y1,y2,y3] [.is (.agg #[a,b]),.is (.agg #[x1,x2,x3]),.is (.slice (some ⟨gn,Vi,none⟩) N Lt),.is (.int .i64 ((i:Nat):Int)),.is (.pointer (some ⟨gn,Vi+i,none⟩)),.is k,.is (.tuple #[.agg #[y1,y2,y3],f1]),.is (.tuple #[.agg #[y1,y2,y3],f1]),.is (.agg #[y1,y2,y3]),.is f1,.is (undef),.is (undef),.is f1] κ κ κ (fun j h1 h2=>match j,h1,h2 with | 0,h1,h2=>rfl | 1,h1,h2=>rfl | 2,h1,h2=>rfl | 3,h1,h2=>rfl | 4,h1,h2=>rfl | 5,h1,h2=>rfl | 6,h1,h2=>rfl | 7,h1,h2=>rfl | 8,h1,h2=>rfl | 9,h1,h2=>rfl | 10,h1,h2=>absurd rfl h1 | 11,h1,h2=>absurd rfl h2 | 12,h1,h2=>rfl | n+13,_,_=>rfl) δ ⟨?_,?_,?_,?_,?_,?_,?_,?_,?_,?_,?_,?_,?_,trivial⟩ ?_
  ·exact ZB
  ·exact Yo
  ·exact Zh
  ·exact Zw
  ·unfold aY
   rw [if_neg δ,if_neg δ];intro zZ w_ hB hr;have e26:=Rg.A_ (hr 26 δ);have e27:=Rg.A_ (hr 27 δ);exact aS rfl L7
  ·unfold aY
   rw [if_neg δ,if_neg δ];intro zZ w_ hB hr;have e28:=Rg.A_ (hr 28 δ);have k0:=aE hB ci;exact aS rfl L7
  ·unfold aY
   rw [if_neg δ,if_neg δ];intro zZ w_ hB hr;have e24:=Rg.A_ (hr 24 δ);have e25:=Rg.A_ (hr 25 δ);have e29:=Rg.A_ (hr 29 δ);have ef:=Rg.ef zZ;exact bO rfl γ (PM.out _)
  ·unfold aY
   rw [if_neg δ,if_neg δ];intro zZ w_ hB hr;have e30:=Rg.A_ (hr 30 δ);exact aS rfl γ
  ·exact wat4
  ·exact wat4
  ·unfold aY
   exact Ph
  ·unfold aY
   rw [if_neg δ,if_pos rfl];intro zZ w_ h_ hh hn hr;have e11:zZ.tmps[11]?=some (.pointer (some ⟨h_,0,none⟩)):=hr 11 δ;have e31:=Rg.A_ (hr 31 δ);exact Zk
  ·unfold aY
   rw [if_neg δ,if_neg δ];intro zZ w_ hB hr;have e32:=Rg.A_ (hr 32 δ);exact aS rfl γ
  intro vals wz h_ hh hn LG hB hv;have L6:vals 12=.bool f1:=hv 12 δ δ δ;simp only [bD,Rg.fill,Act.put,Nat.reduceAdd];simp only [LG,L6];have Nw:wc.heap.size<h_:=Nat.lt_of_lt_of_le S.lt hh;replace ⟨C,R,S,B⟩:=Kl hB C R S B
  cases f1 <;> cases f2
  all_goals
   have ⟨c0,c1,_,_,_⟩:=C.box;have ⟨s0,s1,s2⟩:=S.aM;have ⟨n0,n1,n2⟩:=hn.aM
   go_wp2_with (with_reducible refine G_ PA fun w7 KY=>?_;replace ⟨B,C,R,S⟩:=Kl KY B C R S;have b_:=bA w7 (.cells #[z1,z2,z3] 47);replace ⟨B,C,R,S⟩:=Kl b_ B C R S;(have ⟨r0,r1,r2,u0,u1,u2⟩:=R.bQ);(have ⟨s0,s1,s2,t0,t1,t2⟩:=S.bQ))
  iterate 3
   have hfin:=KO (hno.out hst.out);exact KU (v:=.tuple #[.agg #[(0:Int),(0:Int),(0:Int)],false]) results40 ⟨by rw [hfin.out];rfl,MN B⟩
  exact Y5
 obtain rfl:i=N:=ω
 have hfin:=KO (hres.out.symm.trans hs.out);have ⟨s0,s1,s2⟩:=S.aM;have ⟨r0,r1,r2,u0,u1,u2⟩:=R.bQ;go_wp2;exact KU (v:=.tuple #[.agg #[X,Y,E],true]) results40 ⟨by rw [hfin.out];rfl,MN B⟩
theorem M.Ce {a b:Int} {l:List Pt} {n:List Int} (h:(ai a b l && M.fits n l.length)=false):M.rlV a b l n=false/\(dJ a b l n).isSome=false:=by
 have e:dJ a b l n=none:=if_neg (by rw [h];decide);unfold M.rlV;rw [e];exact ⟨rfl,rfl⟩
theorem M.yY {a b:Int} {l:List Pt} {n:List Int} (h1:ai a b l=true) (h2:M.fits n l.length=true):dJ a b l n=gE a b l n l.length:=if_pos (by rw [h1,h2];rfl)
end
end Go.Proofs.YtlnjcilaflfnlaaGreatDoor
