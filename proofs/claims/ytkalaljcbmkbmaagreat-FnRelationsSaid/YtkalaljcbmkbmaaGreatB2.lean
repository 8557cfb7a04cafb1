/-
  Joined texts: contracts and plain lemmas.
-/
import Derived.Test.YtkalaljcbmkbmaaGreatB1
import Derived.RegionTactic
import Derived.Deep.QuietTactic
import Derived.BigQuiet
import Derived.OwnWalk
import Derived.Laws.Bits64b
import Derived.Laws.OwnMore
import Derived.Deep.DeepCutAuto
import Derived.Deep.RegionWith
set_option linter.unusedSimpArgs false
set_option linter.unusedVariables false
set_option maxRecDepth 100000
set_option maxHeartbeats 8000000
namespace Go.Proofs.YtkalaljcbmkbmaaGreat
open Tryz
section
open Go.RowKit open Gr M
def dO (w:World) (B:Nat) (v:Value) (n:Nat):Prop:=
 ∃ (A:Option Addr) (cap:Nat),v=.slice A n cap/\(n:Int)<=9223372036854775807/\∀ j,j<n->∃ (g o:Nat) (b:Int),A=some ⟨g,o,none⟩/\g<B/\w.cell? ⟨g,o+j,none⟩=some (.int .u8 b)/\0<=b/\b<=255
structure TJ (w:World) (g B:Nat) (v:Value) (n k:Nat):Prop where
 bytes:dO w B v n
 lt:B<=g
 c0:w.cell? ⟨g,0,none⟩=some v
 c1:w.cell? ⟨g,1,none⟩=some (.int .i64 k)
 c2:∃ s:Int,w.cell? ⟨g,2,none⟩=some (.int .u64 s)
 f1:w.frozen? ⟨g,1,none⟩=false
 f2:w.frozen? ⟨g,2,none⟩=false
 size:g<w.heap.size
theorem dO.keep {w w':World} {B g n:Nat} {v:Value} (h:dO w B v n) (hg:w.grownBy w' (some g)) (hB:B<=g):dO w' B v n:=by
 obtain ⟨A,cap,e,hn,hb⟩:=h;refine ⟨A,cap,e,hn,fun j hj=>?_⟩;obtain ⟨gb,ob,b,e,hgb,hc,h1,h2⟩:=hb j hj;exact ⟨gb,ob,b,e,hgb,gW hg hc ω,h1,h2⟩
def iZ (w:World) (g B:Nat) (v:Value) (n k m:Nat) (e:Ending) (w':World):Prop:=
 ∃ x:Int,e=.returned (.int .i64 x)/\(0<=x/\x<=m)/\TJ w' g B v n (k+1)/\w.grownBy w' (some g)
theorem iZ.mk' {w w':World} {g B n k m:Nat} {v:Value} {x:Int} (h:TJ w g B v n k) (hx:0<=x/\x<=m) (hg:w.grownBy w' (some g)) (c0:w'.cell? ⟨g,0,none⟩=some v) (c1:w'.cell? ⟨g,1,none⟩=some (.int .i64 (k+1)))
  (c2:∃ s:Int,w'.cell? ⟨g,2,none⟩=some (.int .u64 s)) (f1:w'.frozen? ⟨g,1,none⟩=false) (f2:w'.frozen? ⟨g,2,none⟩=false):iZ w g B v n k m (.returned (.int .i64 x)) w':=
 ⟨x,rfl,hx,⟨h.bytes.keep hg h.lt,h.lt,c0,by rw [c1];rfl,c2,f1,f2,mE hg h.size⟩,hg⟩
theorem YR (X:Int):0<=wrap64 (bits BinOp.and IntKind.u64 X 255)/\wrap64 (bits BinOp.and IntKind.u64 X 255)<=((255:Nat):Int):=by
 have e:bits BinOp.and IntKind.u64 X 255=(((BitVec.ofInt 64 X).toNat &&& 255:Nat):Int):=by
  show IntKind.u64.wrap ((BitVec.ofInt 64 X &&& BitVec.ofInt 64 (255:Int)).toNat:Int)=_
  have h2:(BitVec.ofInt 64 (255:Int)).toNat=255:=δ
  rw [BitVec.toNat_and,h2,IntKind.wrap_u64];have:(BitVec.ofInt 64 X).toNat &&& 255<=255:=Nat.and_le_right;omega
 have h:(BitVec.ofInt 64 X).toNat &&& 255<=255:=Nat.and_le_right;rw [e,IntWalk.wrap64_in _ ω];omega
theorem GP (g B:Nat) (v:Value) (n k:Nat) (w:World) (h:TJ w g B v n k) (hk:k<=1000000000) :
  Calls prog 105 #[.pointer (some ⟨g,0,none⟩)] w (iZ w g B v n k 255):=by
 have hH:=IU h;obtain ⟨⟨A,cap,rfl,hn,hb⟩,h1,h2,h3,⟨s,h4⟩,h5,h6,h7⟩:=h
 by_cases hlt:k<n
 ·obtain ⟨gb,ob,b,rfl,hgb,hcb,b1,b2⟩:=hb k hlt
  clear hb
  have ne:gb≠g:=ω
  have ne':g≠gb:=ω
  go_enter func105,ntmps105
  go_wp2
  go_quiet (fail)
  go_wp2
  go_quiet (fail)
  go_wp2
  go_quiet (fail)
  go_wp2;go_ret;exact iZ.mk' hH.out ⟨b1,b2⟩ (by repeat (first | exact World.grownBy.refl _ _ | refine Gr.alloc ?_ _ | refine Gr.drew ?_ | refine kK ?_ _ | refine Gr.below ?_ ψ (IY _) | refine dU ?_ ψ | refine Gr.set ?_ _ _ | refine lU ?_ (by first | exact IY _ | exact Nat.le_add_right _ _ | (simp <;> omega)) _)) (by simp [go_sem, *]) (by simp [go_sem, *]) ⟨_,by simp [go_sem, *];rfl⟩ (by simp [go_sem, *]) (by simp [go_sem, *])
 clear hb
 have hle:¬ k+1<=n:=ω
 go_enter func105,ntmps105
 go_wp2
 go_quiet (fail)
 go_wp2
 go_quiet (fail)
 go_wp2;go_ret;exact iZ.mk' hH.out (YR _) (by repeat (first | exact World.grownBy.refl _ _ | refine Gr.alloc ?_ _ | refine Gr.drew ?_ | refine kK ?_ _ | refine Gr.below ?_ ψ (IY _) | refine dU ?_ ψ | refine Gr.set ?_ _ _ | refine lU ?_ (by first | exact IY _ | exact Nat.le_add_right _ _ | (simp <;> omega)) _)) (by simp [go_sem, *]) (by simp [go_sem, *]) ⟨_,by simp [go_sem, *];rfl⟩ (by simp [go_sem, *]) (by simp [go_sem, *])
def dQ (w:World) (g B:Nat) (v:Value) (n K:Nat):Prop:=∃ k,k<=K/\TJ w g B v n k
def sH (w:World) (g B:Nat) (v:Value) (n K:Nat) (lo hi:Int) (e:Ending) (w':World):Prop:=
 ∃ x:Int,e=.returned (.int .i64 x)/\(lo<=x/\x<=hi)/\dQ w' g B v n K/\w.grownBy w' (some g)
theorem dQ.size {w:World} {g B n K:Nat} {v:Value} (h:dQ w g B v n K):g<w.heap.size:=h.elim fun _ h=>h.2.size
theorem dQ.keep {w w':World} {g B n K:Nat} {v:Value} (h:dQ w g B v n K) (hb:Below w w w'):dQ w' g B v n K:=by
 obtain ⟨k,hk,h⟩:=h;have hg:=bO hb (some (w.heap.size+g+1));obtain ⟨s,hs⟩:=h.c2;have hl:=h.size;have hlt:=h.lt;refine ⟨k,hk,h.bytes.keep hg ω,h.lt,gW hg h.c0 ω,gW hg h.c1 ω,⟨s,gW hg hs ω⟩,yE hg h.size h.f1 ω,yE hg h.size h.f2 ω,mE hg h.size⟩
theorem dQ.alloc {w:World} {g B n K:Nat} {v:Value} (h:dQ w g B v n K) (o:Obj):dQ (w.alloc o) g B v n K:=h.keep ((IX _ _).alloc (IY _) o)
theorem dQ.mono {w:World} {g B n K K':Nat} {v:Value} (h:dQ w g B v n K) (hK:K<=K'):dQ w g B v n K':=by
 obtain ⟨k,hk,h⟩:=h;exact ⟨k,ω,h⟩
theorem rE (g B:Nat) (v:Value) (n K:Nat) (w:World) (h:dQ w g B v n K) (hk:K<=1000000000) :
  Calls prog 105 #[.pointer (some ⟨g,0,none⟩)] w (sH w g B v n (K+1) 0 255):=by
 obtain ⟨k,hk',h⟩:=h;refine (GP g B v n k w h ω).mono ?_;rintro e w' ⟨x,rfl,hx,hc,hg⟩;exact ⟨x,rfl,hx,⟨k+1,ω,hc⟩,hg⟩
theorem gB (g B:Nat) (v:Value) (n K:Nat) (m:Int) (w:World) (h:dQ w g B v n K) (hk:K<=900000000) (h1:1<=m) (h2:m<=60000) :
  Calls prog 61 #[.pointer (some ⟨g,0,none⟩),m] w (sH w g B v n (K+2) 0 (m - 1)):=by
 by_cases c1:m<=1
 ·go_enter func61,ntmps61
  go_wp2;go_ret;exact ⟨0,rfl,ω,h.mono ω,dl _ _⟩
 by_cases c2:200<m
 ·go_enter func61,ntmps61
  go_wp2_with fail
  refine (rE g B v n K _ h ω).mono ?_;rintro e w1 ⟨x,rfl,⟨x1,x2⟩,hc1,hg1⟩
  go_wp2_with fail
  refine (rE g B v n (K+1) _ hc1 ω).mono ?_;rintro e w2 ⟨y,rfl,⟨y1,y2⟩,hc2,hg2⟩;go_wp2;go_ret;have hm:=rB (a:=x*256+y) (p:=m) ω;exact ⟨_,rfl,ω,hc2,dU hg1 hg2⟩
 go_enter func61,ntmps61
 go_wp2_with fail
 refine (rE g B v n K _ h ω).mono ?_;rintro e w1 ⟨x,rfl,⟨x1,x2⟩,hc1,hg1⟩;go_wp2;go_ret;have hm:=rB (a:=x) (p:=m) ω;exact ⟨_,rfl,ω,hc1.mono ω,hg1⟩
def Cw (w:World) (g B:Nat) (v:Value) (n K:Nat) (e:Ending) (w':World):Prop:=
 ∃ b:Bool,e=.returned (.bool b)/\dQ w' g B v n K/\w.grownBy w' (some g)
theorem FF (g B:Nat) (v:Value) (n K:Nat) (m:Int) (w:World) (h:dQ w g B v n K) (hk:K<=900000000) (h1:1<=m) (h2:m<=60000) :
  Calls prog 42 #[.pointer (some ⟨g,0,none⟩),m] w (Cw w g B v n (K+2)):=by
 go_enter func42,ntmps42
 go_wp2_with fail
 refine (gB g B v n K m _ h hk h1 h2).mono ?_;rintro e w1 ⟨x,rfl,⟨x1,x2⟩,hc1,hg1⟩;go_wp2;go_ret;exact ⟨_,rfl,hc1,hg1⟩
structure KI (w:World) (b:Nat) (m n:Int):Prop where
 c0:w.cell? ⟨b,0,none⟩=some (.int .i64 m)
 c1:w.cell? ⟨b,1,none⟩=some (.int .i64 n)
 f0:w.frozen? ⟨b,0,none⟩=false
 f1:w.frozen? ⟨b,1,none⟩=false
 size:b<w.heap.size
theorem KI.keepR {w w':World} {b:Nat} {m n:Int} {r:Option Nat} (h:KI w b m n) (hg:w.grownBy w' r) (hn:some b≠r):KI w' b m n:=
 ⟨hg.cell h.c0 hn,hg.cell h.c1 hn,(Gr.frozen hg h.size hn).trans h.f0,(Gr.frozen hg h.size hn).trans h.f1,mE hg h.size⟩
theorem KI.bX {w w':World} {b g:Nat} {m n:Int} (h:KI w b m n) (hg:w.grownBy w' (some g)) (hn:b≠g):KI w' b m n:=h.keepR hg (by simpa using hn)
theorem KI.keep {w w':World} {b:Nat} {m n:Int} (h:KI w b m n) (hb:Below w w w'):KI w' b m n:=h.keepR (bO hb none) σ
theorem KI.alloc {w:World} {b:Nat} {m n:Int} (h:KI w b m n) (o:Obj):KI (w.alloc o) b m n:=h.keep ((IX _ _).alloc (IY _) o)
theorem KI.drew {w:World} {b:Nat} {m n:Int} (h:KI w b m n):KI w.drew b m n:=⟨h.c0,h.c1,h.f0,h.f1,h.size⟩
theorem KI.new (w:World) (m n:Int) (T:TypeId):KI (w.alloc (.cells #[m,n] T)) w m n:=
 ⟨by rw [World.cell?_alloc_at _ _ _ _ rfl];rfl,by rw [World.cell?_alloc_at _ _ _ _ rfl];rfl,by simp [go_sem],by simp [go_sem],by rw [IV];omega⟩
theorem KI.store {w:World} {b:Nat} {m n:Int} (h:KI w b m n) (x y:Int):KI ((w.setCell ⟨b,0,none⟩ (.int .i64 x)).setCell ⟨b,1,none⟩ (.int .i64 y)) b x y:=by
 obtain ⟨h1,h2,h3,h4,h5⟩:=h;exact ⟨by simp [go_sem, *],by simp [go_sem, *],by simp [go_sem, *],by simp [go_sem, *],by simp [go_sem, *]⟩
theorem dI (w:World) (c:Nat) (x y:Value):w.grownBy ((w.setCell ⟨c,0,none⟩ x).setCell ⟨c,1,none⟩ y) (some c):=Gr.set (Gr.set (dl w (some c)) 0 x) 1 y
theorem KI.other {w:World} {b c:Nat} {m n:Int} (h:KI w b m n) (hn:b≠c) (x y:Value):KI ((w.setCell ⟨c,0,none⟩ x).setCell ⟨c,1,none⟩ y) b m n:=h.bX (dI w c x y) hn
theorem dQ.keepR {w w':World} {g B n K c:Nat} {v:Value} (h:dQ w g B v n K) (hg:w.grownBy w' (some c)) (hc:g≠c) (hB:B<=c):dQ w' g B v n K:=by
 obtain ⟨k,hk,h⟩:=h;obtain ⟨s,hs⟩:=h.c2;exact ⟨k,hk,h.bytes.keep hg hB,h.lt,gW hg h.c0 hc,gW hg h.c1 hc,⟨s,gW hg hs hc⟩,yE hg h.size h.f1 hc,yE hg h.size h.f2 hc,mE hg h.size⟩
structure St (w W:World) (g B:Nat) (v:Value) (n K:Nat):Prop where
 cur:dQ W g B v n K
 gr:w.grownBy W (some g)
 lt:B<=g
theorem St.start {w:World} {g B n K:Nat} {v:Value} (h:dQ w g B v n K):St w w g B v n K:=⟨h,dl _ _,h.elim fun _ h=>h.2.lt⟩
theorem St.call {w W W':World} {g B n K K':Nat} {v:Value} (h:St w W g B v n K) (hc:dQ W' g B v n K') (hg:W.grownBy W' (some g)):St w W' g B v n K':=⟨hc,dU h.gr hg,h.lt⟩
theorem St.keep {w W W':World} {g B n K:Nat} {v:Value} (h:St w W g B v n K) (hb:Below W W W'):St w W' g B v n K:=⟨h.cur.keep hb,dU h.gr (bO hb _),h.lt⟩
theorem St.alloc {w W:World} {g B n K:Nat} {v:Value} (h:St w W g B v n K) (o:Obj):St w (W.alloc o) g B v n K:=h.keep ((IX _ _).alloc (IY _) o)
theorem St.store {w W:World} {g B n K c:Nat} {v:Value} (h:St w W g B v n K) (hc:w.heap.size<=c) (hg:g≠c) (hB:B<=c) (x y:Value):St w ((W.setCell ⟨c,0,none⟩ x).setCell ⟨c,1,none⟩ y) g B v n K:=
 ⟨h.cur.keepR (dI W c x y) hg hB,lU (lU h.gr hc _) hc _,h.lt⟩
theorem St.size {w W:World} {g B n K:Nat} {v:Value} (h:St w W g B v n K):g<W.heap.size:=h.cur.size
theorem St.le {w W:World} {g B n K:Nat} {v:Value} (h:St w W g B v n K):w.heap.size<=W.heap.size:=h.gr.size
theorem yO (W:World) (T:TypeId) (l:List Int):∀ (j:Nat) (x:Int),l[j]?=some x->(W.alloc (.cells (l.map (Value.int .i64)).toArray T)).cell? ⟨W,j,none⟩=some (.int .i64 x):=fun j x h=>by
 rw [World.cell?_alloc_at _ _ _ _ rfl];simp [h]
instance {w W W':World} {g B n K:Nat} {v:Value}:HAdd (PLift (St w W g B v n K)) (PLift (Below W W W')) (PLift (St w W' g B v n K)):=⟨fun x h=>⟨x.down.keep h.down⟩⟩
end
section
open Go.RowKit open Gr M Rw Wh
def aZ (W:World) (base:Nat) (sl:Value) (z:Int):Prop:=aF W base sl (Wh.a_ z.natAbs)
theorem aZ.below {w w':World} {base:Nat} {v:Value} {z:Int} (h:aZ w base v z) (hb:Below w w w'):aZ w' base v z:=aF.below h hb
theorem aZ.base {w:World} {base base':Nat} {v:Value} {z:Int} (h:aZ w base v z) (hb:base'<=base):aZ w base' v z:=aF.base h hb
namespace Wh
theorem uI {l:List Int} {k:Nat} (hk:k<l.length) (h0:l[k]?=some 0):trim (l.take (k+1))=trim (l.take k):=by
 rw [List.take_add_one,h0];exact lh _
theorem qJ {l:List Int} {k:Nat} {x:Int} (hx:l[k]?=some x) (h0:x≠0):trim (l.take (k+1))=l.take (k+1):=by
 rw [List.take_add_one,hx];exact qI _ h0
theorem Fx {n:Nat}:decide (0<(a_ n).length)=decide ((n:Int)≠0):=by
 rw [decide_eq_decide]
 constructor
 ·intro h h0
  rw [jN.2 (by omega:n=0)] at h;exact absurd h δ
 intro h
 cases hd:a_ n with
 | nil=>exact absurd (jN.1 hd) ω
 | cons x l=>exact Nat.succ_pos _
end Wh
structure aw (w:World) (b:Nat) (u v:Value):Prop where
 c0:w.cell? ⟨b,0,none⟩=some u
 c1:w.cell? ⟨b,1,none⟩=some v
 f0:w.frozen? ⟨b,0,none⟩=false
 f1:w.frozen? ⟨b,1,none⟩=false
 size:b<w.heap.size
theorem aw.keep {w w':World} {b:Nat} {u v:Value} (h:aw w b u v) (hb:Below w w w'):aw w' b u v:=
 have hg:=bO hb none
 ⟨hg.cell h.c0 σ,hg.cell h.c1 σ,(Gr.frozen hg h.size σ).trans h.f0,(Gr.frozen hg h.size σ).trans h.f1,mE hg h.size⟩
theorem aw.new (w:World) (u v:Value) (T:TypeId):aw (w.alloc (.cells #[u,v] T)) w u v:=
 ⟨by rw [World.cell?_alloc_at _ _ _ _ rfl];rfl,by rw [World.cell?_alloc_at _ _ _ _ rfl];rfl,by simp [go_sem],by simp [go_sem],by rw [IV];omega⟩
theorem aw.alloc {w:World} {b:Nat} {u v:Value} (h:aw w b u v) (o:Obj):aw (w.alloc o) b u v:=h.keep ((IX _ _).alloc (IY _) o)
theorem yl {w w2:World} {o:Obj} {sl:Value} {xs:List Int} (u:Value) (hoc:aF w2 (w.alloc o).heap.size sl xs) (hbc:Below (w.alloc o).heap.size (w.alloc o) w2) :
  aF ((w2.setCell ⟨w,0,none⟩ u).setCell ⟨w,1,none⟩ sl) w sl xs/\Below w w ((w2.setCell ⟨w,0,none⟩ u).setCell ⟨w,1,none⟩ sl):=by
 have hz:(w.alloc o).heap.size=w.heap.size+1:=IV _ _;refine ⟨aF.base (World.ownsRow.kept hoc (dI w2 w u sl) ?_) ω,?_⟩
 ·cases hs:sl.ownBlock with
  | none=>exact Or.inl rfl
  | some g=>
  right
  intro e
  injection e with e
  have:=(aF.lt hoc g hs).1;omega
 exact ((((IX _ _).alloc (IY _) o).trans (hbc.mono ω)).setCell (IY _) _).setCell (IY _) _
theorem aF.HX {w:World} {base cap k:Nat} {a:Option Addr} {xs:List Int} (h:aF w base (.slice a xs.length cap) xs) (hk:k<=xs.length):aF w base (.slice a k cap) (xs.take k):=by
 rcases h.forms with ⟨e,rfl⟩ | ⟨g,cap',e,-⟩
 ·obtain rfl:k=0:=by simpa using hk
  exact h
 injection e with e1 e2 e3
 subst e1;exact aF.cut rfl h hk rfl
theorem Wh.uF {l:List Int} {k n:Nat} (hk:k<=l.length) (h:l.take k=Wh.a_ n):(n:Int)≠0 ↔ 0<k:=by
 have h1:=congrArg List.length h;rw [List.length_take,Nat.min_eq_left hk] at h1;have h2:=Fx (n:=n);rw [decide_eq_decide,←h1] at h2;exact h2.symm
theorem y6 (neg:Bool) (ls:List Int) (v:Value) (w:World) (base:Nat) (hown:aF w base v ls) (h:Wh.bK ls) (hl:ls.length<=1000000) :
  Calls prog 127 #[neg,v] w fun e w'=>∃ sl,e=.returned (.agg #[decide (Wh.JS neg (Wh.val ls)<0),sl])/\aZ w' w sl (Wh.JS neg (Wh.val ls))/\Below w w w':=by
 obtain ⟨a,cap,rfl,hm,hv⟩:=hown.seen;have hv:=IU hv;have hgt:=IU (mg h);have hn:=db h;have hs1:=IU (xR (neg:=neg) hn);have hs2:=IU (rc (neg:=neg) hn);have hls:=IU h;have hcp:=hown.cap;replace hown:=IU hown;clear hm hn h;have bx:=aw.new w (.bool false) (.slice none 0 0) 116;go_enter func127,ntmps127
 go_wp2
 go_loopw [1] (fun vl wr=>∃ k:Nat,k<=ls.length/\vl=.slice a k cap/\Wh.trim (ls.take k)=Wh.trim ls/\wr=w.alloc (.cells #[false,.slice none 0 0] 116)) (fun vl _=>match vl with | .slice _ n _=>n | _=>0)
 case atStart=>exact ⟨ls.length,IY _,rfl,by rw [List.take_length],rfl⟩
 case round=>
 obtain ⟨k,hk,rfl,htr,rfl⟩:=hrel;have hown2:aF (w.alloc (.cells #[false,.slice none 0 0] 116)) base (.slice a k cap) (ls.take k):=(aF.HX hown.out hk).alloc _
 have fin:ls.take k=Wh.a_ (Wh.val ls).toNat->Hid ((decide (Wh.JS neg (Wh.val ls)<0)=(neg && decide (0<k)))/\∀ (W:World) (b:Nat) (vc:Value),aF W b vc (ls.take k)->aZ W b vc (Wh.JS neg (Wh.val ls))):=fun h=>IU (by
  have h2:=uF hk h;have hn:=db hls.out;refine ⟨?_,fun W b vc ho=>?_⟩
  ·rw [hs1.out]
   congr 1
   rw [decide_eq_decide,←h2];omega
  unfold aZ;rw [hs2.out,←h]
  exact ho)
 have PC:=fun W v h=>sZ (ls.take k) v W base h (by rw [List.length_take];omega)
 have PC:=IU PC;have hown2:=IU hown2;have htr:=IU htr
 cases k with
 | zero=>
  have f2:=fin (by rw [←hgt.out,←htr.out];rfl);clear fin htr hgt;cases neg
  all_goals
   go_wp2_with (go_at_call 146;(with_reducible refine (PC.out _ _ hown2.out).mono ?_);rintro e w2 ⟨vc,rfl,hoc,hbc⟩;obtain ⟨ac,Ic,rfl,hmc,I8⟩:=hoc.view;have I4:=bx.keep hbc;have c0:=I4.c0;have c1:=I4.c1;have g0:=I4.f0;have g1:=I4.f1;clear I8 hmc)
   have hr:=yl (.bool false) hoc hbc;exact D_ (v:=.agg #[false,.slice ac 0 Ic]) results127 ⟨_,by rw [f2.out.1] <;> rfl,f2.out.2 _ _ _ hr.1,hr.2⟩
 | succ m=>
 obtain ⟨g,x,rfl,hg,hx,hcell⟩:=hv.out m ω
 by_cases h0:x=0
 ·subst h0
  have hct:=IU ((uI ω hx.out).symm.trans htr.out);clear fin htr;go_wp2
  go_roundw
  case rel=>exact ⟨m,ω,rfl,hct.out,by first | rfl | trivial⟩
  case measure=>simp
 have f2:=fin (by rw [←hgt.out,←htr.out,qJ hx.out h0]);generalize ls.take (m+1)=L at *;clear fin htr hgt;cases neg
 ·go_wp2_with (go_at_call 146;(with_reducible refine (PC.out _ _ hown2.out).mono ?_);rintro e w2 ⟨vc,rfl,hoc,hbc⟩;obtain ⟨ac,Ic,rfl,hmc,I8⟩:=hoc.view;have I4:=bx.keep hbc;have c0:=I4.c0;have c1:=I4.c1;have g0:=I4.f0;have g1:=I4.f1;clear I8 hmc)
  have hr:=yl (.bool false) hoc hbc;exact D_ (v:=.agg #[false,.slice ac L.length Ic]) results127 ⟨_,by rw [f2.out.1] <;> rfl,f2.out.2 _ _ _ hr.1,hr.2⟩
 go_wp2_with (go_at_call 146;(with_reducible refine (PC.out _ _ hown2.out).mono ?_);rintro e w2 ⟨vc,rfl,hoc,hbc⟩;obtain ⟨ac,Ic,rfl,hmc,I8⟩:=hoc.view;have I4:=bx.keep hbc;have c0:=I4.c0;have c1:=I4.c1;have g0:=I4.f0;have g1:=I4.f1;clear I8 hmc)
 have hr:=yl (.bool true) hoc hbc;exact D_ (v:=.agg #[true,.slice ac L.length Ic]) results127 ⟨_,by rw [f2.out.1] <;> simp,f2.out.2 _ _ _ hr.1,hr.2⟩
instance {w w':World} {b:Nat} {u v:Value}:HAdd (PLift (aw w b u v)) (PLift (Below w w w')) (PLift (aw w' b u v)):=⟨fun x h=>⟨x.down.keep h.down⟩⟩
namespace Wh
theorem xS (z:Int):JS (!decide (z<0)) z.natAbs=-z:=by
 unfold JS
 by_cases h:z<0
 ·rw [decide_eq_true h];simp only [Bool.not_true,Bool.false_eq_true,if_false];omega
 rw [decide_eq_false h];simp only [Bool.not_false,if_true];omega
theorem ry {o:List Int} {m N:Int} (ho:bK o) (h:val o+10000 ^ o.length*m=N) (hm:0<m) (hN:N<=1000000000000000000):o.length<=4:=by
 have h1:=db ho
 by_cases h5:5<=o.length
 ·have h2:=lR h5
  have h3:=Int.mul_le_mul_of_nonneg_left (show 1<=m by omega) (Int.le_of_lt (pow_pos o.length))
  have h4:(10000:Int) ^ 5=100000000000000000000:=δ
  omega
 omega
theorem mh {o:List Int} {m N:Int} (h:val o+10000 ^ o.length*m=N) (hm:0<=m):val (o ++ [m % 10000])+10000 ^ (o ++ [m % 10000]).length*(m / 10000)=N:=by
 rw [uM,List.length_append,List.length_singleton,Int.pow_succ];have:=Int.mul_ediv_add_emod m 10000;generalize m / 10000=q,m % 10000=r at *
 grind
end Wh
theorem iR (z:Int) (neg:Bool) (ls:List Int) (v:Value) (w:World) (base:Nat) (hown:aF w base v ls) (h:Wh.bK ls) (hl:ls.length<=1000000) (hz:Wh.JS neg (Wh.val ls)=z) :
  Calls prog 127 #[neg,v] w fun e w'=>∃ sl,e=.returned (.agg #[decide (z<0),sl])/\aZ w' w sl z/\Below w w w':=by
 subst hz;exact y6 neg ls v w base hown h hl
theorem dE {w w2:World} {sl:Value} {xs:List Int} (c base:Nat) (u:Value) (h1:w.heap.size<=c) (h2:c<base) (hoc:aF w2 base sl xs) (hB:Below w w w2) :
  aF ((w2.setCell ⟨c,0,none⟩ u).setCell ⟨c,1,none⟩ sl) w sl xs/\Below w w ((w2.setCell ⟨c,0,none⟩ u).setCell ⟨c,1,none⟩ sl):=by
 refine ⟨aF.base (World.ownsRow.kept hoc (dI w2 c u sl) ?_) ω,(hB.setCell h1 _).setCell h1 _⟩
 cases hs:sl.ownBlock with
 | none=>exact Or.inl rfl
 | some g=>
 right
 intro e
 injection e with e
 have:=(aF.lt hoc g hs).1;omega
theorem gy (w:World) (o o':Obj):((w.alloc o).alloc o').heap.size=w.heap.size+2:=by rw [IV,IV]
theorem aw.new2 (w:World) (o:Obj) (u v:Value) (T:TypeId):aw ((w.alloc o).alloc (.cells #[u,v] T)) (w.heap.size+1) u v:=by
 have:=aw.new (w.alloc o) u v T
 rwa [IV] at this
theorem iF (w:World) (u v:Value) (T:TypeId) (u2 v2:Value) (T2:TypeId) (u3 v3:Value) (T3:TypeId):∃ wc,((w.alloc (.cells #[u,v] T)).alloc (.cells #[u2,v2] T2)).alloc (.cells #[u3,v3] T3)=wc/\aw wc w u v/\aw wc (w.heap.size+1) u2 v2/\aw wc (w.heap.size+1+1) u3 v3/\Below w w wc:=by
 have h3:=aw.new2 (w.alloc (.cells #[u,v] T)) (.cells #[u2,v2] T2) u3 v3 T3;rw [IV] at h3;exact ⟨_,rfl,((aw.new w u v T).alloc _).alloc _,(aw.new2 w _ u2 v2 T2).alloc _,h3,(((IX w w).alloc (IY _) _).alloc (by rw [IV];omega) _).alloc (by rw [IV,IV];omega) _⟩
theorem lN (z:Int) (sl:Value) (w:World) (base:Nat) (ho:aZ w base sl z) (hl:(Wh.a_ z.natAbs).length<=1000000) :
  Calls prog 90 #[.agg #[decide (z<0),sl]] w fun e w'=>∃ sl',e=.returned (.agg #[decide (-z<0),sl'])/\aZ w' w sl' (-z)/\Below w w w':=by
 have PT:=fun W v h=>iR (-z) (!decide (z<0)) (Wh.a_ z.natAbs) v W base h (aj _) hl (by rw [bM];exact xS z)
 obtain ⟨a,cap,rfl,hm,hv⟩:=aF.view ho;clear hm hv;have ho:=IU (show aF _ _ _ _ from ho);generalize -z=y,decide (z<0)=b at *;generalize (Wh.a_ z.natAbs).length=n,decide (y<0)=b' at *;have bz:=aw.new2 w (.cells #[b,.slice a n cap] 116) (.bool false) (.slice none 0 0) 116;have hz2:=gy w (.cells #[b,.slice a n cap] 116) (.cells #[false,.slice none 0 0] 116);cases b
 all_goals
  simp only [Bool.not_true,Bool.not_false] at PT;have PT:=IU PT;go_enter func90,ntmps90
  go_wp2_with (go_at_call 127;(with_reducible refine (PT.out _ _ (aF.alloc (aF.alloc ho.out _) _)).mono ?_);rintro e w2 ⟨vc,rfl,hoc,hbc⟩;obtain ⟨ac,Ic,rfl,hmc,I8⟩:=aF.view hoc;have I4:=bz.keep hbc;have c0:=I4.c0;have c1:=I4.c1;have g0:=I4.f0;have g1:=I4.f1;clear I8 hmc)
  have hr:=dE (w:=w) (w.heap.size+1) _ (.bool b') ω (by rw [hz2];omega) hoc Jz;generalize (Wh.a_ y.natAbs).length=n2 at *;exact D_ results90 ⟨_,rfl,hr.1,hr.2⟩
theorem uT (z:Int) (sl:Value) (w:World) (base:Nat) (ho:aZ w base sl z) (hl:(Wh.a_ z.natAbs).length<=1000000) :
  Calls prog 184 #[.agg #[decide (z<0),sl]] w fun e w'=>∃ sl',e=.returned (.agg #[decide ((z.natAbs:Int)<0),sl'])/\aZ w' w sl' (z.natAbs:Int)/\Below w w w':=by
 have PT:=fun W v h=>iR (z.natAbs:Int) false (Wh.a_ z.natAbs) v W base h (aj _) hl (by rw [bM];rfl)
 obtain ⟨a,cap,rfl,hm,hv⟩:=aF.view ho;clear hm hv;have ho:=IU (show aF _ _ _ _ from ho);generalize decide (z<0)=b at *;generalize (z.natAbs:Int)=y at *;generalize (Wh.a_ z.natAbs).length=n,decide (y<0)=b' at *;have bz:=aw.new2 w (.cells #[b,.slice a n cap] 116) (.bool false) (.slice none 0 0) 116;have hz2:=gy w (.cells #[b,.slice a n cap] 116) (.cells #[false,.slice none 0 0] 116);cases b
 all_goals
  have PT:=IU PT;go_enter func184,ntmps184
  go_wp2_with (go_at_call 127;(with_reducible refine (PT.out _ _ (aF.alloc (aF.alloc ho.out _) _)).mono ?_);rintro e w2 ⟨vc,rfl,hoc,hbc⟩;obtain ⟨ac,Ic,rfl,hmc,I8⟩:=aF.view hoc;have I4:=bz.keep hbc;have c0:=I4.c0;have c1:=I4.c1;have g0:=I4.f0;have g1:=I4.f1;clear I8 hmc)
  have hr:=dE (w:=w) (w.heap.size+1) _ (.bool b') ω (by rw [hz2];omega) hoc Jz;generalize (Wh.a_ y.natAbs).length=n2 at *;exact D_ results184 ⟨_,rfl,hr.1,hr.2⟩
theorem aw.eN {w w':World} {b base:Nat} {u v:Value} (h:aw w b u v) (hb:Below base w w') (hl:b<base):aw w' b u v:=
 ⟨(hb.cell (p:=⟨b,0,none⟩) hl).trans h.c0,(hb.cell (p:=⟨b,1,none⟩) hl).trans h.c1,(hb.frozen (p:=⟨b,0,none⟩) hl).trans h.f0,(hb.frozen (p:=⟨b,1,none⟩) hl).trans h.f1,Nat.lt_of_lt_of_le h.size hb.size⟩
theorem br (n:Int) (w:World) (h1:-1000000000000000000<=n) (h2:n<=1000000000000000000) :
  Calls prog 88 #[n] w fun e w'=>∃ sl,e=.returned (.agg #[decide (n<0),sl])/\aZ w' w sl n/\Below w w w':=by
 obtain ⟨k,hk⟩:∃ k:Nat,n.natAbs=k:=⟨_,rfl⟩
 have PT:=fun (o:List Int) (W:World) (v:Value) (base:Nat) (h:aF W base v o) (hl:Wh.bK o) (hv:Wh.val o=k) (hlen:o.length<=1000000)=>iR n (decide (n<0)) o v W base h hl hlen (by rw [hv,←hk];exact uD n)
 have hbd:(k:Int)<=1000000000000000000:=ω
 have bx:=aw.new w (.bool false) (.slice none 0 0) 116
 by_cases hneg:n<0
 ·obtain rfl:n=-(k:Int):=ω
  have hk0:0<(k:Int):=ω
  have hdk:decide (-(k:Int)<0)=decide (0<k):=by rw [decide_eq_decide];omega
  rw [hdk] at PT ⊢;clear hdk;have PT:=IU PT;clear hk hneg h1 h2;go_enter func88,ntmps88
  go_wp2
  go_loopw [0,4] (fun vn vo wr=>∃ (m:Nat) (o:List Int),vn=.int .i64 m/\aF wr (w.heap.size+1) vo o/\Wh.bK o/\Wh.val o+10000 ^ o.length*(m:Int)=k/\m<=1000000000000000000/\o.length<=5/\Hid (aw wr w (.bool false) (.slice none 0 0))/\Below w w wr) (fun vn _ _=>(intOf vn).toNat)
  case atStart=>exact ⟨k,[],rfl,aF.nil _ _,(fun x hx=>by cases hx),by simp [Wh.val],ω,σ,IU bx,(IX _ _).alloc (IY _) _⟩
  case round=>
  clear bx;obtain ⟨m,o,rfl,hown,hls,hvl,hm18,JU,JN,hbr⟩:=hrel;have hls:=IU hls;have Kp:w.heap.size+1<=wr.heap.size:=JN.out.size
  by_cases hm0:0<m
  ·have hlen:=ry hls.out hvl ω ω
   have hst:=mh hvl ω;rw [show ((m:Int) % 10000)=((m % 10000:Nat):Int) by omega,show ((m:Int) / 10000)=((m / 10000:Nat):Int) by omega] at hst;have hst:=IU hst;have hrb:m % 10000<10000:=Nat.mod_lt _ δ;have Tk:m / 10000<m:=Nat.div_lt_self hm0 δ
   have t1:Int.tmod (m:Int) 10000=((m % 10000:Nat):Int):=by rw [Int.tmod_eq_emod_of_nonneg ω];omega
   have t2:Int.tdiv (m:Int) 10000=((m / 10000:Nat):Int):=by rw [Int.tdiv_eq_ediv_of_nonneg ω];omega
   generalize m / 10000=q,m % 10000=r at *;have hl2:Hid (Wh.bK (o ++ [(r:Int)])):=IU (dH hls.out fun y hy=>by rw [List.mem_singleton] at hy;subst hy;unfold Wh.lim;omega);have hl3:Hid ((o ++ [(r:Int)]).length<=5):=IU (by rw [List.length_append];simp;omega);have hown:=IU hown;clear hvl
   go_wp2_with (at_builtin;refine dJ (W:=wr) (w.heap.size+1) (r:Int) _ _ rfl (.tmp 15) (.tmp 18) rfl rfl rfl hown.out (IX _ _) ω ω ?_;rintro v6 w6 hown6 hb6)
   go_roundw
   case rel=>exact ⟨q,o ++ [(r:Int)],rfl,hown6,hl2.out,hst.out,ω,hl3.out,IU (JN.out.eN hb6 (Nat.lt_succ_self _)),hbr.trans (hb6.mono (Nat.le_succ _))⟩
   case measure=>simp [intOf];omega
  obtain rfl:m=0:=ω
  have Jc:Wh.val o=k:=by rw [←hvl];simp
  have Jc:=IU Jc;have hown:=IU hown;clear hvl
  go_wp2_with (go_at_call 127;(with_reducible refine (PT.out o _ _ _ hown.out hls.out Jc.out ω).mono ?_);rintro e w2 ⟨vc,rfl,hoc,hbc⟩;obtain ⟨ac,Ic,rfl,hmc,I8⟩:=aF.view hoc;have I4:=JN.out.keep hbc;have c0:=I4.c0;have c1:=I4.c1;have g0:=I4.f0;have g1:=I4.f1;clear I8 hmc)
  have hr:=dE (w:=w) w _ (.bool (decide (0<k))) (IY _) JN.out.size hoc (hbr.trans (hbc.mono ω))
  have en:(-(k:Int)).natAbs=k:=ω
  rw [en] at hr;generalize (Wh.a_ k).length=n2 at *;exact D_ results88 ⟨_,rfl,by unfold aZ;rw [en];exact hr.1,hr.2⟩
 obtain rfl:n=(k:Int):=ω
 rw [decide_eq_false hneg] at PT ⊢;have PT:=IU PT;clear hk h1 h2
 have XY:0<=(k:Int):=ω
 go_enter func88,ntmps88
 go_wp2
 go_loopw [0,4] (fun vn vo wr=>∃ (m:Nat) (o:List Int),vn=.int .i64 m/\aF wr (w.heap.size+1) vo o/\Wh.bK o/\Wh.val o+10000 ^ o.length*(m:Int)=k/\m<=1000000000000000000/\o.length<=5/\Hid (aw wr w (.bool false) (.slice none 0 0))/\Below w w wr) (fun vn _ _=>(intOf vn).toNat)
 case atStart=>exact ⟨k,[],rfl,aF.nil _ _,(fun x hx=>by cases hx),by simp [Wh.val],ω,σ,IU bx,(IX _ _).alloc (IY _) _⟩
 case round=>
 clear bx;obtain ⟨m,o,rfl,hown,hls,hvl,hm18,JU,JN,hbr⟩:=hrel;have hls:=IU hls;have Kp:w.heap.size+1<=wr.heap.size:=JN.out.size
 by_cases hm0:0<m
 ·have hlen:=ry hls.out hvl ω ω
  have hst:=mh hvl ω;rw [show ((m:Int) % 10000)=((m % 10000:Nat):Int) by omega,show ((m:Int) / 10000)=((m / 10000:Nat):Int) by omega] at hst;have hst:=IU hst;have hrb:m % 10000<10000:=Nat.mod_lt _ δ;have Tk:m / 10000<m:=Nat.div_lt_self hm0 δ
  have t1:Int.tmod (m:Int) 10000=((m % 10000:Nat):Int):=by rw [Int.tmod_eq_emod_of_nonneg ω];omega
  have t2:Int.tdiv (m:Int) 10000=((m / 10000:Nat):Int):=by rw [Int.tdiv_eq_ediv_of_nonneg ω];omega
  generalize m / 10000=q,m % 10000=r at *;have hl2:Hid (Wh.bK (o ++ [(r:Int)])):=IU (dH hls.out fun y hy=>by rw [List.mem_singleton] at hy;subst hy;unfold Wh.lim;omega);have hl3:Hid ((o ++ [(r:Int)]).length<=5):=IU (by rw [List.length_append];simp;omega);have hown:=IU hown;clear hvl
  go_wp2_with (at_builtin;refine dJ (W:=wr) (w.heap.size+1) (r:Int) _ _ rfl (.tmp 15) (.tmp 18) rfl rfl rfl hown.out (IX _ _) ω ω ?_;rintro v6 w6 hown6 hb6)
  go_roundw
  case rel=>exact ⟨q,o ++ [(r:Int)],rfl,hown6,hl2.out,hst.out,ω,hl3.out,IU (JN.out.eN hb6 (Nat.lt_succ_self _)),hbr.trans (hb6.mono (Nat.le_succ _))⟩
  case measure=>simp [intOf];omega
 obtain rfl:m=0:=ω
 have Jc:Wh.val o=k:=by rw [←hvl];simp
 have Jc:=IU Jc;have hown:=IU hown;clear hvl
 go_wp2_with (go_at_call 127;(with_reducible refine (PT.out o _ _ _ hown.out hls.out Jc.out ω).mono ?_);rintro e w2 ⟨vc,rfl,hoc,hbc⟩;obtain ⟨ac,Ic,rfl,hmc,I8⟩:=aF.view hoc;have I4:=JN.out.keep hbc;have c0:=I4.c0;have c1:=I4.c1;have g0:=I4.f0;have g1:=I4.f1;clear I8 hmc)
 have hr:=dE (w:=w) w _ (.bool false) (IY _) JN.out.size hoc (hbr.trans (hbc.mono ω))
 have en:(k:Int).natAbs=k:=ω
 rw [en] at hr;generalize (Wh.a_ k).length=n2 at *;exact D_ results88 ⟨_,rfl,by unfold aZ;rw [en];exact hr.1,hr.2⟩
end
section
open Go.RowKit open M Rw
theorem wg (xs:List Int) (v:Value) (w:World) (base:Nat) (hown:aF w base v xs) (hl:xs.length<=1000000000) :
  Calls prog 70 #[v] w fun e w'=>∃ v',e=.returned v'/\aF w' w v' xs/\Below w w w':=by
 obtain ⟨A,cap',rfl,hf⟩:=sy hown;have hf:=IU hf;go_enter func70,ntmps70
 go_wp2_with (at_builtin;refine tf (W:=w) w xs [] _ A _ _ (by rfl) (by rfl) (.tmp 3) (.tmp 4) (by rfl) (by rfl) (by rfl) (hf.out _ Jz) (aF.Dn _ _ (IY _)) Jz σ (by simp;omega) ?_;rintro v1 w1 hown1 hb1)
 go_ret;exact ⟨_,rfl,hown1,hb1⟩
end
section
open Go.RowKit open Gr M Rw Wh
theorem zv (neg:Bool) (ls:List Int) (v:Value) (w:World) (base:Nat) (hown:aF w base v ls) (h:Wh.bK ls) (hl:ls.length<=1000000) :
  Calls prog 196 #[neg,v] w fun e w'=>∃ sl,e=.returned (.agg #[decide (Wh.JS neg (Wh.val ls)<0),sl])/\aZ w' w sl (Wh.JS neg (Wh.val ls))/\Below w w w':=by
 obtain ⟨a,cap,rfl,hm,hv⟩:=hown.seen;have hv:=IU hv;have hgt:=IU (mg h);have hn:=db h;have hs1:=IU (xR (neg:=neg) hn);have hs2:=IU (rc (neg:=neg) hn);have hls:=IU h;have hcp:=hown.cap;replace hown:=IU hown;clear hm hn h;have bx:=aw.new w (.bool false) (.slice none 0 0) 116;go_enter func196,ntmps196
 go_wp2
 go_loopw [5] (fun vl wr=>∃ k:Nat,k<=ls.length/\vl=.int .i64 k/\Wh.trim (ls.take k)=Wh.trim ls/\wr=w.alloc (.cells #[false,.slice none 0 0] 116)) (fun vl _=>(intOf vl).toNat)
 case atStart=>exact ⟨ls.length,IY _,rfl,by rw [List.take_length],rfl⟩
 case round=>
 obtain ⟨k,hk,rfl,htr,rfl⟩:=hrel;have hown2:aF (w.alloc (.cells #[false,.slice none 0 0] 116)) base (.slice a k cap) (ls.take k):=(aF.HX hown.out hk).alloc _
 have fin:ls.take k=Wh.a_ (Wh.val ls).toNat->Hid ((decide (Wh.JS neg (Wh.val ls)<0)=(neg && decide (0<k)))/\∀ (W:World) (b:Nat) (vc:Value),aF W b vc (ls.take k)->aZ W b vc (Wh.JS neg (Wh.val ls))):=fun h=>IU (by
  have h2:=uF hk h;have hn:=db hls.out;refine ⟨?_,fun W b vc ho=>?_⟩
  ·rw [hs1.out]
   congr 1
   rw [decide_eq_decide,←h2];omega
  unfold aZ;rw [hs2.out,←h]
  exact ho)
 have PC:=fun W v h=>wg (ls.take k) v W base h (by rw [List.length_take];omega)
 have PC:=IU PC;have hown2:=IU hown2;have htr:=IU htr
 cases k with
 | zero=>
  have f2:=fin (by rw [←hgt.out,←htr.out];rfl);clear fin htr hgt;cases neg
  all_goals
   go_wp2_with (go_at_call 70;(with_reducible refine (PC.out _ _ hown2.out).mono ?_);rintro e w2 ⟨vc,rfl,hoc,hbc⟩;obtain ⟨ac,Ic,rfl,hmc,I8⟩:=hoc.view;have I4:=bx.keep hbc;have c0:=I4.c0;have c1:=I4.c1;have g0:=I4.f0;have g1:=I4.f1;clear I8 hmc)
   have hr:=yl (.bool false) hoc hbc;exact D_ (v:=.agg #[false,.slice ac 0 Ic]) results196 ⟨_,by rw [f2.out.1] <;> rfl,f2.out.2 _ _ _ hr.1,hr.2⟩
 | succ m=>
 obtain ⟨g,x,rfl,hg,hx,hcell⟩:=hv.out m ω
 by_cases h0:x=0
 ·subst h0
  have hct:=IU ((uI ω hx.out).symm.trans htr.out);clear fin htr;go_wp2
  go_roundw
  case rel=>exact ⟨m,ω,ν,hct.out,by first | rfl | trivial⟩
  case measure=>simp [intOf]
 have f2:=fin (by rw [←hgt.out,←htr.out,qJ hx.out h0]);generalize ls.take (m+1)=L at *;clear fin htr hgt;cases neg
 ·go_wp2_with (go_at_call 70;(with_reducible refine (PC.out _ _ hown2.out).mono ?_);rintro e w2 ⟨vc,rfl,hoc,hbc⟩;obtain ⟨ac,Ic,rfl,hmc,I8⟩:=hoc.view;have I4:=bx.keep hbc;have c0:=I4.c0;have c1:=I4.c1;have g0:=I4.f0;have g1:=I4.f1;clear I8 hmc)
  have hr:=yl (.bool false) hoc hbc;exact D_ (v:=.agg #[false,.slice ac L.length Ic]) results196 ⟨_,by rw [f2.out.1] <;> rfl,f2.out.2 _ _ _ hr.1,hr.2⟩
 go_wp2_with (go_at_call 70;(with_reducible refine (PC.out _ _ hown2.out).mono ?_);rintro e w2 ⟨vc,rfl,hoc,hbc⟩;obtain ⟨ac,Ic,rfl,hmc,I8⟩:=hoc.view;have I4:=bx.keep hbc;have c0:=I4.c0;have c1:=I4.c1;have g0:=I4.f0;have g1:=I4.f1;clear I8 hmc)
 have hr:=yl (.bool true) hoc hbc;exact D_ (v:=.agg #[true,.slice ac L.length Ic]) results196 ⟨_,by rw [f2.out.1] <;> simp,f2.out.2 _ _ _ hr.1,hr.2⟩
theorem jL (z:Int) (neg:Bool) (ls:List Int) (v:Value) (w:World) (base:Nat) (hown:aF w base v ls) (h:Wh.bK ls) (hl:ls.length<=1000000) (hz:Wh.JS neg (Wh.val ls)=z) :
  Calls prog 196 #[neg,v] w fun e w'=>∃ sl,e=.returned (.agg #[decide (z<0),sl])/\aZ w' w sl z/\Below w w w':=by
 subst hz;exact zv neg ls v w base hown h hl
theorem kv (z:Int) (sl:Value) (w:World) (base:Nat) (ho:aZ w base sl z) (hl:(Wh.a_ z.natAbs).length<=1000000) :
  Calls prog 192 #[.agg #[decide (z<0),sl]] w fun e w'=>∃ sl',e=.returned (.agg #[decide (-z<0),sl'])/\aZ w' w sl' (-z)/\Below w w w':=by
 have PT:=fun W v h=>jL (-z) (!decide (z<0)) (Wh.a_ z.natAbs) v W base h (aj _) hl (by rw [bM];exact xS z)
 obtain ⟨a,cap,rfl,hm,hv⟩:=aF.view ho;clear hm hv;have ho:=IU (show aF _ _ _ _ from ho);generalize -z=y,decide (z<0)=b at *;generalize (Wh.a_ z.natAbs).length=n,decide (y<0)=b' at *;have bz:=aw.new2 w (.cells #[b,.slice a n cap] 116) (.bool false) (.slice none 0 0) 116;have hz2:=gy w (.cells #[b,.slice a n cap] 116) (.cells #[false,.slice none 0 0] 116);cases b
 all_goals
  simp only [Bool.not_true,Bool.not_false] at PT;have PT:=IU PT;go_enter func192,ntmps192
  go_wp2_with (go_at_call 196;(with_reducible refine (PT.out _ _ (aF.alloc (aF.alloc ho.out _) _)).mono ?_);rintro e w2 ⟨vc,rfl,hoc,hbc⟩;obtain ⟨ac,Ic,rfl,hmc,I8⟩:=aF.view hoc;have I4:=bz.keep hbc;have c0:=I4.c0;have c1:=I4.c1;have g0:=I4.f0;have g1:=I4.f1;clear I8 hmc)
  have hr:=dE (w:=w) (w.heap.size+1) _ (.bool b') ω (by rw [hz2];omega) hoc Jz;generalize (Wh.a_ y.natAbs).length=n2 at *;exact D_ results192 ⟨_,rfl,hr.1,hr.2⟩
theorem nL (n:Int) (w:World) (h1:-1000000000000000000<=n) (h2:n<=1000000000000000000) :
  Calls prog 177 #[n] w fun e w'=>∃ sl,e=.returned (.agg #[decide (n<0),sl])/\aZ w' w sl n/\Below w w w':=by
 obtain ⟨k,hk⟩:∃ k:Nat,n.natAbs=k:=⟨_,rfl⟩
 have PT:=fun (o:List Int) (W:World) (v:Value) (base:Nat) (h:aF W base v o) (hl:Wh.bK o) (hv:Wh.val o=k) (hlen:o.length<=1000000)=>jL n (decide (n<0)) o v W base h hl hlen (by rw [hv,←hk];exact uD n)
 have PA:=fun W=>df n W ω ω
 rw [hk] at PA
 have hbd:(k:Int)<=1000000000000000000:=ω
 have bx:=aw.new w (.bool false) (.slice none 0 0) 116
 by_cases hneg:n<0
 ·obtain rfl:n=-(k:Int):=ω
  have hk0:0<(k:Int):=ω
  have hdk:decide (-(k:Int)<0)=decide (0<k):=by rw [decide_eq_decide];omega
  rw [hdk] at PT ⊢;clear hdk;have PT:=IU PT;have PA:=IU PA;clear hk hneg h1 h2;go_enter func177,ntmps177
  go_wp2_with (go_at_call 53;with_reducible refine Id (PA.out _) ?_)
  go_loopw [3,4] (fun vo vn wr=>∃ (m:Nat) (o:List Int),vn=.int .i64 m/\aF wr (w.heap.size+1) vo o/\Wh.bK o/\Wh.val o+10000 ^ o.length*(m:Int)=k/\m<=1000000000000000000/\o.length<=5/\Hid (aw wr w (.bool false) (.slice none 0 0))/\Below w w wr) (fun _ vn _=>(intOf vn).toNat)
  case atStart=>exact ⟨k,[],rfl,aF.nil _ _,(fun x hx=>by cases hx),by simp [Wh.val],ω,σ,IU bx,(IX _ _).alloc (IY _) _⟩
  case round=>
  clear bx;obtain ⟨m,o,rfl,hown,hls,hvl,hm18,JU,JN,hbr⟩:=hrel;have hls:=IU hls;have Kp:w.heap.size+1<=wr.heap.size:=JN.out.size
  by_cases hm0:0<m
  ·have hlen:=ry hls.out hvl ω ω
   have hst:=mh hvl ω;rw [show ((m:Int) % 10000)=((m % 10000:Nat):Int) by omega,show ((m:Int) / 10000)=((m / 10000:Nat):Int) by omega] at hst;have hst:=IU hst;have hrb:m % 10000<10000:=Nat.mod_lt _ δ;have Tk:m / 10000<m:=Nat.div_lt_self hm0 δ
   have t1:Int.tmod (m:Int) 10000=((m % 10000:Nat):Int):=by rw [Int.tmod_eq_emod_of_nonneg ω];omega
   have t2:Int.tdiv (m:Int) 10000=((m / 10000:Nat):Int):=by rw [Int.tdiv_eq_ediv_of_nonneg ω];omega
   generalize m / 10000=q,m % 10000=r at *;have hl2:Hid (Wh.bK (o ++ [(r:Int)])):=IU (dH hls.out fun y hy=>by rw [List.mem_singleton] at hy;subst hy;unfold Wh.lim;omega);have hl3:Hid ((o ++ [(r:Int)]).length<=5):=IU (by rw [List.length_append];simp;omega);have hown:=IU hown;clear hvl
   go_wp2_with (at_builtin;refine dJ (W:=wr) (w.heap.size+1) (r:Int) _ _ rfl (.tmp 11) (.tmp 14) rfl rfl rfl hown.out (IX _ _) ω ω ?_;rintro v6 w6 hown6 hb6)
   go_roundw
   case rel=>exact ⟨q,o ++ [(r:Int)],rfl,hown6,hl2.out,hst.out,ω,hl3.out,IU (JN.out.eN hb6 (Nat.lt_succ_self _)),hbr.trans (hb6.mono (Nat.le_succ _))⟩
   case measure=>simp [intOf];omega
  obtain rfl:m=0:=ω
  have Jc:Wh.val o=k:=by rw [←hvl];simp
  have Jc:=IU Jc;have hown:=IU hown;clear hvl
  go_wp2_with (go_at_call 196;(with_reducible refine (PT.out o _ _ _ hown.out hls.out Jc.out ω).mono ?_);rintro e w2 ⟨vc,rfl,hoc,hbc⟩;obtain ⟨ac,Ic,rfl,hmc,I8⟩:=aF.view hoc;have I4:=JN.out.keep hbc;have c0:=I4.c0;have c1:=I4.c1;have g0:=I4.f0;have g1:=I4.f1;clear I8 hmc)
  have hr:=dE (w:=w) w _ (.bool (decide (0<k))) (IY _) JN.out.size hoc (hbr.trans (hbc.mono ω))
  have en:(-(k:Int)).natAbs=k:=ω
  rw [en] at hr;generalize (Wh.a_ k).length=n2 at *;exact D_ results177 ⟨_,rfl,by unfold aZ;rw [en];exact hr.1,hr.2⟩
 obtain rfl:n=(k:Int):=ω
 have PT:=IU PT;have PA:=IU PA;clear hk h1 h2
 have XY:0<=(k:Int):=ω
 go_enter func177,ntmps177
 go_wp2_with (go_at_call 53;with_reducible refine Id (PA.out _) ?_)
 go_loopw [3,4] (fun vo vn wr=>∃ (m:Nat) (o:List Int),vn=.int .i64 m/\aF wr (w.heap.size+1) vo o/\Wh.bK o/\Wh.val o+10000 ^ o.length*(m:Int)=k/\m<=1000000000000000000/\o.length<=5/\Hid (aw wr w (.bool false) (.slice none 0 0))/\Below w w wr) (fun _ vn _=>(intOf vn).toNat)
 case atStart=>exact ⟨k,[],rfl,aF.nil _ _,(fun x hx=>by cases hx),by simp [Wh.val],ω,σ,IU bx,(IX _ _).alloc (IY _) _⟩
 case round=>
 clear bx;obtain ⟨m,o,rfl,hown,hls,hvl,hm18,JU,JN,hbr⟩:=hrel;have hls:=IU hls;have Kp:w.heap.size+1<=wr.heap.size:=JN.out.size
 by_cases hm0:0<m
 ·have hlen:=ry hls.out hvl ω ω
  have hst:=mh hvl ω;rw [show ((m:Int) % 10000)=((m % 10000:Nat):Int) by omega,show ((m:Int) / 10000)=((m / 10000:Nat):Int) by omega] at hst;have hst:=IU hst;have hrb:m % 10000<10000:=Nat.mod_lt _ δ;have Tk:m / 10000<m:=Nat.div_lt_self hm0 δ
  have t1:Int.tmod (m:Int) 10000=((m % 10000:Nat):Int):=by rw [Int.tmod_eq_emod_of_nonneg ω];omega
  have t2:Int.tdiv (m:Int) 10000=((m / 10000:Nat):Int):=by rw [Int.tdiv_eq_ediv_of_nonneg ω];omega
  generalize m / 10000=q,m % 10000=r at *;have hl2:Hid (Wh.bK (o ++ [(r:Int)])):=IU (dH hls.out fun y hy=>by rw [List.mem_singleton] at hy;subst hy;unfold Wh.lim;omega);have hl3:Hid ((o ++ [(r:Int)]).length<=5):=IU (by rw [List.length_append];simp;omega);have hown:=IU hown;clear hvl
  go_wp2_with (at_builtin;refine dJ (W:=wr) (w.heap.size+1) (r:Int) _ _ rfl (.tmp 11) (.tmp 14) rfl rfl rfl hown.out (IX _ _) ω ω ?_;rintro v6 w6 hown6 hb6)
  go_roundw
  case rel=>exact ⟨q,o ++ [(r:Int)],rfl,hown6,hl2.out,hst.out,ω,hl3.out,IU (JN.out.eN hb6 (Nat.lt_succ_self _)),hbr.trans (hb6.mono (Nat.le_succ _))⟩
  case measure=>simp [intOf];omega
 obtain rfl:m=0:=ω
 have Jc:Wh.val o=k:=by rw [←hvl];simp
 have Jc:=IU Jc;have hown:=IU hown;clear hvl
 go_wp2_with (go_at_call 196;(with_reducible refine (PT.out o _ _ _ hown.out hls.out Jc.out ω).mono ?_);rintro e w2 ⟨vc,rfl,hoc,hbc⟩;obtain ⟨ac,Ic,rfl,hmc,I8⟩:=aF.view hoc;have I4:=JN.out.keep hbc;have c0:=I4.c0;have c1:=I4.c1;have g0:=I4.f0;have g1:=I4.f1;clear I8 hmc)
 have hr:=dE (w:=w) w _ (.bool (decide ((k:Int)<0))) (IY _) JN.out.size hoc (hbr.trans (hbc.mono ω))
 have en:(k:Int).natAbs=k:=ω
 rw [en] at hr;generalize (Wh.a_ k).length=n2 at *;exact D_ results177 ⟨_,rfl,by unfold aZ;rw [en];exact hr.1,hr.2⟩
def mu (W:World) (base:Nat) (v:Value) (z:Int) (n:Nat):Prop:=∃ o,aF W base v o/\Wh.bK o/\Wh.val o=z/\o.length<=n
theorem BW (n:Nat):(madeCells (Value.int .i64 0).cells (n*1)).toList=(List.replicate n (0:Int)).map (Value.int .i64):=by
 show (madeCells #[Value.int .i64 0] (n*1)).toList=_
 rw [toList_madeCells_one,Nat.mul_one,List.map_replicate]
theorem oR (w:World) (n:Nat) (hn:n<=1000000000):∃ w1,(Instr.makeSlice 29 (.int .i64 (n:Int)) (.int .i64 (n:Int))).run prog w=.ok (.slice (some ⟨w,0,none⟩) n n) w1/\
  aF w1 w (.slice (some ⟨w,0,none⟩) n n) (List.replicate n 0)/\w.grownBy w1 none:=by
 obtain ⟨i0,hi,hz0,hz1,hz2⟩:=info_parts kN;obtain ⟨w1,h1,h2,h3⟩:=run_make_full (P:=prog) w w 29 3 i0 (.int .i64 0) 1 Tryz.underlying29 hi hz0 hz1 .i64 .i64 n (by rw [hz2];omega) (by unfold maxLen;omega) (IY _);refine ⟨w1,h1,?_,h3⟩;unfold aF;rw [←BW,List.length_replicate];exact h2
theorem gK {w:World} {base g cap n:Nat} {l:List Int} (hl:l.length=n) (h:aF w base (.slice (some ⟨g,0,none⟩) n cap) l) (i:Nat):w.frozen? ⟨g,i,none⟩=false:=by
 unfold aF at h;rw [hl] at h;exact World.ownsRow.frozenAt h i
theorem uC {l:List Int} {i n:Nat} (hl:l.length=i) (hi:i<n) (x:Int):l ++ [x] ++ List.replicate (n - (i+1)) 0=(l ++ List.replicate (n - i) 0).set i x:=by
 rw [List.set_append_right _ _ ω,hl,Nat.sub_self,show n - i=(n - (i+1))+1 by omega,List.replicate_succ,List.set_cons_zero];simp
theorem tU {l:List Int} {i n:Nat} (hl:l.length=i) (hi:i<n):(l ++ List.replicate (n - i) (0:Int))[i]?=some 0:=by
 rw [List.getElem?_append_right ω,hl,Nat.sub_self,List.getElem?_replicate,if_pos ω]
theorem tP {l:List Int} {i n:Nat} (hl:l.length=i) (hi:i<=n):(l ++ List.replicate (n - i) (0:Int)).length=n:=by
 rw [List.length_append,List.length_replicate];omega
theorem nG (xs ys:List Int) (s:Int) (va vb:Value) (w:World) (ba bb:Nat) (hs:s=1∨s=-1) (hoa:aF w ba va xs) (JK:aF w bb vb ys) (hla:Wh.bK xs) (hlb:Wh.bK ys) (hnn:0<=Wh.val xs+s*Wh.val ys) (hl1:xs.length<=100000) (hl2:ys.length<=100000) :
  Calls prog 128 #[va,vb,s] w fun e w'=>∃ v,e=.returned v/\mu w' w v (Wh.val xs+s*Wh.val ys) (xs.length+ys.length+1)/\Below w w w':=by
 obtain ⟨aa,s_,rfl,hma,hva⟩:=hoa.seen;obtain ⟨ab,Il,rfl,hmb,hvb⟩:=JK.seen;have hva:=IU hva;have hvb:=IU hvb;have hla:=IU hla;have hlb:=IU hlb;have hnn:=IU hnn;clear hma hmb hoa JK
 by_cases hab:xs.length<ys.length
 ·obtain ⟨w1,hrun,hown1,hg1⟩:=oR w (ys.length+1) ω
  rw [show ((ys.length+1:Nat):Int)=(ys.length:Int)+1 by omega] at hrun;have hb1:Below w w w1:=bS hg1 (IY _) (fun k hk=>by cases hk);clear hg1;go_enter func128,ntmps128
  go_wp2
  go_loopw [8,9,10,20,46,51] (fun vc _ _ vi _ _ wr=>∃ (i:Nat) (o:List Int) (c:Int),i<=ys.length+1/\vi=.int .i64 i/\vc=.int .i64 c/\aF wr w (.slice (some ⟨w,0,none⟩) (ys.length+1) (ys.length+1)) (o ++ List.replicate (ys.length+1 - i) 0)/\iC xs ys s i o c/\Below w w wr) (fun _ _ _ vi _ _ _=>ys.length+1 - (intOf vi).toNat)
  case atStart=>exact ⟨0,[],0,ω,rfl,rfl,by simpa using hown1,iC.start xs ys s,hb1⟩
  case round=>
  clear hown1 hb1;obtain ⟨i,o,c,hi,rfl,rfl,hown,hai,hbr⟩:=hrel
  by_cases hlt:i<ys.length+1
  ·have hrg:=hai.rng hs hla.out hlb.out
   have hl0:=tP hai.len hi;have hc0:=aF.cellAt hl0.symm hown (tU hai.len hlt);have hf0:wr.frozen? ⟨w,i,none⟩=false:=gK hl0 hown i
   have hst:=IU fun x=>aF.set hl0.symm hown x (uC hai.len hlt x)
   have hstep:=IU fun x c' h1 h2 h3 h4=>hai.step (x:=x) (c':=c') h1 h2 h3 h4
   have Kp:=hbr.size;have JC:=IU hbr;clear hown hl0 hai
   by_cases ha:i<xs.length
   ·obtain ⟨ga,xa,ea,hga,hxa,hca⟩:=hva.out i ha
    subst ea;have hca:=aE hbr hca;rw [dZ hxa.out] at hrg hstep;clear hxa
    by_cases hb:i<ys.length
    ·obtain ⟨gb,xb,eb,hgb,hxb,hcb⟩:=hvb.out i hb
     subst eb;have hcb:=aE hbr hcb;have hlx:=hlb.out xb (List.mem_of_getElem? hxb.out);unfold Wh.lim at hlx
     have hsx:-9999<=s*xb/\s*xb<=9999:=by rcases hs with rfl | rfl <;> omega
     rw [dZ hxb.out] at hrg hstep;generalize hsb:s*xb=sb at *;clear hxb hlx
     by_cases hx0:c+xa+sb<0
     ·skip
      have hS:=hstep.out (c+xa+sb+10000) (-1) ⟨ω,ω⟩ ω ξ ξ;have hS:=IU hS;have hO:=IU (hst.out (c+xa+sb+10000));clear hstep hst;go_wp2
      go_roundw
      case rel=>exact ⟨i+1,_,_,ω,ν,ν,hO.out.1,hS.out,JC.out.setCell (IY _) _⟩
      case measure=>simp [intOf];omega
     by_cases hx1:10000<=c+xa+sb
     ·skip
      have hS:=hstep.out (c+xa+sb - 10000) (1) ⟨ω,ω⟩ ω ξ ξ;have hS:=IU hS;have hO:=IU (hst.out (c+xa+sb - 10000));clear hstep hst;go_wp2
      go_roundw
      case rel=>exact ⟨i+1,_,_,ω,ν,ν,hO.out.1,hS.out,JC.out.setCell (IY _) _⟩
      case measure=>simp [intOf];omega
     skip
     have hS:=hstep.out (c+xa+sb) (0) ⟨ω,ω⟩ ω ξ ξ;have hS:=IU hS;have hO:=IU (hst.out (c+xa+sb));clear hstep hst;go_wp2
     go_roundw
     case rel=>exact ⟨i+1,_,_,ω,ν,ν,hO.out.1,hS.out,JC.out.setCell (IY _) _⟩
     case measure=>simp [intOf];omega
    rw [dY (l:=ys) ω,Int.mul_zero] at hrg hstep
    exfalso;omega
   rw [dY ω] at hrg hstep
   by_cases hb:i<ys.length
   ·obtain ⟨gb,xb,eb,hgb,hxb,hcb⟩:=hvb.out i hb
    subst eb;have hcb:=aE hbr hcb;have hlx:=hlb.out xb (List.mem_of_getElem? hxb.out);unfold Wh.lim at hlx
    have hsx:-9999<=s*xb/\s*xb<=9999:=by rcases hs with rfl | rfl <;> omega
    rw [dZ hxb.out] at hrg hstep;generalize hsb:s*xb=sb at *;clear hxb hlx
    by_cases hx0:c+sb<0
    ·skip
     have hS:=hstep.out (c+sb+10000) (-1) ⟨ω,ω⟩ ω ξ ξ;have hS:=IU hS;have hO:=IU (hst.out (c+sb+10000));clear hstep hst;go_wp2
     go_roundw
     case rel=>exact ⟨i+1,_,_,ω,ν,ν,hO.out.1,hS.out,JC.out.setCell (IY _) _⟩
     case measure=>simp [intOf];omega
    by_cases hx1:10000<=c+sb
    ·skip
     have hS:=hstep.out (c+sb - 10000) (1) ⟨ω,ω⟩ ω ξ ξ;have hS:=IU hS;have hO:=IU (hst.out (c+sb - 10000));clear hstep hst;go_wp2
     go_roundw
     case rel=>exact ⟨i+1,_,_,ω,ν,ν,hO.out.1,hS.out,JC.out.setCell (IY _) _⟩
     case measure=>simp [intOf];omega
    skip
    have hS:=hstep.out (c+sb) (0) ⟨ω,ω⟩ ω ξ ξ;have hS:=IU hS;have hO:=IU (hst.out (c+sb));clear hstep hst;go_wp2
    go_roundw
    case rel=>exact ⟨i+1,_,_,ω,ν,ν,hO.out.1,hS.out,JC.out.setCell (IY _) _⟩
    case measure=>simp [intOf];omega
   rw [dY (l:=ys) ω,Int.mul_zero] at hrg hstep
   by_cases hx0:c<0
   ·skip
    have hS:=hstep.out (c+10000) (-1) ⟨ω,ω⟩ ω ξ ξ;have hS:=IU hS;have hO:=IU (hst.out (c+10000));clear hstep hst;go_wp2
    go_roundw
    case rel=>exact ⟨i+1,_,_,ω,ν,ν,hO.out.1,hS.out,JC.out.setCell (IY _) _⟩
    case measure=>simp [intOf];omega
   by_cases hx1:10000<=c
   ·exfalso;omega
   skip
   have hS:=hstep.out (c) (0) ⟨ω,ω⟩ ω ξ ξ;have hS:=IU hS;have hO:=IU (hst.out (c));clear hstep hst;go_wp2
   go_roundw
   case rel=>exact ⟨i+1,_,_,ω,ν,ν,hO.out.1,hS.out,JC.out.setCell (IY _) _⟩
   case measure=>simp [intOf];omega
  obtain rfl:i=ys.length+1:=ω
  have hf:=hai.fin hs ω ω hnn.out (Wh.sum_lt hs hla.out hlb.out ω ω);have hlen:=hai.len;rw [Nat.sub_self] at hown;have hres:Hid (mu wr w (.slice (some ⟨w,0,none⟩) (ys.length+1) (ys.length+1)) (Wh.val xs+s*Wh.val ys) (xs.length+ys.length+1)):=IU ⟨o,by simpa using hown,hai.ls,hf.2,ω⟩;clear hown hai hf hlen;go_wp2;go_ret;exact ⟨_,rfl,hres.out,hbr⟩
 obtain ⟨w1,hrun,hown1,hg1⟩:=oR w (xs.length+1) ω;rw [show ((xs.length+1:Nat):Int)=(xs.length:Int)+1 by omega] at hrun;have hb1:Below w w w1:=bS hg1 (IY _) (fun k hk=>by cases hk);clear hg1;go_enter func128,ntmps128
 go_wp2
 go_loopw [8,9,10,20,46,51] (fun vc _ _ vi _ _ wr=>∃ (i:Nat) (o:List Int) (c:Int),i<=xs.length+1/\vi=.int .i64 i/\vc=.int .i64 c/\aF wr w (.slice (some ⟨w,0,none⟩) (xs.length+1) (xs.length+1)) (o ++ List.replicate (xs.length+1 - i) 0)/\iC xs ys s i o c/\Below w w wr) (fun _ _ _ vi _ _ _=>xs.length+1 - (intOf vi).toNat)
 case atStart=>exact ⟨0,[],0,ω,rfl,rfl,by simpa using hown1,iC.start xs ys s,hb1⟩
 case round=>
 clear hown1 hb1;obtain ⟨i,o,c,hi,rfl,rfl,hown,hai,hbr⟩:=hrel
 by_cases hlt:i<xs.length+1
 ·have hrg:=hai.rng hs hla.out hlb.out
  have hl0:=tP hai.len hi;have hc0:=aF.cellAt hl0.symm hown (tU hai.len hlt);have hf0:wr.frozen? ⟨w,i,none⟩=false:=gK hl0 hown i
  have hst:=IU fun x=>aF.set hl0.symm hown x (uC hai.len hlt x)
  have hstep:=IU fun x c' h1 h2 h3 h4=>hai.step (x:=x) (c':=c') h1 h2 h3 h4
  have Kp:=hbr.size;have JC:=IU hbr;clear hown hl0 hai
  by_cases ha:i<xs.length
  ·obtain ⟨ga,xa,ea,hga,hxa,hca⟩:=hva.out i ha
   subst ea;have hca:=aE hbr hca;rw [dZ hxa.out] at hrg hstep;clear hxa
   by_cases hb:i<ys.length
   ·obtain ⟨gb,xb,eb,hgb,hxb,hcb⟩:=hvb.out i hb
    subst eb;have hcb:=aE hbr hcb;have hlx:=hlb.out xb (List.mem_of_getElem? hxb.out);unfold Wh.lim at hlx
    have hsx:-9999<=s*xb/\s*xb<=9999:=by rcases hs with rfl | rfl <;> omega
    rw [dZ hxb.out] at hrg hstep;generalize hsb:s*xb=sb at *;clear hxb hlx
    by_cases hx0:c+xa+sb<0
    ·skip
     have hS:=hstep.out (c+xa+sb+10000) (-1) ⟨ω,ω⟩ ω ξ ξ;have hS:=IU hS;have hO:=IU (hst.out (c+xa+sb+10000));clear hstep hst;go_wp2
     go_roundw
     case rel=>exact ⟨i+1,_,_,ω,ν,ν,hO.out.1,hS.out,JC.out.setCell (IY _) _⟩
     case measure=>simp [intOf];omega
    by_cases hx1:10000<=c+xa+sb
    ·skip
     have hS:=hstep.out (c+xa+sb - 10000) (1) ⟨ω,ω⟩ ω ξ ξ;have hS:=IU hS;have hO:=IU (hst.out (c+xa+sb - 10000));clear hstep hst;go_wp2
     go_roundw
     case rel=>exact ⟨i+1,_,_,ω,ν,ν,hO.out.1,hS.out,JC.out.setCell (IY _) _⟩
     case measure=>simp [intOf];omega
    skip
    have hS:=hstep.out (c+xa+sb) (0) ⟨ω,ω⟩ ω ξ ξ;have hS:=IU hS;have hO:=IU (hst.out (c+xa+sb));clear hstep hst;go_wp2
    go_roundw
    case rel=>exact ⟨i+1,_,_,ω,ν,ν,hO.out.1,hS.out,JC.out.setCell (IY _) _⟩
    case measure=>simp [intOf];omega
   rw [dY (l:=ys) ω,Int.mul_zero] at hrg hstep
   by_cases hx0:c+xa<0
   ·skip
    have hS:=hstep.out (c+xa+10000) (-1) ⟨ω,ω⟩ ω ξ ξ;have hS:=IU hS;have hO:=IU (hst.out (c+xa+10000));clear hstep hst;go_wp2
    go_roundw
    case rel=>exact ⟨i+1,_,_,ω,ν,ν,hO.out.1,hS.out,JC.out.setCell (IY _) _⟩
    case measure=>simp [intOf];omega
   by_cases hx1:10000<=c+xa
   ·skip
    have hS:=hstep.out (c+xa - 10000) (1) ⟨ω,ω⟩ ω ξ ξ;have hS:=IU hS;have hO:=IU (hst.out (c+xa - 10000));clear hstep hst;go_wp2
    go_roundw
    case rel=>exact ⟨i+1,_,_,ω,ν,ν,hO.out.1,hS.out,JC.out.setCell (IY _) _⟩
    case measure=>simp [intOf];omega
   skip
   have hS:=hstep.out (c+xa) (0) ⟨ω,ω⟩ ω ξ ξ;have hS:=IU hS;have hO:=IU (hst.out (c+xa));clear hstep hst;go_wp2
   go_roundw
   case rel=>exact ⟨i+1,_,_,ω,ν,ν,hO.out.1,hS.out,JC.out.setCell (IY _) _⟩
   case measure=>simp [intOf];omega
  rw [dY ω] at hrg hstep
  by_cases hb:i<ys.length
  ·obtain ⟨gb,xb,eb,hgb,hxb,hcb⟩:=hvb.out i hb
   subst eb;have hcb:=aE hbr hcb;have hlx:=hlb.out xb (List.mem_of_getElem? hxb.out);unfold Wh.lim at hlx
   have hsx:-9999<=s*xb/\s*xb<=9999:=by rcases hs with rfl | rfl <;> omega
   rw [dZ hxb.out] at hrg hstep;generalize hsb:s*xb=sb at *;clear hxb hlx
   exfalso;omega
  rw [dY (l:=ys) ω,Int.mul_zero] at hrg hstep
  by_cases hx0:c<0
  ·skip
   have hS:=hstep.out (c+10000) (-1) ⟨ω,ω⟩ ω ξ ξ;have hS:=IU hS;have hO:=IU (hst.out (c+10000));clear hstep hst;go_wp2
   go_roundw
   case rel=>exact ⟨i+1,_,_,ω,ν,ν,hO.out.1,hS.out,JC.out.setCell (IY _) _⟩
   case measure=>simp [intOf];omega
  by_cases hx1:10000<=c
  ·exfalso;omega
  skip
  have hS:=hstep.out (c) (0) ⟨ω,ω⟩ ω ξ ξ;have hS:=IU hS;have hO:=IU (hst.out (c));clear hstep hst;go_wp2
  go_roundw
  case rel=>exact ⟨i+1,_,_,ω,ν,ν,hO.out.1,hS.out,JC.out.setCell (IY _) _⟩
  case measure=>simp [intOf];omega
 obtain rfl:i=xs.length+1:=ω
 have hf:=hai.fin hs ω ω hnn.out (Wh.sum_lt hs hla.out hlb.out ω ω);have hlen:=hai.len;rw [Nat.sub_self] at hown;have hres:Hid (mu wr w (.slice (some ⟨w,0,none⟩) (xs.length+1) (xs.length+1)) (Wh.val xs+s*Wh.val ys) (xs.length+ys.length+1)):=IU ⟨o,by simpa using hown,hai.ls,hf.2,ω⟩;clear hown hai hf hlen;go_wp2;go_ret;exact ⟨_,rfl,hres.out,hbr⟩
end
section
open Go.RowKit open M
theorem uo (p k:Int) (w:World) (p1:0<=p) (p2:p<=1000) (k1:0<=k) (k2:k<=5) :
  cP 30 #[p,k] w (.int .i64 (dc p k.toNat)):=by
 go_enter func30,ntmps30
 go_wp2
 go_loop [5,7] (fun vo vi=>∃ j:Nat,(j:Int)<=k/\vi=.int .i64 j/\vo=.int .i64 (dc p j)) (fun _ vi=>(k - intOf vi).toNat)
 case atStart=>exact ⟨0,ω,rfl,rfl⟩
 case round=>
 obtain ⟨j,hj,rfl,rfl⟩:=hrel
 by_cases hlt:(j:Int)<k
 ·have hb:=tH p1 p2 (k:=j) ω
  have hm:=lM hb.1 hb.2 p1 p2;go_wp2
  go_round
  case rel=>exact ⟨j+1,ω,ν,rfl⟩
  case measure=>simp [intOf];omega
 have hjk:k.toNat=j:=ω
 have hjk:=IU hjk;go_wp2;go_ret;exact ⟨kc (by first | rfl | rw [hjk.out]),rfl⟩
noncomputable def kJ (n d:Int):Bool:=M.ins d 1 1000000000 && M.ins n (-1000000000) 1000000000 && (M.gcd n d == 1)
theorem fV {P:Program} {f:FuncId} {args:Array Value} {w:World} {n:Nat} {v:Value} (h:Calls P f args (w.drewN n) fun e w'=>e=.returned v/\w.drewN n=w') :
  Calls P f args (w.drewN n) fun e w''=>e=.returned v/\∃ m,w''=w.drewN m:=h.mono fun _ _ ⟨he,hm⟩=>⟨he,n,hm.symm⟩
theorem eR {P:Program} {f:FuncId} {args:Array Value} {w:World} {a n:Nat} {v:Value} (h:Calls P f args (w.drewN (a+n)) fun e w'=>e=.returned v/\w.drewN (a+n)=w') :
  Calls P f args (w.drewN (a+n)) fun e w''=>e=.returned v/\∃ m,w''=w.drewN (a+m):=h.mono fun _ _ ⟨he,hm⟩=>⟨he,n,hm.symm⟩
theorem sv (n d:Int) (w:World) :
  cB 101 #[.agg #[n,d]] w (kJ n d):=by
 unfold kJ
 have E1:=fun w=>dW d 1 1000000000 w
 have E2:=fun w=>dW n (-1000000000) 1000000000 w
 have hgg:M.gcd n.natAbs d.natAbs=M.gcd n d:=by simp [M.gcd,Int.gcd]
 cases h1:M.ins d 1 1000000000 <;> simp only [h1] at E1 <;> have E1:=IU E1
 ·have E2:=IU E2
  go_enter func101,ntmps101
  go_wp2
  go_quiet ((go_at_call 35;first | (with_reducible exact fV (E1.out _)) | (with_reducible exact eR (E1.out _)) | (with_reducible exact fV (E2.out _)) | (with_reducible exact eR (E2.out _))))
  go_wp2;go_ret;exact ⟨fO σ,Jz⟩
 obtain ⟨d1,d2⟩:=jj h1
 cases h2:M.ins n (-1000000000) 1000000000 <;> simp only [h2] at E2 <;> have E2:=IU E2
 ·go_enter func101,ntmps101
  go_wp2
  go_quiet ((go_at_call 35;first | (with_reducible exact fV (E1.out _)) | (with_reducible exact eR (E1.out _)) | (with_reducible exact fV (E2.out _)) | (with_reducible exact eR (E2.out _))))
  go_wp2;go_ret;exact ⟨fO σ,Jz⟩
 obtain ⟨n1,n2⟩:=jj h2
 have hd:(d.natAbs:Int)=d:=ω
 rw [hd] at hgg;have hgg:=IU hgg;go_enter func101,ntmps101
 go_wp2
 go_quiet ((first | (go_at_call 35;first | (with_reducible exact fV (E1.out _)) | (with_reducible exact eR (E1.out _)) | (with_reducible exact fV (E2.out _)) | (with_reducible exact eR (E2.out _))) | (go_at_call 53;first | exact fV (df _ _ ω ω) | exact eR (df _ _ ω ω)) | (go_at_call 52;first | exact fV (dR _ _ _ ω ω ω ω) | exact eR (dR _ _ _ ω ω ω ω))))
 go_wp2;go_ret;exact ⟨fO (by simp [hgg.out]),Jz⟩
end
section
open Go.RowKit open Gr M Rw Wh
theorem tJ (x:Int) (w:World):cP 154 #[x] w false:=by
 go_enter func154,ntmps154
 go_wp2;go_ret;exact ⟨σ,rfl⟩
theorem AD (x y:Int) (w:World):cP 147 #[x,y] w (.int .i64 (Wh.JR x y)):=by
 unfold Wh.JR
 by_cases h1:x<y
 ·go_enter func147,ntmps147
  go_wp2_with (go_at_call 154;refine (tJ _ _).mono ?_;rintro e w' ⟨rfl,rfl⟩)
  go_ret;exact ⟨by simp [h1],rfl⟩
 by_cases h2:y<x
 all_goals
  go_enter func147,ntmps147
  go_wp2_with (go_at_call 154;refine (tJ _ _).mono ?_;rintro e w' ⟨rfl,rfl⟩)
  go_ret;exact ⟨by simp [h1,h2],rfl⟩
namespace Wh
theorem EV {m n:Nat} (h:(a_ m).length≠(a_ n).length):JR ((a_ m).length:Int) ((a_ n).length:Int)=JR (m:Int) (n:Int):=by
 by_cases h':(a_ m).length<(a_ n).length
 ·have:=nc h'
  rw [lV ω,lV ω]
 have:=nc (m:=n) (n:=m) ω;rw [rb ω,rb ω]
end Wh
theorem fx (m n:Nat) (b1 b2:Bool) (va vb:Value) (w:World) (ba bb:Nat) (hoa:aF w ba va (Wh.a_ m)) (JK:aF w bb vb (Wh.a_ n)) (hl1:(Wh.a_ m).length<=100000) (hl2:(Wh.a_ n).length<=100000) :
  cB 129 #[.agg #[b1,va],.agg #[b2,vb]] w (.int .i64 (Wh.JR (m:Int) (n:Int))):=by
 obtain ⟨aa,s_,rfl,hma,hva⟩:=hoa.seen;obtain ⟨ab,Il,rfl,hmb,hvb⟩:=JK.seen;have hva:=IU hva;have hvb:=IU hvb;have hla:=IU (aj m);have hlb:=IU (aj n);have hv1:=IU (bM m);have hv2:=IU (bM n);clear hma hmb hoa JK;have bx:=(aw.new w (.bool b1) (.slice aa (Wh.a_ m).length s_) 116).alloc (.cells #[b2,.slice ab (Wh.a_ n).length Il] 116);have bz:=aw.new2 w (.cells #[b1,.slice aa (Wh.a_ m).length s_] 116) (.bool b2) (.slice ab (Wh.a_ n).length Il) 116
 by_cases hne:(Wh.a_ m).length=(Wh.a_ n).length
 ·generalize Wh.a_ m=xs at *
  generalize Wh.a_ n=ys at *;generalize hxl:xs.length=L at *;have hyl:=hne.symm;have YH:=IU hyl;rw [←hne] at bx bz hl2 hvb ⊢;clear hne hyl;have hyl:Hid (ys.length=L):=IU YH.out;have hxl:=IU hxl;go_enter func129,ntmps129
  go_wp2
  go_loopw [5] (fun vi wr=>∃ k:Nat,k<=L/\vi=.int .i64 ((k:Int) - 1)/\(∀ q:Nat,k<=q->q<L->Wh.nth xs q=Wh.nth ys q)/\Hid (aw wr w (.bool b1) (.slice aa L s_))/\Hid (aw wr (w.heap.size+1) (.bool b2) (.slice ab L Il))/\Below w w wr) (fun vi _=>(intOf vi+1).toNat)
  case atStart=>exact ⟨L,IY _,rfl,fun q h1 h2=>ω,IU bx,IU bz,Jz⟩
  case round=>
  clear bx bz;obtain ⟨k,hk,rfl,heq,JN,LX,hbr⟩:=hrel;have heq:=IU heq
  cases k with
  | zero=>
   have hz:Hid (Wh.JR (m:Int) (n:Int)=0):=IU (by
    rw [←hv1.out,←hv2.out]
    exact Wh.cmp_eq (n:=L) (by rw [hxl.out];exact IY _) (by rw [hyl.out];exact IY _) fun q h=>heq.out q (Nat.zero_le _) h)
   go_wp2;go_ret;exact ⟨by rw [hz.out] <;> rfl,hbr⟩
  | succ j=>
  obtain ⟨ga,x,ea,hga,hxa,hca⟩:=hva.out j ω;obtain ⟨gb,y,eb,hgb,hxb,hcb⟩:=hvb.out j ω;subst ea eb;have hca:=aE hbr hca;have hcb:=aE hbr hcb;have d1:=JN.out.c1;have d2:=LX.out.c1;have hnx:=IU (dZ hxa.out);have hny:=IU (dZ hxb.out)
  by_cases hxy:x=y
  ·subst hxy
   have heq2:Hid (∀ q:Nat,j<=q->q<L->Wh.nth xs q=Wh.nth ys q):=IU fun q h1 h2=>by
    by_cases hq:q=j
    ·subst hq;rw [hnx.out,hny.out]
    exact heq.out q ω h2
   go_wp2
   go_quiet (fail)
   go_wp2
   go_roundw
   case rel=>exact ⟨j,ω,ν,heq2.out,IU (JN.out.keep (aN (IX _ _) _)),IU (LX.out.keep (aN (IX _ _) _)),aN hbr _⟩
   case measure=>first | (simp [intOf];done) | (simp [intOf];omega)
  have hz:Hid (Wh.JR (m:Int) (n:Int)=Wh.JR x y):=IU (by
   rw [←hv1.out,←hv2.out]
   have l1:xs.length<=L:=by rw [hxl.out];exact IY _
   have l2:ys.length<=L:=by rw [hyl.out];exact IY _
   by_cases hlt:x<y
   ·rw [lV hlt]
    exact AF hla.out hlb.out l1 l2 (i:=j) ω (fun q h1 h2=>heq.out q ω h2) (by rw [hnx.out,hny.out];exact hlt)
   rw [rb (x:=x) (y:=y) ω]
   exact AE hla.out hlb.out l1 l2 (i:=j) ω (fun q h1 h2=>heq.out q ω h2) (by rw [hnx.out,hny.out];omega))
  have PC:=fun W=>AD x y W
  generalize Wh.JR x y=z at *;have PC:=IU PC;go_wp2
  go_quiet (fail)
  go_wp2
  go_quiet ((go_at_call 147;first | (with_reducible exact fV (PC.out _)) | (with_reducible exact eR (PC.out _))))
  go_wp2;go_ret;exact ⟨by rw [hz.out] <;> rfl,aN (aN hbr _) _⟩
 have PC:=fun W=>AD (Wh.a_ m).length (Wh.a_ n).length W
 rw [EV hne] at PC;generalize Wh.JR (m:Int) (n:Int)=z at *;generalize (Wh.a_ n).length=l2,(Wh.a_ m).length=l1 at *;have PC:=IU PC;clear hva hvb hla hlb hv1 hv2;go_enter func129,ntmps129
 go_wp2_with (go_at_call 147;with_reducible refine Id (PC.out _) ?_)
 go_ret;exact ⟨rfl,Jz⟩
theorem iQ (z y:Int) (n:Nat) (neg:Bool) (v:Value) (w:World) (base:Nat) (ho:mu w base v y n) (hn:n<=1000000) (hz:Wh.JS neg y=z) :
  Calls prog 127 #[neg,v] w fun e w'=>∃ sl,e=.returned (.agg #[decide (z<0),sl])/\aZ w' w sl z/\Below w w w':=by
 obtain ⟨o,h1,h2,h3,h4⟩:=ho;exact iR z neg o v w base h1 h2 ω (by rw [h3];exact hz)
theorem ag {W:World} {p:Addr} {v:Value} (h:W.cell? p=some v):(W.drew).cell? p=some v:=h
theorem aw.store {w:World} {b:Nat} {u v:Value} (h:aw w b u v) (x y:Value):aw ((w.setCell ⟨b,0,none⟩ x).setCell ⟨b,1,none⟩ y) b x y:=by
 obtain ⟨h1,h2,h3,h4,h5⟩:=h;exact ⟨by simp [go_sem, *],by simp [go_sem, *],by simp [go_sem, *],by simp [go_sem, *],by simp [go_sem, *]⟩
theorem aw.other {w:World} {b c:Nat} {u v:Value} (h:aw w b u v) (hn:b≠c) (x y:Value):aw ((w.setCell ⟨c,0,none⟩ x).setCell ⟨c,1,none⟩ y) b u v:=
 have hg:=dI w c x y
 have hn':some b≠some c:=by simpa using hn
 ⟨hg.cell h.c0 hn',hg.cell h.c1 hn',(Gr.frozen hg h.size hn').trans h.f0,(Gr.frozen hg h.size hn').trans h.f1,mE hg h.size⟩
theorem aw.drew {w:World} {b:Nat} {u v:Value} (h:aw w b u v):aw w.drew b u v:=⟨h.c0,h.c1,h.f0,h.f1,h.size⟩
namespace Wh
theorem add_same {a b:Int} {s:Bool} (ha:decide (a<0)=s) (hb:decide (b<0)=s):JS s ((a.natAbs:Int)+1*(b.natAbs:Int))=a+b:=by
 cases s
 ·simp only [decide_eq_false_iff_not] at ha hb;simp only [JS,Bool.false_eq_true,if_false];omega
 simp only [decide_eq_true_eq] at ha hb;simp only [JS,if_true];omega
theorem kC {a b:Int} {s:Bool} (ha:decide (a<0)=s) (hb:decide (b<0)=!s):JS s ((a.natAbs:Int)+-1*(b.natAbs:Int))=a+b:=by
 cases s
 ·simp only [decide_eq_false_iff_not,Bool.not_false,decide_eq_true_eq] at ha hb;simp only [JS,Bool.false_eq_true,if_false];omega
 simp only [decide_eq_true_eq,Bool.not_true,decide_eq_false_iff_not] at ha hb;simp only [JS,if_true];omega
end Wh
theorem ig (a b:Int) (va vb:Value) (w:World) (ba bb:Nat) (hoa:aZ w ba va a) (JK:aZ w bb vb b) (hl1:(Wh.a_ a.natAbs).length<=10000) (hl2:(Wh.a_ b.natAbs).length<=10000) :
  Calls prog 89 #[.agg #[decide (a<0),va],.agg #[decide (b<0),vb]] w fun e w'=>∃ sl,e=.returned (.agg #[decide (a+b<0),sl])/\aZ w' w sl (a+b)/\Below w w w':=by
 obtain ⟨aa,s_,rfl,-,-⟩:=aF.view hoa;obtain ⟨ab,Il,rfl,-,-⟩:=aF.view JK
 have PA:=fun s hs h0 W h1 h2=>nG (Wh.a_ a.natAbs) (Wh.a_ b.natAbs) s (.slice aa (Wh.a_ a.natAbs).length s_) (.slice ab (Wh.a_ b.natAbs).length Il) W ba bb hs h1 h2 (aj _) (aj _) h0 ω ω
 rw [bM,bM] at PA
 have PT:=fun s y (h:Wh.JS s y=a+b) W v base ho=>iQ (a+b) y ((Wh.a_ a.natAbs).length+(Wh.a_ b.natAbs).length+1) s v W base ho ω h
 have LJ:Hid (∀ W,Below w w W->aF W ba (.slice aa (Wh.a_ a.natAbs).length s_) (Wh.a_ a.natAbs)):=IU fun W h=>aF.below hoa h
 have Ma:Hid (∀ W,Below w w W->aF W bb (.slice ab (Wh.a_ b.natAbs).length Il) (Wh.a_ b.natAbs)):=IU fun W h=>aF.below JK h
 obtain ⟨s1,hs1⟩:∃ s,decide (a<0)=s:=⟨_,rfl⟩
 obtain ⟨s2,hs2⟩:∃ s,decide (b<0)=s:=⟨_,rfl⟩
 clear hoa JK
 by_cases hss:s1=s2
 ·subst hss
  have PT:=IU (PT s1 _ (Wh.add_same hs1 hs2));have PA:=IU (PA 1 (Or.inl rfl) ω);rw [hs1,hs2];clear hs1 hs2;generalize (a.natAbs:Int)+1*(b.natAbs:Int)=y at *;generalize Wh.a_ b.natAbs=ys,Wh.a_ a.natAbs=xs,a+b=z at *;generalize decide (z<0)=s,ys.length=l2,xs.length=l1 at *;obtain ⟨w3,hw3,b1,b2,b3,hB⟩:=iF w (.bool s1) (.slice aa l1 s_) 116 (.bool s1) (.slice ab l2 Il) 116 (.bool false) (.slice none 0 0) 116;have e1:=b1.c0;have e2:=b1.c1;have e3:=b2.c0;have e4:=b2.c1;go_enter func89,ntmps89
  go_wp2
  go_region_held3 (fun W=>W.cell? ⟨w,0,none⟩=some (.bool s1)/\W.cell? ⟨w,1,none⟩=some (.slice aa l1 s_)/\W.cell? ⟨w.heap.size+1,0,none⟩=some (.bool s1)/\W.cell? ⟨w.heap.size+1,1,none⟩=some (.slice ab l2 Il)) (first | exact ⟨hlA,hlA,hlA,hlA⟩ | (go_split_ands;exact ⟨hlA,hlA,hlA,hlA⟩) | go_keep) ((first
   | (go_at_call 128;(with_reducible refine (PA.out _ (LJ.out _ hB.drew) (Ma.out _ hB.drew)).mono ?_);rintro e w4 ⟨v4,rfl,Iq,hb4⟩;have B4:=hB.drew.trans (hb4.mono hB.size);have r4:=b3.drew.keep hb4;have KA:=aE hb4 (ag e1);have Kq:=aE hb4 (ag e2);have MJ:=aE hb4 (ag e3);have Mn:=aE hb4 (ag e4);(have z4:w3.heap.size<=w4.heap.size:=hb4.size))
   | (go_at_call 127;(with_reducible refine (PT.out _ _ _ Iq).mono ?_);rintro e w5 ⟨vc,rfl,hoc,hbc⟩;obtain ⟨ac,Ic,rfl,hmc,I8⟩:=aF.view hoc;have B5:=j_ B4 hbc;have r5:=r4.keep hbc;have c0:=r5.c0;have c1:=r5.c1;have g0:=r5.f0;have g1:=r5.f1;have Mu:=aE hbc KA;have Nf:=aE hbc Kq;have Q4:=aE hbc MJ;have RQ:=aE hbc Mn;clear I8 hmc)
   | fail "ARMS"))
  all_goals
   have hr:=dE (w:=w) (w.heap.size+1+1) _ (.bool s) ω (Nat.lt_of_lt_of_le b3.size z4) hoc B5;generalize (Wh.a_ z.natAbs).length=n2 at *;go_wp2;exact D_ results89 ⟨_,rfl,hr.1,hr.2⟩
 have PA':=fun s hs h0 W h1 h2=>nG (Wh.a_ b.natAbs) (Wh.a_ a.natAbs) s (.slice ab (Wh.a_ b.natAbs).length Il) (.slice aa (Wh.a_ a.natAbs).length s_) W bb ba hs h1 h2 (aj _) (aj _) h0 ω ω
 rw [bM,bM] at PA'
 have Q_:=fun s y (h:Wh.JS s y=a+b) W v base ho=>iQ (a+b) y ((Wh.a_ b.natAbs).length+(Wh.a_ a.natAbs).length+1) s v W base ho ω h
 obtain rfl:s2=!s1:=by cases s1 <;> cases s2 <;> simp_all
 have hsn:(s1 == !s1)=false:=by cases s1 <;> rfl
 clear hss;have hd:=kC (a:=a) (b:=b) hs1 hs2;have hd':=kC (a:=b) (b:=a) hs2 (by rw [Bool.not_not];exact hs1);rw [Int.add_comm b a] at hd'
 have PM:=fun W h1 h2=>fx a.natAbs b.natAbs s1 (!s1) (.slice aa (Wh.a_ a.natAbs).length s_) (.slice ab (Wh.a_ b.natAbs).length Il) W ba bb h1 h2 ω ω
 rw [hs1,hs2];clear hs1 hs2
 by_cases hlt:a.natAbs<b.natAbs
 ·skip
  have PT:=IU (Q_ (!s1) _ hd');have PA:=IU (PA' (-1) (Or.inr rfl) ω);rw [lV ω] at PM;have PM:=IU PM;clear hlt hd hd';generalize (b.natAbs:Int)+-1*(a.natAbs:Int)=y at *;generalize Wh.a_ b.natAbs=ys,Wh.a_ a.natAbs=xs,a+b=z at *;generalize decide (z<0)=s,ys.length=l2,xs.length=l1 at *;obtain ⟨w3,hw3,b1,b2,b3,hB⟩:=iF w (.bool s1) (.slice aa l1 s_) 116 (.bool (!s1)) (.slice ab l2 Il) 116 (.bool false) (.slice none 0 0) 116;have i1:=b1.c0;have i2:=b1.c1;have i3:=b2.c0;have i4:=b2.c1;go_enter func89,ntmps89
  go_wp2_with (go_at_call 129;with_reducible refine p_ (PM.out _ (LJ.out _ hB) (Ma.out _ hB)) fun wm KD=>?_;have m1:=b1.keep KD;have m2:=b2.keep KD;have m3:=b3.keep KD;have j1:=m1.c0;have j2:=m1.c1;have j3:=m2.c0;have j4:=m2.c1;have k1:=m1.f0;have k2:=m1.f1;have k3:=m2.f0;have k4:=m2.f1;have Bm:=j_ hB KD)
  have n1:=(m1.store (.bool (!s1)) (.slice ab l2 Il)).other (c:=w.heap.size+1) ω (.bool s1) (.slice aa l1 s_);have n2:=(m2.other (c:=w.heap.size) ω (.bool (!s1)) (.slice ab l2 Il)).store (.bool s1) (.slice aa l1 s_);have n3:=(m3.other (c:=w.heap.size) ω (.bool (!s1)) (.slice ab l2 Il)).other (c:=w.heap.size+1) ω (.bool s1) (.slice aa l1 s_);have Bn:=(((Bm.setCell (p:=⟨w,0,none⟩) (IY _) (.bool (!s1))).setCell (p:=⟨w,1,none⟩) (IY _) (.slice ab l2 Il)).setCell (p:=⟨w.heap.size+1,0,none⟩) (Nat.le_succ _) (.bool s1)).setCell (p:=⟨w.heap.size+1,1,none⟩) (Nat.le_succ _) (.slice aa l1 s_);generalize hwn:((((wm.setCell ⟨w,0,none⟩ (.bool (!s1))).setCell ⟨w,1,none⟩ (.slice ab l2 Il)).setCell ⟨w.heap.size+1,0,none⟩ (.bool s1)).setCell ⟨w.heap.size+1,1,none⟩ (.slice aa l1 s_))=wn at *;clear i1 i2 i3 i4 j1 j2 j3 j4 k1 k2 k3 k4 m1 m2 m3 b1 b2 b3 KD;have e1:=n1.c0;have e2:=n1.c1;have e3:=n2.c0;have e4:=n2.c1
  go_region_held3 (fun W=>W.cell? ⟨w,0,none⟩=some (.bool (!s1))/\W.cell? ⟨w,1,none⟩=some (.slice ab l2 Il)/\W.cell? ⟨w.heap.size+1,0,none⟩=some (.bool s1)/\W.cell? ⟨w.heap.size+1,1,none⟩=some (.slice aa l1 s_)) (first | exact ⟨hlA,hlA,hlA,hlA⟩ | (go_split_ands;exact ⟨hlA,hlA,hlA,hlA⟩) | go_keep) ((first
   | (go_at_call 128;(with_reducible refine (PA.out _ (Ma.out _ Bn.drew) (LJ.out _ Bn.drew)).mono ?_);rintro e w4 ⟨v4,rfl,Iq,hb4⟩;have B4:=Bn.drew.trans (hb4.mono Bn.size);have r4:=n3.drew.keep hb4;have KA:=aE hb4 (ag e1);have Kq:=aE hb4 (ag e2);have MJ:=aE hb4 (ag e3);have Mn:=aE hb4 (ag e4);(have z4:wn.heap.size<=w4.heap.size:=hb4.size))
   | (go_at_call 127;(with_reducible refine (PT.out _ _ _ Iq).mono ?_);rintro e w5 ⟨vc,rfl,hoc,hbc⟩;obtain ⟨ac,Ic,rfl,hmc,I8⟩:=aF.view hoc;have B5:=j_ B4 hbc;have r5:=r4.keep hbc;have c0:=r5.c0;have c1:=r5.c1;have g0:=r5.f0;have g1:=r5.f1;have Mu:=aE hbc KA;have Nf:=aE hbc Kq;have Q4:=aE hbc MJ;have RQ:=aE hbc Mn;clear I8 hmc)
   | fail "ARMS"))
  all_goals
   have hr:=dE (w:=w) (w.heap.size+1+1) _ (.bool s) ω (Nat.lt_of_lt_of_le n3.size z4) hoc B5;generalize (Wh.a_ z.natAbs).length=KH at *;go_wp2;exact D_ results89 ⟨_,rfl,hr.1,hr.2⟩
 skip
 have PT:=IU (PT s1 _ hd);have PA:=IU (PA (-1) (Or.inr rfl) ω)
 have hr0:¬ Wh.JR (a.natAbs:Int) (b.natAbs:Int)<0:=by unfold Wh.JR;rw [if_neg ω];split <;> omega
 generalize Wh.JR (a.natAbs:Int) (b.natAbs:Int)=rr at *;have PM:=IU PM;clear hlt hd hd';generalize (a.natAbs:Int)+-1*(b.natAbs:Int)=y at *;generalize Wh.a_ b.natAbs=ys,Wh.a_ a.natAbs=xs,a+b=z at *;generalize decide (z<0)=s,ys.length=l2,xs.length=l1 at *;obtain ⟨w3,hw3,b1,b2,b3,hB⟩:=iF w (.bool s1) (.slice aa l1 s_) 116 (.bool (!s1)) (.slice ab l2 Il) 116 (.bool false) (.slice none 0 0) 116;have i1:=b1.c0;have i2:=b1.c1;have i3:=b2.c0;have i4:=b2.c1;go_enter func89,ntmps89
 go_wp2_with (go_at_call 129;with_reducible refine p_ (PM.out _ (LJ.out _ hB) (Ma.out _ hB)) fun wm KD=>?_;have m1:=b1.keep KD;have m2:=b2.keep KD;have m3:=b3.keep KD;have j1:=m1.c0;have j2:=m1.c1;have j3:=m2.c0;have j4:=m2.c1;have k1:=m1.f0;have k2:=m1.f1;have k3:=m2.f0;have k4:=m2.f1;have Bm:=j_ hB KD)
 have n1:=m1;have n2:=m2;have n3:=m3;have Bn:=Bm;clear i1 i2 i3 i4 j1 j2 j3 j4 k1 k2 k3 k4 m1 m2 m3 b1 b2 b3 KD;have e1:=n1.c0;have e2:=n1.c1;have e3:=n2.c0;have e4:=n2.c1
 go_region_held3 (fun W=>W.cell? ⟨w,0,none⟩=some (.bool s1)/\W.cell? ⟨w,1,none⟩=some (.slice aa l1 s_)/\W.cell? ⟨w.heap.size+1,0,none⟩=some (.bool (!s1))/\W.cell? ⟨w.heap.size+1,1,none⟩=some (.slice ab l2 Il)) (first | exact ⟨hlA,hlA,hlA,hlA⟩ | (go_split_ands;exact ⟨hlA,hlA,hlA,hlA⟩) | go_keep) ((first
  | (go_at_call 128;(with_reducible refine (PA.out _ (LJ.out _ Bn.drew) (Ma.out _ Bn.drew)).mono ?_);rintro e w4 ⟨v4,rfl,Iq,hb4⟩;have B4:=Bn.drew.trans (hb4.mono Bn.size);have r4:=n3.drew.keep hb4;have KA:=aE hb4 (ag e1);have Kq:=aE hb4 (ag e2);have MJ:=aE hb4 (ag e3);have Mn:=aE hb4 (ag e4);(have z4:wm.heap.size<=w4.heap.size:=hb4.size))
  | (go_at_call 127;(with_reducible refine (PT.out _ _ _ Iq).mono ?_);rintro e w5 ⟨vc,rfl,hoc,hbc⟩;obtain ⟨ac,Ic,rfl,hmc,I8⟩:=aF.view hoc;have B5:=j_ B4 hbc;have r5:=r4.keep hbc;have c0:=r5.c0;have c1:=r5.c1;have g0:=r5.f0;have g1:=r5.f1;have Mu:=aE hbc KA;have Nf:=aE hbc Kq;have Q4:=aE hbc MJ;have RQ:=aE hbc Mn;clear I8 hmc)
  | fail "ARMS"))
 all_goals
  have hr:=dE (w:=w) (w.heap.size+1+1) _ (.bool s) ω (Nat.lt_of_lt_of_le n3.size z4) hoc B5;generalize (Wh.a_ z.natAbs).length=KH at *;go_wp2;exact D_ results89 ⟨_,rfl,hr.1,hr.2⟩
namespace Wh
theorem ws (a b:Int):JS (decide (a<0) != decide (b<0)) ((a.natAbs:Int)*(b.natAbs:Int))=a*b:=by
 rcases Int.natAbs_eq a with ha | ha <;> rcases Int.natAbs_eq b with hb | hb
 all_goals
  generalize b.natAbs=n,a.natAbs=m at *;subst ha hb
 ·rw [decide_eq_false ω,decide_eq_false ω];rfl
 ·by_cases h:n=0
  ·subst h;simp [JS]
  rw [decide_eq_false ω,decide_eq_true ω]
  show -((m:Int)*(n:Int))=(m:Int)*-(n:Int)
  rw [Int.mul_neg]
 ·by_cases h:m=0
  ·subst h;simp [JS]
  rw [decide_eq_true ω,decide_eq_false ω]
  show -((m:Int)*(n:Int))=-(m:Int)*(n:Int)
  rw [Int.neg_mul]
 by_cases h:m=0
 ·subst h;simp [JS]
 by_cases h':n=0
 ·subst h';simp [JS]
 rw [decide_eq_true ω,decide_eq_true ω]
 show (m:Int)*(n:Int)=-(m:Int)*-(n:Int)
 rw [Int.neg_mul_neg]
theorem Gz (n:Nat):bK (List.replicate n 0):=fun x hx=>by rw [(List.mem_replicate.1 hx).2];exact ⟨Int.le_refl _,δ⟩
theorem Cu:∀ n:Nat,val (List.replicate n 0)=0
 | 0=>rfl
 | n+1=>by
  rw [List.replicate_succ]
  show 0+10000*val (List.replicate n 0)=0
  rw [Cu n];rfl
theorem MInv.GQ {o0 o:List Int} {x:Int} {b:List Int} {i k:Nat} {c:Int} (h:MInv o0 o x b i k c):o[k]?=o0[k]?:=by
 have:=congrArg (fun l:List Int=>l[0]?) h.rest
 simpa [List.getElem?_drop] using this
end Wh
theorem dX (a b:Int) (va vb:Value) (w:World) (ba bb:Nat) (hoa:aZ w ba va a) (JK:aZ w bb vb b) (hl1:(Wh.a_ a.natAbs).length<=10000) (hl2:(Wh.a_ b.natAbs).length<=10000) :
  Calls prog 87 #[.agg #[decide (a<0),va],.agg #[decide (b<0),vb]] w fun e w'=>∃ sl,e=.returned (.agg #[decide (a*b<0),sl])/\aZ w' w sl (a*b)/\Below w w w':=by
 obtain ⟨aa,s_,rfl,hma,hva⟩:=aF.seen hoa;obtain ⟨ab,Il,rfl,hmb,hvb⟩:=aF.seen JK;have hva:=IU hva;have hvb:=IU hvb;have hla:=IU (aj a.natAbs);have hlb:=IU (aj b.natAbs)
 have PT:=fun W v base ho=>iQ (a*b) ((a.natAbs:Int)*(b.natAbs:Int)) ((Wh.a_ a.natAbs).length+(Wh.a_ b.natAbs).length+1) (decide (a<0) != decide (b<0)) v W base ho ω (ws a b)
 have hpr:Hid (∀ (x y:List Int),x=Wh.a_ a.natAbs->y=Wh.a_ b.natAbs->Wh.val x*Wh.val y=(a.natAbs:Int)*(b.natAbs:Int)):=IU fun x y h1 h2=>by rw [h1,h2,bM,bM]
 have hpr:=IU (hpr.out _ _ rfl rfl);generalize decide (b<0)=s2,decide (a<0)=s1 at *;generalize (a.natAbs:Int)*(b.natAbs:Int)=y at *;generalize a*b=z at *;generalize Wh.a_ b.natAbs=ys,Wh.a_ a.natAbs=xs,decide (z<0)=s at *;clear hma hmb hoa JK;obtain ⟨w3,hw3,b1,b2,b3,hB⟩:=iF w (.bool s1) (.slice aa xs.length s_) 116 (.bool s2) (.slice ab ys.length Il) 116 (.bool false) (.slice none 0 0) 116;obtain ⟨w4,hrun,hown1,hg1⟩:=oR w3 (xs.length+ys.length+1) ω;rw [show ((xs.length+ys.length+1:Nat):Int)=(xs.length:Int)+(ys.length:Int)+1 by omega] at hrun;have hb4:Below w3 w3 w4:=bS hg1 (IY _) (fun k hk=>by cases hk);have hB3:=IU hB;have e2:=b1.c1;have e4:=b2.c1;have k2:=b1.keep hb4;have k4:=b2.keep hb4;have f2:=k2.c1;have f4:=k4.c1;clear hg1;go_enter func87,ntmps87
 go_wp2;have Lu:=IU b1;have Lv:=IU b2;have O6:=IU b3;clear e2 e4 k2 k4 f2 f4 b1 b2 b3 hB
 go_loopw [6,7,8,9,10,23] (fun _ _ _ _ _ vi wr=>∃ (i:Nat) (o:List Int),i<=xs.length/\vi=.int .i64 i/\aF wr w3 (.slice (some ⟨w3,0,none⟩) (xs.length+ys.length+1) (xs.length+ys.length+1)) o/\o.length=(xs.length+ys.length+1)/\Wh.bK o/\Wh.val o=Wh.val (xs.take i)*Wh.val ys/\Below w3 w3 wr) (fun _ _ _ _ _ vi _=>xs.length - (intOf vi).toNat)
 case atStart=>exact ⟨0,List.replicate (xs.length+ys.length+1) 0,Nat.zero_le _,rfl,hown1,List.length_replicate,Gz _,by rw [Cu];simp [Wh.val],hb4⟩
 case round=>
 clear hown1 hb4;obtain ⟨i,o,hi,rfl,hown,hlen,hls,QY,hbr⟩:=hrel;have hlen:=IU hlen;have hls:=IU hls;have QY:=IU QY;have c1:=Lu.out.eN hbr Lu.out.size;have c2:=Lv.out.eN hbr Lv.out.size;have c3:=O6.out.eN hbr O6.out.size;have hwr:Below w w wr:=hB3.out.trans (hbr.mono hB3.out.size)
 by_cases hlt:i<xs.length
 ·obtain ⟨ga,x,ea,hga,hxa,hca⟩:=hva.out i hlt
  subst ea;have L5:=aE hwr hca;have hlx:=IU (hla.out x (List.mem_of_getElem? hxa.out));have hrow:=IU (Bu hxa.out QY.out);have Xa:=IU (xJ (n:=(xs.length+ys.length+1)) (gh hla.out (i+1)) hlb.out (by rw [List.length_take];omega));have d2:=c1.c1;have d4:=c2.c1;clear hca c1 c2 c3 hwr;go_wp2
  go_loopw [8,9,10] (fun vc vk _ wq=>∃ (d:Nat) (p:List Int) (c:Int),i+d<=(xs.length+ys.length+1)/\vk=.int .i64 ((i+d:Nat):Int)/\vc=.int .i64 c/\aF wq w3 (.slice (some ⟨w3,0,none⟩) (xs.length+ys.length+1) (xs.length+ys.length+1)) p/\Wh.MInv o p x ys i (i+d) c/\Below w3 w3 wq) (fun _ vk _ _=>(xs.length+ys.length+1) - (intOf vk).toNat)
  case atStart=>exact ⟨0,o,0,ω,rfl,rfl,hown,Wh.MInv.start hls.out x ys i,hbr⟩
  case round=>
  clear hown hbr L5 d2 d4;obtain ⟨d,p,c,hd,rfl,rfl,hown,J0,hbq⟩:=hrel;have c1:=Lu.out.eN hbq Lu.out.size;have c2:=Lv.out.eN hbq Lv.out.size;have hwq:Below w w wr:=hB3.out.trans (hbq.mono hB3.out.size)
  by_cases hk:i+d<(xs.length+ys.length+1)
  ·obtain ⟨t,ht⟩:∃ t,o[i+d]?=some t:=⟨_,List.getElem?_eq_getElem (by rw [hlen.out];exact hk)⟩
   have hpl:=J0.len.trans hlen.out;have hpk:=J0.GQ.trans ht;have hc0:=aF.cellAt hpl.symm hown hpk;have hf0:wr.frozen? ⟨w3,i+d,none⟩=false:=gK hpl hown (i+d)
   have hst:=IU fun y=>aF.set (j:=i+d) hpl.symm hown y rfl
   have hstep:=fun y hy=>J0.step (y:=y) hls.out hlx.out hlb.out (Nat.le_add_right _ _) ht hy
   rw [Nat.add_sub_cancel_left] at hstep;have hstep:=IU hstep;have htl:=hls.out t (List.mem_of_getElem? ht);unfold Wh.lim at htl;have hcr:=J0.c0;have JC:=IU hbq;have d4:=c2.c1;have Sa:w3.heap.size<wr.heap.size:=World.block_lt_of_cell? wr _ hc0;clear J0 hpl hpk ht hown c1 c2
   by_cases hdl:d<ys.length
   ·obtain ⟨gb,yb,eb,hgb,hxb,hcb⟩:=hvb.out d hdl
    subst eb;have hcb:=aE hwq hcb;have hny:=dZ hxb.out;have hm:=rD hlx.out (hlb.out yb (List.mem_of_getElem? hxb.out));rw [hny] at hstep;have hny:x*yb=x*yb:=rfl;generalize hpb:x*yb=pb at *;clear hny;have hny:pb=pb:=rfl;have hS:=hstep.out (t+c+pb) rfl;have hy0:=hS.1;have t1:Int.tmod (t+c+pb) 10000=(t+c+pb) % 10000:=Int.tmod_eq_emod_of_nonneg hy0.1;have t2:Int.tdiv (t+c+pb) 10000=(t+c+pb) / 10000:=Int.tdiv_eq_ediv_of_nonneg hy0.1
    have hrr:0<=(t+c+pb) % 10000/\(t+c+pb) % 10000<10000:=ω
    have hqq:0<=(t+c+pb) / 10000/\(t+c+pb) / 10000<=9999:=ω
    have hS2:=IU hS.2;have hO:=IU (hst.out ((t+c+pb) % 10000));clear hS hstep hst hny;generalize (t+c+pb) / 10000=qq,(t+c+pb) % 10000=r at *;go_wp2
    go_roundw
    case rel=>exact ⟨d+1,_,_,ω,ν,ν,hO.out.1,hS2.out,JC.out.setCell (IY _) _⟩
    case measure=>simp [intOf];omega
   have hny:=dY (l:=ys) (i:=d) ω;rw [hny,Int.mul_zero] at hstep;have hS:=hstep.out (t+c) ω;have hy0:=hS.1;have t1:Int.tmod (t+c) 10000=(t+c) % 10000:=Int.tmod_eq_emod_of_nonneg hy0.1;have t2:Int.tdiv (t+c) 10000=(t+c) / 10000:=Int.tdiv_eq_ediv_of_nonneg hy0.1
   have hrr:0<=(t+c) % 10000/\(t+c) % 10000<10000:=ω
   have hqq:0<=(t+c) / 10000/\(t+c) / 10000<=9999:=ω
   have hS2:=IU hS.2;have hO:=IU (hst.out ((t+c) % 10000));clear hS hstep hst hny;generalize (t+c) / 10000=qq,(t+c) % 10000=r at *;go_wp2
   go_roundw
   case rel=>exact ⟨d+1,_,_,ω,ν,ν,hO.out.1,hS2.out,JC.out.setCell (IY _) _⟩
   case measure=>simp [intOf];omega
  have e:i+d=(xs.length+ys.length+1):=ω
  rw [e] at J0;have hf:=IU (J0.fin hlen.out ω hrow.out Xa.out hls.out);have hpl:=IU (J0.len.trans hlen.out);have hll:=IU (J0.bK hls.out);have hown:=IU hown;clear J0 c1 c2;go_wp2
  go_roundw
  case rel=>exact ⟨i+1,p,ω,ν,hown.out,hpl.out,hll.out,hf.out,hbq⟩
  case measure=>simp [intOf];omega
 obtain rfl:i=xs.length:=ω
 rw [List.take_length] at QY;have hov:Hid (mu wr w3 (.slice (some ⟨w3,0,none⟩) (xs.length+ys.length+1) (xs.length+ys.length+1)) y (xs.length+ys.length+1)):=IU ⟨o,hown,hls.out,by rw [QY.out,hpr.out],by rw [hlen.out];exact IY _⟩;have d1:=c1.c0;have d2:=c2.c0;clear hown;rw [show (s1 != s2)=!(s1 == s2) from rfl] at PT;have PT:=IU PT
 go_wp2_with (go_at_call 127;(with_reducible refine (PT.out _ _ _ hov.out).mono ?_);rintro e w5 ⟨vc,rfl,hoc,hbc⟩;obtain ⟨ac,Ic,rfl,hmc,I8⟩:=aF.view hoc;have r5:=c3.keep hbc;have p0:=r5.c0;have p1:=r5.c1;have g0:=r5.f0;have g1:=r5.f1;clear I8 hmc)
 have hr:=dE (w:=w) (w.heap.size+1+1) _ (.bool s) ω c3.size hoc (j_ hwr hbc);generalize (Wh.a_ z.natAbs).length=KH at *;exact D_ results87 ⟨_,rfl,hr.1,hr.2⟩
end
end Go.Proofs.YtkalaljcbmkbmaaGreat
