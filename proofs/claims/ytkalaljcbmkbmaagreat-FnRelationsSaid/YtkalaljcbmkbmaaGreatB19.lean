/-
  Joined texts: contracts and plain lemmas.
-/
import Derived.Test.YtkalaljcbmkbmaaGreatB1
import Derived.Test.YtkalaljcbmkbmaaGreatB18
import Derived.Test.YtkalaljcbmkbmaaGreatB2
import Derived.Shelf.Abstract
import Derived.Test.YtkalaljcbmkbmaaGreatB14
import Derived.Test.YtkalaljcbmkbmaaGreatB16
import Derived.Test.YtkalaljcbmkbmaaGreatB17
set_option linter.unusedSimpArgs false
set_option linter.unusedVariables false
set_option maxRecDepth 100000
set_option maxHeartbeats 8000000
namespace Go.Proofs.YtkalaljcbmkbmaaGreat
open _root_.Go.Proofs.Tryz
section
open Go Go.RowKit open Dw Gr M Rg
namespace Dw
inductive Ex where
 | MF | ext (q:Nat) | RN
def Hb:Ex->Exit
 | .MF=>.normal
 | .ext q=>.exit q
 | .RN=>.ret
abbrev LV:=Ex × List S1 × Nat
def mk (E:Env) (s:List S1) (os:List Oper) (j:Nat) (b:Bool):Nat->List Oper->List S1->List Nat->List S1 × List Nat
 | _,[],T,C=>(T,C)
 | i,o :: l,T,C=>
 bif (match o.guard with | some (_,want)=>!(want == b) | none=>false) then mk E s os j b (i+1) l (T ++ [.any]) (C ++ [0])
 else match Sy E (ri s os T i) o.op with
  | some (r,c)=>mk E s os j b (i+1) l (T ++ [bif Nat.beq i j then .k b else r]) (C ++ [c])
  | none=>(T,C)
def F9:List Oper->Nat->Nat
 | [],n=>n
 | o :: l,n=>match o.guard with
  | some (q,_)=>q
  | none=>F9 l n
def mx:List Nat->List Nat->List Nat
 | a :: l,b :: k=>Nat.max a b :: mx l k
 | _,_=>[]
def TX (E:Env) (cap k:Nat) (ops:Array Oper) (s:List S1) (T U:List S1) (C:List Nat) (j:Nat):Bool:=
 d6 .any ops s.length && (Pm E s ops.toList T C j false 0 ops.toList && (Pm E s ops.toList U C j true 0 ops.toList && (RA T U j 0 ops.toList && Nat.ble (k+sum C) cap)))
def Wm (E:Env) (cap k:Nat) (ops:Array Oper) (s:List S1):Option (List LV):=
 let j:=F9 ops.toList ops.size
 let t:=mk E s ops.toList j false 0 ops.toList [] []
 bif Nat.beq j ops.size then (bif TX E cap k ops s t.1 t.1 t.2 j then some [(.MF,fin ops.toList t.1 0 s,k+sum t.2)] else none)
 else
  let u:=mk E s ops.toList j true 0 ops.toList [] []
  let C:=mx t.2 u.2
  bif TX E cap k ops s t.1 u.1 C j then some [(.MF,fin ops.toList t.1 0 s,k+sum C),(.MF,fin ops.toList u.1 0 s,k+sum C)] else none
def pT:List LV->(List S1->Nat->Option (List LV))->Option (List LV)
 | [],_=>some []
 | (.MF,s,k) :: R,F=>(F s k).bind fun A=>(pT R F).bind fun B=>some (A ++ B)
 | q :: R,F=>(pT R F).bind fun B=>some (q :: B)
def ev (s:List S1):Operand->S1
 | .tmp t=>nth s t
 | .const v=>cS v
 | _=>.any
def Q0 (id:Nat):List LV->List LV
 | []=>[]
 | (.ext q,s) :: R=>(bif Nat.beq q id then (.MF,s) else (.ext q,s)) :: Q0 id R
 | x :: R=>x :: Q0 id R
def LY (E:Env) (cap:Nat):Nat->Code->List S1->Nat->Option (List LV)
 | 0,_,_,_=>none
 | _+1,.skip,s,k=>some [(.MF,s,k)]
 | _+1,.label _,s,k=>some [(.MF,s,k)]
 | _+1,.region _ ops _,s,k=>Wm E cap k ops s
 | f+1,.seq x y,s,k=>(LY E cap f x s k).bind fun R=>pT R (LY E cap f y)
 | f+1,.cond c x y,s,k=>match ev s c with
  | .k true=>LY E cap f x s k
  | .k false=>LY E cap f y s k
  | .b=>(LY E cap f x s k).bind fun A=>(LY E cap f y s k).bind fun B=>some (A ++ B)
  | _=>none
 | f+1,.block id c,s,k=>(LY E cap f c s k).bind fun R=>some (Q0 id R)
 | f+1,.loop c,s,k=>(LY E cap f c s k).bind fun R=>pT R (LY E cap f (.loop c))
 | _+1,.exit id,s,k=>some [(.ext id,s,k)]
 | _+1,.ret,s,k=>some [(.RN,s,k)]
 | _+1,_,_,_=>none
theorem kx {F:List S1->Nat->Option (List LV)}:∀ (R L:List LV),pT R F=some L->∀ q ∈ R,(q.1=.MF/\∃ A,F q.2.1 q.2.2=some A/\∀ x ∈ A,x ∈ L)∨(q.1≠.MF/\q ∈ L)
 | [],_,_,q,h=>by cases h
 | (.MF,s,k) :: R,L,h,q,hq=>by
  obtain ⟨A,h1,h⟩:=Option.bind_eq_some_iff.1 h;obtain ⟨B,h2,h⟩:=Option.bind_eq_some_iff.1 h;cases h
  rcases List.mem_cons.1 hq with rfl | hq
  ·exact .inl ⟨rfl,A,h1,fun x hx=>List.mem_append_left _ hx⟩
  rcases kx R B h2 q hq with ⟨e,A',h3,h4⟩ | ⟨h3,h4⟩
  ·exact .inl ⟨e,A',h3,fun x hx=>List.mem_append_right _ (h4 x hx)⟩
  exact .inr ⟨h3,List.mem_append_right _ h4⟩
 | (.ext i,s,k) :: R,L,h,q,hq | (.RN,s,k) :: R,L,h,q,hq=>by
  obtain ⟨B,h2,h⟩:=Option.bind_eq_some_iff.1 h;cases h
  rcases List.mem_cons.1 hq with rfl | hq
  ·exact .inr ⟨fun e=>(by cases e),List.mem_cons_self⟩
  rcases kx R B h2 q hq with ⟨e,A',h3,h4⟩ | ⟨h3,h4⟩
  ·exact .inl ⟨e,A',h3,fun x hx=>List.mem_cons_of_mem _ (h4 x hx)⟩
  exact .inr ⟨h3,List.mem_cons_of_mem _ h4⟩
theorem rq {id:Nat}:∀ (R:List LV) (q:LV),q ∈ R->(∃ i,q.1=.ext i/\i=id/\(Ex.MF,q.2) ∈ Q0 id R)∨((∀ i,q.1=.ext i->i≠id)/\q ∈ Q0 id R)
 | [],q,h=>by cases h
 | (.ext i,s) :: R,q,h=>by
  rcases List.mem_cons.1 h with rfl | h
  ·cases e:Nat.beq i id with
   | true=>
    exact .inl ⟨i,rfl,Nat.eq_of_beq_eq_true e,by unfold Q0;rw [e];exact List.mem_cons_self⟩
   | false=>
   refine .inr ⟨fun i' e'=>?_,by unfold Q0;rw [e];exact List.mem_cons_self⟩
   cases e'
   rintro rfl;rw [Nat.beq_refl] at e;cases e
  rcases rq R q h with ⟨i',h1,h2,h3⟩ | ⟨h1,h2⟩
  ·exact .inl ⟨i',h1,h2,List.mem_cons_of_mem _ h3⟩
  exact .inr ⟨h1,List.mem_cons_of_mem _ h2⟩
 | (.MF,s) :: R,q,h | (.RN,s) :: R,q,h=>by
  rcases List.mem_cons.1 h with rfl | h
  ·exact .inr ⟨fun i e=>(by cases e),List.mem_cons_self⟩
  rcases rq R q h with ⟨i',h1,h2,h3⟩ | ⟨h1,h2⟩
  ·exact .inl ⟨i',h1,h2,List.mem_cons_of_mem _ h3⟩
  exact .inr ⟨h1,List.mem_cons_of_mem _ h2⟩
def LW (P:Program) (c:Code) (Q:Exit->Act->World->Prop) (a:Act) (w:World):Prop:=
 ∀ (b:Frame) (k:List Item) (cs:List Frame),∃ e a' w',Q e a' w'/\Arrives P (lone (b.at a (.code c :: .inLoop c :: k)) cs w) b k cs e a' w'
section
variable {P:Program} {Q:Exit->Act->World->Prop} {E:Env} {w0:World} {g B n K cap:Nat} {vc:Value}
theorem LW.of {c:Code} {a:Act} {w:World} (h:c.wp P (Exit.then (LW P c Q) Q) a w):LW P c Q a w:=by
 intro b k cs;obtain ⟨e,a₁,w₁,hq,harr⟩:=h b (.inLoop c :: k) cs
 cases e with
 | normal=>
  obtain ⟨e₂,a₂,w₂,hq₂,harr₂⟩:=hq b k cs;exact ⟨e₂,a₂,w₂,hq₂,.of_steps (Steps.trans harr (.one step_inLoop)) harr₂⟩
 | exit id=>exact ⟨_,a₁,w₁,hq,.pass (x:=.inLoop c) rfl (fun _ _=>.inl σ) harr⟩
 | goto l=>exact ⟨_,a₁,w₁,hq,.pass (x:=.inLoop c) rfl (fun _ _=>.inl σ) harr⟩
 | ret=>exact ⟨_,a₁,w₁,hq,.pass (x:=.inLoop c) rfl (fun _ _=>.inl σ) harr⟩
 | panic ch=>exact ⟨_,a₁,w₁,hq,.pass (x:=.inLoop c) rfl (fun _ _=>.inl σ) harr⟩
 | outgrown=>exact ⟨_,a₁,w₁,hq,.pass (x:=.inLoop c) rfl (fun _ _=>.inl σ) harr⟩
theorem LW.wp {c:Code} {a:Act} {w:World} (h:LW P c Q a w):(Code.loop c).wp P Q a w:=fun b k cs=>
 let ⟨e,a',w',hq,harr⟩:=h b k cs
 ⟨e,a',w',hq,.of_steps (.one step_loop) harr⟩
theorem Fs (hE:dF P E) (hm:P.follows .mixedOrders=true) (hK:K+cap<=700000000) {id k:Nat} {dr:Bool} {ops:Array Oper} {s:List S1} {R:List LV} (h:Wm E cap k ops s=some R) {a:Act} {w:World} (hw:Ok w0 g B n vc s (K+k) a w) (hQ:∀ q ∈ R,∀ a' w',Ok w0 g B n vc q.2.1 (K+q.2.2) a' w'->Q (Hb q.1) a' w'):(Code.region id ops dr).wp P Q a w:=by
 unfold Wm at h
 dsimp only at h
 have key:∀ (T U:List S1) (C:List Nat) (j:Nat),TX E cap k ops s T U C j=true->(∀ a' w',Ok w0 g B n vc (fin ops.toList T 0 s) (K+(k+sum C)) a' w'->Q .normal a' w')->(∀ a' w',Ok w0 g B n vc (fin ops.toList U 0 s) (K+(k+sum C)) a' w'->Q .normal a' w')->(Code.region id ops dr).wp P Q a w:=by
  intro T U C j h h1 h2;unfold TX at h;simp only [Bool.and_eq_true,Nat.ble_eq] at h
  refine yk (T:=fun b=>bif b then U else T) (C:=C) (j:=j) hE hm h.1 (fun b=>?_) h.2.2.2.1 hw ω fun b a' w' h3=>?_
  ·cases b
   ·exact h.2.1
   exact h.2.2.1
  rw [Nat.add_assoc] at h3;cases b
  ·exact h1 a' w' h3
  exact h2 a' w' h3
 cases e:Nat.beq (F9 ops.toList ops.size) ops.size with
 | true=>
  rw [e] at h;obtain ⟨h1,rfl⟩:=cI h;exact key _ _ _ _ h1 (hQ _ List.mem_cons_self) (hQ _ List.mem_cons_self)
 | false=>
 rw [e] at h;obtain ⟨h1,rfl⟩:=cI h;exact key _ _ _ _ h1 (hQ _ List.mem_cons_self) (hQ _ (List.mem_cons_of_mem _ List.mem_cons_self))
theorem fw (hE:dF P E) (hm:P.follows .mixedOrders=true) (hK:K+cap<=700000000):∀ (f:Nat) (Q:Exit->Act->World->Prop) (c:Code) (s:List S1) (k:Nat) (R:List LV) (a:Act) (w:World),Ok w0 g B n vc s (K+k) a w->(∀ q ∈ R,∀ a' w',Ok w0 g B n vc q.2.1 (K+q.2.2) a' w'->Q (Hb q.1) a' w')->(LY E cap f c s k=some R->c.wp P Q a w)/\(LY E cap f (.loop c) s k=some R->LW P c Q a w)
 | 0,_,_,_,_,_,_,_,_,_=>⟨fun h=>(by cases h),fun h=>(by cases h)⟩
 | f+1,Q,c,s,k,R,a,w,hw,hQ=>by
  have sub:∀ (x:Code) (K':Act->World->Prop) (F:List S1->Nat->Option (List LV)),((LY E cap f x s k).bind fun R=>pT R F)=some R->(∀ s' k' A a' w',F s' k'=some A->(∀ q ∈ A,q ∈ R)->Ok w0 g B n vc s' (K+k') a' w'->K' a' w')->x.wp P (Exit.then K' Q) a w:=by
   intro x K' F h hF;obtain ⟨R1,h1,h2⟩:=Option.bind_eq_some_iff.1 h;refine (fw hE hm hK f _ x s k R1 a w hw fun q hq a' w' h3=>?_).1 h1
   rcases kx R1 R h2 q hq with ⟨e,A,h4,h5⟩ | ⟨e,h4⟩
   ·rw [e]
    exact hF _ _ A a' w' h4 h5 h3
   have:=hQ q h4 a' w' h3;obtain ⟨qe,q2⟩:=q;cases qe
   ·exact absurd rfl e
   ·exact this
   exact this
  have lp:LY E cap (f+1) (.loop c) s k=some R->LW P c Q a w:=fun h=>by
   refine LW.of (sub c (LW P c Q) _ h fun s' k' A a' w' h1 h2 h3=>?_);exact (fw hE hm hK f Q c s' k' A a' w' h3 fun q hq=>hQ q (h2 q hq)).2 h1
  refine ⟨fun h=>?_,lp⟩
  have IH:=fun (x:Code) (R':List LV) (hR:∀ q ∈ R',q ∈ R)=>(fw hE hm hK f Q x s k R' a w hw fun q hq=>hQ q (hR q hq)).1
  cases c with
  | skip=>cases h;exact wp_skip (hQ _ List.mem_cons_self a w hw)
  | label l=>cases h;exact wp_label (hQ _ List.mem_cons_self a w hw)
  | region id ops dr=>exact Fs hE hm hK h hw hQ
  | seq x y=>
   refine wp_seq (sub x (y.wp P Q) _ h fun s' k' A a' w' h1 h2 h3=>?_);exact (fw hE hm hK f Q y s' k' A a' w' h3 fun q hq=>hQ q (h2 q hq)).1 h1
  | cond c x y=>
   unfold LY at h
   have hc:ok g w0 w (ev s c) (a.eval c):=by
    cases c with
    | tmp t=>exact hw.sl t
    | const v=>exact Ez _ _ _ _
    | _=>trivial
   split at h
   ·rename_i e
    rw [e] at hc;exact wp_cond_true hc (IH x R (fun _ h=>h) h)
   ·rename_i e
    rw [e] at hc;exact wp_cond_false hc (IH y R (fun _ h=>h) h)
   ·rename_i e
    rw [e] at hc;obtain ⟨t,hc⟩:=hc;obtain ⟨A,h1,h⟩:=Option.bind_eq_some_iff.1 h;obtain ⟨B,h2,h⟩:=Option.bind_eq_some_iff.1 h;cases h
    exact wp_cond_split hc (fun _=>IH x A (fun q hq=>List.mem_append_left _ hq) h1) fun _=>IH y B (fun q hq=>List.mem_append_right _ hq) h2
   cases h
  | block id c=>
   unfold LY at h;obtain ⟨R1,h1,h⟩:=Option.bind_eq_some_iff.1 h;cases h
   refine wp_block ((fw hE hm hK f _ c s k R1 a w hw fun q hq a' w' h3=>?_).1 h1)
   rcases rq (id:=id) R1 q hq with ⟨i,e,e',h4⟩ | ⟨e,h4⟩
   ·rw [e]
    subst e';have:=hQ _ h4 a' w' h3
    show if i=i then Q .normal a' w' else _
    rw [if_pos rfl];exact this
   have:=hQ q h4 a' w' h3;obtain ⟨qe,q2⟩:=q
   cases qe with
   | MF=>exact this
   | RN=>exact this
   | ext i=>
   show if i=id then _ else Q (.exit i) a' w'
   rw [if_neg (e i rfl)];exact this
  | loop c=>
   exact ((LW.wp (LW.of (sub c (LW P c Q) _ h fun s' k' A a' w' h1 h2 h3=>(fw hE hm hK f Q c s' k' A a' w' h3 fun q hq=>hQ q (h2 q hq)).2 h1))))
  | exit id=>cases h;exact wp_exit (hQ _ List.mem_cons_self a w hw)
  | ret=>cases h;exact wp_ret (hQ _ List.mem_cons_self a w hw)
  | _=>cases h
end
end Dw
namespace Dw
def IG (E:Env) (s:List S1):ResultVar->Option S1
 | .tmp t=>some (nth s t)
 | .cell a t=>(gj E.fl t).bind fun m=>match nth s a with
  | .p _ k=>bif Nat.ble m k then some (fv m) else none
  | _=>none
def EO (E:Env) (s:List S1):List ResultVar->Option (List S1)
 | []=>some []
 | r :: l=>(IG E s r).bind fun x=>(EO E s l).bind fun y=>some (x :: y)
def IQ:List S1->Option S1
 | [a]=>some a
 | [a,d]=>some (.t2 a d)
 | [a,d,e]=>some (.t3 a d e)
 | _=>none
def F8:S1->Bool
 | .p o _=>!o
 | .o .. | .t2 .. | .t3 ..=>false
 | _=>true
def ckQ (E:Env) (cap:Nat) (rs:List ResultVar) (r:S1) (q:LV):Bool:=(match q.1 with | .ext _=>false | _=>true) && (Nat.ble q.2.2 cap && match (EO E q.2.1 rs).bind IQ with
 | some x=>le x r
 | none=>false)
def zf (A:List S1) (n:Nat):List S1:=A ++ List.replicate (n - A.length) .any
def Wl (E:Env) (rs:List ResultVar) (c:Code) (s:List S1) (r:S1) (cap fuel:Nat):Bool:=match LY E cap fuel c s 0 with
 | some R=>R.all (ckQ E cap rs r)
 | none=>false
def ckF (E:Env) (fn:Func) (A:List S1) (r:S1) (cap fuel:Nat):Bool:=A.all F8 && match fn.body with
 | some c=>Wl E fn.results.toList c (zf A fn.ntmps) r cap fuel
 | none=>false
theorem DT {g z z':Nat} {w:World} {s:S1} {v:Value} (h:F8 s=true) (q:ok g z w s v):ok g z' w s v:=by
 cases s with
 | p o m=>
  obtain ⟨b,off,T,M,e,h1,h2,h3⟩:=q;refine ⟨b,off,T,M,e,h1,h2,fun k=>?_⟩;rw [k] at h;cases h
 | o _ _ _ _=>cases h
 | t2 _ _=>cases h
 | t3 _ _ _=>cases h
 | _=>exact q
theorem Bh {g z:Nat} {w:World}:∀ (A:List S1) (vs:List Value),A.all F8=true->Nc g z w A vs->A.length=vs.length/\∀ z' t,ok g z' w (nth A t) (vs.getD t undef)
 | [],[],_,_=>⟨rfl,fun _ _=>trivial⟩
 | a :: A,v :: vs,hf,h=>by
  rw [List.all_cons,Bool.and_eq_true] at hf;obtain ⟨h1,h2⟩:=Bh A vs hf.2 h.2;refine ⟨by rw [List.length_cons,h1,List.length_cons],fun z' t=>?_⟩
  cases t with
  | zero=>exact DT hf.1 h.1
  | succ t=>exact h2 z' t
 | [],_ :: _,_,h | _ :: _,[],_,h=>h.elim
section
variable {P:Program} {E:Env} {w0 w:World} {g B n K:Nat} {vc:Value} {s:List S1} {a:Act}
def Tx (tmps:Array Value):ResultVar->Sem Value
 | .tmp t=>pure (tmps.getD t undef)
 | .cell d t=>do loadVar t (←asAddr (tmps.getD d undef))
theorem vL (fn:Func) (tmps:Array Value):results fn tmps=(do
  let vs ←fn.results.mapM (Tx tmps)
  pure (if h:vs.size=1 then vs[0] else .tuple vs)):=by
 unfold results
 congr 1
theorem EQ (hE:dF P E) (h:Ok w0 g B n vc s K a w) {r:ResultVar} {x:S1} (hx:IG E s r=some x):∃ v,(Tx a.tmps r).run P w=.ok v w/\ok g w0 w x v:=by
 cases r with
 | tmp t=>cases hx;exact ⟨_,rfl,h.sl t⟩
 | cell d t=>
 obtain ⟨m,hm,hx⟩:=Option.bind_eq_some_iff.1 hx;have hd:=h.sl d
 split at hx
 ·rename_i o k e
  obtain ⟨h1,h2⟩:=cI hx;cases h2
  rw [e] at hd;obtain ⟨u,h3,h4⟩:=tw (hE.fl _ (bc hm)) hd (Nat.le_of_ble_eq_true h1);refine ⟨u,?_,h4⟩;obtain ⟨b,off,T,M,hv,-⟩:=hd;have hv2:a.tmps.getD d undef=_:=hv;rw [hv] at h3
  show (do loadVar t (←asAddr (a.tmps.getD d undef)):Sem Value).run P w=_
  rw [hv2]
  simpa [Instr.loadAt,Instr.sureAddr,asAddr] using h3
 cases hx
theorem xL (hE:dF P E) (h:Ok w0 g B n vc s K a w):∀ (rs:List ResultVar) (L:List S1),EO E s rs=some L->∃ vs,(rs.mapM (Tx a.tmps)).run P w=.ok vs w/\Nc g w0 w L vs
 | [],L,hL=>by
  cases hL
  exact ⟨[],σ,trivial⟩
 | r :: rs,L,hL=>by
  obtain ⟨x,hx,hL⟩:=Option.bind_eq_some_iff.1 hL;obtain ⟨y,hy,hL⟩:=Option.bind_eq_some_iff.1 hL;cases hL
  obtain ⟨v,h1,h2⟩:=EQ hE h hx;obtain ⟨vs,h3,h4⟩:=xL hE h rs y hy;refine ⟨v :: vs,?_,h2,h4⟩;rw [List.mapM_cons];simp only [Sem.run_bind,h1,Result.andThen_ok,h3];rfl
theorem Gi (hE:dF P E) (h:Ok w0 g B n vc s K a w) {fn:Func} {x:S1} (hx:(EO E s fn.results.toList).bind IQ=some x):∃ v,(results fn a.tmps).run P w=.ok v w/\ok g w0 w x v:=by
 obtain ⟨L,hL,hx⟩:=Option.bind_eq_some_iff.1 hx;obtain ⟨vs,h1,h2⟩:=xL hE h _ _ hL;rw [vL,Array.mapM_eq_mapM_toList]
 have e:∀ v,(if h:vs.toArray.size=1 then vs.toArray[0] else .tuple vs.toArray)=v->((do
   let vs ←List.toArray <$> List.mapM (Tx a.tmps) fn.results.toList
   pure (if h:vs.size=1 then vs[0] else .tuple vs)):Sem Value).run P w=.ok v w:=fun v hv=>by
  simp only [Sem.run_bind,Sem.run_map,h1,Result.andThen_ok];rw [←hv];rfl
 match L,vs,hx,h2,e with
 | [a],[u],hx,h2,e=>
  cases hx
  exact ⟨u,e u rfl,h2.1⟩
 | [a,d],[u,v],hx,h2,e=>
  cases hx
  exact ⟨.tuple #[u,v],e _ rfl,u,v,rfl,h2.1,h2.2.1⟩
 | [a,d,l],[u,v,y],hx,h2,e=>
 cases hx
 exact ⟨.tuple #[u,v,y],e _ rfl,u,v,y,rfl,h2.1,h2.2.1,h2.2.2.1⟩
end
theorem jW {P:Program} {E:Env} (hE:dF P E) (hm:P.follows .mixedOrders=true) {fn:Func} {r:S1} {cap:Nat} (fuel:Nat) {c:Code} {w0 w:World} {g B n K:Nat} {v:Value} {s:List S1} {a:Act} (hK:K+cap<=700000000) (hw:Ok w0 g B n v s K a w) (h:Wl E fn.results.toList c s r cap fuel=true)
  {R:Ending->World->Prop} (hR:∀ x w',ok g w0 w' r x->dQ w' g B v n (K+cap)->w0.grownBy w' (some g)->R (.returned x) w'):c.wp P (bodyPost P fn R) a w:=by
 unfold Wl at h
 split at h
 ·rename_i L hL
  refine (fw hE hm hK fuel _ c s 0 L a w hw fun q hq a' w' h3=>?_).1 hL;have hq:=List.all_eq_true.1 h q hq;unfold ckQ at hq;rw [Bool.and_eq_true,Bool.and_eq_true] at hq;obtain ⟨q1,q2,q3⟩:=hq
  split at q3
  ·rename_i x hx
   obtain ⟨u,h4,h5⟩:=Gi hE h3 hx
   have fin:bodyPost P fn R .normal a' w':=⟨h3.de,u,h4,hR u w' (i7 _ _ _ q3 h5) (h3.wd.cur.mono (by have:=Nat.le_of_ble_eq_true q2;omega)) h3.wd.gr⟩
   obtain ⟨qe,q'⟩:=q
   cases qe with
   | MF=>exact fin
   | RN=>exact fin
   | ext _=>cases q1
  cases q3
 cases h
theorem nk {P:Program} {E:Env} (hE:dF P E) (hm:P.follows .mixedOrders=true) {f:Nat} {fn:Func} {A:List S1} {r:S1} {cap fuel:Nat} (hf:P.funcs[f]?=some fn) (hc:∀ args w,(callFunc f args).run P w=.ok (.enter f args) w) (h:ckF E fn A r cap fuel=true):iW P f A r cap:=by
 refine ⟨hc,fun g B n v K z w args hargs hcur hK=>?_⟩;unfold ckF at h;rw [Bool.and_eq_true] at h;obtain ⟨hfree,h⟩:=h
 split at h
 ·rename_i c hb
  obtain ⟨hl,hs⟩:=Bh A args hfree hargs;have hg:=hcur.size;refine calls_of_wp hf hb (jW hE hm fuel hK ⟨⟨hcur,dl _ _,by have:=hcur.elim fun _ h=>h.2.lt;omega⟩,fun t=>?_,?_,rfl⟩ h fun x w' h1 h2 h3=>⟨x,rfl,h1,h2,h3⟩)
  ·unfold zf
   by_cases ht:t<A.length
   ·have:=hs w t
    have e1:nth (A ++ List.replicate (fn.ntmps - A.length) .any) t=nth A t:=by
     unfold nth;rw [List.getD_eq_getElem?_getD,List.getD_eq_getElem?_getD,List.getElem?_append_left ht]
    have e2:Act.eval { tmps:=args.toArray ++ Array.replicate (fn.ntmps - args.toArray.size) undef,defers:=[] } (.tmp t)=args.getD t undef:=by
     show Array.getD _ _ _=_
     rw [Array.getD_eq_getD_getElem?,Array.getElem?_append_left (by simp;omega),List.getD_eq_getElem?_getD];simp
    rw [e1,e2];exact this
   have:nth (A ++ List.replicate (fn.ntmps - A.length) .any) t=.any:=by
    unfold nth;rw [List.getD_eq_getElem?_getD,List.getElem?_append_right ω,List.getElem?_replicate]
    split <;> rfl
   rw [this]
   trivial
  unfold zf;simp [hl]
 cases h
end Dw
end
section
open Go Go.RowKit Go.Shelf open Dw Gr M Rg
namespace Dw
section
variable {g z:Nat} {w:World} {v:Value}
theorem An (a b c:Int):ok g z w (.f 3) (.agg #[a,b,c]):=⟨_,rfl,rfl,fun u hu=>by
 simp only [List.mem_cons,List.not_mem_nil,or_false] at hu
 rcases hu with rfl | rfl | rfl <;> exact ⟨_,rfl⟩⟩
theorem l8 (h:ok g z w (.f 2) v):∃ a b:Int,v=.agg #[a,b]:=by
 obtain ⟨⟨xs⟩,rfl,h1,h2⟩:=h
 match xs,h1,h2 with
 | [x,y],_,h2=>
 obtain ⟨a,rfl⟩:=h2 x σ;obtain ⟨b,rfl⟩:=h2 y σ;exact ⟨a,b,rfl⟩
theorem Am (h:ok g z w (.f 3) v):∃ a b c:Int,v=.agg #[a,b,c]:=by
 obtain ⟨⟨xs⟩,rfl,h1,h2⟩:=h
 match xs,h1,h2 with
 | [x,y,t],_,h2=>
 obtain ⟨a,rfl⟩:=h2 x σ;obtain ⟨b,rfl⟩:=h2 y σ;obtain ⟨c,rfl⟩:=h2 t σ;exact ⟨a,b,c,rfl⟩
end
theorem dF.cons {P:Program} {E:Env} (h:dF P E) {f:Nat} {A:List S1} {r:S1} {c:Nat} (hf:iW P f A r c):dF P { E with fn:=(f,A,r,c) :: E.fn }:=
 ⟨h.fl,h.sl,fun q hq=>by
  rcases List.mem_cons.1 hq with rfl | hq
  ·exact hf
  exact h.fn q hq⟩
theorem dF.add {P:Program} {E:Env} (h:dF P E) {α:Type} {F:α->Nat × List S1 × S1 × Nat} {l:List α} (hF:∀ x ∈ l,iW P (F x).1 (F x).2.1 (F x).2.2.1 (F x).2.2.2):dF P { E with fn:=l.map F ++ E.fn }:=
 ⟨h.fl,h.sl,fun q hq=>by
  rcases List.mem_append.1 hq with hq | hq
  ·obtain ⟨x,hx,rfl⟩:=List.mem_map.1 hq
   exact hF x hx
  exact h.fn q hq⟩
theorem mixed:prog.follows .mixedOrders=true:=κ
theorem qn {P:Program} {t m b:Nat} {y:Value} (h:(P.info? t).map (fun i=>(i.zero,i.size,i.bytes))=some (some y,m,b)) (hb:b<=1000) (hm:0<m) (hy:y.cells=Array.replicate m (.int .i64 0)) (hu:(m=1/\∃ q,P.underlying t=some (.int q))∨∃ fs,P.underlying t=some (.struct fs)/\2<=m/\fs.size=m/\∀ (j:Nat) f,fs[j]?=some f->f.offset=j/\∃ i',P.info? f.type=some i'/\i'.size=1):dL P t m:=by
 obtain ⟨i,h1,h2⟩:=Option.map_eq_some_iff.1 h
 obtain ⟨h3,h4,h5⟩:i.zero=some y/\i.size=m/\i.bytes=b:=by simpa using h2
 exact ⟨i,y,h1,h3,h4,ω,hm,hy,hu⟩
theorem FC:(prog.info? 3).map (fun i=>(i.zero,i.size,i.bytes))=some (some (.int .i64 0),1,8):=κ
theorem BL:∃ i',prog.info? 3=some i'/\i'.size=1:=by
 obtain ⟨i,h1,h2⟩:=Option.map_eq_some_iff.1 FC;exact ⟨i,h1,by simp at h2;exact h2.2.1⟩
theorem Hh:dL prog 3 1:=qn FC δ δ rfl (.inl ⟨rfl,_,Tryz.underlying3⟩)
theorem DO:dL prog 25 2:=qn (b:=16) (y:=.agg #[(0:Int),(0:Int)]) κ δ δ rfl (.inr ⟨_,Tryz.underlying25,δ,rfl,fun j f hj=>match j,hj with
 | 0,hj=>by cases hj;exact ⟨rfl,BL⟩
 | 1,hj=>by cases hj;exact ⟨rfl,BL⟩
 | j+2,hj=>by simp at hj⟩)
theorem DP:dL prog 40 3:=qn (b:=24) (y:=.agg #[(0:Int),(0:Int),(0:Int)]) κ δ δ rfl (.inr ⟨_,Tryz.underlying40,δ,rfl,fun j f hj=>match j,hj with
 | 0,hj=>by cases hj;exact ⟨rfl,BL⟩
 | 1,hj=>by cases hj;exact ⟨rfl,BL⟩
 | 2,hj=>by cases hj;exact ⟨rfl,BL⟩
 | j+3,hj=>by simp at hj⟩)
def E0:Env:=⟨[(3,1),(25,2),(40,3)],[(29,3),(26,40)],[]⟩
theorem G4:dF prog E0:=⟨fun q hq=>by
  simp only [E0,List.mem_cons,List.not_mem_nil,or_false] at hq
  rcases hq with rfl | rfl | rfl
  ·exact Hh
  ·exact DO
  ·exact DP,fun q hq=>by
  simp only [E0,List.mem_cons,List.not_mem_nil,or_false] at hq
  rcases hq with rfl | rfl
  ·exact Tryz.underlying29
  exact Tryz.underlying26,fun _ h=>by cases h⟩
theorem xI (lo hi:Nat) (h1:1<=lo) (h2:hi<=60000):iW prog 61 [.c,.n lo hi] (.n 0 (hi - 1)) 2:=by
 refine ⟨enters_of func61 κ rfl,fun g B n v K z w args ha hc hk=>?_⟩
 match args,ha with
 | [x,y],⟨hx,⟨m,hy,hm1,hm2⟩,_⟩=>
 have hx:x=_:=hx;subst hx hy;refine (gB g B v n K (m:Int) w hc ω ω ω).mono ?_;rintro e w' ⟨u,rfl,⟨hu1,hu2⟩,hc',hg⟩;exact ⟨_,rfl,⟨u.toNat,by rw [Int.toNat_of_nonneg hu1],ω,ω⟩,hc',hg⟩
def pk (m:Nat):Nat × List S1 × S1 × Nat:=(61,[.c,.n (m+1) (m+1)],.n 0 m,2)
def E1:Env:={ E0 with fn:=[(61,[.c,.n 1 60000],.n 0 59999,2)] }
theorem Em:dF prog E1:=G4.cons (xI 1 60000 δ δ)
theorem GT:iW prog 42 [.c,.n 1 60000] .b 2:=nk Em mixed func42 (enters_of func42 κ rfl) (fuel:=20) κ
def E2:Env:={ E1 with fn:=(List.range 12).map pk ++ ((42,[.c,.n 1 60000],.b,2) :: E1.fn) }
theorem En:dF prog E2:=(Em.cons GT).add (F:=pk) fun m hm=>xI (m+1) (m+1) ω (by have:=List.mem_range.1 hm;omega)
def am (m:Nat):Nat × List S1 × S1 × Nat:=(26,[.c,.s 1 m m],.i,2)
theorem zY (m:Nat) (h:m ∈ [2,3,4,5,7,9,10]):iW prog 26 [.c,.s 1 m m] .i 2:=nk En mixed func26 (enters_of func26 κ rfl) (fuel:=20) (by
 simp only [List.mem_cons,List.not_mem_nil,or_false] at h
 rcases h with rfl | rfl | rfl | rfl | rfl | rfl | rfl <;> kernel_rfl)
def E3:Env:={ E2 with fn:=[2,3,4,5,7,9,10].map am ++ E2.fn }
theorem G5:dF prog E3:=En.add (F:=am) zY
end Dw
end
section
open Go.RowKit open Gr M Rg Rw Wh
def sJ (W:World) (h:Nat):Prop:=∃ X Y E:Int,aG W h 40 #[X,Y,E]
def cO (S:Nat) (W W':World):Prop:=∀ h,S<=h->sJ W h->sJ W' h
theorem cO.self (S:Nat) (W:World):cO S W W:=fun _ _ h=>h
theorem cO.below {S:Nat} {W W':World} (hb:Below W W W'):cO S W W':=fun _ _ h=>by
 obtain ⟨X,Y,E,h⟩:=h;exact ⟨X,Y,E,h.keep hb⟩
theorem cO.grown {S g:Nat} {W W':World} (hg:W.grownBy W' (some g)) (hS:g<S):cO S W W':=fun _ hS2 h=>by
 obtain ⟨X,Y,E,h⟩:=h;exact ⟨X,Y,E,h.bX hg ω⟩
theorem cO.put {S g:Nat} {W:World} (h:sJ W g) (X Y E:Int):cO S W (((W.setCell ⟨g,0,none⟩ (.int .i64 X)).setCell ⟨g,1,none⟩ (.int .i64 Y)).setCell ⟨g,2,none⟩ (.int .i64 E)):=fun k _ hk=>by
 by_cases e:k=g
 ·subst e
  obtain ⟨X0,Y0,E0,h⟩:=h;exact ⟨X,Y,E,h.FL _ _ _⟩
 obtain ⟨X0,Y0,E0,hk⟩:=hk;exact ⟨X0,Y0,E0,((hk.other e _).other e _).other e _⟩
theorem cO.H4 {S g:Nat} {W:World} (h:∃ a b:Int,aG W g 25 #[a,b]) (hT:(25:TypeId)≠40) (X Y:Int):cO S W ((W.setCell ⟨g,0,none⟩ (.int .i64 X)).setCell ⟨g,1,none⟩ (.int .i64 Y)):=fun k _ hk=>by
 obtain ⟨X0,Y0,E0,hk⟩:=hk
 have e:k≠g:=by
  rintro rfl;obtain ⟨a,b,h⟩:=h;unfold aG at h hk;rw [h] at hk;cases hk
 exact ⟨X0,Y0,E0,(hk.other e _).other e _⟩
def TP (lo hi:Int) (u:Value):Prop:=∃ x:Int,(lo<=x/\x<=hi)/\u=.int .i64 x
def Cx (u:Value):Prop:=∃ (X Y E:Int) (q:Bool),u=.tuple #[.agg #[X,Y,E],q]
def G0 (u:Value):Prop:=∃ X Y E:Int,u=.agg #[X,Y,E]
def vZ (u:Value):Prop:=∃ q:Bool,u=.bool q
def zA (S:Nat) (u:Value) (W:World):Prop:=∃ h,u=.pointer (some ⟨h,0,none⟩)/\S<=h/\sJ W h
theorem ya (g B:Nat) (v:Value) (n K:Nat) (a b:Int) (w:World) (h:dQ w g B v n K) (hk:K<=700000000) :
  Calls prog 104 #[.pointer (some ⟨g,0,none⟩),.agg #[a,b]] w (xh w g B v n (K+10)):=by
 have hl:=h.size;obtain ⟨wc,hw3,C,R,BB⟩:=eC w #[a,b] 25 #[(0:Int),(0:Int),(0:Int)] 40;have st:=(St.start h).keep BB;have hB:=st.lt;have hwc:=BB.size
 have nC:w.heap.size≠g:=ω
 have nR:w.heap.size+1≠g:=ω
 have hRl:=R.lt
 have HG:=fun w=>io a b w
 clear h BB;go_enter func104,ntmps104
 go_wp2_with fail
 refine (FF g B v n _ 8 _ st.cur ω ω ω).mono ?_;rintro e w_t1 ⟨t1,rfl,Iu,Ie⟩;replace st:=st.call Iu Ie;have sz_t1:=Ie.size;replace C:=C.bX Ie nC;replace R:=R.bX Ie nR;have ⟨UD,C_1,Ow,Ox,UE⟩:=C.box;have ⟨O0,O1,UM,y_,A_,IZ⟩:=R.bJ;have O2:=R.lt;cases t1
 case true=>
  go_wp2;exact D_ results104 ⟨0,0,0,rfl,(((st.aQ (c:=w.heap.size+1) (o:=0) ω ω ω (.int .i64 0)).aQ (c:=w.heap.size+1) (o:=1) ω ω ω (.int .i64 0)).aQ (c:=w.heap.size+1) (o:=2) ω ω ω (.int .i64 0)).cur.mono ω,(((st.aQ (c:=w.heap.size+1) (o:=0) ω ω ω (.int .i64 0)).aQ (c:=w.heap.size+1) (o:=1) ω ω ω (.int .i64 0)).aQ (c:=w.heap.size+1) (o:=2) ω ω ω (.int .i64 0)).gr⟩
 case false=>
 cases hg:M.good a b <;> rw [hg] at HG <;> replace HG:=IU HG
 ·go_wp2_with fail
  refine (HG.out _).mono ?_;rintro e w9 ⟨rfl,I2⟩;replace ⟨st,C,R⟩:=I7 I2 st C R;have ⟨UD,C_1,Ow,Ox,UE⟩:=C.box;have ⟨O0,O1,UM,y_,A_,IZ⟩:=R.bJ;have O2:=R.lt;go_wp2;exact D_ results104 ⟨0,0,0,rfl,(((st.aQ (c:=w.heap.size+1) (o:=0) ω ω ω (.int .i64 0)).aQ (c:=w.heap.size+1) (o:=1) ω ω ω (.int .i64 0)).aQ (c:=w.heap.size+1) (o:=2) ω ω ω (.int .i64 0)).cur.mono ω,(((st.aQ (c:=w.heap.size+1) (o:=0) ω ω ω (.int .i64 0)).aQ (c:=w.heap.size+1) (o:=1) ω ω ω (.int .i64 0)).aQ (c:=w.heap.size+1) (o:=2) ω ω ω (.int .i64 0)).gr⟩
 go_wp2_with fail
 refine (HG.out _).mono ?_;rintro e w9 ⟨rfl,I2⟩;replace ⟨st,C,R⟩:=I7 I2 st C R;have sz9:=I2.size;have hgd:=IU hg
 go_wp2_with fail
 refine (gB g B v n _ 60 _ st.cur ω ω ω).mono ?_;rintro e w_f ⟨f,rfl,⟨f_lo,f_hi⟩,Iu,Ie⟩;replace st:=st.call Iu Ie;have sz_f:=Ie.size;replace C:=C.bX Ie nC;replace R:=R.bX Ie nR
 go_upto_region 4 with fail
 have hf1:-30<=f - 30:=ω
 have hf2:f - 30<=29:=ω
 generalize f - 30=F at *;go_wp2
 go_loopw [6] (fun vi wq=>∃ j:Nat,j<=60/\vi=.int .i64 j/\St w wq g B v n (K+2+2)/\aG wq w 25 #[a,b]/\aG wq (w.heap.size+1) 40 #[(0:Int),(0:Int),(0:Int)]) (fun vi _=>60 - (intOf vi).toNat)
 case atStart=>exact ⟨0,ω,rfl,st,C,R⟩
 case round=>
 clear st C R;obtain ⟨j,hj,rfl,st,C,R⟩:=hrel
 by_cases hlt:j<60
 ·have hx1:-200<=F+(j:Int):=ω
  have hx2:F+(j:Int)<=200:=ω
  have PA:=IU fun W=>D8 a b (F+(j:Int)) W hgd.out hx1 hx2
  have ⟨UD,C_1,Ow,Ox,UE⟩:=C.box
  go_wp2_with fail
  (refine (PA.out _).mono ?_);rintro e w7 ⟨A,l,cp,rfl,hl2,hP,hok,Ig⟩
  clear UD C_1 Ow Ox UE;replace hok:=IU hok;have sz7:=Ig.size;have zr7:=st.size;have zs7:=st.le;replace ⟨st,C,R⟩:=I7 Ig st C R
  obtain ⟨m,hm⟩:∃ m,Hid (l.length=m):=⟨_,IU rfl⟩
  rw [hm.out] at hl2 ⊢;replace hP:=IU hP
  by_cases hm0:m=0
  ·subst hm0
   go_wp2
   go_roundw
   case rel=>exact ⟨j+1,ω,ν,st,C,R⟩
   case measure=>simp [intOf];omega
  have hmp:(0:Int)<(m:Int):=ω
  go_wp2_with fail
  refine (gB g B v n _ m _ st.cur ω ω ω).mono ?_;rintro e UC ⟨i,rfl,⟨i_lo,i_hi⟩,Iu,Ie⟩
  obtain ⟨i,rfl⟩:∃ k:Nat,i=k:=⟨i.toNat,ω⟩
  obtain ⟨⟨X,Y,E⟩,hp⟩:∃ p,l[i]?=some p:=⟨_,List.getElem?_eq_getElem (by have:=hm.out;omega)⟩
  obtain ⟨ga,rfl,hga,q0,q1,q2⟩:=hP.out i _ hp;have Ld:=IU (And.intro hgd.out (hok.out _ (List.mem_of_getElem? hp)))
  dsimp only at q0 q1 q2 Ld
  replace q0:=gW Ie q0 ω;replace q1:=gW Ie q1 ω;replace q2:=gW Ie q2 ω;replace st:=st.call Iu Ie;have sz_i:=Ie.size;replace C:=C.bX Ie nC;replace R:=R.bX Ie nR
  have him:(i:Int)<(m:Int):=ω
  have him2:i<m:=ω
  have hRi:=R.lt;have hCi:=C.lt;have Q:=aG.new UC #[X,Y,E] 40;have zi:=st.size;have zj:=st.le;replace st:=st.alloc (.cells #[X,Y,E] 40);replace C:=C.alloc (.cells #[X,Y,E] 40);replace R:=R.alloc (.cells #[X,Y,E] 40)
  have nQ:UC.heap.size≠g:=ω
  go_upto_region 10 with fail
  clear q0 q1 q2;generalize hG:UC.heap.size=G at *;have W7:=R.lt;have Wy:=C.lt;have hGl:=Q.lt;have hgr:=st.size;generalize UC.alloc (.cells #[X,Y,E] 40)=wr at *;refine Cq (fun l W=>KW wr g B v n ((K+2+2+2)+Rg.Ky [(3,2)] l) W) (fun i u W=>match i with | 3=>TP 0 3 u | 4=>TP (1) 4 u | 5=>Cx u | 6=>Cx u | 7=>G0 u | 8=>vZ u | 9=>zA wr u W | 11=>vZ u | _=>True) (cO wr) [3,4,5,6,7,8,9,10,11] [.agg #[a,b],.agg #[X,Y,E],.pointer (some ⟨g,0,none⟩),undef,undef,undef,undef,undef,undef,undef,undef,undef] κ κ δ (fun l l2 W h q=>by rw [←q9 (C:=[(3,2)]) (l:=l) fun p hp=>h p.1 (by revert p;decide)];exact q) (fun i u w1 w2 hR h=>match i,h with | 0,h=>(trivial) | 1,h=>(trivial) | 2,h=>(trivial) | 3,h=>(h) | 4,h=>(h) | 5,h=>(h) | 6,h=>(h) | 7,h=>(h) | 8,h=>(h) | 9,h=>(by obtain ⟨Nx,Pq,R8,Wu⟩:=h;exact ⟨Nx,Pq,R8,hR Nx R8 Wu⟩) | 10,h=>(trivial) | 11,h=>(h) | n_+12,_=>trivial) (KW.start st) ⟨?_,?_,?_,?_,?_,?_,?_,?_,?_,?_,?_,?_,trivial⟩ ?_
  ·unfold bG
   intro zZ w_ l_ d_ Ik JM JL JV I5 Iu hr;refine ⟨rfl,?_⟩;rw [if_neg δ];have e3:zZ.tmps[3]?=some (.pointer (some ⟨w,0,none⟩)):=hr 3 δ;have Ii:=C.bX Ik.2 nC;have ⟨k0,k1,_,_,_⟩:=Ii.box
   (first | (go_simp;done) | (go_simp;exact Rg.wr ω ω) | (go_simp;omega) | (go_simp;rfl) | (go_simp;exact ⟨rfl,rfl⟩))
  ·unfold bG
   intro zZ w_ l_ d_ Ik JM JL JV I5 Iu hr;refine ⟨rfl,?_⟩;rw [if_neg δ];have e8:zZ.tmps[8]?=some (.pointer (some ⟨G,0,none⟩)):=hr 8 δ;have Ii:=Q.bX Ik.2 nQ;have ⟨k0,k1,k2⟩:=Ii.aM
   (first | (go_simp;done) | (go_simp;exact Rg.wr ω ω) | (go_simp;omega) | (go_simp;rfl) | (go_simp;exact ⟨rfl,rfl⟩))
  ·unfold bG
   intro zZ w_ l_ d_ Ik JM JL JV I5 Iu hr;refine ⟨rfl,?_⟩;rw [if_neg δ];have e0:zZ.tmps[0]?=some (.pointer (some ⟨g,0,none⟩)):=hr 0 δ;go_simp
  ·unfold bG
   intro zZ w_ l_ d_ Ik JM JL JV I5 Iu hr;have e44:zZ.tmps[44]?=some (.pointer (some ⟨g,0,none⟩)):=hr 44 δ
   have ef:∀ f,zZ.eval (.func f)=.func (.func f) #[] #[]:=fun _=>rfl
   have ec:=Rg.ec zZ;refine ⟨rfl,?_⟩;rw [if_pos δ];have YM:=ur [(3,2)] l_;rw [show Rg.Ky [(3,2)] (fun _=>true)=2 from rfl] at YM;refine ll τ ?_;refine (gB g B v n _ 4 _ Ik.1 ω ω ω).mono ?_;rintro e_ Q1 ⟨u_,rfl,W5,Pz,Ie⟩;exact ⟨_,rfl,by (try dsimp only);rw [BP (c:=2) δ rfl JL];exact Ik.call Pz Ie,⟨u_,W5,rfl⟩,cO.grown Ie hgr⟩
  ·unfold bG
   intro zZ w_ l_ d_ Ik JM JL JV I5 Iu hr;have e45:zZ.tmps[45]?=some (d_ 3):=hr 45 δ;have ec:=Rg.ec zZ;refine ⟨rfl,?_⟩;rw [if_pos δ];obtain ⟨x_,⟨QZ,Qa⟩,J8⟩:=JM 3 δ (I5 3 κ);rw [J8] at e45;refine gH (x:=.int .i64 (1+x_)) (w2:=w_) (by (first | (go_simp;done) | (go_simp;exact Rg.wr ω ω) | (go_simp;omega) | (go_simp;rfl) | (go_simp;exact ⟨rfl,rfl⟩))) ?_;exact ⟨by (try dsimp only);rw [ck δ];exact Ik,⟨_,ω,rfl⟩,cO.self _ _⟩
  ·unfold bG
   intro zZ w_ l_ d_ Ik JM JL JV I5 Iu hr;have e42:zZ.tmps[42]?=some (.agg #[a,b]):=hr 42 δ;have e43:zZ.tmps[43]?=some (.agg #[X,Y,E]):=hr 43 δ;have e46:zZ.tmps[46]?=some (d_ 4):=hr 46 δ
   have ef:∀ f,zZ.eval (.func f)=.func (.func f) #[] #[]:=fun _=>rfl
   refine ⟨rfl,?_⟩;rw [if_pos δ];obtain ⟨x_,⟨QZ,Qa⟩,J8⟩:=JM 4 δ (I5 4 κ);rw [J8] at e46;refine ll τ ?_;refine (gu a b X Y E x_ _ Ld.out.1 Ld.out.2 ω ω).mono ?_;rintro e_ Q1 ⟨rfl,In⟩;exact ⟨_,rfl,by (try dsimp only);rw [ck δ];exact Ik.keep In,⟨_,_,_,_,rfl⟩,cO.below In⟩
  ·unfold bG
   intro zZ w_ l_ d_ Ik JM JL JV I5 Iu hr;have e47:zZ.tmps[47]?=some (d_ 5):=hr 47 δ;refine ⟨rfl,?_⟩;rw [if_pos δ];obtain ⟨X_,Y_,E_,q_,J8⟩:=JM 5 δ (I5 5 κ);rw [J8] at e47;refine gH (x:=.tuple #[.agg #[X_,Y_,E_],q_]) (w2:=w_) (by (first | (go_simp;done) | (go_simp;exact Rg.wr ω ω) | (go_simp;omega) | (go_simp;rfl) | (go_simp;exact ⟨rfl,rfl⟩))) ?_;exact ⟨by (try dsimp only);rw [ck δ];exact Ik,⟨_,_,_,_,rfl⟩,cO.self _ _⟩
  ·unfold bG
   intro zZ w_ l_ d_ Ik JM JL JV I5 Iu hr;have e41:zZ.tmps[41]?=some (d_ 6):=hr 41 δ;refine ⟨rfl,?_⟩;rw [if_pos δ];obtain ⟨X_,Y_,E_,q_,J8⟩:=JM 6 δ (I5 6 κ);rw [J8] at e41;refine gH (x:=.agg #[X_,Y_,E_]) (w2:=w_) (by (first | (go_simp;done) | (go_simp;exact Rg.wr ω ω) | (go_simp;omega) | (go_simp;rfl) | (go_simp;exact ⟨rfl,rfl⟩))) ?_;exact ⟨by (try dsimp only);rw [ck δ];exact Ik,⟨_,_,_,rfl⟩,cO.self _ _⟩
  ·unfold bG
   intro zZ w_ l_ d_ Ik JM JL JV I5 Iu hr;have e41:zZ.tmps[41]?=some (d_ 6):=hr 41 δ;refine ⟨rfl,?_⟩;rw [if_pos δ];obtain ⟨X_,Y_,E_,q_,J8⟩:=JM 6 δ (I5 6 κ);rw [J8] at e41;refine gH (x:=.bool q_) (w2:=w_) (by (first | (go_simp;done) | (go_simp;exact Rg.wr ω ω) | (go_simp;omega) | (go_simp;rfl) | (go_simp;exact ⟨rfl,rfl⟩))) ?_;exact ⟨by (try dsimp only);rw [ck δ];exact Ik,⟨_,rfl⟩,cO.self _ _⟩
  ·unfold bG
   intro zZ w_ l_ d_ Ik JM JL JV I5 Iu hr;refine ⟨rfl,?_⟩;rw [if_pos δ];refine ut (x:=.pointer (some ⟨w_,0,none⟩)) (ob:=.cells #[(0:Int),(0:Int),(0:Int)] 40) (by (first | (go_simp;done) | (go_simp;exact Rg.wr ω ω) | (go_simp;omega) | (go_simp;rfl) | (go_simp;exact ⟨rfl,rfl⟩))) ?_;exact ⟨by (try dsimp only);rw [ck δ];exact Ik.keep (bA _ _),⟨_,rfl,Ik.2.size,⟨0,0,0,aG.new _ _ _⟩⟩,cO.below (bA _ _)⟩
  ·unfold bG
   intro zZ w_ l_ d_ Ik JM JL JV I5 Iu hr;have e9:zZ.tmps[9]?=some (d_ 9):=hr 9 δ;have e48:zZ.tmps[48]?=some (d_ 7):=hr 48 δ;refine ⟨rfl,?_⟩;rw [if_pos δ];obtain ⟨h_,Wq,Kw,N5⟩:=JM 9 δ (I5 9 κ);rw [Wq] at e9;obtain ⟨X_,Y_,E_,J8⟩:=JM 7 δ (I5 7 κ);rw [J8] at e48
   have JZ:KW wr g B v n ((K+2+2+2)+Rg.Ky [(3,2)] (Rg.upd l_ 10)) (((w_.setCell ⟨h_,0,none⟩ (.int .i64 X_)).setCell ⟨h_,1,none⟩ (.int .i64 Y_)).setCell ⟨h_,2,none⟩ (.int .i64 E_))/\True/\cO wr w_ (((w_.setCell ⟨h_,0,none⟩ (.int .i64 X_)).setCell ⟨h_,1,none⟩ (.int .i64 Y_)).setCell ⟨h_,2,none⟩ (.int .i64 E_)):=⟨by (try dsimp only);rw [ck δ];exact ((Ik.put ω ω Kw 0 _).put ω ω Kw 1 _).put ω ω Kw 2 _,trivial,cO.put N5 _ _ _⟩
   obtain ⟨X0_,Y0_,E0_,N5⟩:=N5;have ⟨Wg,Wi,c2_,Wr,Ws,TZ⟩:=N5.bJ;unfold Oper.wp;go_simp
   all_goals first | exact JZ | exact JZ.1 | exact ⟨undef,JZ⟩ | exact ⟨_,rfl,JZ⟩
  ·unfold bG
   intro zZ w_ l_ d_ Ik JM JL JV I5 Iu hr;have e49:zZ.tmps[49]?=some (d_ 8):=hr 49 δ;refine ⟨rfl,?_⟩;rw [if_pos δ];obtain ⟨q_,J8⟩:=JM 8 δ (I5 8 κ);rw [J8] at e49;refine gH (x:=.bool q_) (w2:=w_) (by (first | (go_simp;done) | (go_simp;exact Rg.wr ω ω) | (go_simp;omega) | (go_simp;rfl) | (go_simp;exact ⟨rfl,rfl⟩))) ?_;exact ⟨by (try dsimp only);rw [ck δ];exact Ik,⟨_,rfl⟩,cO.self _ _⟩
  intro vals wz Ik hF hv;obtain ⟨h_,J9,Kw,XN,YN,EN,N⟩:=hF 9 δ;obtain ⟨ok,KF⟩:=hF 11 δ;simp only [bD,Rg.fill,Act.put,Nat.reduceAdd];simp only [J9,KF];replace Ik:KW wr g B v n ((K+2+2+2)+2) wz:=Ik;replace st:=st.call Ik.1 Ik.2;replace C:=C.bX Ik.2 nC;replace R:=R.bX Ik.2 nR;replace Q:=Q.bX Ik.2 nQ;have szz:=Ik.2.size
  have nRN:w.heap.size+1≠h_:=ω
  have nRG:w.heap.size+1≠G:=ω
  have ⟨O0,O1,UM,y_,A_,IZ⟩:=R.bJ;have O2:=R.lt;have ⟨TQ,TR,TS,Ng,Nh,Ni⟩:=Q.bJ;have TT:=Q.lt;have ⟨N_0,N_1,N_2,UI,UJ,UK⟩:=N.bJ;have N_l:=N.lt;cases ok
  ·go_wp2
   exact D_ results104 ⟨X,Y,E,rfl,(((st.aQ (c:=w.heap.size+1) (o:=0) ω ω ω (.int .i64 X)).aQ (c:=w.heap.size+1) (o:=1) ω ω ω (.int .i64 Y)).aQ (c:=w.heap.size+1) (o:=2) ω ω ω (.int .i64 E)).cur.mono ω,(((st.aQ (c:=w.heap.size+1) (o:=0) ω ω ω (.int .i64 X)).aQ (c:=w.heap.size+1) (o:=1) ω ω ω (.int .i64 Y)).aQ (c:=w.heap.size+1) (o:=2) ω ω ω (.int .i64 E)).gr⟩
  go_wp2;exact D_ results104 ⟨XN,YN,EN,rfl,(((st.aQ (c:=w.heap.size+1) (o:=0) ω ω ω (.int .i64 XN)).aQ (c:=w.heap.size+1) (o:=1) ω ω ω (.int .i64 YN)).aQ (c:=w.heap.size+1) (o:=2) ω ω ω (.int .i64 EN)).cur.mono ω,(((st.aQ (c:=w.heap.size+1) (o:=0) ω ω ω (.int .i64 XN)).aQ (c:=w.heap.size+1) (o:=1) ω ω ω (.int .i64 YN)).aQ (c:=w.heap.size+1) (o:=2) ω ω ω (.int .i64 EN)).gr⟩
 obtain rfl:j=60:=ω
 have ⟨O0,O1,UM,y_,A_,IZ⟩:=R.bJ;have O2:=R.lt;go_wp2;exact D_ results104 ⟨0,0,0,rfl,(((st.aQ (c:=w.heap.size+1) (o:=0) ω ω ω (.int .i64 0)).aQ (c:=w.heap.size+1) (o:=1) ω ω ω (.int .i64 0)).aQ (c:=w.heap.size+1) (o:=2) ω ω ω (.int .i64 0)).cur.mono ω,(((st.aQ (c:=w.heap.size+1) (o:=0) ω ω ω (.int .i64 0)).aQ (c:=w.heap.size+1) (o:=1) ω ω ω (.int .i64 0)).aQ (c:=w.heap.size+1) (o:=2) ω ω ω (.int .i64 0)).gr⟩
end
section
open Go Go.RowKit Go.Shelf open Dw Gr M Rg Rw Wh
namespace Dw
theorem F5 {P:Program} {f:Nat} {A:List S1} {r:S1} (hc:∀ args w,(callFunc f args).run P w=.ok (.enter f args) w) (h:∀ args g z w,Nc g z w A args->Calls P f args.toArray w fun e w'=>∃ x,e=.returned x/\(∀ g z w',ok g z w' r x)/\Below w w w'):iW P f A r 0:=
 ⟨hc,fun g B n v K z w args ha hk _=>(h args g z w ha).mono fun e w' ⟨x,e1,h1,h2⟩=>⟨x,e1,h1 _ _ _,hk.keep h2,bO h2 _⟩⟩
theorem yC:iW prog 74 [.f 2] .b 0:=F5 (enters_of func74 κ rfl) fun args g z w ha=>by
 match args,ha with
 | [x],⟨hx,_⟩=>
 obtain ⟨a,b,rfl⟩:=l8 hx
 exact (io a b w).mono fun e w' ⟨h1,h2⟩=>⟨_,h1,fun _ _ _=>⟨_,rfl⟩,h2⟩
theorem tR:iW prog 103 [.f 2,.f 3,.i] (.t2 (.f 3) .b) 0:=F5 (enters_of func103 κ rfl) fun args g z w ha=>by
 match args,ha with
 | [x,y,u],⟨hx,hy,⟨n,hu⟩,_⟩=>
 obtain ⟨a,b,rfl⟩:=l8 hx;obtain ⟨X,Y,E,rfl⟩:=Am hy;subst hu
 exact (jf a b X Y E n w).mono fun e w' ⟨h1,h2⟩=>⟨_,h1,fun _ _ _=>⟨_,_,rfl,An _ _ _,_,rfl⟩,h2⟩
theorem yB:iW prog 46 [.f 2,.f 3] (.t2 (.f 3) .b) 0:=F5 (enters_of func46 κ rfl) fun args g z w ha=>by
 match args,ha with
 | [x,y],⟨hx,hy,_⟩=>
 obtain ⟨a,b,rfl⟩:=l8 hx;obtain ⟨X,Y,E,rfl⟩:=Am hy
 exact (ki a b X Y E w).mono fun e w' ⟨h1,h2⟩=>⟨_,h1,fun _ _ _=>⟨_,_,rfl,An _ _ _,_,rfl⟩,h2⟩
theorem vH:iW prog 104 [.c,.f 2] (.f 3) 10:=⟨enters_of func104 κ rfl,fun g B n v K z w args ha hk hK=>by
 match args,ha with
 | [x,y],⟨hx,hy,_⟩=>
 obtain ⟨a,b,rfl⟩:=l8 hy;have hx:x=_:=hx;subst hx
 exact (ya g B v n K a b w hk ω).mono fun e w' ⟨X,Y,E,h1,h2,h3⟩=>⟨_,h1,An _ _ _,h2,h3⟩⟩
theorem uE {g z:Nat} {w:World} {a:Act} {m:Nat}:∀ (s:List S1),Nc g z w s (a.tmps.toList.take s.length)->∀ t,ok g z w (nth (s ++ List.replicate m .any) t) (a.eval (.tmp t)):=by
 have key:∀ (s:List S1) (vs:List Value),Nc g z w s (vs.take s.length)->∀ t,ok g z w (nth (s ++ List.replicate m .any) t) (vs.getD t undef):=by
  intro s
  induction s with
  | nil=>
   intro vs _ t
   have:nth ([] ++ List.replicate m .any) t=.any:=by
    unfold nth;rw [List.nil_append,List.getD_eq_getElem?_getD,List.getElem?_replicate]
    split <;> rfl
   rw [this]
   trivial
  | cons x s ih=>
  intro vs h t
  cases vs with
  | nil=>exact h.elim
  | cons v vs=>
  cases t with
  | zero=>exact h.1
  | succ t=>exact ih vs h.2 t
 intro s h t;have:=key s a.tmps.toList h t
 rwa [List.getD_eq_getElem?_getD,Array.getElem?_toList,←Array.getD_eq_getD_getElem?] at this
theorem aG.ib {w:World} {g b T:Nat} {xs:List Int} (h:aG w b T (xs.map (Value.int .i64)).toArray) (hg:b≠g):IB g w b T xs.length:=⟨hg,_,h,σ,fun u hu=>by
 obtain ⟨x,-,rfl⟩:=List.mem_map.1 hu
 exact ⟨x,rfl⟩⟩
theorem aG.own {w:World} {g z b T:Nat} {xs:List Int} (h:aG w b T (xs.map (Value.int .i64)).toArray) (hg:b≠g) (hz:z<=b):ok g z w (.p true xs.length) (.pointer (some ⟨b,0,none⟩)):=⟨b,0,T,xs.length,rfl,aG.ib h hg,ω,fun _=>hz⟩
theorem Yr {P:Program} {c:Code} {Q:Exit->Act->World->Prop} {K:Act->World->Prop} {a:Act} {w:World} (h:∀ a w,Code.wp P c Q a w->K a w) (h2:c.wp P Q a w):K a w:=h a w h2
def E4:Env:={ E3 with fn:=(74,[.f 2],.b,0) :: (104,[.c,.f 2],.f 3,10) :: (46,[.f 2,.f 3],.t2 (.f 3) .b,0) :: (103,[.f 2,.f 3,.i],.t2 (.f 3) .b,0) :: E3.fn }
theorem Eo:dF prog E4:=(((G5.cons tR).cons yB).cons vH).cons yC
theorem AM:iW prog 125 [.c] (.f 2) 30:=nk Eo mixed func125 (enters_of func125 κ rfl) (fuel:=60) κ
def E5:Env:={ E4 with fn:=(125,[.c],.f 2,30) :: E4.fn }
theorem Ep:dF prog E5:=Eo.cons AM
theorem sL:iW prog 82 [.c] (.f 2) 40:=nk Ep mixed func82 (enters_of func82 κ rfl) (fuel:=60) κ
def E6:Env:={ E5 with fn:=(82,[.c],.f 2,40) :: E5.fn }
theorem Er:dF prog E6:=Ep.cons sL
end Dw
theorem Dw.uV (g B:Nat) (v:Value) (n K:Nat) (w:World) (h:dQ w g B v n K) (hk:K+100<=700000000) :
  Calls prog 45 #[.pointer (some ⟨g,0,none⟩)] w fun e w'=>∃ x,e=.returned x/\Dw.ok g w w' (.t2 (.f 2) (.f 3)) x/\dQ w' g B v n (K+100)/\w.grownBy w' (some g):=by
 have hl:=h.size;obtain ⟨wc,hw3,R,Q,BB⟩:=eC w #[(0:Int),(0:Int)] 25 #[(0:Int),(0:Int),(0:Int)] 40;have st:=(St.start h).keep BB;have hB:=st.lt;have hwc:=BB.size
 have nR:w.heap.size≠g:=ω
 have nQ:w.heap.size+1≠g:=ω
 clear h BB;go_enter func45,ntmps45
 go_wp2_with fail
 refine (yc g B v n _ _ st.cur ω).mono ?_;rintro e TC ⟨a,b,X,Y,E,rfl,Ld,Iu,Ie⟩;replace st:=st.call Iu Ie;have sz_c:=Ie.size;replace R:=R.bX Ie nR;replace Q:=Q.bX Ie nQ;clear Iu Ie;have zrc:=R.lt;have zqc:=Q.lt;have C:=aG.new TC #[a,b] 25;have zlC:=st.size;have zgC:=st.le;replace st:=st.alloc (.cells #[a,b] 25);replace R:=R.alloc (.cells #[a,b] 25);replace Q:=Q.alloc (.cells #[a,b] 25)
 have nC:TC.heap.size≠g:=ω
 have U:=aG.new (TC.alloc (.cells #[a,b] 25)) #[X,Y,E] 40;have zlU:=st.size;have zgU:=st.le;replace st:=st.alloc (.cells #[X,Y,E] 40);replace R:=R.alloc (.cells #[X,Y,E] 40);replace Q:=Q.alloc (.cells #[X,Y,E] 40);replace C:=C.alloc (.cells #[X,Y,E] 40);rw [IV] at U zlU zgU
 have nU:TC.heap.size+1≠g:=ω
 go_wp2_with fail
 generalize TC.heap.size=G at *;refine (FF g B v n _ 3 _ st.cur ω ω ω).mono ?_;rintro e RP ⟨t,rfl,Iu,Ie⟩;replace st:=st.call Iu Ie;have sz_t:=Ie.size;replace R:=R.bX Ie nR;replace Q:=Q.bX Ie nQ;replace C:=C.bX Ie nC;replace U:=U.bX Ie nU;clear Iu Ie
 go_upto_if 15 with fail
 go_cut [] from 6 to 26 (fun wx=>St w wx g B v n (K+20+2+2)/\aG wx w 25 #[(0:Int),(0:Int)]/\aG wx (w.heap.size+1) 40 #[(0:Int),(0:Int),(0:Int)]/\aG wx G 25 #[a,b]/\sJ wx (G+1))
 case first=>as_aux_lemma=>
  cases t
  case false=>
   go_wp2
   go_meet
   exact ⟨st.up ω,R,Q,C,⟨X,Y,E,U⟩⟩
  case true=>
  go_upto_region 3 with fail
  have W7:=R.lt;have Wy:=C.lt;have hUl:=U.lt;have Tc:=Q.lt;have hgr:=st.size;refine Cq (fun l W=>KW RP g B v n ((K+20+2)+Rg.Ky [(3,2)] l) W) (fun i u W=>match i with | 3=>TP 0 8 u | 4=>TP (-4) 4 u | 5=>Cx u | 6=>Cx u | 7=>G0 u | 8=>vZ u | 9=>zA RP u W | 11=>vZ u | _=>True) (cO RP) [3,4,5,6,7,8,9,10,11] [.agg #[a,b],.agg #[X,Y,E],.pointer (some ⟨g,0,none⟩),undef,undef,undef,undef,undef,undef,undef,undef,undef] κ κ δ (fun l l2 W h q=>by rw [←q9 (C:=[(3,2)]) (l:=l) fun p hp=>h p.1 (by revert p;decide)];exact q) (fun i u w1 w2 hR h=>match i,h with | 0,h=>(trivial) | 1,h=>(trivial) | 2,h=>(trivial) | 3,h=>(h) | 4,h=>(h) | 5,h=>(h) | 6,h=>(h) | 7,h=>(h) | 8,h=>(h) | 9,h=>(by obtain ⟨Nx,Pq,R8,Wu⟩:=h;exact ⟨Nx,Pq,R8,hR Nx R8 Wu⟩) | 10,h=>(trivial) | 11,h=>(h) | n_+12,_=>trivial) (KW.start st) ⟨?_,?_,?_,?_,?_,?_,?_,?_,?_,?_,?_,?_,trivial⟩ ?_
  ·unfold bG
   intro zZ w_ l_ d_ Ik JM JL JV I5 Iu hr;refine ⟨rfl,?_⟩;rw [if_neg δ];have e4:zZ.tmps[4]?=some (.pointer (some ⟨G,0,none⟩)):=hr 4 δ;have Ii:=C.bX Ik.2 nC;have ⟨k0,k1,_,_,_⟩:=Ii.box
   (first | (go_simp;done) | (go_simp;exact Rg.wr ω ω) | (go_simp;omega) | (go_simp;rfl) | (go_simp;exact ⟨rfl,rfl⟩))
  ·unfold bG
   intro zZ w_ l_ d_ Ik JM JL JV I5 Iu hr;refine ⟨rfl,?_⟩;rw [if_neg δ];have e5:zZ.tmps[5]?=some (.pointer (some ⟨G+1,0,none⟩)):=hr 5 δ;have Ii:=U.bX Ik.2 nU;have ⟨k0,k1,k2⟩:=Ii.aM
   (first | (go_simp;done) | (go_simp;exact Rg.wr ω ω) | (go_simp;omega) | (go_simp;rfl) | (go_simp;exact ⟨rfl,rfl⟩))
  ·unfold bG
   intro zZ w_ l_ d_ Ik JM JL JV I5 Iu hr;refine ⟨rfl,?_⟩;rw [if_neg δ];have e0:zZ.tmps[0]?=some (.pointer (some ⟨g,0,none⟩)):=hr 0 δ;go_simp
  ·unfold bG
   intro zZ w_ l_ d_ Ik JM JL JV I5 Iu hr;have e19:zZ.tmps[19]?=some (.pointer (some ⟨g,0,none⟩)):=hr 19 δ
   have ef:∀ f,zZ.eval (.func f)=.func (.func f) #[] #[]:=fun _=>rfl
   have ec:=Rg.ec zZ;refine ⟨rfl,?_⟩;rw [if_pos δ];have YM:=ur [(3,2)] l_;rw [show Rg.Ky [(3,2)] (fun _=>true)=2 from rfl] at YM;refine ll τ ?_;refine (gB g B v n _ 9 _ Ik.1 ω ω ω).mono ?_;rintro e_ Q1 ⟨u_,rfl,W5,Pz,Ie⟩;exact ⟨_,rfl,by (try dsimp only);rw [BP (c:=2) δ rfl JL];exact Ik.call Pz Ie,⟨u_,W5,rfl⟩,cO.grown Ie hgr⟩
  ·unfold bG
   intro zZ w_ l_ d_ Ik JM JL JV I5 Iu hr;have e20:zZ.tmps[20]?=some (d_ 3):=hr 20 δ;have ec:=Rg.ec zZ;refine ⟨rfl,?_⟩;rw [if_pos δ];obtain ⟨x_,⟨QZ,Qa⟩,J8⟩:=JM 3 δ (I5 3 κ);rw [J8] at e20;refine gH (x:=.int .i64 (x_ - 4)) (w2:=w_) (by (first | (go_simp;done) | (go_simp;exact Rg.wr ω ω) | (go_simp;omega) | (go_simp;rfl) | (go_simp;exact ⟨rfl,rfl⟩))) ?_;exact ⟨by (try dsimp only);rw [ck δ];exact Ik,⟨_,ω,rfl⟩,cO.self _ _⟩
  ·unfold bG
   intro zZ w_ l_ d_ Ik JM JL JV I5 Iu hr;have e17:zZ.tmps[17]?=some (.agg #[a,b]):=hr 17 δ;have e18:zZ.tmps[18]?=some (.agg #[X,Y,E]):=hr 18 δ;have e21:zZ.tmps[21]?=some (d_ 4):=hr 21 δ
   have ef:∀ f,zZ.eval (.func f)=.func (.func f) #[] #[]:=fun _=>rfl
   refine ⟨rfl,?_⟩;rw [if_pos δ];obtain ⟨x_,⟨QZ,Qa⟩,J8⟩:=JM 4 δ (I5 4 κ);rw [J8] at e21;refine ll τ ?_;refine (gu a b X Y E x_ _ Ld.out.1 Ld.out.2 ω ω).mono ?_;rintro e_ Q1 ⟨rfl,In⟩;exact ⟨_,rfl,by (try dsimp only);rw [ck δ];exact Ik.keep In,⟨_,_,_,_,rfl⟩,cO.below In⟩
  ·unfold bG
   intro zZ w_ l_ d_ Ik JM JL JV I5 Iu hr;have e22:zZ.tmps[22]?=some (d_ 5):=hr 22 δ;refine ⟨rfl,?_⟩;rw [if_pos δ];obtain ⟨X_,Y_,E_,q_,J8⟩:=JM 5 δ (I5 5 κ);rw [J8] at e22;refine gH (x:=.tuple #[.agg #[X_,Y_,E_],q_]) (w2:=w_) (by (first | (go_simp;done) | (go_simp;exact Rg.wr ω ω) | (go_simp;omega) | (go_simp;rfl) | (go_simp;exact ⟨rfl,rfl⟩))) ?_;exact ⟨by (try dsimp only);rw [ck δ];exact Ik,⟨_,_,_,_,rfl⟩,cO.self _ _⟩
  ·unfold bG
   intro zZ w_ l_ d_ Ik JM JL JV I5 Iu hr;have e16:zZ.tmps[16]?=some (d_ 6):=hr 16 δ;refine ⟨rfl,?_⟩;rw [if_pos δ];obtain ⟨X_,Y_,E_,q_,J8⟩:=JM 6 δ (I5 6 κ);rw [J8] at e16;refine gH (x:=.agg #[X_,Y_,E_]) (w2:=w_) (by (first | (go_simp;done) | (go_simp;exact Rg.wr ω ω) | (go_simp;omega) | (go_simp;rfl) | (go_simp;exact ⟨rfl,rfl⟩))) ?_;exact ⟨by (try dsimp only);rw [ck δ];exact Ik,⟨_,_,_,rfl⟩,cO.self _ _⟩
  ·unfold bG
   intro zZ w_ l_ d_ Ik JM JL JV I5 Iu hr;have e16:zZ.tmps[16]?=some (d_ 6):=hr 16 δ;refine ⟨rfl,?_⟩;rw [if_pos δ];obtain ⟨X_,Y_,E_,q_,J8⟩:=JM 6 δ (I5 6 κ);rw [J8] at e16;refine gH (x:=.bool q_) (w2:=w_) (by (first | (go_simp;done) | (go_simp;exact Rg.wr ω ω) | (go_simp;omega) | (go_simp;rfl) | (go_simp;exact ⟨rfl,rfl⟩))) ?_;exact ⟨by (try dsimp only);rw [ck δ];exact Ik,⟨_,rfl⟩,cO.self _ _⟩
  ·unfold bG
   intro zZ w_ l_ d_ Ik JM JL JV I5 Iu hr;refine ⟨rfl,?_⟩;rw [if_pos δ];refine ut (x:=.pointer (some ⟨w_,0,none⟩)) (ob:=.cells #[(0:Int),(0:Int),(0:Int)] 40) (by (first | (go_simp;done) | (go_simp;exact Rg.wr ω ω) | (go_simp;omega) | (go_simp;rfl) | (go_simp;exact ⟨rfl,rfl⟩))) ?_;exact ⟨by (try dsimp only);rw [ck δ];exact Ik.keep (bA _ _),⟨_,rfl,Ik.2.size,⟨0,0,0,aG.new _ _ _⟩⟩,cO.below (bA _ _)⟩
  ·unfold bG
   intro zZ w_ l_ d_ Ik JM JL JV I5 Iu hr;have e6:zZ.tmps[6]?=some (d_ 9):=hr 6 δ;have e23:zZ.tmps[23]?=some (d_ 7):=hr 23 δ;refine ⟨rfl,?_⟩;rw [if_pos δ];obtain ⟨h_,Wq,Kw,N5⟩:=JM 9 δ (I5 9 κ);rw [Wq] at e6;obtain ⟨X_,Y_,E_,J8⟩:=JM 7 δ (I5 7 κ);rw [J8] at e23
   have JZ:KW RP g B v n ((K+20+2)+Rg.Ky [(3,2)] (Rg.upd l_ 10)) (((w_.setCell ⟨h_,0,none⟩ (.int .i64 X_)).setCell ⟨h_,1,none⟩ (.int .i64 Y_)).setCell ⟨h_,2,none⟩ (.int .i64 E_))/\True/\cO RP w_ (((w_.setCell ⟨h_,0,none⟩ (.int .i64 X_)).setCell ⟨h_,1,none⟩ (.int .i64 Y_)).setCell ⟨h_,2,none⟩ (.int .i64 E_)):=⟨by (try dsimp only);rw [ck δ];exact ((Ik.put ω ω Kw 0 _).put ω ω Kw 1 _).put ω ω Kw 2 _,trivial,cO.put N5 _ _ _⟩
   obtain ⟨X0_,Y0_,E0_,N5⟩:=N5;have ⟨Wg,Wi,c2_,Wr,Ws,TZ⟩:=N5.bJ;unfold Oper.wp;go_simp
   all_goals first | exact JZ | exact JZ.1 | exact ⟨undef,JZ⟩ | exact ⟨_,rfl,JZ⟩
  ·unfold bG
   intro zZ w_ l_ d_ Ik JM JL JV I5 Iu hr;have e24:zZ.tmps[24]?=some (d_ 8):=hr 24 δ;refine ⟨rfl,?_⟩;rw [if_pos δ];obtain ⟨q_,J8⟩:=JM 8 δ (I5 8 κ);rw [J8] at e24;refine gH (x:=.bool q_) (w2:=w_) (by (first | (go_simp;done) | (go_simp;exact Rg.wr ω ω) | (go_simp;omega) | (go_simp;rfl) | (go_simp;exact ⟨rfl,rfl⟩))) ?_;exact ⟨by (try dsimp only);rw [ck δ];exact Ik,⟨_,rfl⟩,cO.self _ _⟩
  intro vals wz Ik hF hv;obtain ⟨h_,J9,Kw,XN,YN,EN,N⟩:=hF 9 δ;obtain ⟨ok,KF⟩:=hF 11 δ;simp only [bD,Rg.fill,Act.put,Nat.reduceAdd];clear hv hF;simp only [J9,KF];clear J9 KF;replace Ik:KW RP g B v n ((K+20+2)+2) wz:=Ik;replace st:=st.call Ik.1 Ik.2;replace R:=R.bX Ik.2 nR;replace Q:=Q.bX Ik.2 nQ;replace C:=C.bX Ik.2 nC;replace U:=U.bX Ik.2 nU;have szz:=Ik.2.size;clear Ik;have ⟨U_0,U_1,U_2,KB,KC,U_f2⟩:=U.bJ;have U_l:=U.lt;have ⟨N_0,N_1,N_2,UI,UJ,UK⟩:=N.bJ;have N_l:=N.lt;cases ok
  ·go_wp2
   go_meet
   exact ⟨st.up ω,R,Q,C,⟨X,Y,E,U⟩⟩
  go_wp2
  go_meet
  exact ⟨((((st.aQ (c:=G+1) (o:=0) ω ω ω _).aQ (c:=G+1) (o:=1) ω ω ω _).aQ (c:=G+1) (o:=2) ω ω ω _)).up ω,((R.other ω _).other ω _).other ω _,((Q.other ω _).other ω _).other ω _,((C.other ω _).other ω _).other ω _,⟨XN,YN,EN,U.ou _ _ _⟩⟩
 case rest=>
 obtain ⟨st,R,Q,C,X1,Y1,E1,U⟩:=hcut;refine Dw.Yr ψ ?_
 refine jW (w0:=w) (g:=g) (B:=B) (n:=n) (v:=v) (K:=K+24) (cap:=76) (r:=.t2 (.f 2) (.f 3)) (s:=[.c,.any,.p true 2,.p true 3,.p true 2,.p true 3] ++ List.replicate 64 .any) Er Dw.mixed 60 ω ⟨⟨st.cur,st.gr,ω⟩,uE [.c,.any,.p true 2,.p true 3,.p true 2,.p true 3] ?_,rfl,rfl⟩ κ fun x w' h1 h2 h3=>⟨x,rfl,h1,h2,h3⟩
 exact ⟨rfl,trivial,Dw.aG.own (xs:=[0,0]) R nR ω,Dw.aG.own (xs:=[0,0,0]) Q nQ ω,Dw.aG.own (xs:=[a,b]) C nC ω,Dw.aG.own (xs:=[X1,Y1,E1]) U nU ω,trivial⟩
namespace Dw
theorem sM:iW prog 45 [.c] (.t2 (.f 2) (.f 3)) 100:=⟨enters_of func45 κ rfl,fun g B n v K z w args ha hk hK=>by
 match args,ha with
 | [x],⟨hx,_⟩=>
 have hx:x=_:=hx;subst hx
 exact uV g B v n K w hk hK⟩
end Dw
namespace Dw
def E7:Env:={ E6 with fn:=(45,[.c],(.t2 (.f 2) (.f 3)),100) :: E6.fn }
theorem Es:dF prog E7:=Er.cons sM
theorem rp:iW prog 102 [.c] (.t3 (.f 2) (.f 3) (.f 3)) 120:=nk Es mixed func102 (enters_of func102 κ rfl) (fuel:=60) κ
def E8:Env:={ E7 with fn:=(102,[.c],(.t3 (.f 2) (.f 3) (.f 3)),120) :: E7.fn }
theorem Et:dF prog E8:=Es.cons rp
theorem pS:iW prog 60 [.c] (.t2 (.f 2) (.s 3 0 5)) 200:=nk Et mixed func60 (enters_of func60 κ rfl) (fuel:=60) κ
def E9:Env:={ E8 with fn:=(60,[.c],(.t2 (.f 2) (.s 3 0 5)),200) :: E8.fn }
theorem Eu:dF prog E9:=Et.cons pS
theorem oJ:iW prog 25 [.c] (.t2 (.f 2) (.s 3 0 5)) 220:=nk Eu mixed func25 (enters_of func25 κ rfl) (fuel:=60) κ
def EA:Env:={ E9 with fn:=(25,[.c],(.t2 (.f 2) (.s 3 0 5)),220) :: E9.fn }
theorem ve:dF prog EA:=Eu.cons oJ
end Dw
theorem jx (v:Value) (n:Nat) (w:World) (h:dO w w v n) :
  Calls prog 6 #[v] w fun e w'=>∃ x,e=.returned x/\(∃ g z,Dw.ok g z w' (.t3 (.f 2) (.s 3 0 5) .i) x)/\Below w w w':=by
 obtain ⟨A,cap,rfl,hn,In⟩:=h
 have h:dO w w (.slice A n cap) n:=⟨A,cap,rfl,hn,In⟩
 clear In hn;obtain ⟨wc,hw3,R,BB⟩:=cf w #[(0:Int),(0:Int)] 25;have st:=St.Dq h BB 60;have zc:=R.lt;have zw:=BB.size;replace R:=R.alloc (.cells #[.slice A n cap,(0:Int),.int .u64 0] 60);clear h BB;go_enter func6,ntmps6
 refine wp_seq_k fun K1 hK1=>?_
 replace hK1:=IU hK1;go_wp2;refine hK1.out _ _ ?_
 refine wp_seq_k fun K2 hK2=>?_
 replace hK2:=IU hK2;go_wp2;refine hK2.out _ _ ?_
 refine jW (w0:=w) (g:=wc.heap.size) (B:=w.heap.size) (n:=n) (v:=.slice A n cap) (K:=0) (cap:=260) (r:=(.t3 (.f 2) (.s 3 0 5) .i)) (s:=[.any,.any,.p true 2,.z,.n 0 0,.c] ++ List.replicate 18 .any) ve Dw.mixed 60 ω ⟨⟨st.cur,st.gr,ω⟩,uE [.any,.any,.p true 2,.z,.n 0 0,.c] ?_,rfl,rfl⟩ κ fun x w' h1 _ h3=>⟨x,rfl,⟨_,_,h1⟩,bS h3 (IY _) fun k hk=>by cases hk;exact zw⟩
 exact ⟨trivial,trivial,Dw.aG.own (xs:=[0,0]) R ω ω,rfl,⟨0,rfl,IY _,IY _⟩,rfl,trivial⟩
theorem jX (v:Value) (n:Nat) (w:World) (h:dO w w v n) :
  Calls prog 41 #[v] w fun e w'=>∃ x,e=.returned x/\(∃ g z,Dw.ok g z w' (.t3 (.f 2) (.s 3 0 5) (.s 1 0 5)) x)/\Below w w w':=by
 obtain ⟨A,cap,rfl,hn,In⟩:=h
 have h:dO w w (.slice A n cap) n:=⟨A,cap,rfl,hn,In⟩
 clear In hn;obtain ⟨wc,hw3,R,BB⟩:=cf w #[(0:Int),(0:Int)] 25;have st:=St.Dq h BB 60;have zc:=R.lt;have zw:=BB.size;replace R:=R.alloc (.cells #[.slice A n cap,(0:Int),.int .u64 0] 60);clear h BB;go_enter func41,ntmps41
 refine wp_seq_k fun K1 hK1=>?_
 replace hK1:=IU hK1;go_wp2;refine hK1.out _ _ ?_
 refine wp_seq_k fun K2 hK2=>?_
 replace hK2:=IU hK2;go_wp2;refine hK2.out _ _ ?_
 refine jW (w0:=w) (g:=wc.heap.size) (B:=w.heap.size) (n:=n) (v:=.slice A n cap) (K:=0) (cap:=300) (r:=(.t3 (.f 2) (.s 3 0 5) (.s 1 0 5))) (s:=[.any,.any,.p true 2,.z,.z,.c] ++ List.replicate 44 .any) ve Dw.mixed 60 ω ⟨⟨st.cur,st.gr,ω⟩,uE [.any,.any,.p true 2,.z,.z,.c] ?_,rfl,rfl⟩ κ fun x w' h1 _ h3=>⟨x,rfl,⟨_,_,h1⟩,bS h3 (IY _) fun k hk=>by cases hk;exact zw⟩
 exact ⟨trivial,trivial,Dw.aG.own (xs:=[0,0]) R ω ω,rfl,rfl,rfl,trivial⟩
theorem ng (v:Value) (n:Nat) (w:World) (h:dO w w v n) :
  Calls prog 16 #[v] w fun e w'=>∃ x,e=.returned x/\(∃ g z,Dw.ok g z w' (.t3 (.f 2) (.f 3) .i) x)/\Below w w w':=by
 obtain ⟨A,cap,rfl,hn,In⟩:=h
 have h:dO w w (.slice A n cap) n:=⟨A,cap,rfl,hn,In⟩
 clear In hn;obtain ⟨wc,hw3,R,Q,BB⟩:=eC w #[(0:Int),(0:Int)] 25 #[(0:Int),(0:Int),(0:Int)] 40;have st:=St.Dq h BB 60;have zc:=Q.lt;have zw:=BB.size;replace R:=R.alloc (.cells #[.slice A n cap,(0:Int),.int .u64 0] 60);replace Q:=Q.alloc (.cells #[.slice A n cap,(0:Int),.int .u64 0] 60);clear h BB;go_enter func16,ntmps16
 refine wp_seq_k fun K1 hK1=>?_
 replace hK1:=IU hK1;go_wp2;refine hK1.out _ _ ?_
 refine wp_seq_k fun K2 hK2=>?_
 replace hK2:=IU hK2;go_wp2;refine hK2.out _ _ ?_
 refine jW (w0:=w) (g:=wc.heap.size) (B:=w.heap.size) (n:=n) (v:=.slice A n cap) (K:=0) (cap:=260) (r:=(.t3 (.f 2) (.f 3) .i)) (s:=[.any,.any,.p true 2,.p true 3,.n 0 0,.c] ++ List.replicate 32 .any) ve Dw.mixed 60 ω ⟨⟨st.cur,st.gr,ω⟩,uE [.any,.any,.p true 2,.p true 3,.n 0 0,.c] ?_,rfl,rfl⟩ κ fun x w' h1 _ h3=>⟨x,rfl,⟨_,_,h1⟩,bS h3 (IY _) fun k hk=>by cases hk;exact zw⟩
 exact ⟨trivial,trivial,Dw.aG.own (xs:=[0,0]) R ω ω,Dw.aG.own (xs:=[0,0,0]) Q ω ω,⟨0,rfl,IY _,IY _⟩,rfl,trivial⟩
theorem Dw.Ht {g g' z z' m lo hi:Nat} {B n K l c:Nat} {A:Option Addr} {w:World} {v:Value} (h:dQ w g B (.slice A l c) n K) (q:Dw.ok g' z' w (.s m lo hi) v):Dw.ok g z w (.s m lo hi) v:=by
 obtain ⟨A',l',c',rfl,h1,h2⟩:=q;refine ⟨A',l',c',rfl,h1,h2.imp id ?_⟩;rintro ⟨b,off,T,M,e,⟨-,xs,x1,x2,x3⟩,x4⟩;refine ⟨b,off,T,M,e,⟨?_,xs,x1,x2,x3⟩,x4⟩;rintro rfl;obtain ⟨k,-,hc⟩:=h;have:=hc.c0;rw [cell_of_row _ _ _ xs T (0,0) x1] at this;obtain ⟨y,hy⟩:=x3 _ (Array.mem_toList_iff.2 (Array.mem_of_getElem? this));cases hy
theorem lE (v:Value) (n:Nat) (w:World) (h:dO w w v n) :
  Calls prog 14 #[v] w fun e w'=>∃ x,e=.returned x/\(∃ g z,Dw.ok g z w' (.t3 (.f 2) (.s 3 0 5) (.s 1 0 5)) x)/\Below w w w':=by
 obtain ⟨A,cap,rfl,hn,In⟩:=h
 have h:dO w w (.slice A n cap) n:=⟨A,cap,rfl,hn,In⟩
 clear In hn;obtain ⟨wc,hw3,R,BB⟩:=cf w #[(0:Int),(0:Int)] 25;have st:=St.Dq h BB 60;have zc:=R.lt;have zw:=BB.size;replace R:=R.alloc (.cells #[.slice A n cap,(0:Int),.int .u64 0] 60);clear BB;go_enter func14,ntmps14
 refine wp_seq_k fun K1 hK1=>?_
 replace hK1:=IU hK1;go_wp2;refine hK1.out _ _ ?_
 refine wp_seq_k fun K2 hK2=>?_
 replace hK2:=IU hK2;go_wp2;refine hK2.out _ _ ?_
 refine wp_seq_k fun K3 hK3=>?_
 replace hK3:=IU hK3
 go_wp2_with fail
 refine (jX _ n _ ((h.keepW (st.Fm zw)).Bb st.le)).mono ?_;rintro e w4 ⟨x,rfl,⟨g_,z_,hx⟩,hb4⟩;obtain ⟨x1,x2,x3,rfl,h1,h2,h3⟩:=hx;obtain ⟨a,b,rfl⟩:=l8 h1;have zg:=st.size;replace ⟨st,R⟩:=Im hb4 st R;replace h2:=Ht (z:=0) st.cur h2;replace h3:=Ht (z:=0) st.cur h3;have C:=aG.new w4 #[a,b] 25;have b_:=Dw.Mon.alloc wc w4 (.cells #[a,b] 25);replace st:=st.alloc (.cells #[a,b] 25);replace R:=R.alloc (.cells #[a,b] 25);have zh:=hb4.size;have zr:=st.le;go_wp2;refine hK3.out _ _ ?_
 refine jW (w0:=w) (g:=wc.heap.size) (B:=w.heap.size) (n:=n) (v:=.slice A n cap) (K:=0) (cap:=20) (r:=(.t3 (.f 2) (.s 3 0 5) (.s 1 0 5))) (s:=[.any,.any,.p true 2,.z,.z,.c,.p true 2,.s 3 0 5,.s 1 0 5] ++ List.replicate 25 .any) ve Dw.mixed 60 ω ⟨⟨st.cur,st.gr,ω⟩,uE [.any,.any,.p true 2,.z,.z,.c,.p true 2,.s 3 0 5,.s 1 0 5] ?_,rfl,rfl⟩ κ fun x w' h1 _ h3=>⟨x,rfl,⟨_,_,h1⟩,bS h3 (IY _) fun k hk=>by cases hk;exact zw⟩
 exact ⟨trivial,trivial,Dw.aG.own (xs:=[0,0]) R ω ω,rfl,rfl,rfl,Dw.aG.own (xs:=[a,b]) C ω ω,iM b_ _ _ h2,iM b_ _ _ h3,trivial⟩
end
section
open Go Go.RowKit open Dw Gr M Rg Rw Wh
def C8 (n m:Nat):Bool:=decide ((1048576:Int)<n) || decide (1048576 - (n:Int)<m)
theorem HR (v u:Value) (n m:Nat) (w:World) (hv:dO w w v n) (hu:dO w w u m) :
  cP 5 #[v,u] w (C8 n m):=by
 obtain ⟨A,c,rfl,hn,-⟩:=hv;obtain ⟨A',c',rfl,hm,-⟩:=hu
 by_cases h1:(1048576:Int)<n
 ·go_enter func5,ntmps5
  go_wp2;go_ret;exact ⟨fO (by simp [C8,h1]),rfl⟩
 by_cases h2:1048576 - (n:Int)<m
 all_goals
  go_enter func5,ntmps5
  go_wp2;go_ret;exact ⟨fO (by simp [C8,h1,h2]),rfl⟩
theorem GV (n:Int) (w:World) (h:-3<=n/\n<=3) :
  cP 13 #[n] w (.int .i64 (n.natAbs:Int)):=by
 by_cases h:n<0
 all_goals
  go_enter func13,ntmps13
  go_wp2;go_ret;exact ⟨kc ω,rfl⟩
theorem vQ (v u:Value) (xs:List Int) (h1 h2:Nat) (w:World) (hx:ei w h1 v xs) (hy:ei w h2 u xs) :
  cB 9 #[v,u] w true:=by
 obtain ⟨A,cap,rfl,hm,hv⟩:=hx;obtain ⟨A',cap',rfl,-,hv'⟩:=hy;go_enter func9,ntmps9
 go_wp2
 go_loopw [13] (fun vi wr=>∃ k:Nat,k<=xs.length/\vi=.int .i64 k/\Below w w wr/\(∀ p,wr.cell? p=w.cell? p)) (fun vi _=>xs.length - (intOf vi).toNat)
 case atStart=>exact ⟨0,ω,rfl,IX _ _,fun _=>rfl⟩
 case round=>
 obtain ⟨k,hk,rfl,hbr,hc⟩:=hrel;have Hc:=IU hc;clear hc
 by_cases hlt:k<xs.length
 ·obtain ⟨g,x,rfl,hg,hx,hcell⟩:=hv k hlt
  obtain ⟨g',x',rfl,hg',hx',hcell'⟩:=hv' k hlt;obtain rfl:=Option.some.inj (hx.out.symm.trans hx'.out);have q0:=(Hc.out _).trans hcell;have q1:=(Hc.out _).trans hcell';clear hv hv' hcell hcell';go_wp2
  go_quiet (fail)
  go_wp2
  go_roundw
  case rel=>exact ⟨k+1,ω,ν,aN hbr _,fun p=>Hc.out p⟩
  case measure=>simp [intOf];omega
 obtain rfl:k=xs.length:=ω
 clear hv hv';go_wp2;go_ret;exact ⟨rfl,hbr⟩
theorem pK (v u:Value) (xs:List Pt) (w:World) (hn:xs.length<=4) (hx:eD w v xs) (hy:eD w u xs) :
  cB 19 #[v,u] w true:=by
 obtain ⟨A,cap,rfl,hv⟩:=hx;obtain ⟨A',cap',rfl,hv'⟩:=hy;go_enter func19,ntmps19
 go_wp2
 go_loopw [13] (fun vi wr=>∃ k:Nat,k<=xs.length/\vi=.int .i64 k/\Below w w wr/\(∀ p,wr.cell? p=w.cell? p)) (fun vi _=>xs.length - (intOf vi).toNat)
 case atStart=>exact ⟨0,ω,rfl,IX _ _,fun _=>rfl⟩
 case round=>
 obtain ⟨k,hk,rfl,hbr,hc⟩:=hrel;have Hc:=IU hc;clear hc
 by_cases hlt:k<xs.length
 ·have hq:xs[k]?=some xs[k]:=List.getElem?_eq_getElem hlt
  obtain ⟨g,rfl,hg⟩:=hv.resolve_left (fun h=>by rw [h] at hlt;cases hlt);obtain ⟨g',rfl,hg'⟩:=hv'.resolve_left (fun h=>by rw [h] at hlt;cases hlt);obtain ⟨a0,a1,a2⟩:=hg k _ hq;obtain ⟨b0,b1,b2⟩:=hg' k _ hq;generalize xs[k]=p at *;obtain ⟨x,y,z⟩:=p
  dsimp only at *
  replace a0:=(Hc.out _).trans a0;replace a1:=(Hc.out _).trans a1;replace a2:=(Hc.out _).trans a2;replace b0:=(Hc.out _).trans b0;replace b1:=(Hc.out _).trans b1;replace b2:=(Hc.out _).trans b2;clear hv hv' hg hg';go_wp2
  go_quiet (fail)
  go_wp2
  go_roundw
  case rel=>exact ⟨k+1,ω,ν,aN hbr _,fun p=>Hc.out p⟩
  case measure=>simp [intOf];omega
 obtain rfl:k=xs.length:=ω
 clear hv hv';go_wp2;go_ret;exact ⟨rfl,hbr⟩
theorem Dw.IB.int {g b T M i:Nat} {w:World} (h:Dw.IB g w b T M) (hi:i<M):∃ x:Int,w.cell? ⟨b,i,none⟩=some (.int .i64 x):=by
 obtain ⟨-,xs,x1,rfl,x3⟩:=h;obtain ⟨x,hx⟩:=x3 xs[i] (Array.getElem_mem_toList hi);exact ⟨x,by rw [cell_of_row _ _ _ xs T (0,0) x1,Array.getElem?_eq_getElem hi,hx]⟩
theorem M.listed {α:Type} (P:Nat->α->Prop):∀ n:Nat,(∀ k,k<n->∃ x,P k x)->∃ l:List α,l.length=n/\∀ (k:Nat) (x:α),l[k]?=some x->P k x
 | 0,_=>⟨[],rfl,fun k x h=>by cases h⟩
 | n+1,h=>by
  obtain ⟨l,hl,q⟩:=M.listed P n fun k hk=>h k ω
  obtain ⟨x,hx⟩:=h n ω;refine ⟨l ++ [x],by rw [List.length_append,hl];rfl,fun k y hy=>?_⟩
  rcases Nat.lt_or_ge k l.length with hk | hk
  ·rw [List.getElem?_append_left hk] at hy
   exact q k y hy
  rw [List.getElem?_append_right hk] at hy
  cases e:k - l.length with
  | zero=>
   rw [e] at hy;cases hy
   obtain rfl:k=n:=ω
   exact hx
  | succ j=>rw [e] at hy;cases hy
theorem Dw.CB {g z lo hi:Nat} {w:World} {v:Value} (h:Dw.ok g z w (.s 3 lo hi) v):∃ l:List Pt,dj w v l/\l.length<=hi:=by
 obtain ⟨A,len,cap,rfl,⟨-,h1,-⟩,h2⟩:=h
 rcases h2 with rfl | ⟨b,off,T,N,rfl,hb,hM⟩
 ·exact ⟨[],⟨A,cap,rfl,.inl rfl⟩,Nat.zero_le _⟩
 obtain ⟨l,rfl,hl⟩:=M.listed (α:=Pt) (fun k p=>w.cell? ⟨b,off+k*3,none⟩=some (.int .i64 p.1)/\w.cell? ⟨b,off+(k*3+1),none⟩=some (.int .i64 p.2.1)/\w.cell? ⟨b,off+(k*3+2),none⟩=some (.int .i64 p.2.2)) len fun k hk=>by
  obtain ⟨x,hx⟩:=hb.int (i:=off+k*3) ω;obtain ⟨y,hy⟩:=hb.int (i:=off+(k*3+1)) ω;obtain ⟨u,hu⟩:=hb.int (i:=off+(k*3+2)) ω;exact ⟨(x,y,u),hx,hy,hu⟩
 exact ⟨l,⟨_,cap,rfl,.inr ⟨b,off,rfl,hl⟩⟩,h1⟩
theorem Dw.Dc {g z lo hi:Nat} {w:World} {v:Value} (h:Dw.ok g z w (.s 1 lo hi) v) (hh:hi<=1000):∃ l:List Int,bs w v l:=by
 obtain ⟨A,len,cap,rfl,⟨-,h1,-⟩,h2⟩:=h
 rcases h2 with rfl | ⟨b,off,T,N,rfl,hb,hM⟩
 ·exact ⟨[],⟨A,cap,rfl,δ,fun k h=>by cases h⟩⟩
 obtain ⟨l,rfl,hl⟩:=M.listed (fun k (p:Int)=>w.cell? ⟨b,off+k,none⟩=some (.int .i64 p)) len fun k hk=>hb.int ω
 exact ⟨l,⟨_,cap,rfl,ω,fun k hk=>⟨b,off,l[k],rfl,hb.lt,IU (List.getElem?_eq_getElem hk),hl k _ (List.getElem?_eq_getElem hk)⟩⟩⟩
end
section
open Go.RowKit open Gr M Rg Rw Wh
theorem M.Az {a b m:Int} {l:List Pt} {N x:Nat} (h:x<N):M.Kr a b l m (N - x) x=if M.Jw a b l (M.dg m l.length x)=true then some (M.dg m l.length x) else M.Kr a b l m (N - (x+1)) (x+1):=by
 obtain ⟨f,hf⟩:∃ f,N - x=f+1:=⟨N - x - 1,ω⟩
 rw [hf,show N - (x+1)=f by omega];rfl
theorem jy (a b m:Int) (v:Value) (l:List Pt) (w:World) (hx:dj w v l) (hn:l.length<=4000000) :
  Calls prog 7 #[.agg #[a,b],v,m] w fun e w'=>∃ v',e=.returned (.tuple #[v',.bool (M.MP a b l m).isSome])/\aF w' w v' ((M.MP a b l m).getD [])/\Below w w w':=by
 have PL:=fun W h=>jF a b v l W h hn
 have PN:∀ W,cP 28 #[m,(1:Int),(3:Int)] W (M.ins m 1 3):=fun W=>dV m 1 3 W
 obtain ⟨sa,cap,rfl⟩:=OW hx
 obtain ⟨k,hk⟩:∃ k,k=l.length:=⟨_,rfl⟩
 have hfs:=fun N x h=>Az (a:=a) (b:=b) (m:=m) (l:=l) (N:=N) (x:=x) h
 have hrl:=fun h1 h2 h3 x=>II (a:=a) (b:=b) (m:=m) (l:=l) h1 h2 h3 x
 have PC:=fun x h1 h2 nv W hx hnx=>pZ a b (.slice sa l.length cap) nv l (M.dg m l.length x) W hx hnx h1 h2
 have hpl:=fun h=>cZ (a:=a) (b:=b) (l:=l) h
 rw [←hk] at hx PL hfs hrl PC hpl hn ⊢;obtain ⟨wc,hw3,C,B⟩:=cf w #[a,b] 25;have ⟨c0,c1,_,_,_⟩:=C.box;replace hx:=IU hx
 cases hi:M.ins m 1 3 <;> cases hp:bP a b l <;> by_cases h3:3<k
 iterate 7
  rw [hi] at PN;rw [hp] at PL;rw [show M.MP a b l m=none from if_neg (by rw [hp,hi,←hk];simp <;> omega)];replace PL:=IU PL;replace PN:=IU PN;clear hfs hrl PC hpl hi hp hk;go_enter func7,ntmps7
  go_wp2_with first | (go_at_call 27;with_reducible refine p_ (PL.out _ (hx.out.below B)) fun w4 hb4=>?_;replace ⟨B,C⟩:=Im hb4 B C;(have ⟨c0,c1,_,_,_⟩:=C.box)) | (go_at_call 28;with_reducible refine Id (PN.out _) ?_)
  go_ret2;exact ⟨_,rfl,aF.nil _ _,B⟩
 obtain ⟨hm1,hm2⟩:=bT.1 hi;rw [show M.MP a b l m=M.Kr a b l m (dc (2*m+1) l.length).toNat 0 from if_pos (by rw [hp,hi,←hk];simp;omega)]
 have hrl:=fun x=>hrl hp hm1 hm2 x
 have PC:=fun x nv W h1 h2=>PC x hp (wN hm1 hm2 k x) nv W h1 h2
 obtain ⟨hg,hl1,-,-⟩:=hpl hp;rw [←hk]
 have PW:=fun W=>uo (2*m+1) (k:Int) W ω ω ω ω
 have hN0:=tH (p:=2*m+1) ω ω (k:=k) ω;rw [Int.toNat_natCast] at PW
 obtain ⟨N,hN⟩:∃ N:Nat,dc (2*m+1) k=N:=⟨_,(Int.toNat_of_nonneg hN0.1).symm⟩
 rw [hN] at PW hN0 ⊢;rw [Int.toNat_natCast]
 obtain ⟨res,hres⟩:∃ r,M.Kr a b l m N 0=r:=⟨_,rfl⟩
 rw [hres]
 have PT:=fun W=>iV a b W hg
 have hpt:=fun n=>DE l n hg k
 have ht:=fun n=>uH hg (hpt n)
 have PX:=fun n (v:Value) W (h:eD W v (lc a b)) (hl:(lc a b).length<=12100)=>kF (M.pX (cW a b l n k)) (M.pY (cW a b l n k)) (M.pE (cW a b l n k)) v (lc a b) W h hl
 rw [hi] at PN;rw [hp] at PL;simp only [ht] at PX;replace hres:=IU hres;replace PL:=IU PL;replace PN:=IU PN;replace PT:=IU PT;replace PX:=IU PX;replace PW:=IU PW;replace PC:=IU PC;replace hrl:=IU hrl;replace hfs:=IU hfs;clear hi hp hpl hpt ht hg hN hk hn;generalize lc a b=ts at *;go_enter func7,ntmps7
 go_wp2_with first | (go_at_call 27;with_reducible refine p_ (PL.out _ (hx.out.below B)) fun w4 hb4=>?_;replace ⟨B,C⟩:=Im hb4 B C;(have ⟨c0,c1,_,_,_⟩:=C.box)) | (go_at_call 28;with_reducible refine Id (PN.out _) ?_) | (go_at_call 29;(with_reducible refine (PT.out _).mono ?_);rintro e w6 ⟨v8,rfl,Jb,hl8,hb6⟩;replace ⟨B,C⟩:=Im hb6 B C) | (go_at_call 30;with_reducible refine Id (PW.out _) ?_)
 go_loopw [38] (fun vi wq=>∃ x:Nat,x<=N/\vi=.int .i64 (x:Int)/\Hid (M.Kr a b l m (N - x) x=res)/\aG wq w 25 #[a,b]/\Below w w wq/\eD wq v8 ts) (fun vi _=>N - (intOf vi).toNat)
 case atStart=>exact ⟨0,Nat.zero_le _,rfl,hres,C,B,Jb⟩
 case round=>
 clear C B Jb c0 c1 hres;obtain ⟨x,hxN,rfl,hs,C,B,Jb⟩:=hrel
 by_cases hlt:x<N
 ·have hst:=hs.out.symm.trans (hfs.out N x hlt)
  rw [hrl.out x] at hst;have PC:=PC.out x;have PX:=PX.out (M.dg m k x)
  have PZ:=fun nv W h=>tL nv (M.dg m k x) W h
  have hDl:=nZ m k x
  have hD0:M.dg m k x=M.dg m k x ++ []:=σ
  unfold dD at hst;generalize M.nz (M.dg m k x)=z,(cW a b l (M.dg m k x) k).isSome=o,M.pE (cW a b l (M.dg m k x) k)=E,M.pY (cW a b l (M.dg m k x) k)=Y,M.pX (cW a b l (M.dg m k x) k)=X at *
  dsimp only at hst
  generalize (gG a X Y E).isSome=t at *
  obtain ⟨D,hD⟩:∃ D,M.dg m k x=D:=⟨_,rfl⟩
  rw [hD] at PC PZ hst hDl;replace PC:=IU PC;replace PX:=IU PX;replace PZ:=IU PZ;replace hst:=IU hst;obtain ⟨w1,hrun,hown,hg1⟩:=oR wr k ω;have Bq:Below wr wr w1:=bS hg1 (IY _) (fun _ hk=>by cases hk);clear hg1 hs;generalize wr=wo at *;go_wp2
  go_loopw [10,12] (fun vx vi wq=>∃ (j:Nat) (q:Int) (tl:List Int),j<=k/\vi=.int .i64 ((j:Int) - 1)/\vx=.int .i64 q/\0<=q/\q<=N/\Hid (D=M.dg m j q ++ tl)/\aF wq wo (.slice (some ⟨wo,0,none⟩) k k) (List.replicate j 0 ++ tl)/\Below wo wo wq) (fun _ vi _=>(intOf vi+1).toNat)
  case atStart=>exact ⟨k,x,[],IY _,rfl,rfl,ω,ω,IU (hD ▸ hD0),by simpa using hown,Bq⟩
  case round=>
  clear hown Bq hD0;obtain ⟨j,q,tl,hj,rfl,rfl,hq0,hqN,hd,hown,Bq⟩:=hrel
  cases j with
  | succ j=>
   have hlen:(List.replicate (j+1) (0:Int) ++ tl).length=k:=by
    have:=congrArg List.length hd.out;rw [List.length_append,nZ,hDl] at this;rw [List.length_append,List.length_replicate];omega
   rw [show (((j+1:Nat):Int) - 1)=(j:Int) by omega];have hc0:=aF.cellAt hlen.symm hown (i:=j) (t:=0) (by rw [List.getElem?_append_left σ,List.getElem?_replicate,if_pos ω]);have hf0:wr.frozen? ⟨wo,j,none⟩=false:=gK hlen hown j;have hown2:=aF.set (j:=j) hlen.symm hown (q % (2*m+1) - m) (ys:=List.replicate j 0 ++ ((q % (2*m+1) - m) :: tl)) (by rw [List.set_append_left _ _ σ];simp [List.replicate_succ']);have hq1:=Int.emod_nonneg q (show 2*m+1≠0 by omega);have hq2:=Int.emod_lt_of_pos q (show 0<2*m+1 by omega);have hq3:=Int.ediv_nonneg hq0 (show 0<=2*m+1 by omega);have hq4:=Int.ediv_le_self (2*m+1) hq0;have e1:wrap64 (q % (2*m+1) - m)=q % (2*m+1) - m:=IntWalk.wrap64_in _ ω
   have e2:wrap64 (q.tdiv (2*m+1))=q / (2*m+1):=by rw [Int.tdiv_eq_ediv_of_nonneg hq0];exact IntWalk.wrap64_in _ ω
   go_wp2
   go_roundw
   case rel=>exact ⟨j,_,_,ω,rfl,rfl,hq3,ω,IU (by rw [hd.out,M.dg];simp),hown2.1,Bq.setCell (IY _) _⟩
   case measure=>simp [intOf]
  | zero=>
  obtain rfl:tl=D:=by rw [hd.out,M.dg];simp
  rw [List.replicate_zero,List.nil_append] at hown;have hw0:=B.size;replace ⟨B,C⟩:=Im Bq B C;replace Jb:=Jb.below Bq;have ⟨c0,c1,_,_,_⟩:=C.box;clear hd hrun hj;generalize hgg:wo.heap.size=g0 at *
  cases o <;> cases z <;> cases t
  all_goals
   go_wp2_with first | (go_at_call 31;with_reducible refine p_ (PC.out _ _ (hx.out.below B) ((aF.seen hown).ints (IY _))) fun w4 hb4=>?_;replace B:=j_ B hb4;replace hown:=hown.below hb4;replace Jb:=Jb.below hb4;replace C:=C.keep hb4;have b_:=bA w4 (.cells #[X,Y,E] 40);(have ⟨s0,s1,s2⟩:=(aG.new w4 #[X,Y,E] 40).aM);replace ⟨B,C⟩:=Im b_ B C;replace hown:=hown.below b_;replace Jb:=Jb.below b_) | (go_at_call 32;with_reducible refine p_ (PZ.out _ _ ((aF.seen hown).ints (IY _))) fun w5 hb5=>?_;(have ⟨s0,s1,s2⟩:=((aG.new w4 #[X,Y,E] 40).keep hb5).aM);replace ⟨B,C⟩:=Im hb5 B C;replace hown:=hown.below hb5;replace Jb:=Jb.below hb5) | (go_at_call 33;with_reducible refine p_ (PX.out _ _ Jb hl8) fun w6 hb6=>?_;replace ⟨B,C⟩:=Im hb6 B C;replace hown:=hown.below hb6;replace Jb:=Jb.below hb6)
  iterate 7
   go_roundw
   case rel=>exact ⟨x+1,ω,ν,IU hst.out.symm,C,B,Jb⟩
   case measure=>simp [intOf];omega
  have e:=hst.out;obtain rfl:res=some tl:=e;go_ret2;exact ⟨_,rfl,hown.base hw0,B⟩
 obtain rfl:x=N:=ω
 rw [Nat.sub_self] at hs;obtain rfl:none=res:=hs.out;go_wp2;go_ret2;exact ⟨_,rfl,aF.nil _ _,B⟩
end
section
open Gr M Rg Rw Wh
namespace M
noncomputable def Nw (F:List Int->Option (List Int)) (xs:List Int):Nat->Int->Option (List Int)
 | 0,_=>none
 | f+1,n=>(F (xs ++ [n])).or (Nw F xs f (n+1))
noncomputable def LE (a b:Int) (l:List Pt) (m:Int):Nat->List Int->Option (List Int)
 | 0,xs=>if Jw a b l xs=true then some xs else none
 | d+1,xs=>Nw (LE a b l m d) xs (2*m+1).toNat (-m)
theorem Ao {F:List Int->Option (List Int)} {xs:List Int} {m n:Int} (h:n<=m):Nw F xs (m+1 - n).toNat n=(F (xs ++ [n])).or (Nw F xs (m+1 - (n+1)).toNat (n+1)):=by
 rw [show (m+1 - n).toNat=(m+1 - (n+1)).toNat+1 by omega];rfl
theorem wM {F:List Int->Option (List Int)} {xs r:List Int} {k:Nat} (hF:∀ n r,F (xs ++ [n])=some r->r.length=k):∀ f n,Nw F xs f n=some r->r.length=k
 | 0,n,h=>by cases h
 | f+1,n,h=>by
  unfold Nw at h
  rcases Option.or_eq_some_iff.1 h with h | ⟨-,h⟩
  ·exact hF n r h
  exact wM hF f _ h
theorem qg {a b m:Int} {l:List Pt}:∀ d xs r,LE a b l m d xs=some r->r.length=xs.length+d
 | 0,xs,r,h=>by
  unfold LE at h
  split at h
  ·cases h;rfl
  cases h
 | d+1,xs,r,h=>wM (fun n r h=>(qg d _ r h).trans (by rw [List.length_append,List.length_singleton];omega)) _ _ h
theorem wR {a b m:Int} {l:List Pt}:∀ f g x,Kr a b l m (f+g) x=(Kr a b l m f x).or (Kr a b l m g (x+f))
 | 0,g,x=>by rw [Nat.zero_add];rfl
 | f+1,g,x=>by
  have e:=fun f=>show Kr a b l m (f+1) x=if Jw a b l (dg m l.length x)=true then some (dg m l.length x) else Kr a b l m f (x+1) from rfl
  rw [show f+1+g=(f+g)+1 by omega,e,e]
  split
  ·rfl
  rw [wR f g (x+1),show x+1+f=x+(f+1) by omega]
theorem Ax {a b m:Int} {l:List Pt} {wn:Nat} (hw:(wn:Int)=2*m+1) (hm:0<=m):∀ d X,d<=l.length->Kr a b l m (wn ^ d) (X*wn ^ d)=LE a b l m d (dg m (l.length - d) X)
 | 0,X,_=>by
  rw [Nat.pow_zero,Nat.mul_one,Nat.sub_zero];unfold Kr LE;rfl
 | d+1,X,h=>by
  obtain ⟨k,hk⟩:∃ k,l.length - d=k+1:=⟨l.length - d - 1,ω⟩
  have key:∀ f j,f+j=wn->Kr a b l m (f*wn ^ d) ((X*wn+j)*wn ^ d)=Nw (LE a b l m d) (dg m k X) f (j - m):=by
   intro f
   induction f with
   | zero=>intro j _;rw [Nat.zero_mul];rfl
   | succ f ih=>
   intro j hj;rw [Nat.succ_mul,Nat.add_comm (f*wn ^ d),wR,Ax hw hm d _ ω,hk];unfold Nw
   have e:dg m (k+1) ((X*wn+j:Nat):Int)=dg m k X ++ [(j:Int) - m]:=by
    conv=>lhs;unfold dg
    have hj2:(j:Int)<2*m+1:=ω
    rw [Int.natCast_add,Int.natCast_mul,hw,Int.add_comm,Int.add_mul_ediv_right _ _ ω,Int.ediv_eq_zero_of_lt ω hj2,Int.zero_add,Int.add_mul_emod_self_right,Int.emod_eq_of_lt ω hj2]
   rw [e,show (X*wn+j)*wn ^ d+wn ^ d=(X*wn+(j+1))*wn ^ d by rw [←Nat.succ_mul];rfl,ih (j+1) ω,show ((j+1:Nat):Int) - m=(j:Int) - m+1 by omega]
  have h0:=key wn 0 rfl;rw [Nat.add_zero] at h0;rw [Nat.pow_succ',show X*(wn*wn ^ d)=X*wn*wn ^ d by rw [Nat.mul_assoc],h0,show l.length - (d+1)=k by omega,show ((0:Nat):Int) - m=-m by omega];unfold LE;rw [←hw,Int.toNat_natCast]
theorem tI {p:Int} {n:Nat} (h:(n:Int)=p):∀ k,dc p k=(n ^ k:Nat)
 | 0=>rfl
 | k+1=>by unfold dc;rw [tI h k,←h,Nat.pow_succ,Int.natCast_mul]
theorem Hi {a b m:Int} {l:List Pt} (hm:0<=m):Kr a b l m (dc (2*m+1) l.length).toNat 0=LE a b l m l.length []:=by
 have hw:(((2*m+1).toNat:Nat):Int)=2*m+1:=ω
 have h:=Ax (a:=a) (b:=b) (l:=l) hw hm l.length 0 (IY _);rw [Nat.zero_mul,Nat.sub_self] at h;rw [tI hw,Int.toNat_natCast,h];rfl
end M
end
end Go.Proofs.YtkalaljcbmkbmaaGreat
