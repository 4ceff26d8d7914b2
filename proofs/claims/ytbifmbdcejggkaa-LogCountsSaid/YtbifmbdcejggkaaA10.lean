/- All that only computes, in one function; its soundness as a step of the relation. -/
import Derived.Test.YtbifmbdcejggkaaA9
import Derived.Lib.Bytealg
namespace Go.Ab
open Go

def jA:List (Nat×AV)→Nat→AV
  | [],_=>.junk
  | (k,v)::r,t=>bif Nat.beq t k then v else jA r t

def z9 (rs:List (Nat×AV)):Operand→AV
  | .tmp t=>jA rs t
  | .const v=>zBF v
  | .global _=>.junk
  | .func f=>.fn f []

theorem zJ1 {st:AS} {rs:List (Nat×AV)} (h:∀ x∈rs,st.slot x.1=x.2) (t:Nat):jA rs t=.junk∨jA rs t=st.slot t:=by
  induction rs with
  | nil=>exact .inl rfl
  | cons a r ih =>
    simp only [jA]
    cases hb:Nat.beq t a.1
    · exact ih fun x hx=>h x (by simp [hx])
    · have:=xM.1 hb
      subst this
      exact .inr (h a (by simp)).symm

theorem y1 {G:xD} {st:AS} {T:Tbl} {a:Act} {w:World} {rs:List (Nat×AV)} (h:vO G st T a w) (hr:∀ x∈rs,st.slot x.1=x.2) {x:Operand} (hx:y3 x=true) :
    Rep w (imm G st T) T (a.eval x) (z9 rs x):=by
  cases x with
  | tmp t =>
    rcases zJ1 hr t with h' | h'
    · simp only [z9,h'];exact .junk
    · simp only [z9,h'];exact h.slots t
  | const v=>exact zEg hx
  | global g=>exact .junk
  | func f=>exact .fn rfl (fun j c hj=>by simp at hj)

/-- A nil slice as an empty one. -/
def nz:AV→AV
  | .nilsl=>.sl true 0 []
  | v=>v

theorem qW {w:World} {I:Nat→Prop} {T:Tbl} {v:Value} {av:AV} (h:Rep w I T v av):Rep w I T v (nz av):=by
  cases av with
  | nilsl=>cases h;exact .sl0 (by simp [maxLen]) (fun _=>rfl)
  | _=>exact h

def zC7:Option Operand→Bool
  | some x=>y3 x
  | none=>true

/-- The place of the first byte c, or -1. -/
def uP:List Int→Int→Int
  | [],_ => -1
  | b::l,c=>if b=c then 0 else if uP l c = -1 then -1 else uP l c+1
theorem zLz {l:List Int} (hl:∀ x∈l,0≤x∧x<256) {c:Int} (hc:0≤c∧c<256):Lib.indexByte (vD l).data.toList c.toNat.toUInt8=uP l c:=by
  have e:(vD l).data.toList=l.map fun x=>UInt8.ofNat x.toNat:=by simp [vD]
  rw [e]
  induction l with
  | nil=>rfl
  | cons b r ih =>
    have hb:=hl b (by simp)
    have ih:=ih (fun x hx=>hl x (by simp [hx])) (by simp [vD])
    simp only [List.map_cons,Lib.indexByte,uP]
    rw [ih]
    have e2:(UInt8.ofNat b.toNat==c.toNat.toUInt8)=decide (b=c):=by
      rw [Bool.eq_iff_iff,beq_iff_eq,decide_eq_true_eq]
      constructor
      · intro h
        have h2:=congrArg UInt8.toNat h
        simp only [UInt8.toNat_ofNat',Nat.toUInt8_eq] at h2
        omega
      · rintro rfl;rfl
    rw [e2]
    by_cases h:b=c
    · simp [h]
    · simp only [h,decide_false,Bool.false_eq_true,if_false,beq_iff_eq]

/-- The stand-in for the search of a byte in a string. -/
def zFU (P : Program) (g : FuncId) : Prop := ∃ fn, P.funcs[g]? = some fn ∧ (fn.name == "runtime.NumGoroutine") = false ∧ fn.body.isNone = true ∧ Extern.findNext fn = none ∧ Extern.find fn = some Extern.BytealgIndexByte.indexByte
def zMj (P:Program) (g:FuncId):Bool:=match P.funcs[g]? with | some fn=>fn.body.isNone | none=>false
def zJE (P:Program) (f:AV) (xs:List AV):Option (List Prop×AV) :=
  match f,xs with
  | .fn g [],[.str s,.int .u8 c]=>bif zMj P g then some ([zFU P g],.int .i64 (uP s c)) else none
  | _,_=>none

theorem zHe (l:List Int) (c:Int) : -1≤uP l c∧uP l c<l.length∨l=[]∧uP l c = -1:=by
  induction l with
  | nil=>right;exact ⟨rfl,rfl⟩
  | cons b r ih =>
    left
    simp only [uP,List.length_cons]
    split
    · omega
    · split
      · omega
      · rcases ih with h | ⟨rfl,h⟩
        · omega
        · simp [uP] at *

def vop (P:Program) (o:Oper) (A:Operand→AV) (h:xI):Option (List Prop×AV) :=
  match o.op with
  | .move x=>bif y3 x then some ([],A x) else none
  | .assign x=>bif y3 x then some ([],A x) else none
  | .pick c a b=>bif y3 c&&(y3 a&&y3 b) then
      match A c with
      | .bool t=>some ([t=h.b],bif h.b then A a else A b)
      | _=>none
    else none
  | .binOp op xT x y _=>bif y3 x&&y3 y then zM0 P op xT (A x) (A y) else none
  | .unOp op _ x=>bif y3 x then vun op (A x) else none
  | .convert s d x=>bif y3 x then zKv P s d (nz (A x)) h else none
  | .field s x f=>bif y3 x then zH3 P s (A x) f else none
  | .fieldAddr s x f=>bif y3 x then zDs P s (A x) f else none
  | .indexAddr t x i=>bif y3 x&&y3 i then zCZ P t (nz (A x)) (A i) h else none
  | .index t x i=>bif y3 x&&y3 i then zIB P t (A x) (A i) h else none
  | .load t x=>bif y3 x then zKt P t (A x) else none
  | .slice t x lo hi mx=>bif (y3 x&&zC7 lo)&&(zC7 hi&&zC7 mx) then zI9 P t (fun y=>nz (A y)) x lo hi mx h else none
  | .build t parts=>bif parts.toList.all (fun p=>y3 p.2) then zIa P t A parts.toList else none
  | .extract x i=>bif y3 x then
      match A x with
      | .tuple vs=>match vs[i]? with
        | some av=>some ([],av)
        | none=>none
      | _=>none
    else none
  | .nilCheck x=>bif y3 x then
      match A x with
      | .ref av=>some ([],.ref av)
      | .ptr id sz i off=>some ([],.ptr id sz i off)
      | _=>none
    else none
  | .makeFunc (.func f) first captured=>bif first.isEmpty&&captured.toList.all y3 then some ([],.fn f (captured.toList.map A)) else none
  | .call { callee:=.builtin b,args:=args,argTypes:=ts } =>
    match b,args.toList,ts.toList with
    | .len,[x],[t]=>bif y3 x then zMJ P t (nz (A x)) h else none
    | .append,[x,y],[t,t2]=>bif y3 x&&y3 y then zGe P t t2 (nz (A x)) (nz (A y)) h else none
    | .max,[x,y],_=>bif y3 x&&y3 y then zEl .max (A x) (A y) else none
    | .min,[x,y],_=>bif y3 x&&y3 y then zEl .min (A x) (A y) else none
    | _,_,_=>none
  | .call { callee:=.value f,args:=args,argTypes:=_ }=>bif y3 f&&args.toList.all y3 then zJE P (A f) (args.toList.map A) else none
  | _=>none

theorem zY {α:Type} {b:Bool} {x:Option α} {r:α} (h:(bif b then x else none)=some r):b=true∧x=some r:=by
  cases b
  · cases h
  · exact ⟨rfl,h⟩

theorem zGg {α:Type} {a:Array α} {x:α} (h:a.toList=[x]):a=#[x]:=Array.ext' (by simpa using h)
theorem zAU {α:Type} {a:Array α} {x y:α} (h:a.toList=[x,y]):a=#[x,y]:=Array.ext' (by simpa using h)

theorem zLT {P:Program} {o:Oper} {A:Operand→AV} {ρ:Operand→Value} {w:World} {I:Nat→Prop} {T:Tbl} {hn:xI} {r:List Prop×AV}
    (hA:∀ x,y3 x=true→Rep w I T (ρ x) (A x)) (h:vop P o A hn=some r) (hv:∀ p∈r.1,p):j4 P ρ o w I T r.2:=by
  unfold vop at h
  split at h
  · rename_i x ho
    obtain ⟨hx,h⟩:=zY h
    injection h with h;subst h
    exact .same (v:=ρ x) (by simp [execOp,ho]) (hA x hx)
  · rename_i x ho
    obtain ⟨hx,h⟩:=zY h
    injection h with h;subst h
    exact .same (v:=ρ x) (by simp [execOp,ho]) (hA x hx)
  · rename_i c a b ho
    obtain ⟨hx,h⟩:=zY h
    simp only [Bool.and_eq_true] at hx
    split at h
    · rename_i t ht
      injection h with h;subst h
      have hc:=hA c hx.1
      rw [ht] at hc
      have htb:t=hn.b:=hv _ (by simp)
      generalize hC:ρ c=vc at hc
      cases hc with
      | bool =>
      subst htb
      cases hb:hn.b
      · rw [hb] at hC
        exact .same (v:=ρ b) (by simp [execOp,ho,hC,asBool]) (hA b hx.2.2)
      · rw [hb] at hC
        exact .same (v:=ρ a) (by simp [execOp,ho,hC,asBool]) (hA a hx.2.1)
    · cases h
  · rename_i op xT x y yT ho
    obtain ⟨hx,h⟩:=zY h
    simp only [Bool.and_eq_true] at hx
    exact zKh ho (hA x hx.1) (hA y hx.2) h hv
  · rename_i op xT x ho
    obtain ⟨hx,h⟩:=zY h
    exact zLh ho (hA x hx) h
  · rename_i s d x ho
    obtain ⟨hx,h⟩:=zY h
    exact zJh ho (qW (hA x hx)) h hv
  · rename_i s x f ho
    obtain ⟨hx,h⟩:=zY h
    exact zIz ho (hA x hx) h
  · rename_i s x f ho
    obtain ⟨hx,h⟩:=zY h
    exact zE9 ho (hA x hx) h
  · rename_i t x i ho
    obtain ⟨hx,h⟩:=zY h
    simp only [Bool.and_eq_true] at hx
    exact zET ho (qW (hA x hx.1)) (hA i hx.2) h hv
  · rename_i t x i ho
    obtain ⟨hx,h⟩:=zY h
    simp only [Bool.and_eq_true] at hx
    exact zIT ho (hA x hx.1) (hA i hx.2) h hv
  · rename_i t x ho
    obtain ⟨hx,h⟩:=zY h
    exact zJv ho (hA x hx) h
  · rename_i t x lo hi mx ho
    obtain ⟨hx,h⟩:=zY h
    simp only [Bool.and_eq_true] at hx
    refine zI8 ho (qW (hA x hx.1.1)) (fun y hy=>?_) h hv
    rcases hy with rfl | rfl | rfl
    · exact qW (hA y hx.1.2)
    · exact qW (hA y hx.2.1)
    · exact qW (hA y hx.2.2)
  · rename_i t parts ho
    obtain ⟨hx,h⟩:=zY h
    simp only [List.all_eq_true] at hx
    exact zId ho (fun p hp=>hA p.2 (hx p hp)) h
  · rename_i x i ho
    obtain ⟨hx,h⟩:=zY h
    split at h
    · rename_i vs hvs
      split at h
      · rename_i av hav
        injection h with h;subst h
        have hr:=hA x hx
        rw [hvs] at hr
        generalize hX:ρ x=vx at hr
        cases hr with
        | tuple h1 h2 =>
        rename_i us
        have hlt:i<us.size:=by
          rw [h1]
          rcases Nat.lt_or_ge i vs.length with h' | h'
          · exact h'
          · rw [List.getElem?_eq_none h'] at hav;cases hav
        have:=h2 i av hav
        refine .same (v:=us[i]) ?_ (by simpa [Array.getD_eq_getD_getElem?,hlt] using this)
        simp [execOp,ho,hX,Instr.extract,hlt]
      · cases h
    · cases h
  · rename_i x ho
    obtain ⟨hx,h⟩:=zY h
    have hr:=hA x hx
    split at h
    · rename_i av hav
      injection h with h;subst h
      rw [hav] at hr
      generalize hX:ρ x=vx at hr
      have hr2:=hr
      cases hr with
      | ref g=>exact .same (by simp [execOp,ho,hX]) hr2
    · rename_i id sz i off hav
      injection h with h;subst h
      rw [hav] at hr
      generalize hX:ρ x=vx at hr
      have hr2:=hr
      cases hr with
      | ptr g=>exact .same (by simp [execOp,ho,hX]) hr2
    · cases h
  · rename_i f first captured ho
    obtain ⟨hx,h⟩:=zY h
    simp only [Bool.and_eq_true,List.all_eq_true] at hx
    injection h with h;subst h
    have he:first=#[]:=by simpa using hx.1
    subst he
    refine .same (v:=.func (.func f) #[] (captured.map ρ)) (by simp [execOp,ho,Instr.makeFunc]) (.fn (by simp) ?_)
    intro j c hj
    rw [List.getElem?_map] at hj
    cases hcj:captured.toList[j]? with
    | none=>rw [hcj] at hj;cases hj
    | some y =>
      rw [hcj] at hj;injection hj with hj;subst hj
      have hy:=hA y (hx.2 y (List.mem_of_getElem? hcj))
      rw [Array.getElem?_toList] at hcj
      have:(captured.map ρ).getD j undef=ρ y:=by simp [Array.getD_eq_getD_getElem?,hcj]
      rw [this]
      exact hy
  · rename_i b args ts ho
    split at h
    · rename_i x t ha ht
      obtain ⟨hx,h⟩:=zY h
      rw [zGg ha,zGg ht] at ho
      exact zKw ho (qW (hA x hx)) h hv
    · rename_i x y t t2 ha ht
      obtain ⟨hx,h⟩:=zY h
      simp only [Bool.and_eq_true] at hx
      rw [zAU ha,zAU ht] at ho
      exact zHu ho (qW (hA x hx.1)) (qW (hA y hx.2)) h hv
    · rename_i x y ha
      obtain ⟨hx,h⟩:=zY h
      simp only [Bool.and_eq_true] at hx
      rw [zAU ha] at ho
      exact zDx ho (hA x hx.1) (hA y hx.2) h
    · rename_i x y ha
      obtain ⟨hx,h⟩:=zY h
      simp only [Bool.and_eq_true] at hx
      rw [zAU ha] at ho
      exact zDx ho (hA x hx.1) (hA y hx.2) h
    · cases h
  · rename_i f args ts ho
    obtain ⟨hx,h⟩:=zY h
    simp only [Bool.and_eq_true,List.all_eq_true] at hx
    obtain ⟨hf,hx⟩:=hx
    unfold zJE at h
    split at h
    case h_2=>cases h
    rename_i g s c hAf hAx
    obtain ⟨_,h⟩:=zY h
    injection h with h;subst h
    obtain ⟨fn,k1,k2,k3,k4,k5⟩:zFU P g:=hv _ (by simp)
    have hrf:=hA f hf
    rw [hAf] at hrf
    rcases hal:args.toList with _ | ⟨x,_ | ⟨y,_ | ⟨z,q⟩⟩⟩
    · rw [hal] at hAx;simp at hAx
    · rw [hal] at hAx;simp at hAx
    · rw [hal] at hAx hx
      simp only [List.map_cons,List.map_nil,List.cons.injEq,and_true] at hAx
      have h1:=hA x (hx x (by simp))
      have h2:=hA y (hx y (by simp))
      rw [hAx.1] at h1
      rw [hAx.2] at h2
      generalize hvf:ρ f=vf at hrf
      generalize hvx:ρ x=vx at h1
      generalize hvy:ρ y=vy at h2
      cases hrf with
      | fn hs hc =>
      cases h1 with
      | str hb hl =>
      cases h2 with
      | int hw =>
      have hcr:=zIK hw
      rename_i cv
      have hcv:cv=#[]:=Array.eq_empty_of_size_eq_zero (by simpa using hs)
      subst hcv
      rw [zAU hal] at ho
      have hrun:=run_callFunc_extern k1 k2 k3 k4 k5 #[.string (vD s),.int .u8 c] w
      rw [Lib.run_indexByteString,zLz hb hcr] at hrun
      refine .same (v:=.int .i64 (uP s c)) ?_ (.int ?_)
      · simp only [execOp,ho]
        simp [resolve,Deferred.ofValue,invoke,hvf,hvx,hvy,hrun,Result.andThen]
      · have:=zHe s c
        rw [wW] at hl
        refine qI _ _ ?_
        simp only [IntKind.signed,IntKind.bits]
        simp
        omega
    · rw [hal] at hAx;simp at hAx
  · cases h

/-- An operation is sound at a summary. -/
def wU (P:Program) (N np:Nat) (o:Oper) (E:Eff):Prop :=
  ∀ G st a w,G.n=N→G.foot.length=np→E.holds st→Rel G st a w→o.wp P a w (fun a' w'=>Rel G (st.upd E) a' w') (fun _ _ _=>False)

theorem wL {P:Program} {o:Oper} {a:Act} {w w':World} {v:Value} {K:Act→World→Prop} {Q:Exit→Act→World→Prop} (h:(execOp a.eval o).run P w=.ok (.value v) w')
    (hk:K (a.put o.dst v) w'):o.wp P a w K Q:=by
  unfold Oper.wp
  rw [h]
  exact hk

theorem nA {G:xD} {st:AS} {T:Tbl} {a:Act} {w:World} (h:vO G st T a w) {id:Nat} {bx:Box} {b cap:Nat} (hl:st.box id=.live bx) (hT:T id=some (.at b cap)):b<w.heap.size:=by
  have hok:=h.boxes id bx hl
  rw [hT] at hok
  exact hok.lt

theorem zGR {G:xD} {st:AS} {T:Tbl} {a:Act} {w:World} (h:vO G st T a w) {b:Nat} (hb:w.heap.size≤b):imm G st T b:=by
  refine ⟨.inr (.inl (Nat.le_trans h.kept.size hb)),fun id bx cap hl hT=>?_⟩
  have:=nA h hl hT
  omega

def vP (N:Nat):Option Tmp→Bool
  | some d=>Nat.blt d N
  | none=>true

theorem wZ {N:Nat} {dst:Option Tmp} {d:Nat} {av av':AV} (h:vP N dst=true) (he:dst.map (fun x=>(x,av))=some (d,av')):d<N∧av'=av:=by
  cases dst with
  | none=>cases he
  | some x =>
    simp only [Option.map_some,Option.some.injEq,Prod.mk.injEq] at he
    obtain ⟨rfl,rfl⟩:=he
    exact ⟨by have:=h;simp [vP,Nat.blt] at this;omega,rfl⟩

theorem zJD {P:Program} {N np:Nat} {o:Oper} {rs:List (Nat×AV)} {hn:xI} {r:List Prop×AV} (h:vop P o (z9 rs) hn=some r) (hv:∀ p∈r.1,p) (hd:vP N o.dst=true) :
    wU P N np o { rs:=rs,dst:=o.dst.map fun d=>(d,r.2) }:=by
  intro G st a w hN hnp hE ⟨T,hT⟩
  obtain ⟨v,w',hrun,hg,hrep⟩:=zLT (P:=P) (ρ:=a.eval) (fun x hx=>y1 hT hE.1 hx) h hv
  refine wL hrun ?_
  refine hT.quiet hg rfl (by simp [Option.map_map,Function.comp_def]) ?_
  intro d av he
  obtain ⟨hlt,rfl⟩:=wZ hd he
  exact ⟨by omega,hrep _ _ (fun _ h _=>h) (fun b hb _=>zGR hT hb) (fun _ _ h=>h)⟩
end Go.Ab
