/- All that only computes, in one function; its soundness as a step of the relation. -/
import Derived.Test.YtdpgdpjoemdkjaaA9
import Derived.Lib.Bytealg
namespace Go.Ab
open Go
def zA7:List (Nat×AV)→Nat→AV
 | [],_=>.junk
 | (k,v)::r,t=>bif Nat.beq t k then v else zA7 r t
def yW (rs:List (Nat×AV)):Operand→AV
 | .tmp t=>zA7 rs t
 | .const v=>zEs v
 | .global _=>.junk
 | .func f=>.fn f []
theorem zOE {st:AS} {rs:List (Nat×AV)} (h:∀ x∈rs,st.slot x.1=x.2) (t:Nat):zA7 rs t=.junk∨zA7 rs t=st.slot t:=by
 induction rs with
 | nil=>exact .inl rfl
 | cons a r ih =>
  simp only [zA7]
  cases hb:Nat.beq t a.1
  ·exact ih fun x hx=>h x (by simp [hx])
  ·have:=x6.1 hb
   subst this
   exact .inr (h a (by simp)).symm
theorem xD {G:v6} {st:AS} {T:Tbl} {a:Act} {w:World} {rs:List (Nat×AV)} (h:jN G st T a w) (hr:∀ x∈rs,st.slot x.1=x.2) {x:Operand} (hx:y9 x=true) :
  Rep w (imm G st T) T (a.eval x) (yW rs x):=by
 cases x with
 | tmp t =>
  rcases zOE hr t with h' | h'
  ·simp only [yW,h'];exact .junk
  ·simp only [yW,h'];exact h.slots t
 | const v=>exact zGx hx
 | global g=>exact .junk
 | func f=>exact .fn rfl (fun j c hj=>by simp at hj)
def nz:AV→AV
 | .nilsl=>.sl true 0 []
 | v=>v
theorem pQ {w:World} {I:Nat→Prop} {T:Tbl} {v:Value} {av:AV} (h:Rep w I T v av):Rep w I T v (nz av):=by
 cases av with
 | nilsl=>cases h;exact .sl0 (by simp [maxLen]) (fun _=>rfl)
 | _=>exact h
def zF8:Option Operand→Bool
 | some x=>y9 x
 | none=>true
def tM:List Int→Int→Int
 | [],_ => -1
 | b::l,c=>if b=c then 0 else if tM l c = -1 then -1 else tM l c+1
theorem zPP {l:List Int} (hl:∀ x∈l,0≤x∧x<256) {c:Int} (hc:0≤c∧c<256):Lib.indexByte (vI l).data.toList c.toNat.toUInt8=tM l c:=by
 have e:(vI l).data.toList=l.map fun x=>UInt8.ofNat x.toNat:=by simp [vI]
 rw [e]
 induction l with
 | nil=>rfl
 | cons b r ih =>
  have hb:=hl b (by simp)
  have ih:=ih (fun x hx=>hl x (by simp [hx])) (by simp [vI])
  simp only [List.map_cons,Lib.indexByte,tM]
  rw [ih]
  have e2:(UInt8.ofNat b.toNat==c.toNat.toUInt8)=decide (b=c):=by
   rw [Bool.eq_iff_iff,beq_iff_eq,decide_eq_true_eq]
   constructor
   ·intro h
    have h2:=congrArg UInt8.toNat h
    simp only [UInt8.toNat_ofNat',Nat.toUInt8_eq] at h2
    omega
   ·rintro rfl;rfl
  rw [e2]
  by_cases h:b=c
  ·simp [h]
  ·simp only [h,decide_false,Bool.false_eq_true,if_false,beq_iff_eq]
def zIz (P : Program) (g : FuncId) : Prop := ∃ fn, P.funcs[g]? = some fn ∧ (fn.name == "runtime.NumGoroutine") = false ∧ fn.body.isNone = true ∧ Extern.findNext fn = none ∧ Extern.find fn = some Extern.BytealgIndexByte.indexByte
def zQd (P:Program) (g:FuncId):Bool:=match P.funcs[g]? with | some fn=>fn.body.isNone | none=>false
def zNN (P:Program) (f:AV) (xs:List AV):Option (List Prop×AV) :=
 match f,xs with
 | .fn g [],[.str s,.int .u8 c]=>bif zQd P g then some ([zIz P g],.int .i64 (tM s c)) else none
 | _,_=>none
theorem zKV (l:List Int) (c:Int) : -1≤tM l c∧tM l c<l.length∨l=[]∧tM l c = -1:=by
 induction l with
 | nil=>right;exact ⟨rfl,rfl⟩
 | cons b r ih =>
  left
  simp only [tM,List.length_cons]
  split
  ·omega
  ·split
   ·omega
   ·rcases ih with h | ⟨rfl,h⟩
    ·omega
    ·simp [tM] at *
def vop (P:Program) (o:Oper) (A:Operand→AV) (h:xX):Option (List Prop×AV) :=
 match o.op with
 | .move x=>bif y9 x then some ([],A x) else none
 | .assign x=>bif y9 x then some ([],A x) else none
 | .pick c a b=>bif y9 c&&(y9 a&&y9 b) then
   match A c with
   | .bool t=>some ([t=h.b],bif h.b then A a else A b)
   | _=>none
  else none
 | .binOp op xT x y _=>bif y9 x&&y9 y then zQD P op xT (A x) (A y) else none
 | .unOp op _ x=>bif y9 x then vun op (A x) else none
 | .convert s d x=>bif y9 x then zOR P s d (nz (A x)) h else none
 | .field s x f=>bif y9 x then zME P s (A x) f else none
 | .fieldAddr s x f=>bif y9 x then zFK P s (A x) f else none
 | .indexAddr t x i=>bif y9 x&&y9 i then zFL P t (nz (A x)) (A i) h else none
 | .index t x i=>bif y9 x&&y9 i then zM1 P t (A x) (A i) h else none
 | .load t x=>bif y9 x then zOD P t (A x) else none
 | .slice t x lo hi mx=>bif (y9 x&&zF8 lo)&&(zF8 hi&&zF8 mx) then zMw P t (fun y=>nz (A y)) x lo hi mx h else none
 | .build t parts=>bif parts.toList.all (fun p=>y9 p.2) then zMP P t A parts.toList else none
 | .extract x i=>bif y9 x then
   match A x with
   | .tuple vs=>match vs[i]? with
    | some av=>some ([],av)
    | none=>none
   | _=>none
  else none
 | .nilCheck x=>bif y9 x then
   match A x with
   | .ref av=>some ([],.ref av)
   | .ptr id sz i off=>some ([],.ptr id sz i off)
   | _=>none
  else none
 | .makeFunc (.func f) first captured=>bif first.isEmpty&&captured.toList.all y9 then some ([],.fn f (captured.toList.map A)) else none
 | .call { callee:=.builtin b,args:=args,argTypes:=ts } =>
  match b,args.toList,ts.toList with
  | .len,[x],[t]=>bif y9 x then zP3 P t (nz (A x)) h else none
  | .append,[x,y],[t,t2]=>bif y9 x&&y9 y then zJ1 P t t2 (nz (A x)) (nz (A y)) h else none
  | .max,[x,y],_=>bif y9 x&&y9 y then zG5 .max (A x) (A y) else none
  | .min,[x,y],_=>bif y9 x&&y9 y then zG5 .min (A x) (A y) else none
  | _,_,_=>none
 | .call { callee:=.value f,args:=args,argTypes:=_ }=>bif y9 f&&args.toList.all y9 then zNN P (A f) (args.toList.map A) else none
 | _=>none
theorem yG {α:Type} {b:Bool} {x:Option α} {r:α} (h:(bif b then x else none)=some r):b=true∧x=some r:=by
 cases b
 ·cases h
 ·exact ⟨rfl,h⟩
theorem zJ5 {α:Type} {a:Array α} {x:α} (h:a.toList=[x]):a=#[x]:=Array.ext' (by simpa using h)
theorem zDe {α:Type} {a:Array α} {x y:α} (h:a.toList=[x,y]):a=#[x,y]:=Array.ext' (by simpa using h)
theorem zPM {P:Program} {o:Oper} {A:Operand→AV} {ρ:Operand→Value} {w:World} {I:Nat→Prop} {T:Tbl} {hn:xX} {r:List Prop×AV}
  (hA:∀ x,y9 x=true→Rep w I T (ρ x) (A x)) (h:vop P o A hn=some r) (hv:∀ p∈r.1,p):n8 P ρ o w I T r.2:=by
 unfold vop at h
 split at h
 ·rename_i x ho
  obtain ⟨hx,h⟩:=yG h
  injection h with h;subst h
  exact .same (v:=ρ x) (by simp [execOp,ho]) (hA x hx)
 ·rename_i x ho
  obtain ⟨hx,h⟩:=yG h
  injection h with h;subst h
  exact .same (v:=ρ x) (by simp [execOp,ho]) (hA x hx)
 ·rename_i c a b ho
  obtain ⟨hx,h⟩:=yG h
  simp only [Bool.and_eq_true] at hx
  split at h
  ·rename_i t ht
   injection h with h;subst h
   have hc:=hA c hx.1
   rw [ht] at hc
   have htb:t=hn.b:=hv _ (by simp)
   generalize hC:ρ c=vc at hc
   cases hc with
   | bool =>
   subst htb
   cases hb:hn.b
   ·rw [hb] at hC
    exact .same (v:=ρ b) (by simp [execOp,ho,hC,asBool]) (hA b hx.2.2)
   ·rw [hb] at hC
    exact .same (v:=ρ a) (by simp [execOp,ho,hC,asBool]) (hA a hx.2.1)
  ·cases h
 ·rename_i op xT x y yT ho
  obtain ⟨hx,h⟩:=yG h
  simp only [Bool.and_eq_true] at hx
  exact zOf ho (hA x hx.1) (hA y hx.2) h hv
 ·rename_i op xT x ho
  obtain ⟨hx,h⟩:=yG h
  exact zPn ho (hA x hx) h
 ·rename_i s d x ho
  obtain ⟨hx,h⟩:=yG h
  exact zNj ho (pQ (hA x hx)) h hv
 ·rename_i s x f ho
  obtain ⟨hx,h⟩:=yG h
  exact zMO ho (hA x hx) h
 ·rename_i s x f ho
  obtain ⟨hx,h⟩:=yG h
  exact zIq ho (hA x hx) h
 ·rename_i t x i ho
  obtain ⟨hx,h⟩:=yG h
  simp only [Bool.and_eq_true] at hx
  exact zHV ho (pQ (hA x hx.1)) (hA i hx.2) h hv
 ·rename_i t x i ho
  obtain ⟨hx,h⟩:=yG h
  simp only [Bool.and_eq_true] at hx
  exact zLH ho (hA x hx.1) (hA i hx.2) h hv
 ·rename_i t x ho
  obtain ⟨hx,h⟩:=yG h
  exact zNe ho (hA x hx) h
 ·rename_i t x lo hi mx ho
  obtain ⟨hx,h⟩:=yG h
  simp only [Bool.and_eq_true] at hx
  refine zLn ho (pQ (hA x hx.1.1)) (fun y hy=>?_) h hv
  rcases hy with rfl | rfl | rfl
  ·exact pQ (hA y hx.1.2)
  ·exact pQ (hA y hx.2.1)
  ·exact pQ (hA y hx.2.2)
 ·rename_i t parts ho
  obtain ⟨hx,h⟩:=yG h
  simp only [List.all_eq_true] at hx
  exact zMl ho (fun p hp=>hA p.2 (hx p hp)) h
 ·rename_i x i ho
  obtain ⟨hx,h⟩:=yG h
  split at h
  ·rename_i vs hvs
   split at h
   ·rename_i av hav
    injection h with h;subst h
    have hr:=hA x hx
    rw [hvs] at hr
    generalize hX:ρ x=vx at hr
    cases hr with
    | tuple h1 h2 =>
    rename_i us
    have hlt:i<us.size:=by
     rw [h1]
     rcases Nat.lt_or_ge i vs.length with h' | h'
     ·exact h'
     ·rw [List.getElem?_eq_none h'] at hav;cases hav
    have:=h2 i av hav
    refine .same (v:=us[i]) ?_ (by simpa [Array.getD_eq_getD_getElem?,hlt] using this)
    simp [execOp,ho,hX,Instr.extract,hlt]
   ·cases h
  ·cases h
 ·rename_i x ho
  obtain ⟨hx,h⟩:=yG h
  have hr:=hA x hx
  split at h
  ·rename_i av hav
   injection h with h;subst h
   rw [hav] at hr
   generalize hX:ρ x=vx at hr
   have hr2:=hr
   cases hr with
   | ref g=>exact .same (by simp [execOp,ho,hX]) hr2
  ·rename_i id sz i off hav
   injection h with h;subst h
   rw [hav] at hr
   generalize hX:ρ x=vx at hr
   have hr2:=hr
   cases hr with
   | ptr g=>exact .same (by simp [execOp,ho,hX]) hr2
  ·cases h
 ·rename_i f first captured ho
  obtain ⟨hx,h⟩:=yG h
  simp only [Bool.and_eq_true,List.all_eq_true] at hx
  injection h with h;subst h
  have he:first=#[]:=by simpa using hx.1
  subst he
  refine .same (v:=.func (.func f) #[] (captured.map ρ)) (by simp [execOp,ho,Instr.makeFunc]) (.fn (by simp) ?_)
  intro j c hj
  rw [List.getElem?_map] at hj
  cases hcj:captured.toList[j]? with
  | none=>rw [hcj] at hj;cases hj
  | some y =>
   rw [hcj] at hj;injection hj with hj;subst hj
   have hy:=hA y (hx.2 y (List.mem_of_getElem? hcj))
   rw [Array.getElem?_toList] at hcj
   have:(captured.map ρ).getD j undef=ρ y:=by simp [Array.getD_eq_getD_getElem?,hcj]
   rw [this]
   exact hy
 ·rename_i b args ts ho
  split at h
  ·rename_i x t ha ht
   obtain ⟨hx,h⟩:=yG h
   rw [zJ5 ha,zJ5 ht] at ho
   exact zOs ho (pQ (hA x hx)) h hv
  ·rename_i x y t t2 ha ht
   obtain ⟨hx,h⟩:=yG h
   simp only [Bool.and_eq_true] at hx
   rw [zDe ha,zDe ht] at ho
   exact zKG ho (pQ (hA x hx.1)) (pQ (hA y hx.2)) h hv
  ·rename_i x y ha
   obtain ⟨hx,h⟩:=yG h
   simp only [Bool.and_eq_true] at hx
   rw [zDe ha] at ho
   exact zGp ho (hA x hx.1) (hA y hx.2) h
  ·rename_i x y ha
   obtain ⟨hx,h⟩:=yG h
   simp only [Bool.and_eq_true] at hx
   rw [zDe ha] at ho
   exact zGp ho (hA x hx.1) (hA y hx.2) h
  ·cases h
 ·rename_i f args ts ho
  obtain ⟨hx,h⟩:=yG h
  simp only [Bool.and_eq_true,List.all_eq_true] at hx
  obtain ⟨hf,hx⟩:=hx
  unfold zNN at h
  split at h
  case h_2=>cases h
  rename_i g s c hAf hAx
  obtain ⟨_,h⟩:=yG h
  injection h with h;subst h
  obtain ⟨fn,k1,k2,k3,k4,k5⟩:zIz P g:=hv _ (by simp)
  have hrf:=hA f hf
  rw [hAf] at hrf
  rcases hal:args.toList with _ | ⟨x,_ | ⟨y,_ | ⟨z,q⟩⟩⟩
  ·rw [hal] at hAx;simp at hAx
  ·rw [hal] at hAx;simp at hAx
  ·rw [hal] at hAx hx
   simp only [List.map_cons,List.map_nil,List.cons.injEq,and_true] at hAx
   have h1:=hA x (hx x (by simp))
   have h2:=hA y (hx y (by simp))
   rw [hAx.1] at h1
   rw [hAx.2] at h2
   generalize hvf:ρ f=vf at hrf
   generalize hvx:ρ x=vx at h1
   generalize hvy:ρ y=vy at h2
   cases hrf with
   | fn hs hc =>
   cases h1 with
   | str hb hl =>
   cases h2 with
   | int hw =>
   have hcr:=zLD hw
   rename_i cv
   have hcv:cv=#[]:=Array.eq_empty_of_size_eq_zero (by simpa using hs)
   subst hcv
   rw [zDe hal] at ho
   have hrun:=run_callFunc_extern k1 k2 k3 k4 k5 #[.string (vI s),.int .u8 c] w
   rw [Lib.run_indexByteString,zPP hb hcr] at hrun
   refine .same (v:=.int .i64 (tM s c)) ?_ (.int ?_)
   ·simp only [execOp,ho]
    simp [resolve,Deferred.ofValue,invoke,hvf,hvx,hvy,hrun,Result.andThen]
   ·have:=zKV s c
    rw [w7] at hl
    refine kY _ _ ?_
    simp only [IntKind.signed,IntKind.bits]
    simp
    omega
  ·rw [hal] at hAx;simp at hAx
 ·cases h
def vD (P:Program) (N np:Nat) (o:Oper) (E:Eff):Prop :=
 ∀ G st a w,G.n=N→G.foot.length=np→E.holds st→Rel G st a w→o.wp P a w (fun a' w'=>Rel G (st.upd E) a' w') (fun _ _ _=>False)
theorem wR {P:Program} {o:Oper} {a:Act} {w w':World} {v:Value} {K:Act→World→Prop} {Q:Exit→Act→World→Prop} (h:(execOp a.eval o).run P w=.ok (.value v) w')
  (hk:K (a.put o.dst v) w'):o.wp P a w K Q:=by
 unfold Oper.wp
 rw [h]
 exact hk
theorem zDs {G:v6} {st:AS} {T:Tbl} {a:Act} {w:World} (h:jN G st T a w) {id:Nat} {bx:Box} {b cap:Nat} (hl:st.box id=.live bx) (hT:T id=some (.at b cap)):b<w.heap.size:=by
 have hok:=h.boxes id bx hl
 rw [hT] at hok
 exact hok.lt
theorem zKq {G:v6} {st:AS} {T:Tbl} {a:Act} {w:World} (h:jN G st T a w) {b:Nat} (hb:w.heap.size≤b):imm G st T b:=by
 refine ⟨.inr (.inl (Nat.le_trans h.kept.size hb)),fun id bx cap hl hT=>?_⟩
 have:=zDs h hl hT
 omega
def uN (N:Nat):Option Tmp→Bool
 | some d=>Nat.blt d N
 | none=>true
theorem vN {N:Nat} {dst:Option Tmp} {d:Nat} {av av':AV} (h:uN N dst=true) (he:dst.map (fun x=>(x,av))=some (d,av')):d<N∧av'=av:=by
 cases dst with
 | none=>cases he
 | some x =>
  simp only [Option.map_some,Option.some.injEq,Prod.mk.injEq] at he
  obtain ⟨rfl,rfl⟩:=he
  exact ⟨by have:=h;simp [uN,Nat.blt] at this;omega,rfl⟩
theorem zNt {P:Program} {N np:Nat} {o:Oper} {rs:List (Nat×AV)} {hn:xX} {r:List Prop×AV} (h:vop P o (yW rs) hn=some r) (hv:∀ p∈r.1,p) (hd:uN N o.dst=true) :
  vD P N np o { rs:=rs,dst:=o.dst.map fun d=>(d,r.2) }:=by
 intro G st a w hN hnp hE ⟨T,hT⟩
 obtain ⟨v,w',hrun,hg,hrep⟩:=zPM (P:=P) (ρ:=a.eval) (fun x hx=>xD hT hE.1 hx) h hv
 refine wR hrun ?_
 refine hT.quiet hg rfl (by simp [Option.map_map,Function.comp_def]) ?_
 intro d av he
 obtain ⟨hlt,rfl⟩:=vN hd he
 exact ⟨by omega,hrep _ _ (fun _ h _=>h) (fun b hb _=>zKq hT hb) (fun _ _ h=>h)⟩
end Go.Ab
