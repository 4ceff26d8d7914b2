/- Places in slices and arrays, parts of slices and strings, lengths. -/
import Derived.Test.YtbifmbdcejggkaaA5
namespace Go.Ab
open Go

def vA (l:List AV) (i:Int):Option AV:=if 0≤i then l[i.toNat]? else none
def zJ8 (l:List Int) (i:Int):Option Int:=if 0≤i then l[i.toNat]? else none

theorem zKE {l:List AV} {i:Int} {av:AV} (h:vA l i=some av):0≤i∧i<l.length∧l[i.toNat]?=some av:=by
  unfold vA at h
  split at h
  · rename_i h0
    have:i.toNat<l.length:=by
      rcases Nat.lt_or_ge i.toNat l.length with h' | h'
      · exact h'
      · rw [List.getElem?_eq_none h'] at h;cases h
    exact ⟨h0,by omega,h⟩
  · cases h

theorem zKX {l:List Int} {i:Int} {c:Int} (h:zJ8 l i=some c):0≤i∧i<l.length∧l[i.toNat]?=some c:=by
  unfold zJ8 at h
  split at h
  · rename_i h0
    have:i.toNat<l.length:=by
      rcases Nat.lt_or_ge i.toNat l.length with h' | h'
      · exact h'
      · rw [List.getElem?_eq_none h'] at h;cases h
    exact ⟨h0,by omega,h⟩
  · cases h

theorem kH (b off j:Nat):(⟨b,off,none⟩:Addr).add j=⟨b,off+j,none⟩:=by unfold Addr.add;split<;>simp_all

def zC1 (P:Program) (t:TypeId) (x ix:AV) (h:xK):Option (List Prop×AV) :=
  match ix with
  | .int _ i =>
    match P.underlying t with
    | some (.slice e) =>
      bif wL P e then
        match x with
        | .sl _ sz l=>bif Nat.beq sz (szT P e) then some ([vA l i=some h.av],.ref h.av) else none
        | .own id n=>some ([0≤i,i<n],.ptr id (szT P e) i.toNat 0)
        | .part id sz lo hi=>bif Nat.beq sz (szT P e) then some ([0≤i,i<(hi:Int) - lo],.ptr id sz (lo+i.toNat) 0) else none
        | _=>none
      else none
    | some (.array n e) =>
      bif wL P e then
        match x with
        | .ref (.agg cs) =>
          match nE P e cs (i.toNat * szT P e) with
          | some av=>some ([0≤i,i<n],.ref av)
          | none=>none
        | .ptr id sz j off =>
          bif h.b then
            bif Nat.beq j 0&&Nat.beq off 0 then some ([0≤i,i<n],.ptr id (szT P e) i.toNat 0) else none
          else some ([0≤i,i<n],.ptr id sz j (off+i.toNat * szT P e))
        | _=>none
      else none
    | _=>none
  | _=>none

theorem pS {P:Program} {t e:TypeId} {k:IntKind} {i:Int} {b off n cap:Nat} {w:World} (hu:P.underlying t=some (.slice e)) (hk:wL P e=true)
    (h0:0≤i) (h1:i<n):(Instr.indexAt t (.slice (some ⟨b,off,none⟩) n cap) (.int k i)).run P w=.ok (.pointer (some ⟨b,off+i.toNat * szT P e,none⟩)) w:=by
  simp [Instr.indexAt,asIntOf,run_underlying hu,h0,h1,w8 hk,kH]

theorem pU {P:Program} {t e:TypeId} {k:IntKind} {i:Int} {b off n:Nat} {w:World} (hu:P.underlying t=some (.array n e)) (hk:wL P e=true)
    (h0:0≤i) (h1:i<n):(Instr.indexAt t (.pointer (some ⟨b,off,none⟩)) (.int k i)).run P w=.ok (.pointer (some ⟨b,off+i.toNat * szT P e,none⟩)) w:=by
  simp [Instr.indexAt,asIntOf,run_underlying hu,h0,h1,w8 hk,kH,Instr.sureAddr]

theorem zEU {P:Program} {t:TypeId} {x ix:Operand} {ρ:Operand→Value} {o:Oper} {w:World} {I:Nat→Prop} {T:Tbl} {X IX:AV} {hn:xK} {r:List Prop×AV}
    (ho:o.op=.indexAddr t x ix) (hx:Rep w I T (ρ x) X) (hix:Rep w I T (ρ ix) IX) (h:zC1 P t X IX hn=some r) (hv:∀ p∈r.1,p):jY P ρ o w I T r.2:=by
  unfold zC1 at h
  generalize hX:ρ x=vx at hx
  generalize hIX:ρ ix=vi at hix
  split at h
  · rename_i k i
    cases hix with
    | int wi =>
    split at h
    · rename_i e hu
      cases hk:wL P e
      · rw [hk] at h;cases h
      rw [hk] at h
      simp only [cond_true] at h
      split at h
      · rename_i full sz l
        cases hb:Nat.beq sz (szT P e)
        · rw [hb] at h;cases h
        rw [hb] at h
        injection h with h;subst h
        have hsz:=xO.1 hb
        have hidx:vA l i=some hn.av:=hv _ (by simp)
        obtain ⟨h0,h1,hget⟩:=zKE hidx
        cases hx with
        | sl0=>simp at h1;omega
        | sl g e1 e2 e3 e4 e5 e6 e7 e8 e9 e10 =>
        rename_i b off cap n
        refine .same (v:=.pointer (some ⟨b,off+i.toNat * szT P e,none⟩)) ?_ (.ref (g i.toNat) e7 e8 ?_ ?_ ?_)
        · simp only [execOp,ho,hX,hIX,Sem.run_bind,pS (n:=n) hu hk h0 (by omega),Result.andThen_ok];rfl
        · exact e6 _ (List.mem_of_getElem? hget)
        · intro j c hj
          rw [← hsz]
          exact e9 _ _ _ _ hget hj
        · intro j c hj
          exact e10 _ _ _ _ hget hj
      · rename_i id n
        injection h with h;subst h
        have h0:0≤i:=hv _ (by simp)
        have h1:i<n:=hv _ (by simp)
        cases hx with
        | ownNil=>simp at h1;omega
        | own hT hn1 hn2 =>
        rename_i b cap
        refine .same (v:=.pointer (some ⟨b,0+i.toNat * szT P e,none⟩)) ?_ (.ptr hT (by omega))
        simp only [execOp,ho,hX,hIX,Sem.run_bind,pS hu hk h0 h1,Result.andThen_ok];rfl
      · rename_i id sz lo hi
        cases hb:Nat.beq sz (szT P e)
        · rw [hb] at h;cases h
        rw [hb] at h
        injection h with h;subst h
        have hsz:=xO.1 hb
        have h0:0≤i:=hv _ (by simp)
        have h1:i<(hi:Int) - lo:=hv _ (by simp)
        cases hx with
        | part0=>omega
        | part hT p1 p2 p3 p4 p5 p6 =>
        rename_i o n c b cap
        refine .same (v:=.pointer (some ⟨b,o+i.toNat * szT P e,none⟩)) ?_ (.ptr hT (by rw [← hsz,p6,Nat.add_zero,Nat.add_mul]))
        simp only [execOp,ho,hX,hIX,Sem.run_bind,pS (n:=n) hu hk h0 (by omega),Result.andThen_ok];rfl
      · cases h
    · rename_i n e hu
      cases hk:wL P e
      · rw [hk] at h;cases h
      rw [hk] at h
      simp only [cond_true] at h
      split at h
      · rename_i cs
        split at h
        · rename_i av hav
          injection h with h;subst h
          have h0:0≤i:=hv _ (by simp)
          have h1:i<n:=hv _ (by simp)
          cases hx with
          | ref g hI hb e1 e2 e3 =>
          rename_i b off
          obtain ⟨_,_,hsub,hone⟩:=jE hav e1
          refine .same (v:=.pointer (some ⟨b,off+i.toNat * szT P e,none⟩)) ?_ (.ref (fun j=>g (i.toNat * szT P e+j)) hI hb hone ?_ ?_)
          · simp only [execOp,ho,hX,hIX,Sem.run_bind,pU hu hk h0 h1,Result.andThen_ok];rfl
          · intro j c hj
            rw [Nat.add_assoc]
            exact e2 _ _ (hsub j c hj)
          · intro j c hj
            exact e3 _ _ (hsub j c hj)
        · cases h
      · rename_i id sz j off
        cases hx with
        | ptr hT ho' =>
        rename_i o b cap
        cases hb:hn.b
        · rw [hb] at h
          injection h with h;subst h
          have h0:0≤i:=hv _ (by simp)
          have h1:i<n:=hv _ (by simp)
          refine .same (v:=.pointer (some ⟨b,o+i.toNat * szT P e,none⟩)) ?_ (.ptr hT (by omega))
          simp only [execOp,ho,hX,hIX,Sem.run_bind,pU hu hk h0 h1,Result.andThen_ok];rfl
        · rw [hb] at h
          simp only [cond_true] at h
          cases hz:(Nat.beq j 0&&Nat.beq off 0)
          · rw [hz] at h;cases h
          rw [hz] at h
          simp only [Bool.and_eq_true] at hz
          have z1:=xO.1 hz.1
          have z2:=xO.1 hz.2
          injection h with h;subst h
          have h0:0≤i:=hv _ (by simp)
          have h1:i<n:=hv _ (by simp)
          refine .same (v:=.pointer (some ⟨b,o+i.toNat * szT P e,none⟩)) ?_ (.ptr hT (by rw [ho',z1,z2];omega))
          simp only [execOp,ho,hX,hIX,Sem.run_bind,pU hu hk h0 h1,Result.andThen_ok];rfl
      · cases h
    · cases h
  · cases h

/-- A byte of a string, a part of an array. -/
def zHL (P:Program) (t:TypeId) (x ix:AV) (h:xK):Option (List Prop×AV) :=
  match ix with
  | .int _ i =>
    match P.underlying t,x with
    | some .string,.str l=>some ([zJ8 l i=some h.z],.int .u8 h.z)
    | some (.array n e),.agg cs =>
      bif wL P e then
        match nE P e cs (i.toNat * szT P e) with
        | some av=>some ([0≤i,i<n],av)
        | none=>none
      else none
    | _,_=>none
  | _=>none

theorem zJs {x:Int} (h:0≤x∧x<256):IntKind.u8.wrap x=x:=by
  apply qA;simp only [IntKind.bits,IntKind.signed];simp;omega

theorem zLv {l:List Int} {i:Nat} {c:Int} (h:l[i]?=some c) (hr:0≤c∧c<256):∃ b:UInt8,(vK l)[i]?=some b∧(b.toNat:Int)=c:=by
  refine ⟨UInt8.ofNat c.toNat,?_,?_⟩
  · have hlt:i<l.length:=by
      rcases Nat.lt_or_ge i l.length with h' | h'
      · exact h'
      · rw [List.getElem?_eq_none h'] at h;cases h
    have hs:i<(vK l).size:=by rw [j0];exact hlt
    have e:(vK l)[i]?=(vK l).data[i]?:=rfl
    rw [e]
    simp [vK,h]
  · simp only [UInt8.toNat_ofNat'];omega

theorem zHD {P:Program} {t:TypeId} {x ix:Operand} {ρ:Operand→Value} {o:Oper} {w:World} {I:Nat→Prop} {T:Tbl} {X IX:AV} {hn:xK} {r:List Prop×AV}
    (ho:o.op=.index t x ix) (hx:Rep w I T (ρ x) X) (hix:Rep w I T (ρ ix) IX) (h:zHL P t X IX hn=some r) (hv:∀ p∈r.1,p):jY P ρ o w I T r.2:=by
  unfold zHL at h
  generalize hX:ρ x=vx at hx
  generalize hIX:ρ ix=vi at hix
  split at h
  · rename_i k i
    cases hix with
    | int wi =>
    split at h
    · rename_i l hu
      injection h with h;subst h
      have hidx:zJ8 l i=some hn.z:=hv _ (by simp)
      obtain ⟨h0,h1,hget⟩:=zKX hidx
      cases hx with
      | str hr hl =>
      have hc:=hr _ (List.mem_of_getElem? hget)
      obtain ⟨b,hb1,hb2⟩:=zLv hget hc
      refine .same (v:=.int .u8 hn.z) ?_ (.int (zJs hc))
      simp [execOp,ho,hX,hIX,Instr.index,asIntOf,run_underlying hu,h0,hb1,hb2]
    · rename_i n e cs hu
      cases hk:wL P e
      · rw [hk] at h;cases h
      rw [hk] at h
      simp only [cond_true] at h
      split at h
      · rename_i av hav
        injection h with h;subst h
        have h0:0≤i:=hv _ (by simp)
        have h1:i<n:=hv _ (by simp)
        cases hx with
        | agg hs e1 e2 =>
        obtain ⟨v,hrun,hrep⟩:=zIw (w:=w) hk e1 hs e2 hav
        refine .same (v:=v) ?_ hrep
        simp [execOp,ho,hX,hIX,Instr.index,asIntOf,run_underlying hu,h0,h1,w8 hk,hrun]
      · cases h
    · cases h
  · cases h

/-! Lengths. -/
def zLC (P:Program) (t:TypeId) (x:AV) (h:xK):Option (List Prop×AV) :=
  match P.underlying t,x with
  | some .string,.str l=>some ([],.int .i64 l.length)
  | some (.slice _),.sl _ _ l=>some ([l.length=h.n],.int .i64 h.n)
  | some (.slice _),.own _ n=>some ([],.int .i64 n)
  | some (.slice _),.part _ _ lo hi=>some ([hi - lo=h.n],.int .i64 h.n)
  | some (.array n _),_=>bif Nat.ble n 9223372036854775807 then some ([],.int .i64 n) else none
  | _,_=>none

theorem zBs {n:Nat} (h:n≤9223372036854775807):IntKind.i64.wrap (n:Int)=n:=by
  apply qA;simp only [IntKind.bits,IntKind.signed];simp;omega

theorem zJR {P:Program} {t:TypeId} {x:Operand} {ρ:Operand→Value} {o:Oper} {w:World} {I:Nat→Prop} {T:Tbl} {X:AV} {hn:xK} {r:List Prop×AV}
    (ho:o.op=.call { callee:=.builtin .len,args:=#[x],argTypes:=#[t] }) (hx:Rep w I T (ρ x) X) (h:zLC P t X hn=some r) (hv:∀ p∈r.1,p):jY P ρ o w I T r.2:=by
  unfold zLC at h
  generalize hX:ρ x=vx at hx
  have hrun:∀ (v:Value),(Builtin.len_ #[t] o.type #[vx]).run P w=.ok v w→(execOp ρ o).run P w=.ok (.value v) w:=fun v hv=>by
    simp [execOp,ho,resolve,hX,invoke,builtin,hv]
  split at h
  · rename_i l hu
    injection h with h;subst h
    cases hx with
    | str hr hl =>
    exact .same (hrun (.int .i64 l.length) (by simp [Builtin.len_,run_underlying hu,goInt,j0])) (.int (zBs (by rw [w6] at hl;exact hl)))
  · rename_i e full sz l hu
    injection h with h;subst h
    have hl:l.length=hn.n:=hv _ (by simp)
    cases hx with
    | sl0 hc hf =>
      simp at hl
      exact .same (hrun (.int .i64 0) (by simp [Builtin.len_,run_underlying hu,goInt])) (by rw [← hl];exact .int (by decide))
    | sl g e1 e2 e3 e4 e5 e6 e7 e8 e9 e10 =>
      rename_i b off cap n
      exact .same (hrun (.int .i64 n) (by simp [Builtin.len_,run_underlying hu,goInt])) (by rw [← hl,← e1];exact .int (zBs (by rw [w6] at e3;omega)))
  · rename_i e id n hu
    injection h with h;subst h
    cases hx with
    | ownNil=>exact .same (hrun (.int .i64 0) (by simp [Builtin.len_,run_underlying hu,goInt])) (.int (by decide))
    | own hT h1 h2=>exact .same (hrun (.int .i64 n) (by simp [Builtin.len_,run_underlying hu,goInt])) (.int (zBs (by rw [w6] at h2;omega)))
  · rename_i e id sz lo hi hu
    injection h with h;subst h
    have hl:hi - lo=hn.n:=hv _ (by simp)
    cases hx with
    | part0 =>
      exact .same (hrun (.int .i64 0) (by simp [Builtin.len_,run_underlying hu,goInt])) (by rw [← hl];simp;exact .int (by decide))
    | part hT p1 p2 p3 p4 p5 p6 =>
      rename_i o' n c b cap
      exact .same (hrun (.int .i64 n) (by simp [Builtin.len_,run_underlying hu,goInt])) (by rw [← hl,← p2];exact .int (zBs (by rw [w6] at p5;omega)))
  · rename_i n e hu
    cases hb:Nat.ble n 9223372036854775807
    · rw [hb] at h;cases h
    rw [hb] at h
    injection h with h;subst h
    exact .same (hrun (.int .i64 n) (by simp [Builtin.len_,run_underlying hu,goInt])) (.int (zBs (Nat.le_of_ble_eq_true hb)))
  · cases h

/-! The least and the greatest of two integers. -/
def zJH (x y:Int):Int:=if y>x then y else x
def wH (x y:Int):Int:=if y<x then y else x

def zD3 (b:Builtin) (x y:AV):Option (List Prop×AV) :=
  match x,y with
  | .int k a,.int k' c =>
    bif zCt k k' then
      match b with
      | .max=>some ([],.int k (zJH a c))
      | .min=>some ([],.int k (wH a c))
      | _=>none
    else none
  | _,_=>none

theorem zDc {P:Program} {b:Builtin} {ts:Array TypeId} {x y:Operand} {ρ:Operand→Value} {o:Oper} {w:World} {I:Nat→Prop} {T:Tbl} {X Y:AV} {r:List Prop×AV}
    (ho:o.op=.call { callee:=.builtin b,args:=#[x,y],argTypes:=ts }) (hx:Rep w I T (ρ x) X) (hy:Rep w I T (ρ y) Y) (h:zD3 b X Y=some r):jY P ρ o w I T r.2:=by
  unfold zD3 at h
  generalize hX:ρ x=vx at hx
  generalize hY:ρ y=vy at hy
  split at h
  · rename_i k a k' c
    cases hk:zCt k k'
    · rw [hk] at h;cases h
    rw [hk] at h
    have:=zGz hk
    subst this
    simp only [cond_true] at h
    cases hx with
    | int wa =>
    cases hy with
    | int wb =>
    split at h<;>first | (injection h with h;subst h) | cases h
    · refine .same (v:=.int k (zJH a c)) (by simp [execOp,ho,resolve,hX,hY,invoke,builtin,Builtin.max_,Builtin.max2,zJH]) (.int ?_)
      unfold zJH;split<;>assumption
    · refine .same (v:=.int k (wH a c)) (by simp [execOp,ho,resolve,hX,hY,invoke,builtin,Builtin.min_,Builtin.min2,wH]) (.int ?_)
      unfold wH;split<;>assumption
  · cases h
end Go.Ab
