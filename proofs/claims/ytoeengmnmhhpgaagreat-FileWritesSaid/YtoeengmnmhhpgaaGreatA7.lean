/- A layer over the model: abstract values and states, and the rules by which the printed proofs go. No conditions. -/
import Derived.Test.YtoeengmnmhhpgaaGreatA3
/- Parts of strings and slices, values built out of parts, conversions, an append to a slice that has no room. -/
namespace Go.Ab
open Go
def Q8:AV->Option Int
 | .int _ i=>some i
 | _=>none
def jX (A:Operand->AV) (x:Option Operand) (d:Int):Option Int :=
 match x with
 | none=>some d
 | some y=>Q8 (A y)
def uF:Option Operand->Nat->Nat->Nat
 | none,cap,_=>cap
 | some _,_,b=>b
def nS:Option Operand->Bool
 | some _=>true
 | none=>false
def TN (P:Program) (t:TypeId) (A:Operand->AV) (x:Operand) (lo hi mx:Option Operand) (h:wF):Option (List Prop×AV) :=
 match P.underlying t,A x with
 | some .string,.str l =>
  bif nS mx then none else
  match jX A lo 0,jX A hi l.length with
  | some a,some b=>some ([0<=a,a<=b,b<=l.length],.str ((l.take b.toNat).drop a.toNat))
  | _,_=>none
 | some (.slice e),.sl full sz l =>
  bif uT P e&&Nat.beq sz (szT P e) then
   match jX A lo 0,jX A hi l.length,jX A mx 0 with
   | some a,some b,some m =>
    match mx with
    | some _=>bif nS hi then some ([0<=a,a<=b,b<=l.length,m=b,h.l=(l.take b.toNat).drop a.toNat],.sl true sz h.l) else none
    | none=>some ([0<=a,a<=b,b<=l.length,h.l=(l.take b.toNat).drop a.toNat],.sl (full&&!(nS hi)) sz h.l)
   | _,_,_=>none
  else none
 | some (.slice e),.own id n =>
  bif uT P e then
   match jX A lo 0,jX A hi n,jX A mx 0 with
   | some a,some b,some m =>
    match mx with
    | some _=>bif nS hi then some ([0<=a,a<=b,b<=n,m=b],.part id (szT P e) a.toNat b.toNat) else none
    | none=>some ([0<=a,a<=b,b<=n],.part id (szT P e) a.toNat b.toNat)
   | _,_,_=>none
  else none
 | some (.slice e),.part id sz l0 h0 =>
  bif uT P e&&Nat.beq sz (szT P e) then
   match jX A lo 0,jX A hi ((h0:Int) - l0),jX A mx 0 with
   | some a,some b,some _ =>
    match mx with
    | some _=>none
    | none=>some ([0<=a,a<=b,b<=(h0:Int) - l0,l0<=h0],.part id sz (l0+a.toNat) (l0+b.toNat))
   | _,_,_=>none
  else none
 | _,_=>none
theorem bY {P:Program} {w:World} {v:Value} {k:IntKind} {i:Int} {y:Nat} {c:BoundsCode} (hv:v=.int k i) (h0:0<=i) (h1:i<=y) :
  (Instr.sliceBound v y c).run P w=.ok i.toNat w:=by
 subst hv;simp [Instr.sliceBound,asIntOf,h0,h1]
theorem dA {P:Program} {w:World} {I:Nat->Prop} {T:Tbl} {ρ:Operand->Value} {A:Operand->AV} {lo hi mx:Option Operand} {len cap:Nat} {isS:Bool} {a b m:Int}
  (hr:∀ y,some y=lo\/some y=hi\/some y=mx->Rep w I T (ρ y) (A y))
  (ha:jX A lo 0=some a) (hb:jX A hi len=some b) (hm:jX A mx 0=some m)
  (h0:0<=a) (h1:a<=b) (h2:b<=cap) (hmx:mx=none\/(nS hi=true/\m=b)) :
  (Instr.sliceBounds isS len cap (lo.map ρ) (hi.map ρ) (mx.map ρ)).run P w=.ok (a.toNat,b.toNat,uF mx cap b.toNat) w:=by
 have int_of:∀ y i,Rep w I T (ρ y) (A y)->Q8 (A y)=some i->∃ k,ρ y=.int k i:=by
  intro y i hy hi;generalize ρ y=v at hy;generalize A y=av at hy hi;cases av<;>simp [Q8] at hi
  subst hi;cases hy;exact ⟨_,rfl⟩
 cases mx with
 | none =>
  cases hi with
  | none =>
   simp [jX] at hb;have hbl:b.toNat=len:=by omega
   cases lo with
   | none=>simp [jX] at ha;subst ha;simp [Instr.sliceBounds,hbl,uF]
   | some y =>
    obtain ⟨k,hk⟩:=int_of y a (hr y (.inl rfl)) ha;simp only [uF,Instr.sliceBounds,Option.map_none,Option.map_some,Sem.run_bind,Sem.run_pure,Result.andThen_ok,bY (y:=len) hk h0 (by omega),hbl]
  | some z =>
   obtain ⟨k',hk'⟩:=int_of z b (hr z (.inr (.inl rfl))) hb;cases lo with
   | none =>
    simp [jX] at ha;subst ha;simp only [uF,Instr.sliceBounds,Option.map_none,Option.map_some,Sem.run_bind,Sem.run_pure,Result.andThen_ok,bY (y:=cap) hk' (by omega) h2];rfl
   | some y =>
    obtain ⟨k,hk⟩:=int_of y a (hr y (.inl rfl)) ha;simp only [uF,Instr.sliceBounds,Option.map_none,Option.map_some,Sem.run_bind,Sem.run_pure,Result.andThen_ok,bY (y:=cap) hk' (by omega) h2,
     bY (y:=b.toNat) hk h0 (by omega)]
 | some u =>
  rcases hmx with h | ⟨hhi,hmb⟩
  ·cases h
  ·subst hmb;cases hi with
   | none=>simp [nS] at hhi
   | some z =>
    obtain ⟨k',hk'⟩:=int_of z m (hr z (.inr (.inl rfl))) hb;obtain ⟨k2,hk2⟩:=int_of u m (hr u (.inr (.inr rfl))) hm;cases lo with
    | none =>
     simp [jX] at ha;subst ha;simp only [uF,Instr.sliceBounds,Option.map_none,Option.map_some,Sem.run_bind,Sem.run_pure,Result.andThen_ok,bY (y:=cap) hk2 (by omega) h2,
      bY (y:=m.toNat) hk' (by omega) (by omega)]
     rfl
    | some y =>
     obtain ⟨k,hk⟩:=int_of y a (hr y (.inl rfl)) ha;simp only [uF,Instr.sliceBounds,Option.map_some,Sem.run_bind,Sem.run_pure,Result.andThen_ok,bY (y:=cap) hk2 (by omega) h2,
      bY (y:=m.toNat) hk' (by omega) (by omega),bY (y:=m.toNat) hk h0 (by omega)]
theorem Q0 (l:List Int) (a b:Nat):(v8 l).extract a b=v8 ((l.take b).drop a):=by
 apply WideShapes.bytes_inj;simp only [v8,ByteArray.data_extract,Array.toList_extract,List.extract_eq_take_drop,List.map_drop,List.map_take,List.drop_take]
theorem aK {P:Program} {t:TypeId} {x:Operand} {lo hi mx:Option Operand} {ρ:Operand->Value} {o:Oper} {w:World} {v:Value}
  (ho:o.op=.slice t x lo hi mx) (hn:∀ n e,P.underlying t≠some (.array n e)) (hs:P.underlying t≠none) (h:(Instr.slice t (ρ x) (lo.map ρ) (hi.map ρ) (mx.map ρ)).run P w=.ok v w) :
  (execOp ρ o).run P w=.ok (.value v) w:=by
 cases hu:P.underlying t with
 | none=>exact absurd hu hs
 | some d =>
  simp only [execOp,ho,Instr.sliceAt,Sem.run_bind,run_underlying hu,Result.andThen_ok];cases d<;>first | exact absurd hu (hn _ _) | (simp only [h,Result.andThen_ok];rfl)
theorem zGE {P:Program} {t:TypeId} {x:Operand} {lo hi mx:Option Operand} {ρ:Operand->Value} {A:Operand->AV} {o:Oper} {w:World} {I:Nat->Prop} {T:Tbl} {hn:wF} {r:List Prop×AV}
  (ho:o.op=.slice t x lo hi mx) (hx:Rep w I T (ρ x) (A x)) (hr:∀ y,some y=lo\/some y=hi\/some y=mx->Rep w I T (ρ y) (A y))
  (h:TN P t A x lo hi mx hn=some r) (hv:∀ p∈r.1,p):kR P ρ o w I T r.2:=by
 unfold TN at h;generalize hX:ρ x=vx at hx;generalize A x=X at hx h
 split at h
 ·rename_i l hu
  cases hm:nS mx
  ·rw [hm] at h;simp only [cond_false] at h;cases mx with
   | some _=>simp [nS] at hm
   | none =>
   split at h
   ·rename_i a b ha hb
    injection h with h;subst h;have h0:0<=a:=hv _ (by simp);have h1:a<=b:=hv _ (by simp);have h2:b<=l.length:=hv _ (by simp);cases hx with
    | str hr' hl =>
    have hB:=dA (P:=P) (w:=w) (isS:=false) (len:=(v8 l).size) (cap:=(v8 l).size) hr ha (by rw [gB];exact hb) rfl h0 h1 (by rw [gB];exact h2) (.inl rfl);refine .same (v:=.string (v8 ((l.take b.toNat).drop a.toNat))) (aK ho (by rw [hu];simp) (by rw [hu];simp) ?_) (.str ?_ ?_)
    ·simp only [Option.map_none] at hB;simp only [hX,Instr.slice,Sem.run_bind,run_underlying hu,Result.andThen_ok,Option.map_none,Option.isSome_none,Bool.false_eq_true,if_false,Sem.run_pure,hB,Q0]
    ·intro z hz;exact hr' z (List.mem_of_mem_take (List.mem_of_mem_drop hz))
    ·have:=List.length_take_le b.toNat l
     simp only [List.length_drop,List.length_take];omega
   ·cases h
  ·rw [hm] at h;cases h
 ·rename_i e full sz l hu
  cases hk:(uT P e&&Nat.beq sz (szT P e))
  ·rw [hk] at h;cases h
  rw [hk] at h;simp only [cond_true,zba] at h hk;have hsz:=w7.1 hk.2
  split at h
  case h_2=>cases h
  rename_i a b m ha hb hm
  -- what the two forms have in common
  have key:∀ full',(0<=a)->(a<=b)->(b<=l.length)->(mx=none\/(nS hi=true/\m=b))->hn.l=(l.take b.toNat).drop a.toNat ->
    (full'=true->(mx≠none)\/(full=true/\hi=none))->kR P ρ o w I T (.sl full' sz hn.l):=by
   intro full' h0 h1 h2 hmx hl hfull;have hlen:hn.l.length=b.toNat - a.toNat:=by rw [hl];simp;omega
   cases hx with
   | sl0 hc hf =>
    rename_i ad cap
    have hb0:b=0:=by simp at h2;omega
    have ha0:a=0:=by omega
    subst hb0;subst ha0;have hB:=dA (P:=P) (w:=w) (isS:=true) (len:=0) (cap:=cap) hr ha hb hm h0 h1 (by omega) hmx;have hnil:hn.l=[]:=List.eq_nil_of_length_eq_zero (by rw [hlen];rfl);rw [hnil];refine .same (aK (v:=.slice (if (uF mx cap 0)=0 then ad else ad.map (·.add (0 * szT P e))) 0 (uF mx cap 0)) ho (by rw [hu];simp) (by rw [hu];simp) ?_) (.sl0 ?_ ?_)
    ·simp only [hX,Instr.slice,Sem.run_bind,run_underlying hu,Result.andThen_ok,hB,kW hk.1,Sem.run_pure];rfl
    ·cases mx with
     | none=>exact hc
     | some _=>simp [uF]
    ·intro ht;rcases hfull ht with h' | ⟨h',h''⟩
     ·cases mx with
      | none=>exact absurd rfl h'
      | some _=>rfl
     ·cases mx with
      | none=>exact hf h'
      | some _=>rfl
   | sl g e1 e2 e3 e4 e5 e6 e7 e8 e9 e10 =>
    rename_i b0 off cap n
    have hB:=dA (P:=P) (w:=w) (isS:=true) (len:=n) (cap:=cap) hr ha (by rw [e1];exact hb) hm h0 h1 (by omega) hmx
    by_cases hab:a.toNat=b.toNat
    · -- nothing is left
     have hnil:hn.l=[]:=List.eq_nil_of_length_eq_zero (by rw [hlen];omega);rw [hnil];refine .same (aK (v:=.slice (if (uF mx cap b.toNat)=a.toNat then some ⟨b0,off,none⟩ else (some ⟨b0,off,none⟩:Option Addr).map (·.add (a.toNat * szT P e))) 0
       ((uF mx cap b.toNat) - a.toNat)) ho (by rw [hu];simp) (by rw [hu];simp) ?_) (.sl0 ?_ ?_)
     ·simp only [hX,Instr.slice,Sem.run_bind,run_underlying hu,Result.andThen_ok,hB,kW hk.1,Sem.run_pure];rw [show b.toNat - a.toNat=0 by omega]
     ·cases mx with
      | none=>simp only [uF];omega
      | some _=>simp only [uF];omega
     ·intro ht;rcases hfull ht with h' | ⟨h',h''⟩
      ·cases mx with
       | none=>exact absurd rfl h'
       | some _=>simp only [uF];omega
      ·subst h'';simp [jX] at hb
       have:=e4 h'
       cases mx with
       | none=>simp only [uF];omega
       | some _=>simp only [uF];omega
    ·have hne:¬ ((uF mx cap b.toNat)=a.toNat):=by cases mx<;>simp only [uF]<;>omega
     refine .same (aK (v:=.slice (some ⟨b0,off+a.toNat * sz,none⟩) (b.toNat - a.toNat) ((uF mx cap b.toNat) - a.toNat)) ho (by rw [hu];simp) (by rw [hu];simp) ?_)
      (.sl (fun i j=>g (a.toNat+i) j) hlen.symm ?_ ?_ ?_ ?_ ?_ e7 e8 ?_ ?_)
     ·simp only [hX,Instr.slice,Sem.run_bind,run_underlying hu,Result.andThen_ok,hB,kW hk.1,Sem.run_pure,if_neg hne,Option.map_some,bJ,hsz]
     ·cases mx<;>simp only [uF]<;>omega
     ·cases mx<;>simp only [uF]<;>omega
     ·intro ht;rcases hfull ht with h' | ⟨h',h''⟩
      ·cases mx with
       | none=>exact absurd rfl h'
       | some _=>rfl
      ·subst h'';simp [jX] at hb
       have:=e4 h'
       cases mx with
       | none=>simp only [uF];omega
       | some _=>rfl
     ·intro av hav;rw [hl] at hav;exact e5 av (List.mem_of_mem_take (List.mem_of_mem_drop hav))
     ·intro av hav;rw [hl] at hav;exact e6 av (List.mem_of_mem_take (List.mem_of_mem_drop hav))
     ·intro i av j c hi' hj;have hi2:l[a.toNat+i]?=some av:=by
       rw [hl,List.getElem?_drop,List.getElem?_take] at hi'
       split at hi'
       ·exact hi'
       ·cases hi'
      have:=e9 (a.toNat+i) av j c hi2 hj
      rw [show off+a.toNat * sz+i * sz+j=off+(a.toNat+i) * sz+j by rw [Nat.add_mul];omega];exact this
     ·intro i av j c hi' hj;have hi2:l[a.toNat+i]?=some av:=by
       rw [hl,List.getElem?_drop,List.getElem?_take] at hi'
       split at hi'
       ·exact hi'
       ·cases hi'
      exact e10 (a.toNat+i) av j c hi2 hj
  cases mx with
  | some u =>
   simp only [] at h;cases hhi:nS hi
   ·rw [hhi] at h;cases h
   ·rw [hhi] at h;injection h with h;subst h;have hmb:m=b:=hv _ (by simp);exact key true (hv _ (by simp)) (hv _ (by simp)) (hv _ (by simp)) (.inr ⟨hhi,hmb⟩) (hv _ (by simp)) (fun _=>.inl (by simp))
  | none =>
   simp only [] at h;injection h with h;subst h;refine key _ (hv _ (by simp)) (hv _ (by simp)) (hv _ (by simp)) (.inl rfl) (hv _ (by simp)) (fun ht=>.inr ?_);simp only [zba,Bool.not_eq_true'] at ht;exact ⟨ht.1,by cases hi with | none=>rfl | some _=>simp [nS] at ht⟩
 ·rename_i e id n hu
  cases hk:uT P e
  ·rw [hk] at h;cases h
  rw [hk] at h;simp only [cond_true] at h
  split at h
  case h_2=>cases h
  rename_i a b m ha hb hm
  have key:(0<=a)->(a<=b)->(b<=n)->(mx=none\/(nS hi=true/\m=b))->kR P ρ o w I T (.part id (szT P e) a.toNat b.toNat):=by
   intro h0 h1 h2 hmx
   by_cases hab:a.toNat=b.toNat
   ·cases hx with
    | ownNil hT =>
     rename_i a0
     have hB:=dA (P:=P) (w:=w) (isS:=true) (len:=0) (cap:=0) hr ha hb hm h0 h1 (by omega) hmx;rw [<- hab];refine .same (aK (v:=.slice (if (uF mx 0 b.toNat)=a.toNat then a0 else (a0:Option Addr).map (·.add (a.toNat * szT P e))) 0 ((uF mx 0 b.toNat) - a.toNat)) ho (by rw [hu];simp) (by rw [hu];simp) ?_) (.part0 ?_)
     ·simp only [hX,Instr.slice,Sem.run_bind,run_underlying hu,Result.andThen_ok,hB,kW hk,Sem.run_pure];rw [show b.toNat - a.toNat=0 by omega]
     ·have:maxLen=9223372036854775807:=jT
      cases mx<;>simp only [uF]<;>omega
    | own hT hc1 hc2 =>
     rename_i b0 cap
     have hB:=dA (P:=P) (w:=w) (isS:=true) (len:=n) (cap:=cap) hr ha hb hm h0 h1 (by omega) hmx;rw [<- hab];refine .same (aK (v:=.slice (if (uF mx cap b.toNat)=a.toNat then some ⟨b0,0,none⟩ else (some ⟨b0,0,none⟩:Option Addr).map (·.add (a.toNat * szT P e))) 0 ((uF mx cap b.toNat) - a.toNat)) ho (by rw [hu];simp) (by rw [hu];simp) ?_) (.part0 ?_)
     ·simp only [hX,Instr.slice,Sem.run_bind,run_underlying hu,Result.andThen_ok,hB,kW hk,Sem.run_pure];rw [show b.toNat - a.toNat=0 by omega]
     ·cases mx<;>simp only [uF]<;>omega
   ·cases hx with
    | ownNil hT=>simp at h2;omega
    | own hT hc1 hc2 =>
     rename_i b0 cap
     have hB:=dA (P:=P) (w:=w) (isS:=true) (len:=n) (cap:=cap) hr ha hb hm h0 h1 (by omega) hmx;have hne:¬ ((uF mx cap b.toNat)=a.toNat):=by cases mx<;>simp only [uF]<;>omega
     refine .same (aK (v:=.slice (some ⟨b0,0+a.toNat * szT P e,none⟩) (b.toNat - a.toNat) ((uF mx cap b.toNat) - a.toNat)) ho (by rw [hu];simp) (by rw [hu];simp) ?_)
      (.part hT (by omega) rfl ?_ ?_ hc2 (by omega))
     ·simp only [hX,Instr.slice,Sem.run_bind,run_underlying hu,Result.andThen_ok,hB,kW hk,Sem.run_pure,if_neg hne,Option.map_some,bJ]
     ·cases mx<;>simp only [uF]<;>omega
     ·cases mx<;>simp only [uF]<;>omega
  cases mx with
  | some u =>
   simp only [] at h;cases hhi:nS hi
   ·rw [hhi] at h;cases h
   ·rw [hhi] at h;injection h with h;subst h;exact key (hv _ (by simp)) (hv _ (by simp)) (hv _ (by simp)) (.inr ⟨hhi,hv _ (by simp)⟩)
  | none =>
   simp only [] at h;injection h with h;subst h;exact key (hv _ (by simp)) (hv _ (by simp)) (hv _ (by simp)) (.inl rfl)
 ·rename_i e id sz l0 hi0 hu
  cases hk:(uT P e&&Nat.beq sz (szT P e))
  ·rw [hk] at h;cases h
  rw [hk] at h;simp only [cond_true,zba] at h hk;have hsz:=w7.1 hk.2
  split at h
  case h_2=>cases h
  rename_i a b m ha hb hm
  cases mx with
  | some u=>simp only [] at h;cases h
  | none =>
   simp only [] at h;injection h with h;subst h;have h0:0<=a:=hv _ (by simp);have h1:a<=b:=hv _ (by simp);have h2:b<=(hi0:Int) - l0:=hv _ (by simp);have h3:l0<=hi0:=hv _ (by simp);have hb':jX A hi ((hi0 - l0:Nat):Int)=some b:=by rw [Int.ofNat_sub h3];exact hb
   by_cases hab:a.toNat=b.toNat
   ·rw [hab];cases hx with
    | part0 hc =>
     rename_i ad c
     have hB:=dA (P:=P) (w:=w) (isS:=true) (len:=0) (cap:=c) hr ha (by simpa using hb') hm h0 h1 (by omega) (.inl rfl);refine .same (aK (v:=.slice (if (uF none c b.toNat)=a.toNat then ad else ad.map (·.add (a.toNat * szT P e))) 0 ((uF none c b.toNat) - a.toNat)) ho (by rw [hu];simp) (by rw [hu];simp) ?_) (.part0 ?_)
     ·simp only [hX,Instr.slice,Sem.run_bind,run_underlying hu,Result.andThen_ok,hB,kW hk.1,Sem.run_pure];rw [show b.toNat - a.toNat=0 by omega]
     ·simp only [uF];omega
    | part hT p1 p2 p3 p4 p5 p6 =>
     rename_i o' n c b0 cap
     have hB:=dA (P:=P) (w:=w) (isS:=true) (len:=n) (cap:=c) hr ha (by rw [p2];exact hb') hm h0 h1 (by omega) (.inl rfl);refine .same (aK (v:=.slice (if (uF none c b.toNat)=a.toNat then some ⟨b0,o',none⟩ else (some ⟨b0,o',none⟩:Option Addr).map (·.add (a.toNat * szT P e))) 0 ((uF none c b.toNat) - a.toNat)) ho (by rw [hu];simp) (by rw [hu];simp) ?_) (.part0 ?_)
     ·simp only [hX,Instr.slice,Sem.run_bind,run_underlying hu,Result.andThen_ok,hB,kW hk.1,Sem.run_pure];rw [show b.toNat - a.toNat=0 by omega]
     ·simp only [uF];omega
   ·cases hx with
    | part0 hc=>omega
    | part hT p1 p2 p3 p4 p5 p6 =>
     rename_i o' n c b0 cap
     have hB:=dA (P:=P) (w:=w) (isS:=true) (len:=n) (cap:=c) hr ha (by rw [p2];exact hb') hm h0 h1 (by omega) (.inl rfl);have hne:¬ ((uF none c b.toNat)=a.toNat):=by simp only [uF];omega
     refine .same (aK (v:=.slice (some ⟨b0,o'+a.toNat * sz,none⟩) (b.toNat - a.toNat) ((uF none c b.toNat) - a.toNat)) ho (by rw [hu];simp) (by rw [hu];simp) ?_)
      (.part hT (by omega) (by omega) ?_ ?_ p5 (by rw [p6,Nat.add_mul]))
     ·simp only [hX,Instr.slice,Sem.run_bind,run_underlying hu,Result.andThen_ok,hB,kW hk.1,Sem.run_pure,if_neg hne,Option.map_some,bJ,hsz]
     ·simp only [uF];omega
     ·simp only [uF];omega
 ·cases h
end Go.Ab

/- The cells of a list of elements; an append's parts; conversions between strings and bytes. -/
namespace Go.Ab
open Go
def vO (L:List AV):List AV:=L.flatMap AV.cells
theorem nB {sz:Nat} {L:List AV} (h:∀ av∈L,av.cells.length=sz):(vO L).length=L.length * sz:=by
 induction L with
 | nil=>simp [vO]
 | cons a r ih =>
  have h1:=ih fun av hav=>h av (by simp [hav])
  have h2:=h a (by simp);simp only [vO,List.flatMap_cons,zla,zlc] at *;rw [h1,h2,Nat.add_mul];omega
theorem dD {sz:Nat} {L:List AV} (h:∀ av∈L,av.cells.length=sz) {i j:Nat} {av c:AV} (hi:L[i]?=some av) (hj:av.cells[j]?=some c) :
  (vO L)[i * sz+j]?=some c:=by
 induction L generalizing i with
 | nil=>simp at hi
 | cons a r ih =>
  have h2:=h a (by simp);have hjl:j<av.cells.length:=by
   rcases zlg j av.cells.length with h' | h'
   ·exact h'
   ·rw [List.getElem?_eq_none h'] at hj;cases hj
  cases i with
  | zero =>
   simp at hi;subst hi;simp only [vO,List.flatMap_cons,Nat.zero_mul,Nat.zero_add];rw [List.getElem?_append_left hjl];exact hj
  | succ i =>
   simp only [List.getElem?_cons_succ] at hi;have h1:=ih (fun av hav=>h av (by simp [hav])) hi;simp only [vO,List.flatMap_cons];rw [List.getElem?_append_right (by rw [h2,Nat.add_mul];omega),h2];rw [show (i+1) * sz+j - sz=i * sz+j by rw [Nat.add_mul];omega];exact h1
theorem LC {sz:Nat} {L:List AV} (h:∀ av∈L,av.cells.length=sz) {k:Nat} {c:AV} (hk:(vO L)[k]?=some c) :
  ∃ i j av,k=i * sz+j/\L[i]?=some av/\av.cells[j]?=some c:=by
 induction L generalizing k with
 | nil=>simp [vO] at hk
 | cons a r ih =>
  have h2:=h a (by simp);simp only [vO,List.flatMap_cons] at hk;rcases zlg k a.cells.length with hlt | hge
  ·rw [List.getElem?_append_left hlt] at hk;exact ⟨0,k,a,by omega,rfl,hk⟩
  ·rw [List.getElem?_append_right hge] at hk;obtain ⟨i,j,av,e,h3,h4⟩:=ih (fun av hav=>h av (by simp [hav])) hk;refine ⟨i+1,j,av,?_,by simpa using h3,h4⟩;rw [Nat.add_mul];omega
theorem O3 (L M:List AV):vO (L++M)=vO L++vO M:=by simp [vO]
theorem LD {L:List AV} (h:∀ av∈L,∀ c∈av.cells,c.one=true):∀ c∈vO L,c.one=true:=by
 intro c hc;simp only [vO,List.mem_flatMap] at hc;obtain ⟨a,ha,hc⟩:=hc;exact h a ha c hc
def zIr (w:World) (I:Nat->Prop) (C:List Value) (L:List AV):Prop:=∀ k c,(vO L)[k]?=some c->Rep w I Tbl.empty (C.getD k undef) c
structure Src (P:Program) (w:World) (I:Nat->Prop) (sz:Nat) (x:Value) (L:List AV) (news:List Value):Prop where
 len:news.length=L.length * sz
 wid:∀ av∈L,av.cells.length=sz
 one:∀ av∈L,∀ c∈av.cells,c.one=true
 rep:zIr w I news L
 lenOf:∀ w2,(Builtin.lenOf x).run P w2=.ok L.length w2
 max:L.length<=maxLen
 cells:∀ n w2,n<=L.length->(∀ b,b<w.heap.size->w2.heap[b]?=w.heap[b]?)->(Builtin.firstCells sz n x).run P w2=.ok (news.take (n * sz)).toArray w2
theorem Q5 {f:Nat->Value} {n k:Nat} (h:k<n):((List.range n).map f).getD k undef=f k:=by
 simp [List.getD,h]
theorem L7 {P:Program} {w:World} {I:Nat->Prop} {T:Tbl} {x:Value} {full:Bool} {sz:Nat} {l:List AV} (h:Rep w I T x (.sl full sz l)) :
  ∃ news,Src P w I sz x l news:=by
 cases h with
 | sl0 hc hf =>
  rename_i a cap
  refine ⟨[],by simp,by simp,by simp,fun k c hk=>by simp [vO] at hk,fun w2=>by simp [Builtin.lenOf],by simp,fun n w2 hn _=>?_⟩
  have:n=0:=by simpa using hn
  subst this;cases a with
  | none=>simp [Builtin.firstCells]
  | some a=>simp [Builtin.firstCells,loadCells,loadCellsFrom]
 | sl g e1 e2 e3 e4 e5 e6 e7 e8 e9 e10 =>
  rename_i b off cap n
  let cellAt:Nat->Value:=fun k=>((w.cell? ⟨b,off+k,none⟩).getD undef)
  have hcell:∀ k c,(vO l)[k]?=some c->w.cell? ⟨b,off+k,none⟩=some (cellAt k)/\Rep w I Tbl.empty (cellAt k) c:=by
   intro k c hk;obtain ⟨i,j,av,he,h1,h2⟩:=LC e5 hk;have h3:=e9 i av j c h1 h2;have h4:=e10 i av j c h1 h2;subst he;rw [<- Nat.add_assoc];simp only [cellAt];rw [<- Nat.add_assoc,h3];exact ⟨rfl,h4⟩
  refine ⟨(List.range (l.length * sz)).map cellAt,by simp,e5,e6,?_,?_,by omega,?_⟩
  ·intro k c hk;have hlt:k<l.length * sz:=by
    rw [<- nB e5];rcases zlg k (vO l).length with h' | h'
    ·exact h'
    ·rw [List.getElem?_eq_none h'] at hk;cases hk
   rw [Q5 hlt];exact (hcell k c hk).2
  ·intro w2;simp [Builtin.lenOf,e1]
  ·intro m w2 hm hw;simp only [Builtin.firstCells];have hle:m * sz<=l.length * sz:=Nat.mul_le_mul_right _ hm;rw [run_loadCells (P:=P) w2 ⟨b,off,none⟩ (m * sz) cellAt]
   ·congr 2
    rw [<- List.map_take,List.take_range,Nat.min_eq_left hle]
   ·intro j hj;rw [bJ];have hlt:j<(vO l).length:=by rw [nB e5];omega
    have:=(hcell j _ (List.getElem?_eq_getElem hlt)).1
    rw [<- this];exact LG (hw b e8) _ _
theorem zAn {P:Program} {w:World} {I:Nat->Prop} {T:Tbl} {x:Value} {l:List Int} (h:Rep w I T x (.str l)) :
  ∃ news,Src P w I 1 x (l.map (AV.int .u8)) news:=by
 cases h with
 | str hr hl =>
 refine ⟨l.map fun c=>Value.int .u8 c,by simp,?_,?_,?_,?_,by simpa using hl,?_⟩
 ·intro av hav;simp only [List.mem_map] at hav;obtain ⟨c,_,rfl⟩:=hav;rfl
 ·intro av hav c hc;simp only [List.mem_map] at hav;obtain ⟨d,_,rfl⟩:=hav;simp [AV.cells] at hc;subst hc;rfl
 ·intro k c hk;have e:vO (l.map (AV.int .u8))=l.map (AV.int .u8):=by
   simp only [vO,List.flatMap_map]
   have:(fun a=>(AV.int IntKind.u8 a).cells)=fun a=>[AV.int .u8 a]:=by funext a;rfl
   rw [this];exact List.map_eq_flatMap.symm
  rw [e,List.getElem?_map] at hk;cases hlk:l[k]? with
  | none=>rw [hlk] at hk;cases hk
  | some d =>
   rw [hlk] at hk;injection hk with hk;subst hk
   have:(l.map fun c=>Value.int .u8 c).getD k undef=.int .u8 d:=by simp [List.getD,hlk]
   rw [this];exact .int (YM (hr d (List.mem_of_getElem? hlk)))
 ·intro w2;simp [Builtin.lenOf,gB]
 ·intro n w2 hn _;simp only [Builtin.firstCells,Q0,zdz,Sem.run_pure,Nat.mul_one]
  congr 1
  apply Array.ext';simp only [v8,Array.toList_map,List.map_map,List.map_take]
  congr 1
  apply List.map_congr_left;intro c hc
  have:=hr c hc
  simp only [Function.comp,UInt8.toNat_ofNat']
  congr 1
  omega
/-! Append. -/
def b7 (P:Program) (t:TypeId):Bool:=match P.underlying t with | some (.int _)=>false | some _=>true | none=>false
def UJ (P:Program) (t:TypeId):Option TypeId:=match P.underlying t with | some (.slice e)=>some e | _=>none
def fN (P:Program) (e:TypeId):Option Value:=match P.info? e with | some i=>i.zero | none=>none
def kG (P:Program) (e:TypeId):Nat:=match P.info? e with | some i=>i.bytes | none=>0
def cA (P:Program) (t:TypeId):Option TypeId :=
 match UJ P t with
 | some e=>bif (uT P e&&!(Nat.beq (szT P e) 0))&&!(Nat.beq (kG P e) 0) then
   match fN P e with
   | some z=>bif Nat.beq z.cells.size (szT P e) then some e else none
   | none=>none
  else none
 | none=>none
structure i6 (P:Program) (t e:TypeId) (i:TypeInfo) (z:Value):Prop where
 und:P.underlying t=some (.slice e)
 info:P.info? e=some i
 zero:i.zero=some z
 size:i.size=szT P e
 bytes:i.bytes=kG P e
 zsize:z.cells.size=szT P e
 pos:0<szT P e
 known:uT P e=true
 bpos:0<kG P e
theorem gL {P:Program} {t e:TypeId} (h:cA P t=some e):∃ i z,i6 P t e i z:=by
 unfold cA at h
 split at h
 ·rename_i e' he
  cases hk:((uT P e'&&!(Nat.beq (szT P e') 0))&&!(Nat.beq (kG P e') 0))
  ·rw [hk] at h;cases h
  rw [hk] at h;simp only [cond_true,zba,Bool.not_eq_true'] at h hk
  split at h
  ·rename_i z hz
   cases hb:Nat.beq z.cells.size (szT P e')
   ·rw [hb] at h;cases h
   rw [hb] at h;injection h with h;subst h;unfold UJ at he
   split at he
   ·rename_i e'' hu
    injection he with he;subst he;unfold fN at hz
    split at hz
    ·rename_i i hi
     refine ⟨i,z,hu,hi,hz,by simp [szT,hi],by simp [kG,hi],w7.1 hb,?_,hk.1.1,?_⟩
     ·rcases Nat.eq_zero_or_pos (szT P e'') with h0 | h0
      ·have:=hk.1.2;rw [h0] at this;simp at this
      ·exact h0
     ·rcases Nat.eq_zero_or_pos (kG P e'') with h0 | h0
      ·have:=hk.2;rw [h0] at this;simp at this
      ·exact h0
    ·cases hz
   ·cases he
  ·cases h
 ·cases h
theorem SQ {P:Program} {t2:TypeId} (h2:b7 P t2=true):∃ d,P.underlying t2=some d/\(∀ k,d≠.int k):=by
 unfold b7 at h2
 split at h2
 ·cases h2
 ·rename_i d hn hd
  exact ⟨d,hd,fun k e=>hn k e⟩
 ·cases h2
theorem QJ {P:Program} {t t2 e:TypeId} {i:TypeInfo} {z:Value} {w:World} {ty:TypeId} (ht:i6 P t e i z) (h2:b7 P t2=true)
  {base:Option Addr} {sLen sCap n:Nat} {x:Value} {olds news:List Value}
  (hlen:(Builtin.lenOf x).run P w=.ok n w)
  (hfx:∀ w2:World,w2.heap=w.heap->(Builtin.firstCells (szT P e) n x).run P w2=.ok news.toArray w2)
  (hfo:∀ w2:World,w2.heap=w.heap->(Builtin.firstCells (szT P e) sLen (.slice base sLen sCap)).run P w2=.ok olds.toArray w2)
  (hgt:sCap<sLen+n) (hmax:sLen+n<=maxLen) (hb:(sLen+n) * kG P e<=140737488355328) :
  (Builtin.append_ #[t,t2] ty #[.slice base sLen sCap,x]).run P w =
   .ok (.slice (some ⟨w.heap.size,0,none⟩) (sLen+n) (grownCap w (sLen+n) sCap e))
    (w.drew.alloc (.cells (olds.toArray++news.toArray++Builtin.zeroCells z.cells (grownCap w (sLen+n) sCap e - (sLen+n))) e)):=by
 obtain ⟨d,hd,hnd⟩:=SQ h2;have hn:¬ (sLen+n<=sCap):=by omega
 have h63':¬ ((9223372036854775807:Int)<((sLen:Int)+(n:Int))):=by rw [jT] at hmax;omega
 have hg:=growslice_fits hgt hb;rw [<- ht.bytes] at hg;have h48':¬ (281474976710656<Builtin.nextslicecap (sLen+n) sCap * i.bytes):=by omega
 have hfx':=hfx w.drew rfl;have hfo':=hfo w.drew rfl;rw [<- ht.size] at hfx' hfo';simp only [Builtin.append_,List.getElem?_toArray,List.getElem?_cons_zero,List.getElem?_cons_succ,Sem.run_bind,run_underlying ht.und,run_underlying hd,Result.andThen_ok,sizeOf,typeInfo,run_program,
  ht.info,Sem.run_pure]
 simp [hlen,hn,h63',h48',Question.forced,hfx',hfo',newRow,grownCap,zeroValue,typeInfo,ht.info,ht.zero];rw [<- List.append_toArray,Array.append_assoc]
theorem JZ (w:World) (o:Obj):w.grownBy (w.alloc o) none:=⟨rfl,rfl,rfl,by simp,fun k hk _=>heap_alloc_old w o k hk⟩
theorem RJ {w':World} {I:Nat->Prop} {T:Tbl} {b sz n cap:Nat} {L:List AV} {C:Array Value} {t:TypeId} {fr:Nat×Nat} (hh:w'.heap[b]?=some (.cells C t fr)) (hI:I b)
  (hn:n=L.length) (hc:n<=cap) (hm:cap<=maxLen) (hw:∀ av∈L,av.cells.length=sz) (h1:∀ av∈L,∀ c∈av.cells,c.one=true)
  (hl:L.length * sz<=C.size) (hr:∀ k c,(vO L)[k]?=some c->Rep w' I Tbl.empty (C.getD k undef) c) :
  Rep w' I T (.slice (some ⟨b,0,none⟩) n cap) (.sl false sz L):=by
 have hb:b<w'.heap.size:=by
  rcases zlg b w'.heap.size with h' | h'
  ·exact h'
  ·rw [Array.getElem?_eq_none h'] at hh;cases hh
 refine .sl (fun i j=>C.getD (i * sz+j) undef) hn hc hm (by simp) hw h1 hI hb ?_ ?_
 ·intro i av j c hi hj;have hf:=dD hw hi hj;have hlt:i * sz+j<C.size:=by
   have:i * sz+j<(vO L).length:=by
    rcases zlg (i * sz+j) (vO L).length with h' | h'
    ·exact h'
    ·rw [List.getElem?_eq_none h'] at hf;cases hf
   rw [nB hw] at this;omega
  simp [World.cell?,hh,hlt]
 ·intro i av j c hi hj;exact hr _ _ (dD hw hi hj)
theorem QB {A B:List Value} {Z:Array Value} {k:Nat} (h:k<(A++B).length):(A.toArray++B.toArray++Z).getD k undef=(A++B).getD k undef:=by
 simp only [List.append_toArray,Array.getD_eq_getD_getElem?,List.getD];rw [Array.getElem?_append_left (by simpa using h)];simp
theorem zBj {P:Program} {w:World} {I:Nat->Prop} {T:Tbl} {x:Value} {full:Bool} {sz:Nat} (sz':Nat) (h:Rep w I T x (.sl full sz [])):Src P w I sz' x [] []:=by
 have hf:∃ a cap,x=.slice a 0 cap:=by
  generalize hl:([]:List AV)=l at h;cases h with
  | sl0=>exact ⟨_,_,rfl⟩
  | sl g e1=>subst hl;simp at e1;exact ⟨_,_,by rw [e1]⟩
 obtain ⟨a,cap,rfl⟩:=hf;refine ⟨by simp,by simp,by simp,fun k c hk=>by simp [vO] at hk,fun w2=>by simp [Builtin.lenOf],by simp,fun n w2 hn _=>?_⟩
 have:n=0:=by simpa using hn
 subst this;cases a with
 | none=>simp [Builtin.firstCells]
 | some a=>simp [Builtin.firstCells,loadCells,loadCellsFrom]
theorem WE {w:World} {I:Nat->Prop} {T:Tbl} {x:Value} {full:Bool} {sz:Nat} {l:List AV} (h:Rep w I T x (.sl full sz l)):Rep w I T x (.sl false sz l):=by
 cases h with
 | sl0 hc hf=>exact .sl0 hc (by simp)
 | sl g e1 e2 e3 e4 e5 e6 e7 e8 e9 e10=>exact .sl g e1 e2 e3 (by simp) e5 e6 e7 e8 e9 e10
theorem NF {w:World} {I:Nat->Prop} {T:Tbl} {x:Value} {full:Bool} {sz:Nat} {l:List AV} (h:Rep w I T x (.sl full sz l)) :
  ∃ base cap,x=.slice base l.length cap/\cap<=maxLen/\l.length<=cap/\(full=true->cap=l.length):=by
 cases h with
 | sl0 hc hf=>exact ⟨_,_,rfl,hc,by simp,by simpa using hf⟩
 | sl g e1 e2 e3 e4 e5 e6 e7 e8 e9 e10=>exact ⟨_,_,by rw [e1],e3,by omega,by rw [<- e1];exact e4⟩
theorem R7 {w:World} {I:Nat->Prop} {T:Tbl} {x:Value} {full:Bool} {sz:Nat} (sz':Nat) (h:Rep w I T x (.sl full sz [])):Rep w I T x (.sl full sz' []):=by
 obtain ⟨base,cap,rfl,hc,_,hf⟩:=NF h;exact .sl0 hc (by simpa using hf)
theorem O1 {P:Program} {t t2 e:TypeId} {i:TypeInfo} {z:Value} {w:World} {ty:TypeId} (ht:i6 P t e i z) (h2:b7 P t2=true)
  {base:Option Addr} {sLen sCap:Nat} {x:Value} (hlen:(Builtin.lenOf x).run P w=.ok 0 w)
  (hfx:(Builtin.firstCells (szT P e) 0 x).run P w=.ok #[] w) (hle:sLen<=sCap) :
  (Builtin.append_ #[t,t2] ty #[.slice base sLen sCap,x]).run P w=.ok (.slice base sLen sCap) w:=by
 obtain ⟨d,hd,hnd⟩:=SQ h2;rw [<- ht.size] at hfx;simp only [Builtin.append_,List.getElem?_toArray,List.getElem?_cons_zero,List.getElem?_cons_succ,Sem.run_bind,run_underlying ht.und,run_underlying hd,Result.andThen_ok,sizeOf,typeInfo,run_program,
  ht.info,Sem.run_pure]
 cases base<;>simp [hlen,hle,hfx,storeCells]
theorem XS {P:Program} {t t2 e:TypeId} {i:TypeInfo} {z:Value} {x y:Operand} {ρ:Operand->Value} {o:Oper} {w:World} {I:Nat->Prop} {T:Tbl} {l m L:List AV}
  (ho:o.op=.call { callee:=.builtin .append,args:=#[x,y],argTypes:=#[t,t2] }) (ht:i6 P t e i z) (h2:b7 P t2=true)
  (hx:Rep w I T (ρ x) (.sl true (szT P e) l)) {news:List Value} (hs:Src P w I (szT P e) (ρ y) m news) (hL:L=l++m) (hb:(l.length+m.length) * kG P e<=140737488355328) :
  kR P ρ o w I T (.sl false (szT P e) L):=by
 have hmax:l.length+m.length<=maxLen:=by
  have:=Nat.le_mul_of_pos_right (l.length+m.length) ht.bpos
  rw [jT];omega
 have hrun:∀ (v:Value) (w':World),(Builtin.append_ #[t,t2] o.type #[ρ x,ρ y]).run P w=.ok v w'->(execOp ρ o).run P w=.ok (.value v) w':=fun v w' hv=>by
  simp [execOp,ho,resolve,invoke,builtin,hv]
 obtain ⟨olds,hso⟩:=L7 (P:=P) hx;have hxf:=WE hx;obtain ⟨base,cap,hX,_,_,hfull⟩:=NF hx;have hcap:=hfull rfl;subst hcap;rw [hX] at hso hxf
 by_cases hm:m.length=0
 ·have hm0:m=[]:=List.eq_nil_of_length_eq_zero hm;subst hm0;have h0:=hs.cells 0 w (Nat.zero_le _) (fun _ _=>rfl);simp only [Nat.zero_mul,List.take_zero] at h0;refine .same (hrun _ _ (by rw [hX];exact O1 ht h2 (hs.lenOf w) h0 (Nat.le_refl _))) ?_;rw [hL,List.append_nil];exact hxf
 ·have hnew:=QJ (P:=P) (w:=w) (ty:=o.type) ht h2 (base:=base) (sLen:=l.length) (sCap:=l.length) (n:=m.length) (x:=ρ y) (olds:=olds) (news:=news)
   (hs.lenOf w) (fun w2 hw=>by have:=hs.cells m.length w2 (Nat.le_refl _) (fun b _=>by rw [hw]);rwa [List.take_of_length_le (by rw [hs.len];exact Nat.le_refl _)] at this)
   (fun w2 hw=>by have:=hso.cells l.length w2 (Nat.le_refl _) (fun b _=>by rw [hw]);rwa [List.take_of_length_le (by rw [hso.len];exact Nat.le_refl _)] at this)
   (by omega) hmax hb
  have hge:=grownCap_ge w (l.length+m.length) l.length e;have hcm:=grownCap_le_maxLen w (l.length+m.length) l.length e hmax;have hex:=hrun _ _ (by rw [hX];exact hnew);refine ⟨_,_,hex,⟨rfl,rfl,rfl,by simp,fun k hk _=>heap_alloc_old w.drew _ k hk⟩,fun I' T' hI hI2 hT=>?_⟩;have hw:∀ av∈L,av.cells.length=szT P e:=by
   intro av hav;rw [hL] at hav;rcases List.mem_append.1 hav with h | h
   ·exact hso.wid av h
   ·exact hs.wid av h
  have h1:∀ av∈L,∀ c∈av.cells,c.one=true:=by
   intro av hav;rw [hL] at hav;rcases List.mem_append.1 hav with h | h
   ·exact hso.one av h
   ·exact hs.one av h
  have hlo:=hso.len;have hln:=hs.len;refine RJ (heap_alloc_new w.drew _) (hI2 _ (Nat.le_refl _) (by simp)) (by rw [hL];simp) hge hcm hw h1 ?_ ?_
  ·rw [hL];simp only [Array.size_append,List.size_toArray,zla,hlo,hln,Nat.add_mul];omega
  ·intro k c hk;have hmono:∀ {v av},Rep w I Tbl.empty v av->Rep (w.drew.alloc (.cells (olds.toArray++news.toArray++Builtin.zeroCells z.cells (grownCap w (l.length+m.length) l.length e - (l.length+m.length))) e)) I' Tbl.empty v av :=
    fun h=>h.mono (by simp) (fun b _ hlt=>heap_alloc_old w.drew _ b hlt) hI (fun _ _ h=>h)
   have hkl:k<(vO L).length:=by
    rcases zlg k (vO L).length with h' | h'
    ·exact h'
    ·rw [List.getElem?_eq_none h'] at hk;cases hk
   have hfl:=nB hso.wid;have hfm:=nB hs.wid;rw [hL,O3] at hk hkl;rw [zla,hfl,hfm] at hkl;rw [QB (by simp only [zla];omega)];rcases zlg k (vO l).length with hlt | hge'
   ·rw [List.getElem?_append_left hlt] at hk
    have:=hso.rep k c hk
    rw [List.getD_eq_getElem?_getD,List.getElem?_append_left (by omega),<- List.getD_eq_getElem?_getD];exact hmono this
   ·rw [List.getElem?_append_right hge'] at hk
    have:=hs.rep _ c hk
    rw [List.getD_eq_getElem?_getD,List.getElem?_append_right (by omega),<- List.getD_eq_getElem?_getD];rw [hfl,<- hlo] at this;exact hmono this
def NV (_P:Program) (sz:Nat) (y:AV):Option (List AV) :=
 match y with
 | .sl _ sz2 m=>bif Nat.beq sz2 sz||m.isEmpty then some m else none
 | .str m=>bif Nat.beq sz 1 then some (m.map (AV.int .u8)) else none
 | _=>none
theorem VD {P:Program} {w:World} {I:Nat->Prop} {T:Tbl} {v:Value} {sz:Nat} {y:AV} {m:List AV} (hy:Rep w I T v y) (h:NV P sz y=some m):∃ news,Src P w I sz v m news:=by
 unfold NV at h
 split at h
 ·rename_i f sz2 m'
  cases hc:(Nat.beq sz2 sz||m'.isEmpty)
  ·rw [hc] at h;cases h
  rw [hc] at h;injection h with h;subst h;simp only [Bool.or_eq_true] at hc;rcases hc with h1 | h1
  ·rw [<- w7.1 h1];exact L7 hy
  ·have:m'=[]:=by simpa using h1
   subst this;exact ⟨[],zBj sz hy⟩
 ·rename_i m'
  cases hc:Nat.beq sz 1
  ·rw [hc] at h;cases h
  rw [hc] at h;injection h with h;subst h;rw [w7.1 hc];exact zAn hy
 ·cases h
def UA (P:Program) (t t2:TypeId) (x y:AV) (h:wF):Option (List Prop×AV) :=
 match cA P t,x with
 | some e,.sl true sz l =>
  bif (Nat.beq sz (szT P e)||l.isEmpty)&&b7 P t2 then
   match NV P (szT P e) y with
   | some m=>some ([h.l=l++m,(l.length+m.length) * kG P e<=140737488355328],.sl false (szT P e) h.l)
   | none=>none
  else none
 | _,_=>none
theorem zIn {P:Program} {t t2:TypeId} {x y:Operand} {ρ:Operand->Value} {o:Oper} {w:World} {I:Nat->Prop} {T:Tbl} {X Y:AV} {hn:wF} {r:List Prop×AV}
  (ho:o.op=.call { callee:=.builtin .append,args:=#[x,y],argTypes:=#[t,t2] })
  (hx:Rep w I T (ρ x) X) (hy:Rep w I T (ρ y) Y) (h:UA P t t2 X Y hn=some r) (hv:∀ p∈r.1,p):kR P ρ o w I T r.2:=by
 unfold UA at h
 split at h
 ·rename_i e sz l hrow
  obtain ⟨i,z,ht⟩:=gL hrow;cases hc:((Nat.beq sz (szT P e)||l.isEmpty)&&b7 P t2)
  ·rw [hc] at h;cases h
  rw [hc] at h;simp only [cond_true,zba,Bool.or_eq_true] at h hc;have hx':Rep w I T (ρ x) (.sl true (szT P e) l):=by
   rcases hc.1 with h1 | h1
   ·rw [<- w7.1 h1];exact hx
   ·have:l=[]:=by simpa using h1
    subst this;exact R7 _ hx
  split at h
  ·rename_i m hm
   injection h with h;subst h;obtain ⟨news,hs⟩:=VD (P:=P) hy hm;exact XS ho ht hc.2 hx' hs (hv _ (by simp)) (hv _ (by simp))
  ·cases h
 ·cases h
end Go.Ab
