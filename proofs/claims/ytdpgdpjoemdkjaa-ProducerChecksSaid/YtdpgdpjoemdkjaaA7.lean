/- Parts of strings and slices, values built out of parts, conversions, an append to a slice that has no x5. -/
import Derived.Test.YtdpgdpjoemdkjaaA6
namespace Go.Ab
open Go
def zMx:AV→Option Int
 | .int _ i=>some i
 | _=>none
def uF (A:Operand→AV) (x:Option Operand) (d:Int):Option Int :=
 match x with
 | none=>some d
 | some y=>zMx (A y)
def wN:Option Operand→Nat→Nat→Nat
 | none,cap,_=>cap
 | some _,_,b=>b
def zAv:Option Operand→Bool
 | some _=>true
 | none=>false
def zMw (P:Program) (t:TypeId) (A:Operand→AV) (x:Operand) (lo hi mx:Option Operand) (h:xX):Option (List Prop×AV) :=
 match P.underlying t,A x with
 | some .string,.str l =>
  bif zAv mx then none else
  match uF A lo 0,uF A hi l.length with
  | some a,some b=>some ([0≤a,a≤b,b≤l.length],.str ((l.take b.toNat).drop a.toNat))
  | _,_=>none
 | some (.slice e),.sl full sz l =>
  bif wE P e&&Nat.beq sz (szT P e) then
   match uF A lo 0,uF A hi l.length,uF A mx 0 with
   | some a,some b,some m =>
    match mx with
    | some _=>bif zAv hi then some ([0≤a,a≤b,b≤l.length,m=b,h.l=(l.take b.toNat).drop a.toNat],.sl true sz h.l) else none
    | none=>some ([0≤a,a≤b,b≤l.length,h.l=(l.take b.toNat).drop a.toNat],.sl (full&&!(zAv hi)) sz h.l)
   | _,_,_=>none
  else none
 | some (.slice e),.own id n =>
  bif wE P e then
   match uF A lo 0,uF A hi n,uF A mx 0 with
   | some a,some b,some m =>
    match mx with
    | some _=>bif zAv hi then some ([0≤a,a≤b,b≤n,m=b],.part id (szT P e) a.toNat b.toNat) else none
    | none=>some ([0≤a,a≤b,b≤n],.part id (szT P e) a.toNat b.toNat)
   | _,_,_=>none
  else none
 | some (.slice e),.part id sz l0 h0 =>
  bif wE P e&&Nat.beq sz (szT P e) then
   match uF A lo 0,uF A hi ((h0:Int) - l0),uF A mx 0 with
   | some a,some b,some _ =>
    match mx with
    | some _=>none
    | none=>some ([0≤a,a≤b,b≤(h0:Int) - l0,l0≤h0],.part id sz (l0+a.toNat) (l0+b.toNat))
   | _,_,_=>none
  else none
 | _,_=>none
theorem kG {P:Program} {w:World} {v:Value} {k:IntKind} {i:Int} {y:Nat} {c:BoundsCode} (hv:v=.int k i) (h0:0≤i) (h1:i≤y) :
  (Instr.sliceBound v y c).run P w=.ok i.toNat w:=by
 subst hv
 simp [Instr.sliceBound,asIntOf,h0,h1]
theorem uH {P:Program} {w:World} {I:Nat→Prop} {T:Tbl} {ρ:Operand→Value} {A:Operand→AV} {lo hi mx:Option Operand} {len cap:Nat} {isS:Bool} {a b m:Int}
  (hr:∀ y,some y=lo∨some y=hi∨some y=mx→Rep w I T (ρ y) (A y))
  (ha:uF A lo 0=some a) (hb:uF A hi len=some b) (hm:uF A mx 0=some m)
  (h0:0≤a) (h1:a≤b) (h2:b≤cap) (hmx:mx=none∨(zAv hi=true∧m=b)) :
  (Instr.sliceBounds isS len cap (lo.map ρ) (hi.map ρ) (mx.map ρ)).run P w=.ok (a.toNat,b.toNat,wN mx cap b.toNat) w:=by
 have int_of:∀ y i,Rep w I T (ρ y) (A y)→zMx (A y)=some i→∃ k,ρ y=.int k i:=by
  intro y i hy hi
  generalize ρ y=v at hy
  generalize A y=av at hy hi
  cases av<;>simp [zMx] at hi
  subst hi
  cases hy
  exact ⟨_,rfl⟩
 cases mx with
 | none =>
  cases hi with
  | none =>
   simp [uF] at hb
   have hbl:b.toNat=len:=by omega
   cases lo with
   | none=>simp [uF] at ha;subst ha;simp [Instr.sliceBounds,hbl,wN]
   | some y =>
    obtain ⟨k,hk⟩:=int_of y a (hr y (.inl rfl)) ha
    simp only [wN,Instr.sliceBounds,Option.map_none,Option.map_some,Sem.run_bind,Sem.run_pure,Result.andThen_ok,kG (y:=len) hk h0 (by omega),hbl]
  | some z =>
   obtain ⟨k',hk'⟩:=int_of z b (hr z (.inr (.inl rfl))) hb
   cases lo with
   | none =>
    simp [uF] at ha;subst ha
    simp only [wN,Instr.sliceBounds,Option.map_none,Option.map_some,Sem.run_bind,Sem.run_pure,Result.andThen_ok,kG (y:=cap) hk' (by omega) h2]
    rfl
   | some y =>
    obtain ⟨k,hk⟩:=int_of y a (hr y (.inl rfl)) ha
    simp only [wN,Instr.sliceBounds,Option.map_none,Option.map_some,Sem.run_bind,Sem.run_pure,Result.andThen_ok,kG (y:=cap) hk' (by omega) h2,
     kG (y:=b.toNat) hk h0 (by omega)]
 | some u =>
  rcases hmx with h | ⟨hhi,hmb⟩
  ·cases h
  ·subst hmb
   cases hi with
   | none=>simp [zAv] at hhi
   | some z =>
    obtain ⟨k',hk'⟩:=int_of z m (hr z (.inr (.inl rfl))) hb
    obtain ⟨k2,hk2⟩:=int_of u m (hr u (.inr (.inr rfl))) hm
    cases lo with
    | none =>
     simp [uF] at ha;subst ha
     simp only [wN,Instr.sliceBounds,Option.map_none,Option.map_some,Sem.run_bind,Sem.run_pure,Result.andThen_ok,kG (y:=cap) hk2 (by omega) h2,
      kG (y:=m.toNat) hk' (by omega) (by omega)]
     rfl
    | some y =>
     obtain ⟨k,hk⟩:=int_of y a (hr y (.inl rfl)) ha
     simp only [wN,Instr.sliceBounds,Option.map_some,Sem.run_bind,Sem.run_pure,Result.andThen_ok,kG (y:=cap) hk2 (by omega) h2,
      kG (y:=m.toNat) hk' (by omega) (by omega),kG (y:=m.toNat) hk h0 (by omega)]
theorem zE1 (l:List Int) (a b:Nat):(vI l).extract a b=vI ((l.take b).drop a):=by
 apply WideShapes.bytes_inj
 simp only [vI,ByteArray.data_extract,Array.toList_extract,List.extract_eq_take_drop,List.map_drop,List.map_take,List.drop_take]
theorem uC {P:Program} {t:TypeId} {x:Operand} {lo hi mx:Option Operand} {ρ:Operand→Value} {o:Oper} {w:World} {v:Value}
  (ho:o.op=.slice t x lo hi mx) (hn:∀ n e,P.underlying t≠some (.array n e)) (hs:P.underlying t≠none) (h:(Instr.slice t (ρ x) (lo.map ρ) (hi.map ρ) (mx.map ρ)).run P w=.ok v w) :
  (execOp ρ o).run P w=.ok (.value v) w:=by
 cases hu:P.underlying t with
 | none=>exact absurd hu hs
 | some d =>
  simp only [execOp,ho,Instr.sliceAt,Sem.run_bind,run_underlying hu,Result.andThen_ok]
  cases d<;>first | exact absurd hu (hn _ _) | (simp only [h,Result.andThen_ok];rfl)
theorem zLn {P:Program} {t:TypeId} {x:Operand} {lo hi mx:Option Operand} {ρ:Operand→Value} {A:Operand→AV} {o:Oper} {w:World} {I:Nat→Prop} {T:Tbl} {hn:xX} {r:List Prop×AV}
  (ho:o.op=.slice t x lo hi mx) (hx:Rep w I T (ρ x) (A x)) (hr:∀ y,some y=lo∨some y=hi∨some y=mx→Rep w I T (ρ y) (A y))
  (h:zMw P t A x lo hi mx hn=some r) (hv:∀ p∈r.1,p):n8 P ρ o w I T r.2:=by
 unfold zMw at h
 generalize hX:ρ x=vx at hx
 generalize A x=X at hx h
 split at h
 ·rename_i l hu
  cases hm:zAv mx
  ·rw [hm] at h
   simp only [cond_false] at h
   cases mx with
   | some _=>simp [zAv] at hm
   | none =>
   split at h
   ·rename_i a b ha hb
    injection h with h;subst h
    have h0:0≤a:=hv _ (by simp)
    have h1:a≤b:=hv _ (by simp)
    have h2:b≤l.length:=hv _ (by simp)
    cases hx with
    | str hr' hl =>
    have hB:=uH (P:=P) (w:=w) (isS:=false) (len:=(vI l).size) (cap:=(vI l).size) hr ha (by rw [zAr];exact hb) rfl h0 h1 (by rw [zAr];exact h2) (.inl rfl)
    refine .same (v:=.string (vI ((l.take b.toNat).drop a.toNat))) (uC ho (by rw [hu];simp) (by rw [hu];simp) ?_) (.str ?_ ?_)
    ·simp only [Option.map_none] at hB
     simp only [hX,Instr.slice,Sem.run_bind,run_underlying hu,Result.andThen_ok,Option.map_none,Option.isSome_none,Bool.false_eq_true,if_false,Sem.run_pure,hB,zE1]
    ·intro z hz
     exact hr' z (List.mem_of_mem_take (List.mem_of_mem_drop hz))
    ·have:=List.length_take_le b.toNat l
     simp only [List.length_drop,List.length_take]
     omega
   ·cases h
  ·rw [hm] at h;cases h
 ·rename_i e full sz l hu
  cases hk:(wE P e&&Nat.beq sz (szT P e))
  ·rw [hk] at h;cases h
  rw [hk] at h
  simp only [cond_true,Bool.and_eq_true] at h hk
  have hsz:=x6.1 hk.2
  split at h
  case h_2=>cases h
  rename_i a b m ha hb hm
  -- what the two forms have in common
  have key:∀ full',(0≤a)→(a≤b)→(b≤l.length)→(mx=none∨(zAv hi=true∧m=b))→hn.l=(l.take b.toNat).drop a.toNat →
    (full'=true→(mx≠none)∨(full=true∧hi=none))→n8 P ρ o w I T (.sl full' sz hn.l):=by
   intro full' h0 h1 h2 hmx hl hfull
   have hlen:hn.l.length=b.toNat - a.toNat:=by rw [hl];simp;omega
   cases hx with
   | sl0 hc hf =>
    rename_i ad cap
    have hb0:b=0:=by simp at h2;omega
    have ha0:a=0:=by omega
    subst hb0;subst ha0
    have hB:=uH (P:=P) (w:=w) (isS:=true) (len:=0) (cap:=cap) hr ha hb hm h0 h1 (by omega) hmx
    have hnil:hn.l=[]:=List.eq_nil_of_length_eq_zero (by rw [hlen];rfl)
    rw [hnil]
    refine .same (uC (v:=.slice (if (wN mx cap 0)=0 then ad else ad.map (·.add (0 * szT P e))) 0 (wN mx cap 0)) ho (by rw [hu];simp) (by rw [hu];simp) ?_) (.sl0 ?_ ?_)
    ·simp only [hX,Instr.slice,Sem.run_bind,run_underlying hu,Result.andThen_ok,hB,vC hk.1,Sem.run_pure]
     rfl
    ·cases mx with
     | none=>exact hc
     | some _=>simp [wN]
    ·intro ht
     rcases hfull ht with h' | ⟨h',h''⟩
     ·cases mx with
      | none=>exact absurd rfl h'
      | some _=>rfl
     ·cases mx with
      | none=>exact hf h'
      | some _=>rfl
   | sl g e1 e2 e3 e4 e5 e6 e7 e8 e9 e10 =>
    rename_i b0 off cap n
    have hB:=uH (P:=P) (w:=w) (isS:=true) (len:=n) (cap:=cap) hr ha (by rw [e1];exact hb) hm h0 h1 (by omega) hmx
    by_cases hab:a.toNat=b.toNat
    · -- nothing is left
     have hnil:hn.l=[]:=List.eq_nil_of_length_eq_zero (by rw [hlen];omega)
     rw [hnil]
     refine .same (uC (v:=.slice (if (wN mx cap b.toNat)=a.toNat then some ⟨b0,off,none⟩ else (some ⟨b0,off,none⟩:Option Addr).map (·.add (a.toNat * szT P e))) 0
       ((wN mx cap b.toNat) - a.toNat)) ho (by rw [hu];simp) (by rw [hu];simp) ?_) (.sl0 ?_ ?_)
     ·simp only [hX,Instr.slice,Sem.run_bind,run_underlying hu,Result.andThen_ok,hB,vC hk.1,Sem.run_pure]
      rw [show b.toNat - a.toNat=0 by omega]
     ·cases mx with
      | none=>simp only [wN];omega
      | some _=>simp only [wN];omega
     ·intro ht
      rcases hfull ht with h' | ⟨h',h''⟩
      ·cases mx with
       | none=>exact absurd rfl h'
       | some _=>simp only [wN];omega
      ·subst h''
       simp [uF] at hb
       have:=e4 h'
       cases mx with
       | none=>simp only [wN];omega
       | some _=>simp only [wN];omega
    ·have hne:¬ ((wN mx cap b.toNat)=a.toNat):=by cases mx<;>simp only [wN]<;>omega
     refine .same (uC (v:=.slice (some ⟨b0,off+a.toNat * sz,none⟩) (b.toNat - a.toNat) ((wN mx cap b.toNat) - a.toNat)) ho (by rw [hu];simp) (by rw [hu];simp) ?_)
      (.sl (fun i j=>g (a.toNat+i) j) hlen.symm ?_ ?_ ?_ ?_ ?_ e7 e8 ?_ ?_)
     ·simp only [hX,Instr.slice,Sem.run_bind,run_underlying hu,Result.andThen_ok,hB,vC hk.1,Sem.run_pure,if_neg hne,Option.map_some,zAS,hsz]
     ·cases mx<;>simp only [wN]<;>omega
     ·cases mx<;>simp only [wN]<;>omega
     ·intro ht
      rcases hfull ht with h' | ⟨h',h''⟩
      ·cases mx with
       | none=>exact absurd rfl h'
       | some _=>rfl
      ·subst h''
       simp [uF] at hb
       have:=e4 h'
       cases mx with
       | none=>simp only [wN];omega
       | some _=>rfl
     ·intro av hav
      rw [hl] at hav
      exact e5 av (List.mem_of_mem_take (List.mem_of_mem_drop hav))
     ·intro av hav
      rw [hl] at hav
      exact e6 av (List.mem_of_mem_take (List.mem_of_mem_drop hav))
     ·intro i av j c hi' hj
      have hi2:l[a.toNat+i]?=some av:=by
       rw [hl,List.getElem?_drop,List.getElem?_take] at hi'
       split at hi'
       ·exact hi'
       ·cases hi'
      have:=e9 (a.toNat+i) av j c hi2 hj
      rw [show off+a.toNat * sz+i * sz+j=off+(a.toNat+i) * sz+j by rw [Nat.add_mul];omega]
      exact this
     ·intro i av j c hi' hj
      have hi2:l[a.toNat+i]?=some av:=by
       rw [hl,List.getElem?_drop,List.getElem?_take] at hi'
       split at hi'
       ·exact hi'
       ·cases hi'
      exact e10 (a.toNat+i) av j c hi2 hj
  cases mx with
  | some u =>
   simp only [] at h
   cases hhi:zAv hi
   ·rw [hhi] at h;cases h
   ·rw [hhi] at h
    injection h with h;subst h
    have hmb:m=b:=hv _ (by simp)
    exact key true (hv _ (by simp)) (hv _ (by simp)) (hv _ (by simp)) (.inr ⟨hhi,hmb⟩) (hv _ (by simp)) (fun _=>.inl (by simp))
  | none =>
   simp only [] at h
   injection h with h;subst h
   refine key _ (hv _ (by simp)) (hv _ (by simp)) (hv _ (by simp)) (.inl rfl) (hv _ (by simp)) (fun ht=>.inr ?_)
   simp only [Bool.and_eq_true,Bool.not_eq_true'] at ht
   exact ⟨ht.1,by cases hi with | none=>rfl | some _=>simp [zAv] at ht⟩
 ·rename_i e id n hu
  cases hk:wE P e
  ·rw [hk] at h;cases h
  rw [hk] at h
  simp only [cond_true] at h
  split at h
  case h_2=>cases h
  rename_i a b m ha hb hm
  have key:(0≤a)→(a≤b)→(b≤n)→(mx=none∨(zAv hi=true∧m=b))→n8 P ρ o w I T (.part id (szT P e) a.toNat b.toNat):=by
   intro h0 h1 h2 hmx
   by_cases hab:a.toNat=b.toNat
   ·cases hx with
    | ownNil hT =>
     rename_i a0
     have hB:=uH (P:=P) (w:=w) (isS:=true) (len:=0) (cap:=0) hr ha hb hm h0 h1 (by omega) hmx
     rw [← hab]
     refine .same (uC (v:=.slice (if (wN mx 0 b.toNat)=a.toNat then a0 else (a0:Option Addr).map (·.add (a.toNat * szT P e))) 0 ((wN mx 0 b.toNat) - a.toNat)) ho (by rw [hu];simp) (by rw [hu];simp) ?_) (.part0 ?_)
     ·simp only [hX,Instr.slice,Sem.run_bind,run_underlying hu,Result.andThen_ok,hB,vC hk,Sem.run_pure]
      rw [show b.toNat - a.toNat=0 by omega]
     ·have:maxLen=9223372036854775807:=w7
      cases mx<;>simp only [wN]<;>omega
    | own hT hc1 hc2 =>
     rename_i b0 cap
     have hB:=uH (P:=P) (w:=w) (isS:=true) (len:=n) (cap:=cap) hr ha hb hm h0 h1 (by omega) hmx
     rw [← hab]
     refine .same (uC (v:=.slice (if (wN mx cap b.toNat)=a.toNat then some ⟨b0,0,none⟩ else (some ⟨b0,0,none⟩:Option Addr).map (·.add (a.toNat * szT P e))) 0 ((wN mx cap b.toNat) - a.toNat)) ho (by rw [hu];simp) (by rw [hu];simp) ?_) (.part0 ?_)
     ·simp only [hX,Instr.slice,Sem.run_bind,run_underlying hu,Result.andThen_ok,hB,vC hk,Sem.run_pure]
      rw [show b.toNat - a.toNat=0 by omega]
     ·cases mx<;>simp only [wN]<;>omega
   ·cases hx with
    | ownNil hT=>simp at h2;omega
    | own hT hc1 hc2 =>
     rename_i b0 cap
     have hB:=uH (P:=P) (w:=w) (isS:=true) (len:=n) (cap:=cap) hr ha hb hm h0 h1 (by omega) hmx
     have hne:¬ ((wN mx cap b.toNat)=a.toNat):=by cases mx<;>simp only [wN]<;>omega
     refine .same (uC (v:=.slice (some ⟨b0,0+a.toNat * szT P e,none⟩) (b.toNat - a.toNat) ((wN mx cap b.toNat) - a.toNat)) ho (by rw [hu];simp) (by rw [hu];simp) ?_)
      (.part hT (by omega) rfl ?_ ?_ hc2 (by omega))
     ·simp only [hX,Instr.slice,Sem.run_bind,run_underlying hu,Result.andThen_ok,hB,vC hk,Sem.run_pure,if_neg hne,Option.map_some,zAS]
     ·cases mx<;>simp only [wN]<;>omega
     ·cases mx<;>simp only [wN]<;>omega
  cases mx with
  | some u =>
   simp only [] at h
   cases hhi:zAv hi
   ·rw [hhi] at h;cases h
   ·rw [hhi] at h
    injection h with h;subst h
    exact key (hv _ (by simp)) (hv _ (by simp)) (hv _ (by simp)) (.inr ⟨hhi,hv _ (by simp)⟩)
  | none =>
   simp only [] at h
   injection h with h;subst h
   exact key (hv _ (by simp)) (hv _ (by simp)) (hv _ (by simp)) (.inl rfl)
 ·rename_i e id sz l0 hi0 hu
  cases hk:(wE P e&&Nat.beq sz (szT P e))
  ·rw [hk] at h;cases h
  rw [hk] at h
  simp only [cond_true,Bool.and_eq_true] at h hk
  have hsz:=x6.1 hk.2
  split at h
  case h_2=>cases h
  rename_i a b m ha hb hm
  cases mx with
  | some u=>simp only [] at h;cases h
  | none =>
   simp only [] at h
   injection h with h;subst h
   have h0:0≤a:=hv _ (by simp)
   have h1:a≤b:=hv _ (by simp)
   have h2:b≤(hi0:Int) - l0:=hv _ (by simp)
   have h3:l0≤hi0:=hv _ (by simp)
   have hb':uF A hi ((hi0 - l0:Nat):Int)=some b:=by rw [Int.ofNat_sub h3];exact hb
   by_cases hab:a.toNat=b.toNat
   ·rw [hab]
    cases hx with
    | part0 hc =>
     rename_i ad c
     have hB:=uH (P:=P) (w:=w) (isS:=true) (len:=0) (cap:=c) hr ha (by simpa using hb') hm h0 h1 (by omega) (.inl rfl)
     refine .same (uC (v:=.slice (if (wN none c b.toNat)=a.toNat then ad else ad.map (·.add (a.toNat * szT P e))) 0 ((wN none c b.toNat) - a.toNat)) ho (by rw [hu];simp) (by rw [hu];simp) ?_) (.part0 ?_)
     ·simp only [hX,Instr.slice,Sem.run_bind,run_underlying hu,Result.andThen_ok,hB,vC hk.1,Sem.run_pure]
      rw [show b.toNat - a.toNat=0 by omega]
     ·simp only [wN];omega
    | part hT p1 p2 p3 p4 p5 p6 =>
     rename_i o' n c b0 cap
     have hB:=uH (P:=P) (w:=w) (isS:=true) (len:=n) (cap:=c) hr ha (by rw [p2];exact hb') hm h0 h1 (by omega) (.inl rfl)
     refine .same (uC (v:=.slice (if (wN none c b.toNat)=a.toNat then some ⟨b0,o',none⟩ else (some ⟨b0,o',none⟩:Option Addr).map (·.add (a.toNat * szT P e))) 0 ((wN none c b.toNat) - a.toNat)) ho (by rw [hu];simp) (by rw [hu];simp) ?_) (.part0 ?_)
     ·simp only [hX,Instr.slice,Sem.run_bind,run_underlying hu,Result.andThen_ok,hB,vC hk.1,Sem.run_pure]
      rw [show b.toNat - a.toNat=0 by omega]
     ·simp only [wN];omega
   ·cases hx with
    | part0 hc=>omega
    | part hT p1 p2 p3 p4 p5 p6 =>
     rename_i o' n c b0 cap
     have hB:=uH (P:=P) (w:=w) (isS:=true) (len:=n) (cap:=c) hr ha (by rw [p2];exact hb') hm h0 h1 (by omega) (.inl rfl)
     have hne:¬ ((wN none c b.toNat)=a.toNat):=by simp only [wN];omega
     refine .same (uC (v:=.slice (some ⟨b0,o'+a.toNat * sz,none⟩) (b.toNat - a.toNat) ((wN none c b.toNat) - a.toNat)) ho (by rw [hu];simp) (by rw [hu];simp) ?_)
      (.part hT (by omega) (by omega) ?_ ?_ p5 (by rw [p6,Nat.add_mul]))
     ·simp only [hX,Instr.slice,Sem.run_bind,run_underlying hu,Result.andThen_ok,hB,vC hk.1,Sem.run_pure,if_neg hne,Option.map_some,zAS,hsz]
     ·simp only [wN];omega
     ·simp only [wN];omega
 ·cases h
end Go.Ab
