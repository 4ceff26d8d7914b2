/- Lemmas. No conditions but those that they name. -/
import Derived.Test.YtcejcgalbcnjnaaGreatA17
namespace Go.Ab
open Go
def U5 (P:Program) (t:TypeId):Bool:=match P.underlying t with | some (.slice e)=>u5 P e | _=>false
theorem zGG {P:Program} {t:TypeId} (h:U5 P t=true):∃ e,P.underlying t=some (.slice e)/\u5 P e=true:=by
 unfold U5 at h
 split at h
 ·exact ⟨_,by assumption,h⟩
 ·cases h
def xop (P:Program) (np:Nat) (o:Oper) (rs:List (Nat×AV)) (B:Nat->zR) (h:wA):Option (List Prop×Eff) :=
 match o.op with
 | .slice t x none (some y) none =>
  bif (xK x&&xK y)&&U5 P t then
   match y7 rs x,y7 rs y with
   | .own id n,.int _ m =>
    match B id with
    | .live (.row e sz l)=>some ([m=h.n,h.n<=n,h.l=l.take h.n],{ rs:=rs,rb:=[(id,B id)],dst:=o.dst.map fun d=>(d,.own id h.n),wb:=[(id,.live (.row e sz h.l))] })
    | _=>none
   | _,_=>none
  else none
 | .load t x =>
  bif xK x then
   match zBP P t (y7 rs x) B with
   | some (vc,id,av)=>some (vc,{ rs:=rs,rb:=[(id,B id)],dst:=o.dst.map fun d=>(d,av) })
   | none =>
    match zAD P t (y7 rs x) B with
    | some (vc,id,av)=>some (vc,{ rs:=rs,rb:=[(id,B id)],dst:=o.dst.map fun d=>(d,av) })
    | none=>none
  else none
 | .store t x y =>
  bif (xK x&&xK y)&&o.dst.isNone then
   match zAN P t (y7 rs x) (y7 rs y) B with
   | some (vc,id,bx)=>some (vc,{ rs:=rs,rb:=[(id,B id)],wb:=[(id,.live bx)] })
   | none =>
    match zAn P t (y7 rs x) (y7 rs y) B with
    | some (vc,id,bx)=>some (vc,{ rs:=rs,rb:=[(id,B id)],wb:=[(id,.live bx)] })
    | none=>none
  else none
 | .slice t x (some y) none none =>
  bif (xK x&&xK y)&&nF (B h.id) then
   match y7 rs x,y7 rs y,P.underlying t with
   | .own id n,.int _ m,some (.slice e) =>
    match B id with
    | .live (.row e' sz l)=>bif (u5 P e&&Nat.beq sz (szT P e))&&Nat.ble np id then
      some ([m=h.n,h.n<=n,n=l.length,h.l=l.drop h.n,h.m=n - h.n],
       { rs:=rs,rb:=[(h.id,.unused),(id,B id)],dst:=o.dst.map fun d=>(d,.own h.id h.m),wb:=[(h.id,.live (.row e' sz h.l)),(id,.dead)] })
     else none
    | _=>none
   | _,_,_=>none
  else none
 | _=>none
theorem zNA {P:Program} {N np:Nat} {o:Oper} {x y:Operand} {t:TypeId} {rs:List (Nat×AV)} {B:Nat->zR} {k:IntKind} {n:Int} {id m hm:Nat} {e sz:Nat} {l:List AV}
  (ho:o.op=.slice t x none (some y) none) (hx:xK x=true) (hy:xK y=true) (ht:U5 P t=true) (hX:y7 rs x=.own id m) (hY:y7 rs y=.int k n)
  (hB:B id=.live (.row e sz l)) (hn:n=hm) (hle:hm<=m) (hd:qF N o.dst=true) :
  qH P N np o { rs:=rs,rb:=[(id,B id)],dst:=o.dst.map fun d=>(d,.own id hm),wb:=[(id,.live (.row e sz (l.take hm)))] }:=by
 intro G st a w hN hnp hE ⟨T,hT⟩;have hrx:=uS hT hE.1 hx;have hry:=uS hT hE.1 hy;rw [hX] at hrx;rw [hY] at hry;have hb:st.box id=.live (.row e sz l):=(hE.2 (id,B id) (by simp)).trans hB;generalize hvx:a.eval x=vx at hrx;generalize hvy:a.eval y=vy at hry;cases hry with
 | int wn =>
 obtain ⟨e',he,hk⟩:=zGG ht;subst hn;have hboxes:=hT.boxes id _ hb;have hrun:∀ (base:Option Addr) (cap:Nat),hm<=cap->(Instr.slice t (.slice base m cap) none (some (.int k (hm:Int))) none).run P w=.ok (.slice (if cap=0 then base else base.map (·.add 0)) hm cap) w:=by
  intro base cap hc;simp only [Instr.slice,vV,run_underlying he,v6,Instr.sliceBounds,jV,dO hk];rw [KO (P:=P) (w:=w) (y:=cap) rfl (by omega) (by omega)];simp only [v6,wB,Nat.zero_mul,Nat.sub_zero]
 cases hrx with
 | ownNil hTi =>
  rename_i a0
  have h0:hm=0:=by omega
  subst h0;refine jN (mO ho (by rw [he];simp) (by rw [he];simp) (by simp only [hvx,hvy,cP,kH];exact hrun a0 0 (yI _))) ?_;have hnil:l=[]:=by
   rcases hboxes with ⟨_,h⟩ | ⟨b,cap,C,hp,_⟩
   ·exact h
   ·rw [hTi] at hp;cases hp
  subst hnil;have hst:(st.upd { rs:=rs,rb:=[(id,B id)],dst:=o.dst.map fun d=>(d,.own id 0),wb:=[(id,.live (.row e sz (([]:List AV).take 0)))] }).box=st.box:=by
   funext i
   rw [EV];simp only [AC,WX]
   by_cases hi:i=id
   ·rw [if_pos hi,hi,hb]
   ·rw [if_neg hi]
  refine hT.quiet (nC w) hst (by simp [tY]) ?_;intro d av hE';obtain ⟨hlt,rfl⟩:=tW hd hE';exact ⟨by omega,.ownNil hTi⟩
 | own hTi h1 h2 =>
  rename_i b cap
  refine jN (mO ho (by rw [he];simp) (by rw [he];simp) (by simp only [hvx,hvy,cP,kH];exact hrun _ (v7 cap) (by omega))) ?_;refine hT.write (bx':=.row e sz (l.take hm)) (b:=b) (cap:=cap) hb hTi ⟨rfl,rfl,rfl,yI _,fun _ _ _=>rfl⟩ rfl (by simp [tY]) ?_ ?_
  ·rcases hboxes with ⟨hp,h⟩ | ⟨b',cap',C,hp,hh,k1,k2,k3,k4,k5,k6⟩
   ·exact .inl ⟨hp,by rw [h];simp⟩
   ·refine .inr ⟨b',cap',C,hp,hh,k1,by rw [nL];omega,k3,fun av hav=>k4 av (aK hav),fun av hav=>k5 av (aK hav),fun i av j c hi hj=>k6 i av j c ?_ hj⟩;rw [aY] at hi
    split at hi
    ·exact hi
    ·cases hi
  ·intro d av hE';obtain ⟨hlt,rfl⟩:=tW hd hE';refine ⟨by omega,?_⟩
   have:(if v7 cap=0 then some (⟨b,xR cap,none⟩:Addr) else (some (⟨b,xR cap,none⟩:Addr)).map (·.add 0))=some ⟨b,xR cap,none⟩:=by
    split
    ·rfl
    ·simp [Addr.add]
   rw [this];exact .own hTi (by omega) h2
theorem zOJ {P:Program} {N np:Nat} {o:Oper} {x y:Operand} {t:TypeId} {rs:List (Nat×AV)} {B:Nat->zR} {k:IntKind} {n:Int} {hid id m hm:Nat} {e e':TypeId} {sz:Nat} {l:List AV}
  (ho:o.op=.slice t x (some y) none none) (hx:xK x=true) (hy:xK y=true) (he:P.underlying t=some (.slice e)) (hk:u5 P e=true) (hX:y7 rs x=.own id m) (hY:y7 rs y=.int k n)
  (hB:B id=.live (.row e' sz l)) (hs:sz=szT P e) (hid2:np<=id) (hn:n=hm) (hle:hm<=m) (hml:m=l.length) (hd:qF N o.dst=true) :
  qH P N np o { rs:=rs,rb:=[(hid,.unused),(id,B id)],dst:=o.dst.map fun d=>(d,.own hid (m - hm)),wb:=[(hid,.live (.row e' sz (l.drop hm))),(id,.dead)] }:=by
 intro G st a w hN hnp hE ⟨T,hT⟩;have hrx:=uS hT hE.1 hx;have hry:=uS hT hE.1 hy;rw [hX] at hrx;rw [hY] at hry;have hu:st.box hid=.unused:=hE.2 (hid,.unused) (by simp);have hb:st.box id=.live (.row e' sz l):=(hE.2 (id,B id) (by simp)).trans hB;generalize hvx:a.eval x=vx at hrx;generalize hvy:a.eval y=vy at hry;cases hry with
 | int wn =>
 subst hn;have hboxes:=hT.boxes id _ hb;have hrun:∀ (base:Option Addr) (cap:Nat),m<=cap->(Instr.slice t (.slice base m cap) (some (.int k (hm:Int))) none none).run P w=.ok (.slice (if cap=hm then base else base.map (·.add (hm * szT P e))) (m - hm) (cap - hm)) w:=by
  intro base cap hc;simp only [Instr.slice,vV,run_underlying he,v6,Instr.sliceBounds,jV,dO hk];rw [KO (P:=P) (w:=w) (y:=m) rfl (by omega) (by omega)];simp only [v6,wB]
 cases hrx with
 | ownNil hTi =>
  rename_i a0
  have h0:hm=0:=by omega
  subst h0;refine jN (mO ho (by rw [he];simp) (by rw [he];simp) (by simp only [hvx,hvy,cP,kH];exact hrun a0 0 (yI _))) ?_;have hnil:l=[]:=by
   rcases hboxes with ⟨_,h⟩ | ⟨b,cap,C,hp,_⟩
   ·exact h
   ·rw [hTi] at hp;cases hp
  subst hnil;refine hT.move (p:=.nil) (row:=none) hb hu (by omega) (fun g hg=>by cases hg) (nC w) rfl (by simp [tY]) (fun b c hp=>by cases hp) ?_ ?_
  ·intro I T' _ _;exact .inl ⟨rfl,by simp⟩
  ·intro d av he';obtain ⟨hlt',rfl⟩:=tW hd he';exact ⟨by omega,fun I T' hT'=>.ownNil hT'⟩
 | own hTi h1 h2 =>
  rename_i b cap
  refine jN (mO ho (by rw [he];simp) (by rw [he];simp) (by simp only [hvx,hvy,cP,kH];exact hrun _ (v7 cap) (by omega))) ?_;rcases hboxes with ⟨hp,_⟩ | ⟨b',cap',C,hp,hh,k1,k2,k3,k4,k5,k6⟩
  ·rw [hTi] at hp;cases hp
  rw [hTi] at hp;injection hp with hp;injection hp with hp1 hp2;subst hp1;subst hp2;have hne:∀ c,imm G st T c->c≠b:=fun c hc e=>by subst e;exact hc.2 id _ cap hb hTi
  by_cases hall:v7 cap=hm
  ·have hl0:l.drop hm=[]:=zBz (by omega);refine hT.move (p:=.at b (xR cap * 18446744073709551616+0)) (row:=none) hb hu (by omega) (fun g hg=>by cases hg) (nC w) rfl (by simp [tY]) (fun b c hp=>by injection hp with hp1 hp2;subst hp1;exact .inr ⟨cap,hTi⟩) ?_ ?_
   ·intro I T' hI _;rw [hl0];refine .inr ⟨b,_,C,rfl,hh,?_,by simp,?_,by simp,by simp,by simp⟩
    ·rw [lC (wI _),R5 (wI _)];omega
    ·rw [lC (wI _)];exact wI _
   ·intro d av he';obtain ⟨hlt',rfl⟩:=tW hd he';refine ⟨by omega,fun I T' hT'=>?_⟩
    have:=Rep.own (w:=w) (I:=I) (n:=m - hm) hT' (by rw [lC (wI _)];omega) (by rw [lC (wI _)];exact wI _)
    rw [lC (wI _),R5 (wI _)] at this;rw [if_pos hall,hall,GS];exact this
  ·have hr:v7 cap - hm<=maxLen:=by omega
   refine hT.move (p:=.at b ((xR cap+hm * szT P e) * 18446744073709551616+(v7 cap - hm))) (row:=none) hb hu (by omega) (fun g hg=>by cases hg) (nC w) rfl (by simp [tY]) (fun b c hp=>by injection hp with hp1 hp2;subst hp1;exact .inr ⟨cap,hTi⟩) ?_ ?_
   ·intro I T' hI _;refine .inr ⟨b,_,C,rfl,hh,?_,?_,?_,fun av hav=>k4 av (bS hav),fun av hav=>k5 av (bS hav),?_⟩
    ·rw [lC hr,R5 hr,<- hs]
     have:=t6 hm (v7 cap - hm) sz
     rw [show hm+(v7 cap - hm)=v7 cap by omega] at this;omega
    ·rw [lC hr,DU];omega
    ·rw [lC hr];exact hr
    ·intro i av j c hi hj;rw [gH] at hi
     have:=k6 (hm+i) av j c hi hj
     rw [R5 hr,<- hs,show xR cap+hm * sz+(i * sz+j)=xR cap+((hm+i) * sz+j) by rw [t6];omega];exact this.mono (yI _) (fun _ _ _=>rfl) hI (fun _ _ h=>h)
   ·intro d av he';obtain ⟨hlt',rfl⟩:=tW hd he';refine ⟨by omega,fun I T' hT'=>?_⟩
    have:=Rep.own (w:=w) (I:=I) (n:=m - hm) hT' (by rw [lC hr];omega) (by rw [lC hr];exact hr)
    rw [lC hr,R5 hr] at this;rw [if_neg hall,kH,mC];exact this
theorem zHN {P:Program} {N np:Nat} {o:Oper} {rs:List (Nat×AV)} {st:AS} {hn:wA} {r:List Prop×Eff} (h:xop P np o rs st.box hn=some r) (hr:∀ x∈rs,st.slot x.1=x.2)
  (hv:∀ p∈r.1,p) (hd:qF N o.dst=true):r.2.holds st/\qH P N np o r.2:=by
 unfold xop at h
 split at h
 ·rename_i t x y ho
  replace h:=xM h;obtain ⟨hu,h⟩:=h;simp only [zba] at hu
  split at h
  ·rename_i id m k n hX hY
   split at h
   ·rename_i e sz l hB
    injection h with h;subst h;have e1:hn.l=l.take hn.n:=hv _ (by simp);refine ⟨⟨hr,fun x hx=>by simp at hx;subst hx;rfl⟩,?_⟩;simp only [e1];exact zNA ho hu.1.1 hu.1.2 hu.2 hX hY hB (hv _ (by simp)) (hv _ (by simp)) hd
   ·cases h
  ·cases h
 ·rename_i t x ho
  replace h:=xM h;obtain ⟨hu,h⟩:=h
  split at h
  ·rename_i vc id av hb
   injection h with h;subst h;exact ⟨⟨hr,fun x hx=>by simp at hx;subst hx;rfl⟩,zJI ho hu hb hv hd⟩
  ·split at h
   ·rename_i vc id av hb
    injection h with h;subst h;exact ⟨⟨hr,fun x hx=>by simp at hx;subst hx;rfl⟩,zIy ho hu hb hv hd⟩
   ·cases h
 ·rename_i t x y ho
  replace h:=xM h;obtain ⟨hu,h⟩:=h;simp only [zba,OF] at hu
  split at h
  ·rename_i vc id bx hb
   injection h with h;subst h;exact ⟨⟨hr,fun x hx=>by simp at hx;subst hx;rfl⟩,zLw ho hu.1.1 hu.1.2 hb hv hu.2⟩
  ·split at h
   ·rename_i vc id bx hb
    injection h with h;subst h;exact ⟨⟨hr,fun x hx=>by simp at hx;subst hx;rfl⟩,zG8 ho hu.1.1 hu.1.2 hb hv hu.2⟩
   ·cases h
 ·rename_i t x y ho
  replace h:=xM h;obtain ⟨hu,h⟩:=h;simp only [zba] at hu
  split at h
  ·rename_i id m k n e hX hY he
   split at h
   ·rename_i e' sz l hB
    replace h:=xM h;obtain ⟨hc,h⟩:=h;simp only [zba] at hc;injection h with h;subst h;have e1:hn.l=l.drop hn.n:=hv _ (by simp);have e2:hn.m=m - hn.n:=hv _ (by simp);refine ⟨⟨hr,fun x hx=>by simp at hx;rcases hx with rfl | rfl;exact bK hu.2;rfl⟩,?_⟩;simp only [e1,e2];exact zOJ ho hu.1.1 hu.1.2 he hc.1.1 hX hY hB (wT.1 hc.1.2) (zle hc.2) (hv _ (by simp)) (hv _ (by simp)) (hv _ (by simp)) hd
   ·cases h
  ·cases h
 ·cases h
def inK (l:List Nat) (i:Nat):Bool:=l.any (Nat.beq i)
def zCg (kp:List Nat) (wb:List (Nat×zR)) (B:Nat->zR):List Prop :=
 match kp with
 | []=>[]
 | _=>[(wb.filter fun x=>inK kp x.1).map (·.2)=(wb.filter fun x=>inK kp x.1).map fun x=>B x.1]
def zB8 (kp:List Nat) (wb:List (Nat×zR)):List (Nat×zR) :=
 match kp with
 | []=>wb
 | _=>wb.filter fun x=>!inK kp x.1
theorem zDq {kp:List Nat} {f:Nat->zR}:∀ {wb:List (Nat×zR)},(∀ x∈wb,inK kp x.1=true->x.2=f x.1)->∀ i,yJ (wb.filter fun x=>!inK kp x.1) i (f i)=yJ wb i (f i)
 | [],_,_=>rfl
 | (k,b)::r,h,i=>by
  have ih:=zDq (wb:=r) (fun x hx=>h x (by simp [hx])) i;cases hk:inK kp k with
  | false =>
   rw [List.filter_cons_of_pos (by simp [hk])];simp only [yJ];rw [ih]
  | true =>
   rw [List.filter_cons_of_neg (by simp [hk]),ih];simp only [yJ];cases e:Nat.beq i k with
   | false=>rfl
   | true =>
    have e':=wT.1 e;subst e';have hb:=h (i,b) (by simp) hk;simp only at hb;rw [cond_true,hb]
    have:∀ (r:List (Nat×zR)),(∀ x∈r,inK kp x.1=true->x.2=f x.1)->yJ r i (f i)=f i:=by
     intro r
     induction r with
     | nil=>intro _;rfl
     | cons y r ih =>
      intro hr;simp only [yJ];cases e:Nat.beq i y.1 with
      | false=>exact ih fun x hx=>hr x (by simp [hx])
      | true =>
       have e':=wT.1 e;rw [cond_true,hr y (by simp) (by rw [<- e'];exact hk),e']
    exact this r fun x hx=>h x (by simp [hx])
theorem zHQ {P:Program} {np:Nat} {A:Operand->AV} {f:Operand} {args:List Operand} {B:Nat->zR} {h:wA} {r:List Prop×List (Nat×zR)×AV} (hb:MY P np A f args B h=some r):∀ x∈r.2.1,x.1∈h.ids++h.gids:=by
 unfold MY at hb
 split at hb
 ·cases hb
 ·replace hb:=xM hb;obtain ⟨_,hb⟩:=hb;injection hb with hb;subst hb;intro x hx;simp only [wL,vB] at hx ⊢;rcases hx with hx | ⟨i,hi,rfl⟩
  ·exact .inl (List.of_mem_zip hx).1
  ·exact .inr hi
theorem zGk {P:Program} {N np:Nat} {o:Oper} {rs:List (Nat×AV)} {rb wb:List (Nat×zR)} {dst:Option (Nat×AV)} {kp:List Nat} {B:Nat->zR} (h:qH P N np o { rs:=rs,rb:=rb,dst:=dst,wb:=wb })
  (hv:∀ p∈zCg kp wb B,p) (hb:∀ x∈wb,(x.1,B x.1)∈rb):qH P N np o { rs:=rs,rb:=rb,dst:=dst,wb:=zB8 kp wb }:=by
 cases kp with
 | nil=>exact h
 | cons k0 kr =>
  intro G st a w hN hnp hE hR;have hE2:Eff.holds { rs:=rs,rb:=rb,dst:=dst,wb:=wb } st:=hE;have h2:=h G st a w hN hnp hE2 hR;have hv0:(wb.filter fun x=>inK (k0::kr) x.1).map (·.2)=(wb.filter fun x=>inK (k0::kr) x.1).map fun x=>B x.1:=hv _ (uO.2 rfl)
  have hs:∀ x∈wb,inK (k0::kr) x.1=true->x.2=st.box x.1:=by
   intro x hx hk;have hm:x∈wb.filter fun x=>inK (k0::kr) x.1:=mG.2 ⟨hx,hk⟩
   have:=List.map_inj_left.1 hv0 x hm
   rw [this];exact (hE.2 (x.1,B x.1) (hb x hx)).symm
  have e:st.upd { rs:=rs,rb:=rb,dst:=dst,wb:=zB8 (k0::kr) wb }=st.upd { rs:=rs,rb:=rb,dst:=dst,wb:=wb }:=by
   unfold AS.upd
   congr 1
   funext i
   exact zDq hs i
  rw [e];exact h2
def bU:Op->List Operand
 | .move x | .assign x | .box _ x | .load _ x | .nilCheck x | .unOp _ _ x | .convert _ _ x | .fieldAddr _ x _ | .field _ x _ | .extract x _=>[x]
 | .pick c a b=>[c,a,b]
 | .build _ ps | .buildSlice _ _ ps=>ps.toList.map (·.2)
 | .mapUpdate _ m k v | .insert _ m k v=>[m,k,v]
 | .lookup _ a v _ | .store _ a v | .binOp _ _ a v _ | .makeSlice _ a v | .indexAddr _ a v | .index _ a v=>[a,v]
 | .makeFunc _ first captured=>first.toList++captured.toList
 | .slice _ x l h m=>x::(l.toList++(h.toList++m.toList))
 | .call { callee:=.value f,args:=args,.. }=>f::args.toList
 | .call { callee:=.builtin _,args:=args,.. }=>args.toList
 | _=>[]
theorem zAt (st:AS) (xs:List Operand):∀ x∈aA st xs,st.slot x.1=x.2:=by
 induction xs with
 | nil=>intro x hx;cases hx
 | cons a r ih =>
  intro x hx;cases a with
  | tmp t =>
   simp only [aA,uA] at hx;rcases hx with rfl | hx
   ·rfl
   ·exact ih x hx
  | _=>exact ih x hx
def bop (P:Program) (np:Nat) (o:Oper) (rs:List (Nat×AV)) (B:Nat->zR) (h:wA):Option (List Prop×Eff) :=
 match o.op with
 | .alloc t =>
  bif nF (B h.id) then
   match GR P t with
   | some cs=>some ([],{ rs:=rs,rb:=[(h.id,.unused)],dst:=o.dst.map fun d=>(d,.ptr h.id 0 0 0),wb:=[(h.id,.live (.var t cs))] })
   | none=>none
  else none
 | .box t x =>
  bif nF (B h.id)&&(xK x&&bN (y7 rs x)) then
   some ([],{ rs:=rs,rb:=[(h.id,.unused)],dst:=o.dst.map fun d=>(d,.ptr h.id 0 0 0),wb:=[(h.id,.live (.var t (y7 rs x).cells))] })
  else none
 | .load t x =>
  bif xK x then
   match zAQ P t (y7 rs x) B h with
   | some (vc,id,av)=>some (vc,{ rs:=rs,rb:=[(id,B id)],dst:=o.dst.map fun d=>(d,av) })
   | none=>none
  else none
 | .store t x y =>
  bif (xK x&&xK y)&&o.dst.isNone then
   match zBj P t (y7 rs x) (y7 rs y) B h with
   | some (vc,id,bx)=>some (vc,{ rs:=rs,rb:=[(id,B id)],wb:=[(id,.live bx)] })
   | none=>none
  else none
 | .makeSlice t x y =>
  bif nF (B h.id)&&(xK x&&xK y) then
   match zAB P t (y7 rs x) (y7 rs y) h with
   | some (vc,bx,av)=>some (vc,{ rs:=rs,rb:=[(h.id,.unused)],dst:=o.dst.map fun d=>(d,av),wb:=[(h.id,.live bx)] })
   | none=>none
  else none
 | .buildSlice t len parts =>
  bif nF (B h.id)&&parts.toList.all (fun p=>xK p.2) then
   match zAH P t len (y7 rs) parts.toList h with
   | some (bx,av)=>some ([],{ rs:=rs,rb:=[(h.id,.unused)],dst:=o.dst.map fun d=>(d,av),wb:=[(h.id,.live bx)] })
   | none=>none
  else none
 | .call { callee:=.builtin b,args:=args,argTypes:=ts } =>
  match b,args.toList,ts.toList with
  | .append,[x,y],[t,t2] =>
   bif xK x&&xK y then
    match ZY P t t2 (y7 rs x) (nz (y7 rs y)) B h with
    | some (vc,ids,id,bx,av) =>
     bif nF (B h.id)&&Nat.ble np id then
      some (vc,{ rs:=rs,rb:=(h.id,.unused)::(id,B id)::ids.map (fun i=>(i,B i)),dst:=o.dst.map fun d=>(d,av),wb:=[(h.id,.live bx),(id,.dead)] })
     else none
    | none=>none
   else none
  | .len,[x],[t] =>
   bif xK x then
    match zB7 P t (y7 rs x) B h with
    | some (vc,id,av)=>some (vc,{ rs:=rs,rb:=[(id,B id)],dst:=o.dst.map fun d=>(d,av) })
    | none=>none
   else none
  | .copy,[x,y],[t,_] =>
   bif xK x&&xK y then
    match ZG P t (y7 rs x) (nz (y7 rs y)) B h with
    | some (vc,ids,id,bx,av)=>some (vc,{ rs:=rs,rb:=(id,B id)::ids.map (fun i=>(i,B i)),dst:=o.dst.map fun d=>(d,av),wb:=[(id,.live bx)] })
    | none=>none
   else none
  | _,_,_=>none
 | .binOp op t x y _ =>
  bif xK x&&xK y then
   match YO P op t (y7 rs x) (y7 rs y) h with
   | some (vc,av)=>some (vc,{ rs:=rs,dst:=o.dst.map fun d=>(d,av) })
   | none=>none
  else none
 | .makeMap _ none=>bif nF (B h.id) then some ([],{ rs:=rs,rb:=[(h.id,.unused)],dst:=o.dst.map fun d=>(d,.mp h.id),wb:=[(h.id,.live (.map h.mag h.mks []))] }) else none
 | .lookup t x y ok =>
  bif xK x&&xK y then
   match Y7 P t (y7 rs x) (y7 rs y) ok B h with
   | some (vc,id,av)=>some (vc,{ rs:=rs,rb:=[(id,B id)],dst:=o.dst.map fun d=>(d,av) })
   | none =>
    match zAG P t (y7 rs x) (y7 rs y) ok h with
    | some (vc,av)=>some (vc,{ rs:=rs,dst:=o.dst.map fun d=>(d,av) })
    | none=>none
  else none
 | .mapUpdate t x y z =>
  bif (xK x&&(xK y&&xK z))&&o.dst.isNone then
   match NF P t (y7 rs x) (y7 rs y) (y7 rs z) B h with
   | some (vc,id,bx)=>some (vc,{ rs:=rs,rb:=[(id,B id)],wb:=[(id,.live bx)] })
   | none=>none
  else none
 | .insert t x y z =>
  bif (xK x&&(xK y&&xK z))&&o.dst.isNone then
   match NF P t (y7 rs x) (y7 rs y) (y7 rs z) B h with
   | some (vc,id,bx)=>some (vc,{ rs:=rs,rb:=[(id,B id)],wb:=[(id,.live bx)] })
   | none=>none
  else none
 | .call { callee:=.value f,args:=args,argTypes:=_ } =>
  bif xK f&&args.toList.all xK then
   match MY P np (y7 rs) f args.toList B h with
   | some (vc,wb,av)=>some (vc++zCg h.kp wb B,{ rs:=rs,rb:=(h.ids++h.gids++h.lend).map (fun i=>(i,B i)),dst:=o.dst.map fun d=>(d,av),wb:=zB8 h.kp wb })
   | none=>none
  else none
 | _=>none
def zET (P:Program) (o:Oper) (rs:List (Nat×AV)) (B:Nat->zR) (h:wA):Option (List Prop×Eff) :=
 match o.op,ZB P o.type with
 | .assign x,some e=>bif VJ x&&nF (B h.id) then some ([],{ rs:=rs,rb:=[(h.id,.unused)],dst:=o.dst.map fun d=>(d,.own h.id 0),wb:=[(h.id,.live (.row e (szT P e) []))] }) else none
 | .move x,some e=>bif VJ x&&nF (B h.id) then some ([],{ rs:=rs,rb:=[(h.id,.unused)],dst:=o.dst.map fun d=>(d,.own h.id 0),wb:=[(h.id,.live (.row e (szT P e) []))] }) else none
 | _,_=>none
def X5 (P:Program) (N np:Nat) (o:Oper) (h:wA) (st:AS):Option (List Prop×Eff) :=
 bif qF N o.dst then
  bif h.x then xop P np o (aA st (bU o.op)) st.box h else
  bif isNilOp o&&Nat.beq h.m 1 then zET P o (aA st (bU o.op)) st.box h
  else
   match vop P o (y7 (aA st (bU o.op))) h with
   | some (vc,av)=>some (vc,{ rs:=aA st (bU o.op),dst:=o.dst.map fun d=>(d,av) })
   | none=>bop P np o (aA st (bU o.op)) st.box h
 else none
where isNilOp (o:Oper):Bool:=match o.op with | .assign _=>true | .move _=>true | _=>false
theorem B4 {a b:Nat} (h:Nat.ble a b=true):a<=b:=zle h
theorem zKe {P:Program} {N np:Nat} {o:Oper} {rs:List (Nat×AV)} {st:AS} {hn:wA} {r:List Prop×Eff} (h:bop P np o rs st.box hn=some r) (hr:∀ x∈rs,st.slot x.1=x.2)
  (hv:∀ p∈r.1,p) (hd:qF N o.dst=true):r.2.holds st/\qH P N np o r.2:=by
 unfold bop at h
 split at h
 ·rename_i t ho
  replace h:=xM h;obtain ⟨hu,h⟩:=h
  split at h
  ·rename_i cs hb
   injection h with h;subst h;exact ⟨⟨hr,fun x hx=>by simp at hx;subst hx;exact bK hu⟩,zND ho hb hd⟩
  ·cases h
 ·rename_i t x ho
  replace h:=xM h;obtain ⟨hu,h⟩:=h;simp only [zba] at hu;injection h with h;subst h;exact ⟨⟨hr,fun x hx=>by simp at hx;subst hx;exact bK hu.1⟩,zMh ho hu.2.1 hu.2.2 hd⟩
 ·rename_i t x ho
  replace h:=xM h;obtain ⟨hu,h⟩:=h
  split at h
  ·rename_i vc id av hb
   injection h with h;subst h;exact ⟨⟨hr,fun x hx=>by simp at hx;subst hx;rfl⟩,zNQ ho hu hb hv hd⟩
  ·cases h
 ·rename_i t x y ho
  replace h:=xM h;obtain ⟨hu,h⟩:=h;simp only [zba,OF] at hu
  split at h
  ·rename_i vc id bx hb
   injection h with h;subst h;exact ⟨⟨hr,fun x hx=>by simp at hx;subst hx;rfl⟩,zJt ho hu.1.1 hu.1.2 hb hv hu.2⟩
  ·cases h
 ·rename_i t x y ho
  replace h:=xM h;obtain ⟨hu,h⟩:=h;simp only [zba] at hu
  split at h
  ·rename_i vc bx av hb
   injection h with h;subst h;exact ⟨⟨hr,fun x hx=>by simp at hx;subst hx;exact bK hu.1⟩,zKJ ho hu.2.1 hu.2.2 hb hv hd⟩
  ·cases h
 ·rename_i t len parts ho
  replace h:=xM h;obtain ⟨hu,h⟩:=h;simp only [zba,tC] at hu
  split at h
  ·rename_i bx av hb
   injection h with h;subst h;exact ⟨⟨hr,fun x hx=>by simp at hx;subst hx;exact bK hu.1⟩,zKw ho hu.2 hb hd⟩
  ·cases h
 ·rename_i b args ts ho
  split at h
  ·rename_i x y t t2 ha ht
   rw [GQ ha,GQ ht] at ho;replace h:=xM h;obtain ⟨hu,h⟩:=h;simp only [zba] at hu
   split at h
   ·rename_i vc ids id bx av hb
    replace h:=xM h;obtain ⟨hu2,h⟩:=h;simp only [zba] at hu2;injection h with h;subst h;refine ⟨⟨hr,fun x hx=>?_⟩,zNK ho hu.1 hu.2 hb hv hd (B4 hu2.2)⟩;simp only [uA,vB] at hx;rcases hx with rfl | rfl | ⟨i,_,rfl⟩
    ·exact bK hu2.1
    ·rfl
    ·rfl
   ·cases h
  ·rename_i x t ha ht
   rw [SY ha,SY ht] at ho;replace h:=xM h;obtain ⟨hu,h⟩:=h
   split at h
   ·rename_i vc id av hb
    injection h with h;subst h;exact ⟨⟨hr,fun x hx=>by simp at hx;subst hx;rfl⟩,zOq ho hu hb hv hd⟩
   ·cases h
  ·rename_i x y t t2 ha ht
   rw [GQ ha,GQ ht] at ho;replace h:=xM h;obtain ⟨hu,h⟩:=h;simp only [zba] at hu
   split at h
   ·rename_i vc ids id bx av hb
    injection h with h;subst h;refine ⟨⟨hr,fun x hx=>?_⟩,zJq ho hu.1 hu.2 hb hv hd⟩;simp only [uA,vB] at hx;rcases hx with rfl | ⟨i,_,rfl⟩
    ·rfl
    ·rfl
   ·cases h
  ·cases h
 ·rename_i op t x y yT ho
  replace h:=xM h;obtain ⟨hu,h⟩:=h;simp only [zba] at hu
  split at h
  ·rename_i vc av hb
   injection h with h;subst h;exact ⟨⟨hr,fun x hx=>by simp at hx⟩,zHy ho hu.1 hu.2 hb hv hd⟩
  ·cases h
 ·rename_i t ho
  replace h:=xM h;obtain ⟨hu,h⟩:=h;injection h with h;subst h;exact ⟨⟨hr,fun x hx=>by simp at hx;subst hx;exact bK hu⟩,zIv ho hd⟩
 ·rename_i t x y ok ho
  replace h:=xM h;obtain ⟨hu,h⟩:=h;simp only [zba] at hu
  split at h
  ·rename_i vc id av hb
   injection h with h;subst h;exact ⟨⟨hr,fun x hx=>by simp at hx;subst hx;rfl⟩,zMR ho hu.1 hu.2 hb hv hd⟩
  ·split at h
   ·rename_i vc av hb
    injection h with h;subst h;exact ⟨⟨hr,fun x hx=>by simp at hx⟩,zL8 ho hu.1 hu.2 hb hv hd⟩
   ·cases h
 ·rename_i t x y z ho
  replace h:=xM h;obtain ⟨hu,h⟩:=h;simp only [zba,OF] at hu
  split at h
  ·rename_i vc id bx hb
   injection h with h;subst h;exact ⟨⟨hr,fun x hx=>by simp at hx;subst hx;rfl⟩,zEh ho hu.1.1 hu.1.2.1 hu.1.2.2 hb hv hu.2⟩
  ·cases h
 ·rename_i t x y z ho
  replace h:=xM h;obtain ⟨hu,h⟩:=h;simp only [zba,OF] at hu
  split at h
  ·rename_i vc id bx hb
   injection h with h;subst h;exact ⟨⟨hr,fun x hx=>by simp at hx;subst hx;rfl⟩,zJ3 ho hu.1.1 hu.1.2.1 hu.1.2.2 hb hv hu.2⟩
  ·cases h
 ·rename_i f args ts ho
  replace h:=xM h;obtain ⟨hu,h⟩:=h;simp only [zba,tC] at hu
  split at h
  ·rename_i vc wb av hb
   injection h with h;subst h;refine ⟨⟨hr,fun x hx=>by simp only [vB] at hx;obtain ⟨i,_,rfl⟩:=hx;rfl⟩,zGk (B:=st.box) (zN7 ho hu.1 hu.2 hb (fun p hp=>hv p (wL.2 (.inl hp))) hd) (fun p hp=>hv p (wL.2 (.inr hp))) fun x hx=>?_⟩;have hm:=zHQ hb x hx;simp only [vB];exact ⟨x.1,by simp only [wL] at hm ⊢;exact .inl hm,rfl⟩
  ·cases h
 ·cases h
theorem zGg {P:Program} {N np:Nat} {o:Oper} {st:AS} {hn:wA} {r:List Prop×Eff} (h:X5 P N np o hn st=some r) (hv:∀ p∈r.1,p):r.2.holds st/\qH P N np o r.2:=by
 unfold X5 at h;replace h:=xM h;obtain ⟨hd,h⟩:=h;have hr:=zAt st (bU o.op);cases hxx:hn.x
 case true=>rw [hxx] at h;simp only [cond_true] at h;exact zHN h hr hv hd
 rw [hxx] at h;simp only [cond_false] at h;cases hm:(X5.isNilOp o&&Nat.beq hn.m 1)
 ·rw [hm] at h;simp only [cond_false] at h
  split at h
  ·rename_i vc av hvop
   injection h with h;subst h;exact ⟨⟨hr,fun x hx=>by simp at hx⟩,zHi hvop hv hd⟩
  ·exact zKe h hr hv hd
 ·rw [hm] at h;simp only [cond_true] at h;unfold zET at h
  split at h
  ·rename_i x e ho he
   replace h:=xM h;obtain ⟨hu,h⟩:=h;simp only [zba] at hu;injection h with h;subst h;exact ⟨⟨hr,fun x hx=>by simp at hx;subst hx;exact bK hu.2⟩,zDs (.inl ho) hu.1 hd⟩
  ·rename_i x e ho he
   replace h:=xM h;obtain ⟨hu,h⟩:=h;simp only [zba] at hu;injection h with h;subst h;exact ⟨⟨hr,fun x hx=>by simp at hx;subst hx;exact bK hu.2⟩,zDs (.inr ho) hu.1 hd⟩
  ·cases h
def FSh.dec:FSh->AV->Option (AV×List Box)
 | .pm t,.agg cs=>some (.ptr 0 0 0 0,[.var t cs])
 | .nm e sz ev esz,.tuple [.sl _ _ l,.bool m,.agg x,.sl _ _ es]=>some (.own 0 (l.length+(bif m then 1 else 0)),[.rowQ e sz l m (x++[.own 1 es.length]),.row ev esz es])
 | _,_=>none
def gL (w:World) (I:Nat->Prop) (sh:FSh) (ps:List zY) (v:Value) (c:AV):Prop :=
 ∃ av bs,sh.dec c=some (av,bs)/\ps.length=bs.length/\Rep w I (fun i=>ps[i]?) v av/\∀ (i:Nat) (bx:Box),bs[i]?=some bx->uJ w I (fun i=>ps[i]?) (ps[i]?) bx
def gB (w:World) (I Hd:Nat->Prop) (b:Nat) (ag:Bool) (ks:List KSh) (sh:FSh) (l:List (AV×AV)) (ex:AV->Prop) (exv:Value->Prop):Prop :=
 ∃ (E:Array MapEntry) (clock:Nat) (P:Nat->List zY),Hd b/\w.heap[b]?=some (.map E clock)/\E.size=l.length/\l.length<=maxLen/\MapKept.Stamped E clock/\(∀ x∈l,uI ag ks x.1=true) /\
  (∀ (i:Nat) (x:AV×AV),l[i]?=some x->∃ e:MapEntry,E[i]?=some e/\Rep w I Tbl.empty e.key x.1/\(ex x.1->exv e.val)/\(¬ ex x.1->gL w I sh (P i) e.val x.2)) /\
  (∀ (i:Nat) (x:AV×AV),l[i]?=some x->ex x.1->P i=[])/\(∀ i,l.length<=i->P i=[]) /\
  (∀ (i j b1 c1:Nat),(P i)[j]?=some (zY.at b1 c1)->Hd b1/\b1≠b) /\
  (∀ (i j i' j' b1 c1 c2:Nat),(P i)[j]?=some (zY.at b1 c1)->(P i')[j']?=some (zY.at b1 c2)->i=i'/\j=j')
structure jU (G G':wQ) (Hd:Nat->Prop):Prop where
 pin:∀ i,G.pin i=none
 n:G'.n=G.n
 foot:G'.foot=G.foot
 kept:CQ G G'.w0
 I0:∀ b,G'.I0 b->G.I0 b\/G.mine b
 gift:∀ b,G'.gift b->G.mine b
 scr:∀ b,G'.scr b->G.scr b
 hid:∀ b,Hd b->b<G'.w0.heap.size/\G.mine b/\¬ G'.I0 b/\¬ G'.gift b/\¬ G'.scr b/\¬ G'.has b
theorem jU.refl {G:wQ} (h:∀ i,G.pin i=none):jU G G (fun _=>False) :=
 ⟨h,rfl,rfl,⟨rfl,rfl,rfl,yI _,fun _ _ _ _=>rfl⟩,fun _ h=>.inl h,fun _ h=>.inr h,fun _ h=>h,fun _ h=>h.elim⟩
section
variable {G G':wQ} {Hd:Nat->Prop} {st:AS} {T:Tbl} {a:Act} {w:World}
theorem jU.mine (L:jU G G' Hd) {b:Nat} (h:G'.mine b):G.mine b:=by
 rcases h with h | h
 ·exact .inl (kX L.kept.size h)
 ·exact L.gift b h
theorem jU.imm (L:jU G G' Hd) {b:Nat} (hb:Go.Ab.imm G' st T b):Go.Ab.imm G st T b:=by
 refine ⟨?_,hb.2⟩;rcases hb.1 with h | h
 ·exact L.I0 b h
 ·exact .inr (L.mine h)
theorem jU.keeps (L:jU G G' Hd) (h:CQ G' w):CQ G w:=by
 refine ⟨h.os.trans L.kept.os,h.tape.trans L.kept.tape,h.output.trans L.kept.output,kX L.kept.size h.size,fun b hb hn hn2=>?_⟩;refine (h.block b (kZ hb L.kept.size) (fun ⟨cap,hm⟩=>hn ⟨cap,by rw [<- L.foot];exact hm⟩) ?_).trans (L.kept.block b hb hn hn2);rintro (hg | hs)
 ·rcases L.gift b hg with h1 | h1
  ·omega
  ·exact hn2 (.inl h1)
 ·exact hn2 (.inr (L.scr b hs))
theorem jU.out (L:jU G G' Hd) (h:uF G' st T a w):uF G st T a w :=
 ⟨h.defers,h.size.trans L.n,fun t=>(h.slots t).mono (yI _) (fun _ _ _=>rfl) (fun b hb _=>L.imm hb) (fun _ _ h=>h),
  fun id bx hl=>(h.boxes id bx hl).mono (yI _) (fun _ _ _=>rfl) (fun b hb _=>L.imm hb) (fun _ _ h=>h) (fun _ _ _ _=>rfl),h.unused,h.apart,
  fun id bx b cap hl hT hge=>L.mine (h.mine id bx b cap hl hT (by rw [L.foot];exact hge)),fun i p hp=>h.foot i p (by rw [L.foot];exact hp),L.keeps h.kept,
  fun i p hp=>by rw [L.pin i] at hp;cases hp⟩
end
def uP (G:wQ) (b:Nat):Prop:=G.I0 b/\b<G.w0.heap.size/\¬ G.has b/\¬ G.gift b/\¬ G.scr b
def B0 (E:Array MapEntry) (l:List (AV×AV)) (seen:Array Nat):List (AV×AV):=((E.toList.zip l).filter fun z=>!seen.contains z.1.born).map (·.2)
def zGH (w:World) (I:Nat->Prop) (p:zY) (left:List (AV×AV)) (cur:Option (AV×AV)):Prop :=
 ∃ (r bm:Nat) (E:Array MapEntry) (clock:Nat) (seen:Array Nat) (last:Nat) (l:List (AV×AV)),p=.at r 0/\w.heap[r]?=some (.mapIter (some bm) clock seen last)/\clock<=last/\I bm/\bm<w.heap.size /\
  w.heap[bm]?=some (.map E clock)/\MapKept.Stamped E clock/\E.size=l.length/\(∀ (i:Nat) (x:AV×AV),l[i]?=some x->∃ e:MapEntry,E[i]?=some e/\Rep w I Tbl.empty e.key x.1/\Rep w I Tbl.empty e.val x.2) /\
  left=B0 E l seen/\∀ c,cur=some c->∃ (e:MapEntry) (s:Array Nat),last=clock/\e∈E.toList/\seen=s.push e.born/\Rep w I Tbl.empty e.key c.1/\Rep w I Tbl.empty e.val c.2
def rW (w:World) (I:Nat->Prop) (p:zY):qD->Prop
 | .row e sz l=>uJ w I Tbl.empty (some p) (.row e sz l)
 | .map ag ks l=>uJ w I Tbl.empty (some p) (.map ag ks l)
 | .iter left cur=>zGH w I p left cur
theorem rW.is {w:World} {I:Nat->Prop} {p:zY} {x:qD} (hx:x.it=false):rW w I p x↔uJ w I Tbl.empty (some p) x.box:=by
 cases x<;>first | exact Iff.rfl | cases hx
theorem rW.mono {w w':World} {I I':Nat->Prop} {p:zY} {x:qD} (h:rW w I p x) (hs:w.heap.size<=w'.heap.size) (hc:∀ b,I b->b<w.heap.size->w'.heap[b]?=w.heap[b]?) (hI:∀ b,I b->b<w.heap.size->I' b)
  (hb:∀ b cap,p=.at b cap->w'.heap[b]?=w.heap[b]?):rW w' I' p x:=by
 cases x with
 | row e sz l=>exact uJ.mono (bx:=.row e sz l) (T:=Tbl.empty) (p:=some p) h hs hc hI (fun _ _ h=>h) (fun b cap hp _=>hb b cap (by injection hp))
 | map ag ks l=>exact uJ.mono (bx:=.map ag ks l) (T:=Tbl.empty) (p:=some p) h hs hc hI (fun _ _ h=>h) (fun b cap hp _=>hb b cap (by injection hp))
 | iter left cur =>
  obtain ⟨r,bm,E,clock,seen,last,l,h1,h2,h3,h4,h5,h6,h7,h8,h9,h10,h11⟩:=h;refine ⟨r,bm,E,clock,seen,last,l,h1,(hb r 0 h1).trans h2,h3,hI bm h4 h5,kZ h5 hs,(hc bm h4 h5).trans h6,h7,h8,fun i x hx=>?_,h10,fun c e=>?_⟩
  ·obtain ⟨e,k1,k2,k3⟩:=h9 i x hx;exact ⟨e,k1,k2.mono hs hc hI (fun _ _ h=>h),k3.mono hs hc hI (fun _ _ h=>h)⟩
  ·obtain ⟨e,s,k0,k1,k2,k3,k4⟩:=h11 c e;exact ⟨e,s,k0,k1,k2,k3.mono hs hc hI (fun _ _ h=>h),k4.mono hs hc hI (fun _ _ h=>h)⟩
def jO (w:World) (I Hd:Nat->Prop) (H:List (Option (wH))):Prop :=
 (∀ (i:Nat) (p:zY) (x:qD),H[i]?=some (some (p,x))->rW w I p x/\∀ b c,p=.at b c->Hd b) /\
 ∀ (i j:Nat) (x y:wH) (b c c':Nat),H[i]?=some (some x)->H[j]?=some (some y)->x.1=.at b c->y.1=.at b c'->i=j
def D7 (G:wQ) (Hd:Nat->Prop):Fam->Prop
 | .hp H pins=>jO G.w0 (uP G) Hd H/\∀ x∈pins,G.pin x.1=some x.2
 | .hpx Q=>∃ H,Q H/\jO G.w0 (uP G) Hd H
 | .cl b ag ks sh l=>gB G.w0 (uP G) Hd b ag ks sh l (fun _=>False) (fun _=>True)
 | .op b ag ks sh l key=>gB G.w0 (uP G) Hd b ag ks sh l (fun k=>k=key) (fun _=>True)
 | .opp b ag ks sh l key id=>∃ b1,G.pin id=some (.at b1 0)/\(∃ x∈l,x.1=key)/\gB G.w0 (uP G) Hd b ag ks sh l (fun k=>k=key) (fun v=>v=.pointer (some ⟨b1,0,none⟩))
structure lX (G:wQ) (Hd:Nat->Prop) (st:AS):Prop where
 one:∀ id id' f f',st.box id=.live (.fam f)->st.box id'=.live (.fam f')->id=id'
 ok:∀ id f,st.box id=.live (.fam f)->D7 G Hd f
theorem lX.less {G:wQ} {Hd:Nat->Prop} {st st2:AS} (h:lX G Hd st) (hs:∀ id f,st2.box id=.live (.fam f)->st.box id=.live (.fam f)):lX G Hd st2 :=
 ⟨fun id id' f f' h1 h2=>h.one id id' f f' (hs _ _ h1) (hs _ _ h2),fun id f h1=>h.ok id f (hs _ _ h1)⟩
def vJ (G:wQ) (st:AS) (a:Act) (w:World):Prop:=∃ G' Hd,jU G G' Hd/\lX G' Hd st/\Rel G' st a w
theorem vJ.out {G:wQ} {st:AS} {a:Act} {w:World}:vJ G st a w->Rel G st a w
 | ⟨_,_,L,_,T,h⟩=>⟨T,L.out h⟩
theorem vJ.into {G:wQ} {st:AS} {a:Act} {w:World} (hp:∀ i,G.pin i=none) (hf:∀ id f,st.box id≠.live (.fam f)) (h:Rel G st a w):vJ G st a w :=
 ⟨G,_,jU.refl hp,⟨fun id _ f _ h1=>absurd h1 (hf id f),fun id f h1=>absurd h1 (hf id f)⟩,h⟩
theorem Rel.congr {G:wQ} {st st2:AS} {a:Act} {w:World} (hs:st2.slot=st.slot) (hb:st2.box=st.box) (h:Rel G st a w):Rel G st2 a w:=by
 have:st2=st:=by cases st;cases st2;simp only at hs hb;rw [hs,hb]
 rw [this];exact h
theorem vJ.lift {G:wQ} {st st2:AS} {a a2:Act} {w w2:World} (hf:∀ id f,st2.box id=.live (.fam f)->st.box id=.live (.fam f)) (hs:∀ G',G'.n=G.n->G'.foot=G.foot->Rel G' st a w->Rel G' st2 a2 w2) (h:vJ G st a w):vJ G st2 a2 w2:=by
 obtain ⟨G',Hd,L,F,hR⟩:=h;exact ⟨G',Hd,L,F.less hf,hs G' L.n L.foot hR⟩
theorem vJ.liftOp {G:wQ} {st st2:AS} {a:Act} {w:World} {P:Program} {o:Oper} (hf:∀ id f,st2.box id=.live (.fam f)->st.box id=.live (.fam f))
  (hs:∀ G',G'.n=G.n->G'.foot=G.foot->Rel G' st a w->o.wp P a w (fun a' w'=>Rel G' st2 a' w') (fun _ _ _=>False)) (h:vJ G st a w) :
  o.wp P a w (fun a' w'=>vJ G st2 a' w') (fun _ _ _=>False):=by
 obtain ⟨G',Hd,L,F,hR⟩:=h
 have:=hs G' L.n L.foot hR
 unfold Oper.wp at *;generalize (execOp a.eval o).run P w=r at *;have hm:∀ a' w',Rel G' st2 a' w'->vJ G st2 a' w':=fun a' w' hR'=>⟨G',Hd,L,F.less hf,hR'⟩
 cases r with
 | ok n w' =>
  cases n<;>simp only [Oper.upon] at this ⊢ <;>
   first
    | exact hm _ _ this
    | exact Calls.mono this (fun e w'' he=>by cases e<;>first | exact hm _ _ he | exact he.elim | (obtain ⟨_,_,he⟩:=he;exact he.elim))
    | exact Rows.mono this (fun _ _ he=>hm _ _ he)
 | halt x w'=>cases x<;>simp only [Oper.upon] at this ⊢
/-! A view begins anew. -/
def reb (G:wQ) (J:Nat->Prop) (st2:AS) (T2:Tbl) (w2:World) (pin:Nat->Option zY):wQ :=
 { w0:=w2,I0:=J,foot:=G.foot,n:=G.n,gift:=fun b=>∃ id bx cap,st2.box id=.live bx/\T2 id=some (.at b cap),scr:=fun _=>False,pin:=pin }
theorem zJ4 {G:wQ} (h:G.foot=[]) (b:Nat):¬ G.has b:=by
 rintro ⟨c,hc⟩;rw [h] at hc;cases hc
theorem g9 {G G':wQ} {Hd:Nat->Prop} (L:jU G G' Hd) {st:AS} {T:Tbl} {b:Nat} (h:Hd b):¬ imm G' st T b:=by
 rintro ⟨h1 | h1 | h1,_⟩
 ·exact (L.hid b h).2.2.1 h1
 ·have:=(L.hid b h).1;omega
 ·exact (L.hid b h).2.2.2.1 h1
theorem nP {G G':wQ} {Hd:Nat->Prop} (L:jU G G' Hd) (hf:G.foot=[]) {st:AS} {T:Tbl} {a:Act} {w:World} (hR:uF G' st T a w) {id b cap:Nat} {bx:Box} (hl:st.box id=.live bx) (hT:T id=some (.at b cap)):¬ Hd b:=by
 intro h;rcases hR.mine id bx b cap hl hT (by rw [L.foot,hf];exact wI _) with h1 | h1
 ·have:=(L.hid b h).1;omega
 ·exact (L.hid b h).2.2.2.1 h1
theorem gX {G G':wQ} {Hd:Nat->Prop} (L:jU G G' Hd) {w:World} (hk:CQ G' w) {b:Nat} (h:Hd b):w.heap[b]?=G'.w0.heap[b]? :=
 hk.block b (L.hid b h).1 (L.hid b h).2.2.2.2.2 (fun x=>x.elim (L.hid b h).2.2.2.1 (L.hid b h).2.2.2.2.1)
theorem fZ {G':wQ} {w:World} (hk:CQ G' w) {b:Nat} (h:uP G' b):w.heap[b]?=G'.w0.heap[b]? :=
 hk.block b h.2.1 h.2.2.1 (fun x=>x.elim h.2.2.2.1 h.2.2.2.2)
theorem gQ {G G':wQ} {Hd:Nat->Prop} (L:jU G G' Hd) (hf:G.foot=[]) {st:AS} {T:Tbl} {a:Act} {w:World} (hR:uF G' st T a w) {b:Nat} (h:uP G' b):imm G' st T b/\b<w.heap.size:=by
 refine ⟨⟨.inl h.1,fun id bx cap hl hT=>?_⟩,kZ h.2.1 hR.kept.size⟩;rcases hR.mine id bx b cap hl hT (by rw [L.foot,hf];exact wI _) with h1 | h1
 ·have:=h.2.1;omega
 ·exact h.2.2.2.1 h1
theorem CK {G G':wQ} {Hd Hd2 J:Nat->Prop} {st st2:AS} {T T2:Tbl} {a a2:Act} {w w2:World} {pin:Nat->Option zY} (L:jU G G' Hd) (hf:G.foot=[]) (hR:uF G' st T a w)
  (hos:w2.os=w.os) (htape:w2.tape=w.tape) (hout:w2.output=w.output) (hsz:w.heap.size<=w2.heap.size) (hblk:∀ b,b<w.heap.size->¬ Hd b->w2.heap[b]?=w.heap[b]?)
  (hde:a2.defers=[]) (hn:a2.tmps.size=G.n)
  (hJ:∀ b,J b->(G.I0 b\/G.mine b)/\b<w2.heap.size/\¬ Hd2 b/\∀ id bx cap,st2.box id=.live bx->T2 id≠some (.at b cap))
  (hsl:∀ t,Rep w2 J T2 (a2.tmps.getD t undef) (st2.slot t))
  (hbx:∀ id bx,st2.box id=.live bx->uJ w2 J T2 (T2 id) bx)
  (hun:∀ id,st2.box id=.unused->T2 id=none)
  (hap:∀ id id' bx bx' b cap cap',st2.box id=.live bx->st2.box id'=.live bx'->T2 id=some (.at b cap)->T2 id'=some (.at b cap')->id=id')
  (hnew:∀ id bx b cap,st2.box id=.live bx->T2 id=some (.at b cap)->G.mine b/\¬ Hd2 b)
  (hpin:∀ i p,pin i=some p->T2 i=some p)
  (hHd:∀ b,Hd2 b->b<w2.heap.size/\G.mine b) :
  jU G (reb G J st2 T2 w2 pin) Hd2/\uF (reb G J st2 T2 w2 pin) st2 T2 a2 w2/\∀ b,J b->uP (reb G J st2 T2 w2 pin) b:=by
 have hlt:∀ id bx b cap,st2.box id=.live bx->T2 id=some (.at b cap)->b<w2.heap.size:=fun id bx b cap hl hT=>by
  have:=hbx id bx hl;rw [hT] at this;exact this.lt
 have hfoot:∀ b,¬ (reb G J st2 T2 w2 pin).has b:=zJ4 hf;refine ⟨⟨L.pin,rfl,rfl,?_,fun b hb=>(hJ b hb).1,fun b hb=>?_,fun b hb=>hb.elim,fun b hb=>⟨(hHd b hb).1,(hHd b hb).2,fun h=>(hJ b h).2.2.1 hb,?_,fun h=>h.elim,hfoot b⟩⟩,?_,?_⟩
 ·have hk:=L.keeps hR.kept;refine ⟨hos.trans hk.os,htape.trans hk.tape,hout.trans hk.output,kX hk.size hsz,fun b hb hn hn2=>(hblk b (kZ hb hk.size) fun hh=>?_).trans (hk.block b hb hn hn2)⟩;rcases (L.hid b hh).2.1 with h1 | h1
  ·omega
  ·exact hn2 (.inl h1)
 ·obtain ⟨id,bx,cap,hl,hT⟩:=hb;exact (hnew id bx b cap hl hT).1
 ·rintro ⟨id,bx,cap,hl,hT⟩;exact (hnew id bx b cap hl hT).2 hb
 ·have himm:∀ b,J b->imm (reb G J st2 T2 w2 pin) st2 T2 b:=fun b hb=>⟨.inl hb,(hJ b hb).2.2.2⟩
  refine ⟨hde,hn,fun t=>(hsl t).mono (yI _) (fun _ _ _=>rfl) (fun b hb _=>himm b hb) (fun _ _ h=>h),
   fun id bx hl=>(hbx id bx hl).mono (yI _) (fun _ _ _=>rfl) (fun b hb _=>himm b hb) (fun _ _ h=>h) (fun _ _ _ _=>rfl),hun,hap,
   fun id bx b cap hl hT _=>.inr ⟨id,bx,cap,hl,hT⟩,fun i p hp=>?_,⟨rfl,rfl,rfl,yI _,fun _ _ _ _=>rfl⟩,hpin⟩
  exfalso
  have:G.foot[i]?=some p:=hp
  rw [hf] at this;simp at this
 ·intro b hb;refine ⟨hb,(hJ b hb).2.1,hfoot b,?_,fun h=>h.elim⟩;rintro ⟨id,bx,cap,hl,hT⟩;exact (hJ b hb).2.2.2 id bx cap hl hT
theorem gL.move {w w':World} {I I':Nat->Prop} {sh:FSh} {ps:List zY} {v:Value} {c:AV} (h:gL w I sh ps v c) (hs:w.heap.size<=w'.heap.size) (hc:∀ b,I b->b<w.heap.size->w'.heap[b]?=w.heap[b]?)
  (hI:∀ b,I b->b<w.heap.size->I' b) (hb:∀ (i b cap:Nat),ps[i]?=some (zY.at b cap)->b<w.heap.size->w'.heap[b]?=w.heap[b]?):gL w' I' sh ps v c:=by
 obtain ⟨av,bs,h1,h2,h3,h4⟩:=h;exact ⟨av,bs,h1,h2,h3.mono hs hc hI (fun _ _ h=>h),fun i bx hi=>(h4 i bx hi).mono hs hc hI (fun _ _ h=>h) (fun b cap hp hlt=>hb i b cap hp hlt)⟩
def CN (P:Program) (f:FuncId) (args:List AV) (H:List (Option (wH))) (Q:List (Option (wH))->Prop) (res:AV):Prop :=
 ∀ (w:World) (I Hd:Nat->Prop) (vals:Array Value),(∀ b,I b->b<w.heap.size/\¬ Hd b)->(∀ b,Hd b->b<w.heap.size)->jO w I Hd H->vals.size=args.length ->
  (∀ (j:Nat) (av:AV),args[j]?=some av->Rep w I Tbl.empty (vals.getD j undef) av) ->
  Calls P f vals w fun e w'=>∃ (v:Value) (H':List (Option (wH))) (I' Hd':Nat->Prop),e=.returned v/\w'.os=w.os/\w'.tape=w.tape/\w'.output=w.output/\w.heap.size<=w'.heap.size /\
   (∀ b,b<w.heap.size->¬ Hd b->w'.heap[b]?=w.heap[b]?)/\(∀ b,Hd' b->b<w'.heap.size/\(Hd b\/w.heap.size<=b)/\¬ I b) /\
   (∀ b,I' b->b<w'.heap.size/\¬ Hd' b/\(I b\/Hd b\/w.heap.size<=b))/\Rep w' I' Tbl.empty v res/\Q H'/\jO w' I' Hd' H'
/-! Values that stand for a hidden row, and for the same row as the call's own. -/
theorem zB6 {w:World} {I:Nat->Prop} {T:Tbl} {v:Value} {k n:Nat} {p:zY} (hT:T k=some p) (h:Rep w I T v (.own k n)) {T':Tbl}:Rep w I T' v (.rawp p n):=by
 cases h with
 | ownNil h=>rw [hT] at h;injection h with h;subst h;exact .rawp0
 | own h h1 h2=>rw [hT] at h;injection h with h;subst h;exact .rawp h1 h2
theorem T4 {w:World} {I:Nat->Prop} {T T':Tbl} {v:Value} {k n:Nat} {p:zY} (hT:T k=some p) (h:Rep w I T' v (.rawp p n)):Rep w I T v (.own k n):=by
 cases h with
 | rawp0=>exact .ownNil hT
 | rawp h1 h2=>exact .own hT h1 h2
def aM (T:Tbl):List Nat->List zY->Tbl
 | i::is,p::ps=>(aM T is ps).put i p
 | _,_=>T
theorem ZL {T:Tbl} {ids:List Nat} {ps:List zY} {i:Nat} (h:i∉ids):aM T ids ps i=T i:=by
 induction ids generalizing ps with
 | nil=>rfl
 | cons a r ih =>
  cases ps with
  | nil=>rfl
  | cons p ps =>
   simp only [uA,not_or] at h;simp only [aM];rw [Tbl.put_ne _ _ h.1,ih h.2]
theorem zAk {T:Tbl} {ids:List Nat} {ps:List zY} (hn:tZ ids=true) (hl:ids.length=ps.length) {i j:Nat} (h:ids[j]?=some i):aM T ids ps i=ps[j]?:=by
 induction ids generalizing ps j with
 | nil=>simp at h
 | cons a r ih =>
  cases ps with
  | nil=>simp at hl
  | cons p ps =>
   simp only [aM];cases j with
   | zero=>simp at h;subst h;rw [Tbl.put_same];rfl
   | succ j =>
    have hne:i≠a:=fun e=>by
     subst e
     have:=B6 hn (i:=0) (j:=j+1) (by simp) h
     omega
    rw [Tbl.put_ne _ _ hne];simp only [pJ] at h ⊢;refine ih ?_ (by simpa using hl) h;unfold tZ at hn;simp only [zba] at hn;exact hn.2
theorem zDo {T:Tbl} {ids:List Nat} {ps:List zY} (hn:tZ ids=true) (hl:ids.length=ps.length):Tc ids (aM T ids ps)=fun i=>ps[i]?:=by
 funext j
 simp only [Tc];rcases zlg j ids.length with h | h
 ·rw [w7 h];exact zAk hn hl (w7 h)
 ·rw [vH h,vH (by omega)]
theorem zKC {T:Tbl} {ids:List Nat} {ps:List zY} (h:∀ i∈ids,T i=none):T.le (aM T ids ps):=by
 intro i p hp
 by_cases hi:i∈ids
 ·rw [h i hi] at hp;cases hp
 ·rw [ZL hi];exact hp
theorem zFP {ids:List Nat} {bs:List zR} {i:Nat} {d:zR} (hn:tZ ids=true) (hl:ids.length=bs.length):(∃ (j:Nat) (b:zR),ids[j]?=some i/\bs[j]?=some b/\yJ (ids.zip bs) i d=b)\/(i∉ids/\yJ (ids.zip bs) i d=d):=by
 induction ids generalizing bs with
 | nil=>exact .inr ⟨by simp,rfl⟩
 | cons a r ih =>
  cases bs with
  | nil=>simp at hl
  | cons b bs =>
   simp only [EG,yJ];cases hb:Nat.beq i a
   ·simp only [cond_false];have hne:i≠a:=fun e=>by subst e;simp at hb
    rcases ih (bs:=bs) (by unfold tZ at hn;simp only [zba] at hn;exact hn.2) (by simpa using hl) with ⟨j,b',h1,h2,h3⟩ | ⟨h1,h2⟩
    ·exact .inl ⟨j+1,b',by simpa using h1,by simpa using h2,h3⟩
    ·exact .inr ⟨by simp [hne,h1],h2⟩
   ·have:=wT.1 hb
    subst this;exact .inl ⟨0,b,by simp,by simp,rfl⟩
theorem uF.fam {G:wQ} {st st2:AS} {T:Tbl} {a:Act} {w:World} (hR:uF G st T a w) {fid:Nat} {f f':Fam} (h:st.box fid=.live (.fam f))
  (hs:st2.slot=st.slot) (hb:∀ i,st2.box i=if i=fid then .live (.fam f') else st.box i):uF G st2 T a w:=by
 have hTf:T fid=some .nil:=hR.boxes fid _ h;have hl:∀ i,(∃ bx,st2.box i=.live bx)↔∃ bx,st.box i=.live bx:=by
  intro i;rw [hb]
  by_cases e:i=fid
  ·subst e;rw [if_pos rfl,h];exact ⟨fun _=>⟨_,rfl⟩,fun _=>⟨_,rfl⟩⟩
  ·rw [if_neg e]
 have hi:imm G st2 T=imm G st T:=by
  funext b
  refine propext ⟨fun hI=>⟨hI.1,fun i bx cap h1=>?_⟩,fun hI=>⟨hI.1,fun i bx cap h1=>?_⟩⟩
  ·obtain ⟨bx',h2⟩:=(hl i).2 ⟨bx,h1⟩;exact hI.2 i bx' cap h2
  ·obtain ⟨bx',h2⟩:=(hl i).1 ⟨bx,h1⟩;exact hI.2 i bx' cap h2
 refine ⟨hR.defers,hR.size,fun t=>by rw [hi,hs];exact hR.slots t,fun id bx h1=>?_,fun id h1=>?_,fun i j x y b c c' h1 h2=>?_,fun id bx b cap h1=>?_,hR.foot,hR.kept,hR.pin⟩
 ·rw [hi];rw [hb] at h1
  by_cases e:id=fid
  ·rw [if_pos e] at h1;injection h1 with h1;subst h1;subst e;exact hTf
  ·rw [if_neg e] at h1;exact hR.boxes id bx h1
 ·rw [hb] at h1
  by_cases e:id=fid
  ·rw [if_pos e] at h1;cases h1
  ·rw [if_neg e] at h1;exact hR.unused id h1
 ·obtain ⟨x',h1'⟩:=(hl i).1 ⟨x,h1⟩;obtain ⟨y',h2'⟩:=(hl j).1 ⟨y,h2⟩;exact hR.apart i j x' y' b c c' h1' h2'
 ·obtain ⟨x',h1'⟩:=(hl id).1 ⟨bx,h1⟩;exact hR.mine id x' b cap h1'
theorem LG {wb:List (Nat×zR)} {fid:Nat} {x:zR} {i:Nat} {d:zR} (hn:fid∉wb.map (·.1)):yJ (wb++[(fid,x)]) i d=if i=fid then x else yJ wb i d:=by
 rw [zDE]
 by_cases e:i=fid
 ·subst e;rw [if_pos rfl]
  induction wb with
  | nil=>simp [yJ]
  | cons y r ih =>
   obtain ⟨k,v⟩:=y;simp only [uM,uA,not_or] at hn;simp only [yJ,wV hn.1,cond_false];exact ih hn.2
 ·rw [if_neg e]
  congr 1
  simp [yJ,wV e]
theorem zCt {wb:List (Nat×zR)} {i:Nat} {d:zR}:yJ wb i d=d\/(i,yJ wb i d)∈wb:=by
 induction wb with
 | nil=>exact .inl rfl
 | cons y r ih =>
  obtain ⟨k,v⟩:=y;simp only [yJ];cases h:Nat.beq i k
  ·rcases ih with h' | h'
   ·exact .inl h'
   ·exact .inr (by simp [h'])
  ·rw [wT.1 h];exact .inr (by simp)
theorem zCC {wb:List (Nat×zR)} {i:Nat} {d:zR} (h:i∉wb.map (·.1)):yJ wb i d=d:=by
 induction wb with
 | nil=>rfl
 | cons x r ih =>
  obtain ⟨k,v⟩:=x;simp only [uM,uA,not_or] at h;simp only [yJ,wV h.1,cond_false];exact ih h.2
theorem SV {G2 G':wQ} {Hd2 Hd:Nat->Prop} {st st2:AS} {fid:Nat} {f f':Fam} {wb:List (Nat×zR)} (F:lX G' Hd st) (h0:st.box fid=.live (.fam f))
  (hbox:∀ i,st2.box i=yJ (wb++[(fid,.live (.fam f'))]) i (st.box i)) (hwb:∀ x∈wb,x.2.nf=true) (hnf:fid∉wb.map (·.1)) (hk:D7 G2 Hd2 f'):lX G2 Hd2 st2:=by
 have key:∀ id g,st2.box id=.live (.fam g)->id=fid/\g=f':=by
  intro id g h;rw [hbox,LG hnf] at h
  by_cases e:id=fid
  ·rw [if_pos e] at h;injection h with h;injection h with h;exact ⟨e,h.symm⟩
  ·rw [if_neg e] at h;rcases zCt (wb:=wb) (i:=id) (d:=st.box id) with h1 | h1
   ·rw [h1] at h;exact absurd (F.one id fid g f h h0) e
   ·rw [h] at h1;have:=hwb _ h1;cases this
 exact ⟨fun i j f g h1 h2=>(key i f h1).1.trans (key j g h2).1.symm,fun id g h=>(key id g h).2 ▸ hk⟩
def VE:FSh->List AV->AV
 | .nm _ sz _ esz,x=>.tuple [.sl false sz [],.bool false,.agg x,.sl false esz []]
 | .pm _,_=>.junk
theorem VW {P:Program} {w0 w:World} {I I':Nat->Prop} {T:Tbl} {ag:Bool} {ks:List KSh} {sh:FSh} {l:List (AV×AV)} {ex:AV->Prop} {exv:Value->Prop} {E:Array MapEntry} {k:TypeId} {key:AV} {v:Value} {Pl:Nat->List zY}
  (K:wW P k ag ks) (hE:E.size=l.length) (hk:∀ x∈l,uI ag ks x.1=true) (hsz:w0.heap.size<=w.heap.size) (hsame:∀ b,I b->b<w0.heap.size->w.heap[b]?=w0.heap[b]?)
  (hr:∀ (i:Nat) (x:AV×AV),l[i]?=some x->∃ e:MapEntry,E[i]?=some e/\Rep w0 I Tbl.empty e.key x.1/\(ex x.1->exv e.val)/\(¬ ex x.1->gL w0 I sh (Pl i) e.val x.2))
  (hv:Rep w I' T v key) (hm:uI ag ks key=true) :
  ((Instr.findKey k v E.toList).run P w=.ok none w/\(∀ e∈E.toList,e.key≠v)/\∀ x∈l,x.1≠key) \/
  ∃ j e x,(Instr.findKey k v E.toList).run P w=.ok (some (j,e.val)) w/\E[j]?=some e/\e.key=v/\l[j]?=some x/\x.1=key:=by
 have hr2:∀ (i:Nat) (x:AV×AV),(l.map fun x=>(x.1,AV.junk))[i]?=some x->∃ e:MapEntry,E[i]?=some e/\Rep w I Tbl.empty e.key x.1/\Rep w I Tbl.empty e.val x.2:=by
  intro i x hx;rw [vD] at hx;cases hli:l[i]? with
  | none=>rw [hli] at hx;cases hx
  | some y =>
   rw [hli] at hx;injection hx with hx;subst hx;obtain ⟨e,h1,h2,_⟩:=hr i y hli;exact ⟨e,h1,h2.mono hsz hsame (fun _ h _=>h) (fun _ _ h=>h),.junk⟩
 obtain ⟨t,ht⟩:=K.reads _ _ _ _ _ hv hm;have hk2:∀ x∈l.map (fun x=>(x.1,AV.junk)),uI ag ks x.1=true:=by
  intro x hx;obtain ⟨y,hy,rfl⟩:=vB.1 hx;exact hk y hy
 have hkeys:∀ e∈E.toList,∃ t,keyOf P k e.key=some t:=zDI K (by simpa using hE) hk2 hr2;rcases K.keyed.find w ht E.toList hkeys with ⟨h1,h2⟩ | ⟨j,e,h1,h2,h3⟩
 ·refine .inl ⟨h1,h2,fun x hx hxk=>?_⟩;obtain ⟨i,hi⟩:=uG.1 hx;obtain ⟨e,e1,e2,_⟩:=hr i x hi
  have:=(dF e2 hv (hk x hx) hm).2 hxk
  exact h2 e (by rw [<- k9] at e1;exact yN e1) this
 ·rw [k9] at h2;have hjl:j<l.length:=by
   rcases zlg j E.size with h' | h'
   ·omega
   ·rw [fJ h'] at h2;cases h2
  obtain ⟨e',e1,e2,_⟩:=hr j _ (w7 hjl);rw [h2] at e1;injection e1 with e1;subst e1;exact .inr ⟨j,e,l[j],h1,h2,h3,w7 hjl,(dF e2 hv (hk _ (g8 hjl)) hm).1 h3⟩
theorem YJ {G G':wQ} {Hd:Nat->Prop} {pin:Nat->Option zY} {st st2:AS} {T:Tbl} {a:Act} {w:World} (L:jU G G' Hd) (hf:G.foot=[]) (hR:uF G' st T a w) {ids:List Nat} {ps:List zY} {bs:List Box} {dst:Option Tmp} {vd:Value} {avd:AV}
  (hn:tZ ids=true) (hl1:ids.length=bs.length) (hl2:ps.length=bs.length) (hu:∀ i∈ids,st.box i=.unused)
  (hbs:∀ (i:Nat) (bx:Box),bs[i]?=some bx->uJ w (fun b=>imm G' st T b/\b<w.heap.size) (fun i=>ps[i]?) (ps[i]?) bx) (hbel:∀ bx∈bs,gY ids.length bx=true)
  (hps:∀ (j b c:Nat),ps[j]?=some (zY.at b c)->Hd b) (hdist:∀ (j j' b c c':Nat),ps[j]?=some (zY.at b c)->ps[j']?=some (zY.at b c')->j=j')
  (hslot:st2.slot=dA st.slot (dst.map fun d=>(d,avd))) (hbox:st2.box=fun i=>yJ (ids.zip (bs.map fun x=>zR.live (unB ids x))) i (st.box i))
  (hd:∀ d,dst=some d->d<G.n) (hvd:Rep w (fun b=>imm G' st T b/\b<w.heap.size) (aM T ids ps) vd avd) (hpin:∀ i p,pin i=some p->aM T ids ps i=some p) :
  jU G (reb G (fun b=>imm G' st T b/\b<w.heap.size) st2 (aM T ids ps) w pin) (fun b=>Hd b/\∀ j c:Nat,ps[j]?≠some (zY.at b c)) /\
  uF (reb G (fun b=>imm G' st T b/\b<w.heap.size) st2 (aM T ids ps) w pin) st2 (aM T ids ps) (a.put dst vd) w /\
  ∀ b,imm G' st T b/\b<w.heap.size->uP (reb G (fun b=>imm G' st T b/\b<w.heap.size) st2 (aM T ids ps) w pin) b:=by
 have hle:=zKC (T:=T) (ids:=ids) (ps:=ps) (fun i hi=>hR.unused i (hu i hi));have hTc:=zDo (T:=T) hn (hl1.trans hl2.symm);have hlz:ids.length=(bs.map fun x=>zR.live (unB ids x)).length:=by simpa using hl1
 -- a live box of the new state
 have hlive:∀ id bx,st2.box id=.live bx->(∃ (j:Nat) (b0:Box),ids[j]?=some id/\bs[j]?=some b0/\bx=unB ids b0/\aM T ids ps id=ps[j]?)\/(id∉ids/\st.box id=.live bx/\aM T ids ps id=T id):=by
  intro id bx hb;rw [hbox] at hb;simp only at hb;rcases zFP (i:=id) (d:=st.box id) hn hlz with ⟨j,b,h1,h2,h3⟩ | ⟨h1,h2⟩
  ·rw [h3] at hb;rw [vD] at h2;cases hbj:bs[j]? with
   | none=>rw [hbj] at h2;cases h2
   | some b0 =>
    rw [hbj] at h2;injection h2 with h2;subst h2;injection hb with hb;exact .inl ⟨j,b0,h1,hbj,hb.symm,zAk hn (hl1.trans hl2.symm) h1⟩
  ·rw [h2] at hb;exact .inr ⟨h1,hb,ZL h1⟩
 refine CK (Hd2:=fun b=>Hd b/\∀ j c:Nat,ps[j]?≠some (zY.at b c)) L hf hR rfl rfl rfl (yI _) (fun _ _ _=>rfl) ?_ ?_ ?_ ?_ ?_ ?_ ?_ ?_ hpin ?_
 ·cases dst<;>exact hR.defers
 ·cases dst<;>simp [Act.put,hR.size,L.n]
 ·rintro b ⟨hb,hlt⟩;refine ⟨(L.imm hb).1.elim .inl .inr,hlt,fun h=>g9 L h.1 hb,fun id bx cap hl hT=>?_⟩;rcases hlive id bx hl with ⟨j,b0,h1,h2,h3,h4⟩ | ⟨h1,h2,h3⟩
  ·rw [h4] at hT;exact g9 L (hps j b cap hT) hb
  ·rw [h3] at hT;exact hb.2 id bx cap h2 hT
 ·intro t;rw [hslot];cases hdst:dst with
  | none=>exact (hR.slots t).mono (yI _) (fun _ _ _=>rfl) (fun b hb hlt=>⟨hb,hlt⟩) hle
  | some d =>
   simp only [kH];rw [KP t (by rw [hR.size,L.n];exact hd d hdst)]
   by_cases ht:t=d
   ·subst ht;rw [if_pos rfl,lB];exact hvd
   ·rw [if_neg ht,l6 _ _ _ ht];exact (hR.slots t).mono (yI _) (fun _ _ _=>rfl) (fun b hb hlt=>⟨hb,hlt⟩) hle
 ·intro id bx hl;rcases hlive id bx hl with ⟨j,b0,h1,h2,h3,h4⟩ | ⟨h1,h2,h3⟩
  ·rw [h4,h3];refine zFE ?_ (hbel b0 (yN h2));rw [hTc];exact hbs j b0 h2
  ·rw [h3];exact (hR.boxes id bx h2).mono (yI _) (fun _ _ _=>rfl) (fun b hb hlt=>⟨hb,hlt⟩) hle (fun _ _ _ _=>rfl)
 ·intro id hl;rw [hbox] at hl;simp only at hl;rcases zFP (i:=id) (d:=st.box id) hn hlz with ⟨j,b,h1,h2,h3⟩ | ⟨h1,h2⟩
  ·rw [h3] at hl;rw [vD] at h2;cases hbj:bs[j]? with
   | none=>rw [hbj] at h2;cases h2
   | some b0=>rw [hbj] at h2;injection h2 with h2;subst h2;cases hl
  ·rw [h2] at hl;rw [ZL h1];exact hR.unused id hl
 ·intro id id' bx bx' b c c' l1 l2 t1 t2;rcases hlive id bx l1 with ⟨j,b0,h1,h2,h3,h4⟩ | ⟨h1,h2,h3⟩<;>rcases hlive id' bx' l2 with ⟨j',b0',h1',h2',h3',h4'⟩ | ⟨h1',h2',h3'⟩
  ·rw [h4] at t1;rw [h4'] at t2
   have:=hdist j j' b c c' t1 t2
   subst this;rw [h1] at h1';injection h1'
  ·rw [h4] at t1;rw [h3'] at t2;exact absurd (hps j b c t1) (nP L hf hR h2' t2)
  ·rw [h3] at t1;rw [h4'] at t2;exact absurd (hps j' b c' t2) (nP L hf hR h2 t1)
  ·rw [h3] at t1;rw [h3'] at t2;exact hR.apart id id' bx bx' b c c' h2 h2' t1 t2
 ·intro id bx b cap hl hT;rcases hlive id bx hl with ⟨j,b0,h1,h2,h3,h4⟩ | ⟨h1,h2,h3⟩
  ·rw [h4] at hT;exact ⟨(L.hid b (hps j b cap hT)).2.1,fun h=>h.2 j cap hT⟩
  ·rw [h3] at hT;exact ⟨L.mine (hR.mine id bx b cap h2 hT (by rw [L.foot,hf];exact wI _)),fun h=>nP L hf hR h2 hT h.1⟩
 ·rintro b ⟨hb,_⟩;exact ⟨kZ (L.hid b hb).1 hR.kept.size,(L.hid b hb).2.1⟩
section
variable {w0 w:World} {I I' Hd:Nat->Prop} {b:Nat} {ag:Bool} {ks:List KSh} {sh:FSh} {l:List (AV×AV)} {key:AV} {exv:Value->Prop}
theorem zCH (M:gB w0 I Hd b ag ks sh l (fun _=>False) (fun _=>True)) (hsz:w0.heap.size<=w.heap.size) (hI:∀ b,I b->b<w0.heap.size->w.heap[b]?=w0.heap[b]?) (hH:∀ b,Hd b->w.heap[b]?=w0.heap[b]?) (hII:∀ b,I b->b<w0.heap.size->I' b)
  {E:Array MapEntry} {clock:Nat} (hE:w.heap[b]?=some (.map E clock)) {j:Nat} {e:MapEntry} {x:AV×AV} (hj:E[j]?=some e) (hx:l[j]?=some x) (hxk:x.1=key) (hkm:uI ag ks key=true) (hexv:exv e.val) :
  ∃ ps:List zY,gL w I' sh ps e.val x.2/\(∀ (j b1 c:Nat),ps[j]?=some (zY.at b1 c)->Hd b1/\b1≠b)/\(∀ (j j' b1 c c':Nat),ps[j]?=some (zY.at b1 c)->ps[j']?=some (zY.at b1 c')->j=j') /\
   gB w I' (fun b1=>Hd b1/\∀ j c:Nat,ps[j]?≠some (zY.at b1 c)) b ag ks sh l (fun k=>k=key) exv:=by
 obtain ⟨E0,clock0,Pl,m1,m2,m3,m4,m5,m6,m7,m8,m8',m9,m10⟩:=M;rw [hH b m1,m2] at hE;injection hE with hE;injection hE with hE1 hE2;subst hE1;subst hE2;obtain ⟨e',q1,q2,_,q4⟩:=m7 j x hx;rw [hj] at q1;injection q1 with q1;subst q1;have hone:∀ i y,l[i]?=some y->y.1=key->i=j:=by
  intro i y hi hy;obtain ⟨e2,r1,r2,_⟩:=m7 i y hi;exact rF m5 r1 hj ((dF r2 q2 (m6 y (yN hi)) (hxk ▸ hkm)).2 (hy.trans hxk.symm))
 refine ⟨Pl j,(q4 (fun h=>h)).move hsz hI hII (fun i b1 cap hp _=>hH b1 (m9 j i b1 cap hp).1),fun j' b1 c hp=>m9 j j' b1 c hp,fun j1 j2 b1 c c' h1 h2=>(m10 j j1 j j2 b1 c c' h1 h2).2,
  E0,clock0,fun i=>if i=j then [] else Pl i,⟨m1,fun j' c hp=>(m9 j j' b c hp).2 rfl⟩,by rw [hH b m1];exact m2,m3,m4,m5,m6,?_,?_,?_,?_,?_⟩
 ·intro i y hi;obtain ⟨e2,r1,r2,_,r4⟩:=m7 i y hi;refine ⟨e2,r1,r2.mono hsz hI hII (fun _ _ h=>h),fun hk=>?_,fun hk=>?_⟩
  ·have:=hone i y hi hk
   subst this;rw [hj] at r1;injection r1 with r1;subst r1;exact hexv
  ·have hne:i≠j:=fun h=>by subst h;rw [hx] at hi;injection hi with hi;subst hi;exact hk hxk
   simp only [if_neg hne];exact (r4 (fun h=>h)).move hsz hI hII (fun i' b1 cap hp _=>hH b1 (m9 i i' b1 cap hp).1)
 ·intro i y hi hk;simp only [if_pos (hone i y hi hk)]
 ·intro i hi;have hne:i≠j:=fun h=>by subst h;rw [vH hi] at hx;cases hx
  simp only [if_neg hne];exact m8' i hi
 ·intro i j' b1 c1 hp
  by_cases h:i=j
  ·simp only [if_pos h] at hp;simp at hp
  ·simp only [if_neg h] at hp;refine ⟨⟨(m9 i j' b1 c1 hp).1,fun j2 c hp2=>h (m10 i j' j j2 b1 c1 c hp hp2).1⟩,(m9 i j' b1 c1 hp).2⟩
 ·intro i j1 i' j2 b1 c1 c2 h1 h2
  by_cases h:i=j
  ·simp only [if_pos h] at h1;simp at h1
  by_cases h':i'=j
  ·simp only [if_pos h'] at h2;simp at h2
  simp only [if_neg h] at h1;simp only [if_neg h'] at h2;exact m10 i j1 i' j2 b1 c1 c2 h1 h2
theorem zGz {exv0:Value->Prop} (M:gB w0 I Hd b ag ks sh l (fun _=>False) exv0) (hsz:w0.heap.size<=w.heap.size) (hI:∀ b,I b->b<w0.heap.size->w.heap[b]?=w0.heap[b]?) (hH:∀ b,Hd b->w.heap[b]?=w0.heap[b]?) (hII:∀ b,I b->b<w0.heap.size->I' b)
  (hno:∀ x∈l,x.1≠key) {Hd2:Nat->Prop} (hd2:∀ b1,Hd b1->Hd2 b1):gB w I' Hd2 b ag ks sh l (fun k=>k=key) exv:=by
 obtain ⟨E0,clock0,Pl,m1,m2,m3,m4,m5,m6,m7,m8,m8',m9,m10⟩:=M;refine ⟨E0,clock0,Pl,hd2 b m1,by rw [hH b m1];exact m2,m3,m4,m5,m6,?_,?_,m8',fun i j b1 c1 hp=>⟨hd2 b1 (m9 i j b1 c1 hp).1,(m9 i j b1 c1 hp).2⟩,m10⟩
 ·intro i y hi;obtain ⟨e2,r1,r2,_,r4⟩:=m7 i y hi;exact ⟨e2,r1,r2.mono hsz hI hII (fun _ _ h=>h),fun hk=>absurd hk (hno y (yN hi)),fun _=>(r4 (fun h=>h)).move hsz hI hII (fun i' b1 cap hp _=>hH b1 (m9 i i' b1 cap hp).1)⟩
 ·intro i y hi hk;exact absurd hk (hno y (yN hi))
end
def YQ (P:Program) (t:TypeId) (m key:AV) (ok:Bool) (B:Nat->zR) (f:Fam) (h:wA):Option (List Prop×List (Nat×zR)×AV×Fam) :=
 match rI P t,m,f with
 | some (k,e),.rawm b,.cl b' ag ks sh l =>
  bif uI ag ks key then
   match sh,ok,R7 P e with
   | .nm e1 s1 e2 s2,false,some .nilsl =>
    match (FSh.nm e1 s1 e2 s2).dec h.av with
    | some (av,bs) =>
     bif (tZ h.ids&&h.ids.all fun i=>nF (B i))&&(Nat.beq h.ids.length bs.length&&(qQ h.ids.length av&&bs.all (fun x=>gY h.ids.length x&&x.nf))) then
      some ([b=b',wW P k ag ks,u0 l key (VE (.nm e1 s1 e2 s2) h.l) h.av h.g],h.ids.zip (bs.map fun x=>.live (unB h.ids x)),un h.ids av,.op b ag ks (.nm e1 s1 e2 s2) l key)
     else none
    | none=>none
   | .pm t1,true,some .nilp =>
    bif h.g then
     match h.av with
     | .agg cs=>bif nF (B h.id)&&aU 1 cs then
       some ([b=b',wW P k ag ks,u0 l key .junk (.agg cs) true],[(h.id,.live (.var t1 (uns [h.id] cs)))],.tuple [.ptr h.id 0 0 0,.bool true],.opp b ag ks (.pm t1) l key h.id)
      else none
     | _=>none
    else some ([b=b',wW P k ag ks,u0 l key .junk .junk false],[],.tuple [.nilp,.bool false],.cl b ag ks (.pm t1) l)
   | _,_,_=>none
  else none
 | _,_,_=>none
theorem zLW {w:World} {I:Nat->Prop} {e1 s1 e2 s2:Nat} {x:List AV}:gL w I (.nm e1 s1 e2 s2) [.nil,.nil] (.slice none 0 0) (VE (.nm e1 s1 e2 s2) x):=by
 refine ⟨.own 0 0,[.rowQ e1 s1 [] false (x++[.own 1 0]),.row e2 s2 []],rfl,rfl,.ownNil rfl,fun i bx hi=>?_⟩
 match i with
 | 0=>simp at hi;subst hi;exact .inl ⟨rfl,rfl,rfl⟩
 | 1=>simp at hi;subst hi;exact .inl ⟨rfl,rfl⟩
 | i+2=>simp at hi
def H3 (z:Value):Option (Nat×Value)->Value
 | some q=>q.2
 | none=>z
theorem zBg {P:Program} {w:World} {t k e:TypeId} {b:Nat} {E:Array MapEntry} {clock:Nat} {v:Value} {ok:Bool} {ag:Bool} {ks:List KSh} (K:wW P k ag ks) (hu:P.underlying t=some (.map k e)) (hh:w.heap[b]?=some (.map E clock)) {t':_} (ht':keyOf P k v=some t') {z:Value} (hz:(zeroValue e).run P w=.ok z w)
  {r:Option (Nat×Value)} (hr:(Instr.findKey k v E.toList).run P w=.ok r w) :
  (Instr.lookup t (.map (some b)) v ok).run P w=.ok (if ok then .tuple #[H3 z r,.bool r.isSome] else H3 z r) w:=by
 cases r with
 | none=>simp [Instr.lookup,run_underlying hu,lQ hh,K.keyed.check w _ ht',hr,hz,Result.andThen,H3]
 | some q=>obtain ⟨j,q⟩:=q;simp [Instr.lookup,run_underlying hu,lQ hh,K.keyed.check w _ ht',hr,Result.andThen,H3]
theorem zJf {P:Program} {N:Nat} {o:Oper} {t:TypeId} {x y:Operand} {ok:Bool} {rs:List (Nat×AV)} {hn:wA} {B:Nat->zR} {f:Fam} {r:List Prop×List (Nat×zR)×AV×Fam}
  (ho:o.op=.lookup t x y ok) (hx:xK x=true) (hy:xK y=true)
  (h:YQ P t (y7 rs x) (y7 rs y) ok B f hn=some r) (hv:∀ p∈r.1,p) (hd:qF N o.dst=true) {fid:Nat} {G:wQ} {st st2:AS} {a:Act} {w:World} (hf:G.foot=[]) (hN:G.n=N)
  (hrs:∀ x∈rs,st.slot x.1=x.2) (hB:∀ i∈r.2.1.map (·.1),st.box i=B i) (hfid:st.box fid=.live (.fam f))
  (hslot:st2.slot=dA st.slot (o.dst.map fun d=>(d,r.2.2.1))) (hbox:∀ i,st2.box i=yJ (r.2.1++[(fid,.live (.fam r.2.2.2))]) i (st.box i)) (hR:vJ G st a w) :
  o.wp P a w (fun a' w'=>vJ G st2 a' w') (fun _ _ _=>False):=by
 obtain ⟨G',Hd,L,F0,T,hT⟩:=hR;have F:=F0.ok fid f hfid;have hrx:=uS hT hrs hx;have hry:=uS hT hrs hy;unfold YQ at h
 split at h
 case h_2=>cases h
 rename_i k e b b' ag ks sh l hmt hX
 have hu:=KR hmt;rw [hX] at hrx;replace h:=xM h;obtain ⟨hkm,h⟩:=h;generalize he:a.eval x=vx at hrx;have hex:vx=.map (some b):=by cases hrx;rfl
 subst hex;have hI:∀ b,uP G' b->b<G'.w0.heap.size->w.heap[b]?=G'.w0.heap[b]?:=fun b hb _=>fZ hT.kept hb
 have hH:∀ b,Hd b->w.heap[b]?=G'.w0.heap[b]?:=fun b hb=>gX L hT.kept hb
 have hII:∀ b,uP G' b->b<G'.w0.heap.size->imm G' st T b/\b<w.heap.size:=fun b hb _=>gQ L hf hT hb
 have hput:∀ (v:Value),(execOp a.eval o).run P w=.ok (.value v) w->vJ G st2 (a.put o.dst v) w->o.wp P a w (fun a' w'=>vJ G st2 a' w') (fun _ _ _=>False):=fun v h1 h2=>jN h1 h2
 have hdn:∀ d,o.dst=some d->d<G.n:=by
  intro d hd'
  have:=(tW (av:=.junk) (av':=.junk) hd (by rw [hd'];rfl)).1
  rw [hN];exact this
 split at h
 ·rename_i e1 s1 e2 s2 hz
  split at h
  case h_2=>cases h
  rename_i av bs hdec
  replace h:=xM h;obtain ⟨hc,h⟩:=h;injection h with h;subst h;simp only [zba,tC] at hc;obtain ⟨⟨hnd,hun⟩,hlen,hbl,hbls0⟩:=hc;have hbls:∀ bx∈bs,gY hn.ids.length bx=true:=fun bx hb=>(hbls0 bx hb).1
  have hlen:=Nat.eq_of_beq_eq_true hlen;simp only at hv hslot hbox hB;have hbb:b=b':=hv _ (by simp);subst hbb;have K:wW P k ag ks:=hv _ (by simp);have hL:u0 l (y7 rs y) (VE (.nm e1 s1 e2 s2) hn.l) hn.av hn.g:=hv _ (by simp);obtain ⟨t',ht'⟩:=K.reads _ _ _ _ _ hry hkm;have M:=F;obtain ⟨E,clock,Pl,m1,m2,m3,m4,m5,m6,m7,m8,m8',m9,m10⟩:=M;have M:gB G'.w0 (uP G') Hd b ag ks (.nm e1 s1 e2 s2) l (fun _=>False) (fun _=>True):=⟨E,clock,Pl,m1,m2,m3,m4,m5,m6,m7,m8,m8',m9,m10⟩;have hh:w.heap[b]?=some (.map E clock):=by rw [hH b m1];exact m2
  have hlz:hn.ids.length=(bs.map fun x=>zR.live (unB hn.ids x)).length:=by simpa using hlen
  have hmem:∀ i∈hn.ids,i∈(hn.ids.zip (bs.map fun x=>zR.live (unB hn.ids x))).map (·.1):=by
   intro i hi;rw [List.map_fst_zip (by omega)];exact hi
  have hus:∀ i∈hn.ids,st.box i=.unused:=fun i hi=>by rw [hB i (hmem i hi)];exact bK (hun i hi)
  obtain ⟨zv,hzr,hzrep⟩:=OM (w:=w) (I:=fun _=>True) (T:=T) hz;have hzv:zv=.slice none 0 0:=by cases hzrep;rfl
  -- the entry, or an empty one
  have key:∃ (r0:Option (Nat×Value)) (ps:List zY),(Instr.findKey k (a.eval y) E.toList).run P w=.ok r0 w/\gL w (fun b=>imm G' st T b/\b<w.heap.size) (.nm e1 s1 e2 s2) ps (H3 zv r0) hn.av /\
    (∀ (j b1 c:Nat),ps[j]?=some (zY.at b1 c)->Hd b1/\b1≠b)/\(∀ (j j' b1 c c':Nat),ps[j]?=some (zY.at b1 c)->ps[j']?=some (zY.at b1 c')->j=j') /\
    gB w (fun b=>imm G' st T b/\b<w.heap.size) (fun b1=>Hd b1/\∀ j c:Nat,ps[j]?≠some (zY.at b1 c)) b ag ks (.nm e1 s1 e2 s2) l (fun k=>k=y7 rs y) (fun _=>True):=by
   rcases VW (T:=T) (I':=imm G' st T) (ex:=fun _=>False) (exv:=fun _=>True) (Pl:=Pl) K m3 m6 hT.kept.size hI m7 hry hkm with ⟨f1,f2,f3⟩ | ⟨j,e',x',f1,f2,f3,f4,f5⟩
   ·rcases hL with ⟨i,x',g1,g2,_⟩ | ⟨_,g1,g2⟩
    ·exact absurd g2 (f3 x' (yN g1))
    ·refine ⟨none,[.nil,.nil],f1,by rw [g1,hzv];exact zLW,?_,?_,zGz M hT.kept.size hI hH hII f3 (fun b1 h1=>⟨h1,?_⟩)⟩
     ·intro j b1 c hp
      match j with
      | 0=>simp at hp
      | 1=>simp at hp
      | j+2=>simp at hp
     ·intro j j' b1 c c' hp
      match j with
      | 0=>simp at hp
      | 1=>simp at hp
      | j+2=>simp at hp
     ·intro j c hp
      match j with
      | 0=>simp at hp
      | 1=>simp at hp
      | j+2=>simp at hp
   ·rcases hL with ⟨i,x2,g1,g2,g3,g4⟩ | ⟨g0,_⟩
    ·obtain ⟨e2',k1,k2,_⟩:=m7 i x2 g1;have hkv:=(dF k2 hry (m6 x2 (yN g1)) hkm).2 g2
     have:=rF m5 f2 k1 (f3.trans hkv.symm)
     subst this;rw [f4] at g1;injection g1 with g1;subst g1;obtain ⟨ps,q1,q2,q3,q4⟩:=zCH (exv:=fun _=>True) M hT.kept.size hI hH hII hh f2 f4 f5 hkm trivial;exact ⟨some (j,e'.val),ps,f1,by rw [g3];exact q1,q2,q3,q4⟩
    ·exact absurd f5 (g0 x' (yN f4))
  obtain ⟨r0,ps,hfind,hFE,hps,hdist,hM⟩:=key;have hrun:=zBg (ok:=false) K hu hh ht' hzr hfind;generalize (H3 zv r0)=v at hFE hrun;obtain ⟨av2,bs2,d1,d2,d3,d4⟩:=hFE;rw [hdec] at d1;injection d1 with d1;injection d1 with d1 d1';subst d1;subst d1';refine hput v ?_ ?_
  ·simp only [execOp,ho,he,vV,hrun,v6];rfl
  ·have hnf:fid∉(hn.ids.zip (bs.map fun x=>zR.live (unB hn.ids x))).map (·.1):=by
    rw [List.map_fst_zip (by omega)];intro hi
    have:=hus _ hi
    rw [hfid] at this;cases this
   have hwnf:∀ x∈hn.ids.zip (bs.map fun x=>zR.live (unB hn.ids x)),x.2.nf=true:=by
    intro x hx
    have:=List.of_mem_zip hx
    obtain ⟨bx,h1,h2⟩:=vB.1 this.2;rw [<- h2]
    have:=(hbls0 bx h1).2
    cases bx<;>first | rfl | cases this
   obtain ⟨o1,o2,o3⟩:=YJ (st2:=⟨st2.slot,fun i=>yJ (hn.ids.zip (bs.map fun x=>zR.live (unB hn.ids x))) i (st.box i)⟩) (pin:=fun _=>none) (dst:=o.dst) (avd:=un hn.ids av) L hf hT hnd hlen d2 hus d4 hbls (fun j b1 c hp=>(hps j b1 c hp).1) hdist hslot rfl hdn
    (O3 (by rw [zDo hnd (hlen.trans d2.symm)];exact d3) hbl) (fun i p hp=>by cases hp)
   have o2':=o2.fam (st2:=st2) (fid:=fid) (f:=.cl b ag ks (.nm e1 s1 e2 s2) l) (f':=.op b ag ks (.nm e1 s1 e2 s2) l (y7 rs y)) (by simp only;rw [zCC hnf];exact hfid) rfl (fun i=>by rw [hbox,LG hnf]);refine ⟨_,_,o1,SV F0 hfid hbox hwnf hnf ?_,_,o2'⟩;obtain ⟨E2,clock2,Pl2,n1,n2,n3,n4,n5,n6,n7,n8,n8',n9,n10⟩:=hM;refine ⟨E2,clock2,Pl2,n1,n2,n3,n4,n5,n6,fun i x hi=>?_,n8,n8',n9,n10⟩;obtain ⟨e3,r1,r2,r3,r4⟩:=n7 i x hi;exact ⟨e3,r1,r2.mono (yI _) (fun _ _ _=>rfl) (fun b hb _=>o3 b hb) (fun _ _ h=>h),r3,fun hk=>(r4 hk).move (yI _) (fun _ _ _=>rfl) (fun b hb _=>o3 b hb) (fun _ _ _ _ _=>rfl)⟩
 ·rename_i t1 hz
  cases hg:hn.g
  · -- not there
   rw [hg] at h;simp only [cond_false] at h;injection h with h;subst h;simp only at hv hslot hbox hB;have hbb:b=b':=hv _ (by simp);subst hbb;have K:wW P k ag ks:=hv _ (by simp);have hL:u0 l (y7 rs y) .junk .junk false:=hv _ (by simp);obtain ⟨t',ht'⟩:=K.reads _ _ _ _ _ hry hkm;obtain ⟨E,clock,Pl,m1,m2,m3,m4,m5,m6,m7,m8,m8',m9,m10⟩:=F;have hh:w.heap[b]?=some (.map E clock):=by rw [hH b m1];exact m2
   obtain ⟨zv,hzr,hzrep⟩:=OM (w:=w) (I:=imm G' st T) (T:=T) hz;have hno:∀ x∈l,x.1≠y7 rs y:=by
    rcases hL with ⟨i,x',g1,g2,g3,g4⟩ | ⟨g0,_⟩
    ·cases g4
    ·exact g0
   rcases VW (T:=T) (I':=imm G' st T) (ex:=fun _=>False) (exv:=fun _=>True) (Pl:=Pl) K m3 m6 hT.kept.size hI m7 hry hkm with ⟨f1,f2,f3⟩ | ⟨j,e',x',f1,f2,f3,f4,f5⟩
   ·have hrun:=zBg (ok:=true) K hu hh ht' hzr f1;refine hput (.tuple #[zv,.bool false]) ?_ ?_
    ·simp only [execOp,ho,he,vV,hrun,v6];rfl
    ·have hsame:st2.box=st.box:=by
      funext i
      rw [hbox,LG (by simp)]
      by_cases e:i=fid
      ·subst e;rw [if_pos rfl];exact hfid.symm
      ·rw [if_neg e];rfl
     refine ⟨G',Hd,L,F0.less (fun id g hg=>by rw [hsame] at hg;exact hg),?_⟩;have hq:Rel G' (st.upd { dst:=o.dst.map fun d=>(d,.tuple [.nilp,.bool false]) }) (a.put o.dst (.tuple #[zv,.bool false])) w:=by
      refine hT.quiet (nC w) rfl (by simp [tY]) ?_;intro d av' he';obtain ⟨hlt,rfl⟩:=tW hd he';refine ⟨by rw [L.n];omega,.tuple (by simp) fun j c hj=>?_⟩
      match j with
      | 0=>simp at hj;subst hj;exact hzrep
      | 1=>simp at hj;subst hj;exact .bool
      | j+2=>simp at hj
     refine hq.congr ?_ ?_
     ·rw [hslot];rfl
     ·rw [hsame];rfl
   ·exact absurd f5 (hno x' (yN f4))
  ·rw [hg] at h;simp only [cond_true] at h
   split at h
   case h_2=>cases h
   rename_i cs hav
   replace h:=xM h;obtain ⟨hc,h⟩:=h;injection h with h;subst h;simp only [zba] at hc;obtain ⟨hun,hbl⟩:=hc;simp only at hv hslot hbox hB;have hbb:b=b':=hv _ (by simp);subst hbb;have K:wW P k ag ks:=hv _ (by simp);have hL:u0 l (y7 rs y) .junk (.agg cs) true:=hv _ (by simp);obtain ⟨t',ht'⟩:=K.reads _ _ _ _ _ hry hkm;have M:=F;obtain ⟨E,clock,Pl,m1,m2,m3,m4,m5,m6,m7,m8,m8',m9,m10⟩:=M;have M:gB G'.w0 (uP G') Hd b ag ks (.pm t1) l (fun _=>False) (fun _=>True):=⟨E,clock,Pl,m1,m2,m3,m4,m5,m6,m7,m8,m8',m9,m10⟩;have hh:w.heap[b]?=some (.map E clock):=by rw [hH b m1];exact m2
   obtain ⟨zv,hzr,hzrep⟩:=OM (w:=w) (I:=fun _=>True) (T:=T) hz;have hus:∀ i∈[hn.id],st.box i=.unused:=fun i hi=>by
    rw [uO.1 hi,hB hn.id (by simp)];exact bK hun
   rcases hL with ⟨i,x2,g1,g2,g3,g4⟩ | ⟨g0,_,g5⟩
   case inr=>cases g5
   rcases VW (T:=T) (I':=imm G' st T) (ex:=fun _=>False) (exv:=fun _=>True) (Pl:=Pl) K m3 m6 hT.kept.size hI m7 hry hkm with ⟨f1,f2,f3⟩ | ⟨j,e',x',f1,f2,f3,f4,f5⟩
   ·exact absurd g2 (f3 x2 (yN g1))
   obtain ⟨e2',k1,k2,_⟩:=m7 i x2 g1;have hkv:=(dF k2 hry (m6 x2 (yN g1)) hkm).2 g2
   have:=rF m5 f2 k1 (f3.trans hkv.symm)
   subst this;rw [f4] at g1;injection g1 with g1;subst g1;have hrun:=zBg (ok:=true) K hu hh ht' hzr f1
   -- where its block lies
   have hval:∃ b1,e'.val=.pointer (some ⟨b1,0,none⟩):=by
    obtain ⟨e3,q1,_,_,q4⟩:=m7 j x' f4;rw [f2] at q1;injection q1 with q1;subst q1;obtain ⟨av,bs,d1,d2,d3,d4⟩:=q4 (fun h=>h);rw [<- g3] at d1;simp only [FSh.dec] at d1;injection d1 with d1;injection d1 with d1 d1';subst d1;subst d1';generalize e'.val=v at d3;obtain ⟨b2,C,r1,_⟩:=d4 0 _ rfl;cases d3 with
    | ptr q r =>
     simp only at q;rw [q] at r1;injection r1 with r1;injection r1 with r1 r2;subst r;subst r2;exact ⟨_,rfl⟩
   obtain ⟨b1,hval⟩:=hval;obtain ⟨ps,q1,q2,q3,q4⟩:=zCH (exv:=fun v=>v=.pointer (some ⟨b1,0,none⟩)) M hT.kept.size hI hH hII hh f2 f4 f5 hkm hval;obtain ⟨av2,bs2,d1,d2,d3,d4⟩:=q1;rw [<- g3] at d1;simp only [FSh.dec] at d1;injection d1 with d1;injection d1 with d1 d1';subst d1;subst d1';have hTid:ps[0]?=some (.at b1 0):=by
    obtain ⟨b2,C,r1,_⟩:=d4 0 _ rfl;rw [hval] at d3;cases d3 with
    | ptr q r =>
     simp only at q;rw [q] at r1 ⊢;injection r1 with r1;injection r1 with r1 r2;rw [r2]
   refine hput (.tuple #[e'.val,.bool true]) ?_ ?_
   ·simp only [execOp,ho,he,vV,hrun,v6];rfl
   ·have hnd:tZ [hn.id]=true:=by simp [tZ]
    have hTp:aM T [hn.id] ps hn.id=some (.at b1 0):=by rw [zAk hnd d2.symm (i:=hn.id) (j:=0) rfl];exact hTid
    have hne:fid≠hn.id:=fun e=>by have:=hus hn.id (by simp);rw [<- e,hfid] at this;cases this
    have hnf:fid∉[(hn.id,zR.live (.var t1 (uns [hn.id] cs)))].map (·.1):=by simpa using hne
    obtain ⟨o1,o2,o3⟩:=YJ (st2:=⟨st2.slot,fun i=>yJ [(hn.id,zR.live (.var t1 (uns [hn.id] cs)))] i (st.box i)⟩) (pin:=fun i=>if i=hn.id then some (.at b1 0) else none) (dst:=o.dst) (vd:=.tuple #[e'.val,.bool true]) (avd:=.tuple [.ptr hn.id 0 0 0,.bool true]) (ids:=[hn.id]) (ps:=ps) L hf hT hnd rfl d2 hus d4
     (fun bx hb=>by rw [uO.1 hb];exact hbl) (fun j b1 c hp=>(q2 j b1 c hp).1) q3 hslot rfl hdn
     (.tuple (by simp) fun j c hj=>by
      match j with
      | 0=>simp at hj;subst hj;rw [show (#[e'.val,Value.bool true].getD 0 undef)=e'.val from rfl,hval];exact .ptr hTp rfl
      | 1=>simp at hj;subst hj;exact .bool
      | j+2=>simp at hj)
     (fun i p hp=>by
      by_cases hi:i=hn.id
      ·subst hi;rw [if_pos rfl] at hp;injection hp with hp;subst hp;exact hTp
      ·rw [if_neg hi] at hp;cases hp)
    have o2':=o2.fam (st2:=st2) (fid:=fid) (f:=.cl b ag ks (.pm t1) l) (f':=.opp b ag ks (.pm t1) l (y7 rs y) hn.id) (by simp only;rw [zCC hnf];exact hfid) rfl (fun i=>by rw [hbox,LG hnf]);refine ⟨_,_,o1,SV F0 hfid hbox (fun x hx=>by rw [uO.1 hx];rfl) hnf ?_,_,o2'⟩;refine ⟨b1,if_pos rfl,⟨x',yN f4,f5⟩,?_⟩;obtain ⟨E2,clock2,Pl2,n1,n2,n3,n4,n5,n6,n7,n8,n8',n9,n10⟩:=q4;refine ⟨E2,clock2,Pl2,n1,n2,n3,n4,n5,n6,fun i x hi=>?_,n8,n8',n9,n10⟩;obtain ⟨e3,r1,r2,r3,r4⟩:=n7 i x hi;exact ⟨e3,r1,r2.mono (yI _) (fun _ _ _=>rfl) (fun b hb _=>o3 b hb) (fun _ _ h=>h),r3,fun hk=>(r4 hk).move (yI _) (fun _ _ _=>rfl) (fun b hb _=>o3 b hb) (fun _ _ _ _ _=>rfl)⟩
 ·cases h
theorem zFi {w0 w:World} {I I' Hd Hd2:Nat->Prop} {b:Nat} {ag:Bool} {ks:List KSh} {sh:FSh} {l es:List (AV×AV)} {key c:AV} {ex:AV->Prop} {exv:Value->Prop} {E E':Array MapEntry} {clock':Nat} {Pl:Nat->List zY} {j:Nat} {v:Value} {ps:List zY}
  (hex:∀ k,ex k->k=key) (hb:Hd b) (hk6:∀ x∈es,uI ag ks x.1=true)
  (m7:∀ (i:Nat) (x:AV×AV),l[i]?=some x->∃ e:MapEntry,E[i]?=some e/\Rep w0 I Tbl.empty e.key x.1/\(ex x.1->exv e.val)/\(¬ ex x.1->gL w0 I sh (Pl i) e.val x.2))
  (m8:∀ i,l.length<=i->Pl i=[])
  (m9:∀ (i j b1 c1:Nat),(Pl i)[j]?=some (zY.at b1 c1)->Hd b1/\b1≠b)
  (m10:∀ (i j i' j' b1 c1 c2:Nat),(Pl i)[j]?=some (zY.at b1 c1)->(Pl i')[j']?=some (zY.at b1 c2)->i=i'/\j=j')
  (hsz:w0.heap.size<=w.heap.size) (hI:∀ c,I c->c<w0.heap.size->w.heap[c]?=w0.heap[c]?) (hH:∀ c,Hd c->c≠b->w.heap[c]?=w0.heap[c]?) (hII:∀ c,I c->c<w0.heap.size->I' c)
  (hE':w.heap[b]?=some (.map E' clock')) (hS':MapKept.Stamped E' clock') (hes:E'.size=es.length) (hmax:es.length<=maxLen) (hlen:l.length<=es.length)
  (hj:es[j]?=some (key,c)) (hnew:∃ e':MapEntry,E'[j]?=some e'/\Rep w I' Tbl.empty e'.key key/\e'.val=v)
  (hold:∀ (i:Nat) (x:AV×AV),i≠j->es[i]?=some x->l[i]?=some x/\E'[i]?=E[i]?/\x.1≠key)
  (hFE:gL w I' sh ps v c) (hps:∀ (j b1 c1:Nat),ps[j]?=some (zY.at b1 c1)->Hd2 b1/\b1≠b/\¬ Hd b1) (hdist:∀ (j j' b1 c c':Nat),ps[j]?=some (zY.at b1 c)->ps[j']?=some (zY.at b1 c')->j=j')
  (hHd:∀ c,Hd c->Hd2 c):gB w I' Hd2 b ag ks sh es (fun _=>False) (fun _=>True):=by
 have hjl:=(vO.1 hj).1;refine ⟨E',clock',fun i=>if i=j then ps else Pl i,hHd b hb,hE',hes,hmax,hS',hk6,?_,fun _ _ _ h=>h.elim,?_,?_,?_⟩
 ·intro i x hi
  by_cases e:i=j
  ·subst e;rw [hj] at hi;injection hi with hi;subst hi;obtain ⟨e',q1,q2,q3⟩:=hnew;exact ⟨e',q1,q2,fun h=>h.elim,fun _=>by simp only [if_pos];rw [q3];exact hFE⟩
  ·obtain ⟨h1,h2,h3⟩:=hold i x e hi;obtain ⟨e',q1,q2,_,q4⟩:=m7 i x h1;refine ⟨e',by rw [h2];exact q1,q2.mono hsz hI hII (fun _ _ h=>h),fun h=>h.elim,fun _=>?_⟩;simp only [if_neg e];exact (q4 (fun h=>h3 (hex _ h))).move hsz hI hII (fun i' b1 cap hp _=>hH b1 (m9 i i' b1 cap hp).1 (m9 i i' b1 cap hp).2)
 ·intro i hi
  have:i≠j:=by omega
  simp only [if_neg this];exact m8 i (by omega)
 ·intro i j' b1 c1 hp
  by_cases e:i=j
  ·simp only [if_pos e] at hp;exact ⟨(hps j' b1 c1 hp).1,(hps j' b1 c1 hp).2.1⟩
  ·simp only [if_neg e] at hp;exact ⟨hHd _ (m9 i j' b1 c1 hp).1,(m9 i j' b1 c1 hp).2⟩
 ·intro i j1 i' j2 b1 c1 c2 h1 h2
  by_cases e:i=j<;>by_cases e':i'=j
  ·simp only [if_pos e] at h1;simp only [if_pos e'] at h2;exact ⟨e.trans e'.symm,hdist j1 j2 b1 c1 c2 h1 h2⟩
  ·simp only [if_pos e] at h1;simp only [if_neg e'] at h2;exact absurd (m9 i' j2 b1 c2 h2).1 (hps j1 b1 c1 h1).2.2
  ·simp only [if_neg e] at h1;simp only [if_pos e'] at h2;exact absurd (m9 i j1 b1 c1 h1).1 (hps j2 b1 c2 h2).2.2
  ·simp only [if_neg e] at h1;simp only [if_neg e'] at h2;exact m10 i j1 i' j2 b1 c1 c2 h1 h2
theorem ZF {G G':wQ} {Hd:Nat->Prop} {st st2:AS} {T:Tbl} {a:Act} {w w2:World} (L:jU G G' Hd) (hf:G.foot=[]) (hR:uF G' st T a w) {ids:List Nat} (hl:∀ id∈ids,∃ bx,st.box id=.live bx)
  (hos:w2.os=w.os) (htape:w2.tape=w.tape) (hout:w2.output=w.output) (hsz:w.heap.size<=w2.heap.size) (hblk:∀ b,b<w.heap.size->¬ Hd b->w2.heap[b]?=w.heap[b]?)
  (hslot:st2.slot=st.slot) (hbox:∀ i,st2.box i=if i∈ids then .dead else st.box i) (pin:Nat->Option zY:=fun _=>none) (hpin:∀ i p,pin i=some p->T i=some p:=by intro _ _ h;cases h) :
  jU G (reb G (fun b=>imm G' st T b/\b<w.heap.size) st2 T w2 pin) (fun b=>Hd b\/∃ id∈ids,∃ c,T id=some (.at b c)) /\
  uF (reb G (fun b=>imm G' st T b/\b<w.heap.size) st2 T w2 pin) st2 T a w2 /\
  ∀ b,imm G' st T b/\b<w.heap.size->uP (reb G (fun b=>imm G' st T b/\b<w.heap.size) st2 T w2 pin) b:=by
 have hlive:∀ id bx,st2.box id=.live bx->id∉ids/\st.box id=.live bx:=by
  intro id bx h;rw [hbox] at h
  by_cases e:id∈ids
  ·rw [if_pos e] at h;cases h
  ·rw [if_neg e] at h;exact ⟨e,h⟩
 have hkeep:∀ b,imm G' st T b->b<w.heap.size->w2.heap[b]?=w.heap[b]?:=fun b hb hlt=>hblk b hlt fun h=>g9 L h hb
 refine CK (Hd2:=fun b=>Hd b\/∃ id∈ids,∃ c,T id=some (.at b c)) L hf hR hos htape hout hsz hblk hR.defers (by rw [hR.size,L.n]) ?_ ?_ ?_ ?_ ?_ ?_ hpin ?_
 ·rintro b ⟨hb,hlt⟩;refine ⟨(L.imm hb).1.elim .inl .inr,kZ hlt hsz,fun h=>?_,fun id bx cap h1=>hb.2 id bx cap (hlive id bx h1).2⟩;rcases h with h | ⟨id,hi,c,hT⟩
  ·exact g9 L h hb
  ·obtain ⟨bx,hbx⟩:=hl id hi;exact hb.2 id bx c hbx hT
 ·intro t;rw [hslot];exact (hR.slots t).mono hsz hkeep (fun b hb hlt=>⟨hb,hlt⟩) (fun _ _ h=>h)
 ·intro id bx h1;obtain ⟨_,h2⟩:=hlive id bx h1;exact (hR.boxes id bx h2).mono hsz hkeep (fun b hb hlt=>⟨hb,hlt⟩) (fun _ _ h=>h) (fun b cap hp hlt=>hblk b hlt (nP L hf hR h2 hp))
 ·intro id h1;rw [hbox] at h1
  by_cases e:id∈ids
  ·rw [if_pos e] at h1;cases h1
  ·rw [if_neg e] at h1;exact hR.unused id h1
 ·intro i j x y b c c' h1 h2;exact hR.apart i j x y b c c' (hlive i x h1).2 (hlive j y h2).2
 ·intro id bx b cap h1 hT;obtain ⟨hn,h2⟩:=hlive id bx h1;refine ⟨L.mine (hR.mine id bx b cap h2 hT (by rw [L.foot,hf];exact wI _)),fun h=>?_⟩;rcases h with h | ⟨id',hi,c,hT'⟩
  ·exact nP L hf hR h2 hT h
  ·obtain ⟨bx',hbx'⟩:=hl id' hi
   have:=hR.apart id id' bx bx' b cap c h2 hbx' hT hT'
   subst this;exact hn hi
 ·rintro b (h | ⟨id,hi,c,hT⟩)
  ·exact ⟨kZ (L.hid b h).1 (kX hR.kept.size hsz),(L.hid b h).2.1⟩
  ·obtain ⟨bx,hbx⟩:=hl id hi;exact ⟨kZ (cS hR hbx hT) hsz,L.mine (hR.mine id bx b c hbx hT (by rw [L.foot,hf];exact wI _))⟩
theorem zCl {G:wQ} {st:AS} {T:Tbl} {a:Act} {w w2:World} {J:Nat->Prop} (hR:uF G st T a w) {ids:List Nat} {bs:List Box} {av:AV} {v:Value} {sh:FSh} {c:AV} (hl:ids.length=bs.length)
  (hdec:sh.dec c=some (av,bs)) (hv:Rep w (imm G st T) T v (un ids av)) (hbel:qQ ids.length av=true) (hb:∀ (j id:Nat) (bx:Box),ids[j]?=some id->bs[j]?=some bx->st.box id=.live (unB ids bx)) (hbels:∀ bx∈bs,gY ids.length bx=true)
  (hsz:w.heap.size<=w2.heap.size) (hkeep:∀ b,imm G st T b->b<w.heap.size->w2.heap[b]?=w.heap[b]?) (hJ:∀ b,imm G st T b->b<w.heap.size->J b) (hown:∀ id∈ids,∀ b c,T id=some (.at b c)->w2.heap[b]?=w.heap[b]?) :
  ∃ ps:List zY,gL w2 J sh ps v c/\ps.length=ids.length/\(∀ (j id:Nat),ids[j]?=some id->ps[j]?=T id):=by
 have hT:∀ (j id:Nat),ids[j]?=some id->∃ p,T id=some p:=by
  intro j id hj;have hjl:j<bs.length:=by rw [<- hl];exact (vO.1 hj).1
  have h1:=hb j id _ hj (w7 hjl);have h2:=hR.boxes id _ h1;cases h:T id with
  | none=>rw [h] at h2;exact h2.no.elim
  | some p=>exact ⟨p,rfl⟩
 have hpj:∀ (j id:Nat),ids[j]?=some id->(ids.map fun i=>(T i).getD .nil)[j]?=T id:=by
  intro j id hj;obtain ⟨p,hp⟩:=hT j id hj;rw [vD,hj];simp [hp]
 have hTc:Tc ids T=fun i=>(ids.map fun i=>(T i).getD .nil)[i]?:=by
  funext j
  simp only [Tc];cases hj:ids[j]? with
  | none=>rw [vD,hj];rfl
  | some id=>exact (hpj j id hj).symm
 refine ⟨ids.map fun i=>(T i).getD .nil,⟨av,bs,hdec,by rw [vL,hl],?_,?_⟩,by simp,hpj⟩
 ·have:=D0 (foot:=ids) hv av rfl hbel
  rw [hTc] at this;exact this.mono hsz hkeep hJ (fun _ _ h=>h)
 ·intro j bx hj;have hjl:j<ids.length:=by rw [hl];exact (vO.1 hj).1
  have hij:=w7 hjl;have h1:=hR.boxes _ _ (hb j _ bx hij hj);have h2:=UE (foot:=ids) h1 (hbels bx (yN hj));rw [hTc,<- hpj j _ hij] at h2;refine h2.mono hsz hkeep hJ (fun _ _ h=>h) (fun b c hp _=>?_);rw [hpj j _ hij] at hp;exact hown _ (yN hij) b c hp
def zFN (key:AV):Option AV->Prop
 | some k=>key=k
 | none=>True
def BN (P:Program) (t:TypeId) (m key v:AV) (B:Nat->zR) (f:Fam) (h:wA):Option (List Prop×List (Nat×zR)×Fam) :=
 match rI P t,m,famOf f with
 | some (k,_),.rawm b,some (b',ag,ks,sh,l,key') =>
  bif uI ag ks key then
   match sh.dec h.av with
   | some (av,bs) =>
    bif tZ h.ids&&(Nat.beq h.ids.length bs.length&&(qQ h.ids.length av&&bs.all (fun x=>gY h.ids.length x&&x.nf))) then
     some ([b=b',zFN key key',wW P k ag ks,jS l key h.av h.es,l.length<maxLen,v=un h.ids av,h.ids.map B=bs.map (fun x=>.live (unB h.ids x))],
      h.ids.map (fun i=>(i,.dead)),.cl b ag ks sh h.es)
    else none
   | none=>none
  else none
 | _,_,_=>none
where famOf:Fam->Option (Nat×Bool×List KSh×FSh×List (AV×AV)×Option AV)
 | .cl b ag ks sh l=>some (b,ag,ks,sh,l,none)
 | .op b ag ks sh l key=>some (b,ag,ks,sh,l,some key)
 | .opp ..=>none
 | .hp ..=>none
 | .hpx ..=>none
theorem zIj {P:Program} {N:Nat} {o:Oper} {t:TypeId} {x y z:Operand} {rs:List (Nat×AV)} {hn:wA} {B:Nat->zR} {f:Fam} {r:List Prop×List (Nat×zR)×Fam}
  (ho:o.op=.mapUpdate t x y z) (hx:xK x=true) (hy:xK y=true) (hz:xK z=true)
  (h:BN P t (y7 rs x) (y7 rs y) (y7 rs z) B f hn=some r) (hv:∀ p∈r.1,p) (hd:o.dst=none) {fid:Nat} {G:wQ} {st st2:AS} {a:Act} {w:World} (hf:G.foot=[]) (_hN:G.n=N)
  (hrs:∀ x∈rs,st.slot x.1=x.2) (hB:∀ i∈r.2.1.map (·.1),st.box i=B i) (hfid:st.box fid=.live (.fam f))
  (hslot:st2.slot=st.slot) (hbox:∀ i,st2.box i=yJ (r.2.1++[(fid,.live (.fam r.2.2))]) i (st.box i)) (hR:vJ G st a w) :
  o.wp P a w (fun a' w'=>vJ G st2 a' w') (fun _ _ _=>False):=by
 obtain ⟨G',Hd,L,F0,T,hT⟩:=hR;have F:=F0.ok fid f hfid;have hrx:=uS hT hrs hx;have hry:=uS hT hrs hy;have hrz:=uS hT hrs hz;unfold BN at h
 split at h
 case h_2=>cases h
 rename_i k e' b b' ag ks sh l key' hmt hX hfam
 have hu:=KR hmt;rw [hX] at hrx;replace h:=xM h;obtain ⟨hkm,h⟩:=h
 split at h
 case h_2=>cases h
 rename_i av bs hdec
 replace h:=xM h;obtain ⟨hc,h⟩:=h;simp only [zba,tC] at hc;obtain ⟨hnd,hlen,hbel,hbls0⟩:=hc;have hlen:=wT.1 hlen;injection h with h;subst h;simp only at hv hbox hB;have hbb:b=b':=hv _ (by simp);subst hbb;have hkk:zFN (y7 rs y) key':=hv _ (by simp);have K:wW P k ag ks:=hv _ (by simp);have hL:jS l (y7 rs y) hn.av hn.es:=hv _ (by simp);have hmax:l.length<maxLen:=hv _ (by simp);have hvz:y7 rs z=un hn.ids av:=hv _ (by simp);have hBs:hn.ids.map B=bs.map (fun x=>zR.live (unB hn.ids x)):=hv _ (by simp);rw [hvz] at hrz;generalize he:a.eval x=vx at hrx;have hex:vx=.map (some b):=by cases hrx;rfl
 subst hex;obtain ⟨t',ht'⟩:=K.reads _ _ _ _ _ hry hkm;have hrk:Rep w (imm G' st T) Tbl.empty (a.eval y) (y7 rs y):=hry.bare (zFS hkm)
 -- what is known of the map, closed or with its entry taken out
 obtain ⟨ex,exv,hexk,M⟩:∃ (ex:AV->Prop) (exv:Value->Prop),(∀ k,ex k->k=y7 rs y)/\gB G'.w0 (uP G') Hd b ag ks sh l ex exv:=by
  cases f with
  | cl b1 ag1 ks1 sh1 l1=>simp only [BN.famOf,uU,kU] at hfam;obtain ⟨rfl,rfl,rfl,rfl,rfl,rfl⟩:=hfam;exact ⟨fun _=>False,fun _=>True,fun _ h=>h.elim,F⟩
  | op b1 ag1 ks1 sh1 l1 k1=>simp only [BN.famOf,uU,kU] at hfam;obtain ⟨rfl,rfl,rfl,rfl,rfl,rfl⟩:=hfam;exact ⟨fun k=>k=k1,fun _=>True,fun _ h=>h.trans (show y7 rs y=k1 from hkk).symm,F⟩
  | opp=>simp [BN.famOf] at hfam
  | hp=>simp [BN.famOf] at hfam
  | hpx=>simp [BN.famOf] at hfam
 obtain ⟨E,clock,Pl,m1,m2,m3,m4,m5,m6,m7,m8,m8',m9,m10⟩:=M;have hI:∀ b,uP G' b->b<G'.w0.heap.size->w.heap[b]?=G'.w0.heap[b]?:=fun b hb _=>fZ hT.kept hb
 have hH:∀ b,Hd b->w.heap[b]?=G'.w0.heap[b]?:=fun b hb=>gX L hT.kept hb
 have hII:∀ b,uP G' b->b<G'.w0.heap.size->imm G' st T b/\b<w.heap.size:=fun b hb _=>gQ L hf hT hb
 have hh:w.heap[b]?=some (.map E clock):=by rw [hH b m1];exact m2
 have hmemid:∀ i∈hn.ids,st.box i=B i:=fun i hi=>hB i (by simp only [QL,vB];exact ⟨i,hi,rfl⟩)
 have hbj:∀ (j id:Nat) (bx:Box),hn.ids[j]?=some id->bs[j]?=some bx->st.box id=.live (unB hn.ids bx):=by
  intro j id bx h1 h2
  have:=congrArg (·[j]?) hBs
  simp only [vD,h1,h2,kH,uU] at this;rw [hmemid id (yN h1)];exact this
 have hnfj:∀ (j id:Nat) (bx:Box),hn.ids[j]?=some id->bs[j]?=some bx->(unB hn.ids bx).nf=true:=by
  intro j id bx h1 h2
  have:=(hbls0 bx (yN h2)).2
  cases bx<;>first | rfl | cases this
 have hlive:∀ id∈hn.ids,∃ bx,st.box id=.live bx/\bx.nf=true:=by
  intro id hi;obtain ⟨j,hj⟩:=uG.1 hi;have hjl:j<bs.length:=by rw [<- hlen];exact (vO.1 hj).1
  exact ⟨_,hbj j id _ hj (w7 hjl),hnfj j id _ hj (w7 hjl)⟩
 have hfn:fid∉hn.ids:=fun hi=>by
  obtain ⟨bx,h1,h2⟩:=hlive fid hi;rw [hfid] at h1;injection h1 with h1;subst h1;cases h2
 have hnf:fid∉(hn.ids.map (fun i=>(i,zR.dead))).map (·.1):=by simpa [tY] using hfn
 have hwnf:∀ x∈hn.ids.map (fun i=>(i,zR.dead)),x.2.nf=true:=by
  intro x hx;obtain ⟨i,_,rfl⟩:=vB.1 hx;rfl
 -- all but the map's own change
 have fin:∀ (E':Array MapEntry) (clock' j:Nat),(Instr.mapUpdate t (.map (some b)) (a.eval y) (a.eval z)).run P w=.ok () (ChangeMaps.setBlock w b (.map E' clock'))->E'.size=hn.es.length->hn.es.length<=maxLen->l.length<=hn.es.length->MapKept.Stamped E' clock' ->
   (∀ x∈hn.es,uI ag ks x.1=true)->hn.es[j]?=some (y7 rs y,hn.av)->(∃ e':MapEntry,E'[j]?=some e'/\e'.key=a.eval y/\e'.val=a.eval z) ->
   (∀ (i:Nat) (x:AV×AV),i≠j->hn.es[i]?=some x->l[i]?=some x/\E'[i]?=E[i]?/\x.1≠y7 rs y) ->
   o.wp P a w (fun a' w'=>vJ G st2 a' w') (fun _ _ _=>False):=by
  intro E' clock' j hrun k1 k2 k2' k3 k4 k5 k6 k7;have hex:(execOp a.eval o).run P w=.ok .skip (ChangeMaps.setBlock w b (.map E' clock')):=by
   simp only [execOp,ho,he,vV,hrun,v6];rfl
  unfold Oper.wp;rw [hex];show vJ G _ (a.put o.dst undef) _;rw [hd];show vJ G _ a _;have hother:∀ c,c≠b->(ChangeMaps.setBlock w b (.map E' clock')).heap[c]?=w.heap[c]?:=fun c hc=>zAw hh _ hc
  have hszeq:w.heap.size<=(ChangeMaps.setBlock w b (.map E' clock')).heap.size:=by simp [ChangeMaps.setBlock]
  have himmb:∀ c,imm G' st T c->c≠b:=fun c hc e=>by subst e;exact g9 L m1 hc
  obtain ⟨o1,o2,o3⟩:=ZF (st2:=⟨st.slot,fun i=>if i∈hn.ids then .dead else st.box i⟩) (w2:=ChangeMaps.setBlock w b (.map E' clock')) (ids:=hn.ids) L hf hT (fun id hi=>by obtain ⟨bx,h1,_⟩:=hlive id hi;exact ⟨bx,h1⟩)
   rfl rfl rfl hszeq (fun c _ hc=>hother c (fun e=>by subst e;exact hc m1)) rfl (fun _=>rfl)
  have hlk:∀ i,yJ (hn.ids.map (fun i=>(i,zR.dead))) i (st.box i)=if i∈hn.ids then .dead else st.box i:=by intro i;rw [zCm]
  have o2':=o2.fam (st2:=st2) (fid:=fid) (f:=f) (f':=.cl b ag ks sh hn.es) (by simp only;rw [if_neg hfn];exact hfid) hslot (fun i=>by rw [hbox,LG hnf,hlk]);have hreb:(reb G (fun b=>imm G' st T b/\b<w.heap.size) ⟨st.slot,fun i=>if i∈hn.ids then .dead else st.box i⟩ T (ChangeMaps.setBlock w b (.map E' clock')) (fun _=>none)).w0=ChangeMaps.setBlock w b (.map E' clock'):=rfl;have hownp:∀ id∈hn.ids,∀ c cap,T id=some (.at c cap)->¬ Hd c/\c≠b:=by
   intro id hi c cap hTi;obtain ⟨bx,h1,_⟩:=hlive id hi;have h2:=nP L hf hT h1 hTi;exact ⟨h2,fun e=>by subst e;exact h2 m1⟩
  obtain ⟨ps,p1,p2,p3⟩:=zCl (w2:=ChangeMaps.setBlock w b (.map E' clock')) (J:=uP (reb G (fun b=>imm G' st T b/\b<w.heap.size) ⟨st.slot,fun i=>if i∈hn.ids then .dead else st.box i⟩ T (ChangeMaps.setBlock w b (.map E' clock')) (fun _=>none))) (c:=hn.av) hT hlen hdec hrz hbel hbj (fun bx hb=>(hbls0 bx hb).1)
   hszeq (fun c hc _=>hother c (himmb c hc)) (fun c hc hlt=>o3 c ⟨hc,hlt⟩) (fun id hi c cap hTi=>hother c (hownp id hi c cap hTi).2)
  have hpsT:∀ (j b1 c1:Nat),ps[j]?=some (zY.at b1 c1)->∃ id∈hn.ids,T id=some (.at b1 c1)/\hn.ids[j]?=some id:=by
   intro j b1 c1 hp;have hjl:j<hn.ids.length:=by rw [<- p2];exact (vO.1 hp).1
   have hij:=w7 hjl;exact ⟨_,yN hij,by rw [<- p3 j _ hij];exact hp,hij⟩
  refine ⟨_,_,o1,SV F0 hfid hbox hwnf hnf ?_,_,o2'⟩;unfold D7;refine zFi (w0:=G'.w0) (I:=uP G') (Hd:=Hd) (ex:=ex) (exv:=exv) (E:=E) (E':=E') (clock':=clock') (Pl:=Pl) (j:=j) (v:=a.eval z) (ps:=ps) hexk m1 k4 m7 m8' m9 m10 (kX hT.kept.size hszeq)
   (fun c hc hlt=>(hother c (himmb c (hII c hc hlt).1)).trans (hI c hc hlt)) (fun c hc hne=>(hother c hne).trans (hH c hc)) (fun c hc hlt=>o3 c (hII c hc hlt)) (ChangeMaps.heap_setBlock_same hh _) k3 k1 k2 k2' k5 ?_ k7 p1 ?_ ?_ (fun c hc=>.inl hc)
  ·obtain ⟨e2,q1,q2,q3⟩:=k6;exact ⟨e2,q1,by rw [q2];exact hrk.mono hszeq (fun c hc _=>hother c (himmb c hc)) (fun c hc hlt=>o3 c ⟨hc,hlt⟩) (fun _ _ h=>h),q3⟩
  ·intro j b1 c1 hp;obtain ⟨id,hi,hTi,_⟩:=hpsT j b1 c1 hp;exact ⟨.inr ⟨id,hi,c1,hTi⟩,(hownp id hi b1 c1 hTi).2,(hownp id hi b1 c1 hTi).1⟩
  ·intro j1 j2 b1 c c' h1 h2;obtain ⟨id1,hi1,hT1,hj1⟩:=hpsT j1 b1 c h1;obtain ⟨id2,hi2,hT2,hj2⟩:=hpsT j2 b1 c' h2;obtain ⟨bx1,l1,_⟩:=hlive id1 hi1;obtain ⟨bx2,l2,_⟩:=hlive id2 hi2
   have:=hT.apart id1 id2 bx1 bx2 b1 c c' l1 l2 hT1 hT2
   subst this;exact B6 hnd hj1 hj2
 rcases VW (T:=T) (I':=imm G' st T) (ex:=ex) (exv:=exv) (Pl:=Pl) K m3 m6 hT.kept.size hI m7 hry hkm with ⟨f1,f2,f3⟩ | ⟨j,e',x',f1,f2,f3,f4,f5⟩
 ·rcases hL with ⟨i,x',g1,g2,_⟩ | ⟨_,g1⟩
  ·exact absurd g2 (f3 x' (yN g1))
  ·have hesj:hn.es[l.length]?=some (y7 rs y,hn.av):=by rw [g1];simp
   refine fin (E.push ⟨a.eval y,a.eval z,clock⟩) (clock+1) l.length ?_ (by rw [g1];simp [m3]) (by rw [g1];simp;omega) (by rw [g1];simp) (MapKept.stamped_push m5 f2) ?_ hesj ?_ ?_
   ·simp [Instr.mapUpdate,run_underlying hu,lQ hh,K.keyed.check w _ ht',f1,XL _ hh,Result.andThen,ChangeMaps.setBlock]
   ·intro x hx;rw [g1] at hx;rcases wL.1 hx with hx | hx
    ·exact m6 x hx
    ·rw [uO.1 hx];exact hkm
   ·exact ⟨⟨a.eval y,a.eval z,clock⟩,by rw [T6,if_pos m3.symm],rfl,rfl⟩
   ·intro i x hne hx;rw [g1] at hx;have hlt:i<l.length:=by
     have:=(vO.1 hx).1
     simp at this;omega
    rw [uH hlt] at hx;exact ⟨hx,by rw [T6,if_neg (by omega)],f3 x (yN hx)⟩
 ·rcases hL with ⟨i,x2,g1,g2,g3⟩ | ⟨g0,_⟩
  ·obtain ⟨e2,k1,k2,_⟩:=m7 i x2 g1;have hkv:=(dF k2 hry (m6 x2 (yN g1)) hkm).2 g2
   have:=rF m5 f2 k1 (f3.trans hkv.symm)
   subst this;have hil:j<l.length:=(vO.1 f4).1;have hesj:hn.es[j]?=some (y7 rs y,hn.av):=by rw [g3,Q8 hil]
   refine fin (E.modify j fun e=>{ e with key:=a.eval y,val:=a.eval z }) clock j ?_ (by rw [g3];simp [m3]) (by rw [g3];simp;omega) (by rw [g3];simp) (MapKept.stamped_modify m5 _ _ (fun _ _=>rfl) (fun e3 _ he3=>by rw [f2] at he3;injection he3 with he3;subst he3;exact f3.symm)) ?_ hesj ?_ ?_
   ·simp [Instr.mapUpdate,run_underlying hu,lQ hh,K.keyed.check w _ ht',f1,f2,f3,K.keyed.stays w ht',XL _ hh,Result.andThen,ChangeMaps.setBlock]
   ·intro x hx;rw [g3] at hx;rcases mY hx with hx | hx
    ·exact m6 x hx
    ·rw [hx];exact hkm
   ·exact ⟨{ e' with key:=a.eval y,val:=a.eval z },by rw [BJ,if_pos rfl,f2];rfl,rfl,rfl⟩
   ·intro i x hne hx;rw [g3,zBl (fun e=>hne e.symm)] at hx;refine ⟨hx,by rw [BJ,if_neg (fun e=>hne e.symm)],fun hk=>hne ?_⟩;obtain ⟨e3,r1,r2,_⟩:=m7 i x hx;exact rF m5 r1 f2 (((dF r2 hry (m6 x (yN hx)) hkm).2 hk).trans f3.symm)
  ·exact absurd f5 (g0 x' (yN f4))
end Go.Ab
