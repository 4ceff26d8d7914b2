/- Plain laws of the functions uS this seat's, laid anew from another seat's text. No conditions but those that the theorems name. -/
import Derived.Test.YtoeengmnmhhpgaaGreatP15zxD
import Derived.Test.YtoeengmnmhhpgaaGreatR15z
import Derived.Test.YtoeengmnmhhpgaaGreatB15za
import Derived.Test.YtoeengmnmhhpgaaGreatB15zb
import Derived.Test.YtoeengmnmhhpgaaGreatB15zc
import Derived.Test.YtoeengmnmhhpgaaGreatB15zd
import Derived.Test.YtoeengmnmhhpgaaGreatB15ze
import Derived.Test.YtoeengmnmhhpgaaGreatB15zf
import Derived.Test.YtoeengmnmhhpgaaGreatB15zg
import Derived.Test.YtoeengmnmhhpgaaGreatB15zh
import Derived.Test.YtoeengmnmhhpgaaGreatB15zi
import Derived.Test.YtoeengmnmhhpgaaGreatB15zj
import Derived.Test.YtoeengmnmhhpgaaGreatB15zk
import Derived.Test.YtoeengmnmhhpgaaGreatB15zt
import Derived.Test.YtoeengmnmhhpgaaGreatB15zm
import Derived.Test.YtoeengmnmhhpgaaGreatB15zn
import Derived.Test.YtoeengmnmhhpgaaGreatB15zo
namespace Go.Ab
open Go
set_option linter.unusedVariables false
def vN (b:List Int):Prop:=(∀ x∈b,xY x)/\b.length<=100000
theorem vN.drop {b:List Int} (h:vN b) (n:Nat):vN (b.drop n):=⟨fun x hx=>h.1 x (List.mem_of_mem_drop hx),by rw [List.length_drop];have:=h.2;omega⟩
theorem vN.nil:vN []:=⟨fun x hx=>(by cases hx),by simp⟩
def vF (n:Int):List Int:=vJ 9 (wT n)
theorem uZ (n:Int):1<=(vF n).length/\(vF n).length<=10:=kT 9 _
def uG (b:List Int):Option (Int×List Int):=if (vrd b 0 0).2.2=0 then some ((vrd b 0 0).1,b.drop (vrd b 0 0).2.1.toNat) else none
def vC {α β:Type} (p:List Int->Option (α×List Int)) (q:α->List Int->Option (β×List Int)) (b:List Int):Option (β×List Int):=(p b).bind fun x=>q x.1 x.2
def qX {α:Type} (x:α) (b:List Int):Option (α×List Int):=some (x,b)
def jN {α:Type} (p:List Int->Option (α×List Int)):Nat->List Int->Option (List α×List Int)
 | 0=>qX []
 | n+1=>vC p fun x=>vC (jN p n) fun xs=>qX (x::xs)
def cZ:List Int->Option (List Int×List Int):=vC uG fun n b=>if 0<=n/\n<=40/\n<=b.length then some (b.take n.toNat,b.drop n.toNat) else none
def pG (most:Int):List Int->Option (Int×List Int):=vC uG fun n b=>if 0<=n/\n<=most then some (n,b) else none
structure Cod {α:Type} (p:List Int->Option (α×List Int)) (enc:α->List Int) (lim:α->Prop):Prop where
 uniq:∀ b x r,(∀ y∈b,xY y)->p b=some (x,r)->b=enc x++r/\lim x
 back:∀ x r,lim x->p (enc x++r)=some (x,r)
theorem nF:Cod uG vF xM:=by
 constructor
 ·intro b x r hb h;unfold uG at h
  by_cases he:(vrd b 0 0).2.2=0
  ·rw [if_pos he] at h;injection h with h;injection h with h1 h2;obtain ⟨v,h0,_,hle,e1,e2⟩:=zGq (i:=0) (u:=0) hb (by omega) (by omega) (by decide) he;have hr:=cJ (i:=0) (u:=0) hb (by omega) (by omega) (by decide);have hx:wT x=v:=by rw [<- h1,e1];simp only [Nat.mul_zero,Int.pow_zero,Int.mul_one,Int.zero_add];exact zEL h0
   refine ⟨?_,by rw [<- h1];exact hr.1⟩;unfold vF;rw [hx,<- h2,<- e2,show ((vrd b 0 0).2.1 - ((0:Nat):Int)).toNat=(vrd b 0 0).2.1.toNat by simp,List.take_append_drop]
  ·rw [if_neg he] at h;cases h
 ·intro x r hx;unfold uG vF;rw [zHJ hx];simp
theorem NQ {α:Type} (x:α):Cod (qX x) (fun _=>[]) (fun y=>y=x):=by
 constructor
 ·intro b y r hb h;unfold qX at h;injection h with h;injection h with h1 h2;exact ⟨h2,h1.symm⟩
 ·intro y r h;subst h;rfl
theorem nK {α β:Type} {p:List Int->Option (α×List Int)} {q:α->List Int->Option (β×List Int)} {enc:α->List Int} {enc2:α->β->List Int} {lim:α->Prop} {lim2:α->β->Prop} (proj:β->α)
  (hp:Cod p enc lim) (hq:∀ a,lim a->Cod (q a) (enc2 a) (lim2 a)) (hj:∀ a y,lim a->lim2 a y->proj y=a):Cod (vC p q) (fun y=>enc (proj y)++enc2 (proj y) y) (fun y=>lim (proj y)/\lim2 (proj y) y):=by
 constructor
 ·intro b y r hb h;unfold vC at h;cases hpb:p b with
  | none=>rw [hpb] at h;cases h
  | some x =>
   obtain ⟨a,b1⟩:=x;rw [hpb,zbs] at h;obtain ⟨e1,l1⟩:=hp.uniq b a b1 hb hpb;obtain ⟨e2,l2⟩:=(hq a l1).uniq b1 y r (fun z hz=>hb z (by rw [e1];simp [hz])) h;rw [hj a y l1 l2];exact ⟨by rw [e1,List.append_assoc,<- e2],l1,l2⟩
 ·intro y r ⟨l1,l2⟩;unfold vC;rw [List.append_assoc,hp.back _ _ l1,zbs];exact (hq _ l1).back y r l2
theorem Cod.enc {α:Type} {p:List Int->Option (α×List Int)} {enc enc':α->List Int} {lim lim':α->Prop} (h:Cod p enc lim) (he:∀ x,enc x=enc' x) (hl:∀ x,lim x↔lim' x):Cod p enc' lim' :=
 ⟨fun b x r hb hp=>by rw [<- he,<- hl];exact h.uniq b x r hb hp,fun x r hx=>by rw [<- he];exact h.back x r ((hl x).2 hx)⟩
theorem LO {α:Type} {p:List Int->Option (α×List Int)} {enc:α->List Int} {lim:α->Prop} (h:Cod p enc lim):∀ n,Cod (jN p n) (fun l=>l.flatMap enc) (fun l=>l.length=n/\∀ x∈l,lim x)
 | 0=>by
  constructor
  ·intro b l r hb hp;unfold jN qX at hp;injection hp with hp;injection hp with h1 h2;subst h1;exact ⟨h2,rfl,fun x hx=>by cases hx⟩
  ·intro l r ⟨hl,_⟩
   have:l=[]:=List.length_eq_zero_iff.1 hl
   subst this;rfl
 | n+1=>by
  have ih:=LO h n
  constructor
  ·intro b l r hb hp;unfold jN vC at hp;cases h1:p b with
   | none=>rw [h1] at hp;cases hp
   | some x =>
    obtain ⟨a,b1⟩:=x;rw [h1,zbs] at hp;obtain ⟨e1,l1⟩:=h.uniq b a b1 hb h1;simp only at hp;cases h2:jN p n b1 with
    | none=>rw [h2] at hp;cases hp
    | some y =>
     obtain ⟨xs,b2⟩:=y;rw [h2,zbs] at hp;unfold qX at hp;injection hp with hp;injection hp with hp1 hp2;subst hp1;subst hp2;obtain ⟨e2,l2,l3⟩:=ih.uniq b1 xs b2 (fun z hz=>hb z (by rw [e1];simp [hz])) h2;refine ⟨by rw [e1];exact (congrArg (enc a++·) e2).trans (by simp),by simp [l2],?_⟩;intro z hz;rcases List.mem_cons.1 hz with rfl | hz
     ·exact l1
     ·exact l3 z hz
  ·intro l r ⟨hl,hx⟩;cases l with
   | nil=>simp at hl
   | cons a xs =>
    simp only [zlc] at hl;unfold jN vC;rw [List.flatMap_cons,List.append_assoc,h.back a _ (hx a (by simp)),zbs];simp only;rw [ih.back xs r ⟨by omega,fun z hz=>hx z (by simp [hz])⟩,zbs];rfl
theorem zEQ:Cod cZ aM (fun x=>x.length<=40):=by
 constructor
 ·intro b x r hb h;unfold cZ vC at h;cases h1:uG b with
  | none=>rw [h1] at h;cases h
  | some y =>
   obtain ⟨n,b1⟩:=y;rw [h1,zbs] at h;simp only at h;obtain ⟨e1,l1⟩:=nF.uniq b n b1 hb h1
   by_cases hc:0<=n/\n<=40/\n<=b1.length
   ·rw [if_pos hc] at h;injection h with h;injection h with h2 h3;have hlen:(x.length:Int)=n:=by rw [<- h2,List.length_take];omega
    refine ⟨?_,by omega⟩;unfold aM;rw [hlen,List.append_assoc,<- h2,<- h3,List.take_append_drop];exact e1
   ·rw [if_neg hc] at h;cases h
 ·intro x r hx;unfold cZ vC aM;rw [List.append_assoc,show vJ 9 (wT (x.length:Int))=vF (x.length:Int) from rfl,nF.back _ _ (by unfold xM;omega),zbs];simp only;rw [if_pos (by simp only [zla];omega),Int.toNat_natCast,List.take_left,List.drop_left]
theorem SP (most:Int) (hm:most<=1000):Cod (pG most) vF (fun n=>0<=n/\n<=most):=by
 constructor
 ·intro b x r hb h;unfold pG vC at h;cases h1:uG b with
  | none=>rw [h1] at h;cases h
  | some y =>
   obtain ⟨n,b1⟩:=y;rw [h1,zbs] at h;simp only at h
   by_cases hc:0<=n/\n<=most
   ·rw [if_pos hc] at h;injection h with h;injection h with h2 h3;subst h2;subst h3;exact ⟨(nF.uniq b n b1 hb h1).1,hc⟩
   ·rw [if_neg hc] at h;cases h
 ·intro x r hx;unfold pG vC;rw [nF.back _ _ (by unfold xM;omega),zbs];simp only;rw [if_pos hx]
/-! A head's parts. -/
def mN:List Int->Option (xI×List Int):=vC uG fun id=>vC cZ fun name=>vC uG fun dom=>qX ⟨id,name,dom⟩
def fL:List Int->Option (xA×List Int):=vC uG fun id=>vC uG fun ppm=>qX ⟨id,ppm⟩
def pU:List Int->Option (yZ×List Int):=vC uG fun a=>vC uG fun ata=>vC uG fun b=>vC uG fun lo=>vC uG fun hi=>qX ⟨a,ata,b,⟨lo,hi⟩⟩
def p9:List Int->Option (yB×List Int):=vC (pG 64) fun n=>vC (jN mN n.toNat) fun ts=>vC (pG 8) fun m=>vC (jN fL m.toNat) fun ds=>vC (pG 200) fun k=>vC (jN pU k.toNat) fun ss=>qX ⟨ts,ds,ss⟩
def jW (t:xI):List Int:=vF t.Id++aM t.Name++vF t.Domain
def k9 (d:xA):List Int:=vF d.Id++vF d.Ppm
def kP (s:yZ):List Int:=vF s.A++vF s.AtA++vF s.B++vF s.AtB.Lo++vF s.AtB.Hi
def hdB (h:yB):List Int:=vF h.Threads.length++h.Threads.flatMap jW++vF h.Domains.length++h.Domains.flatMap k9++vF h.Snaps.length++h.Snaps.flatMap kP
def r7 (t:xI):Prop:=xM t.Id/\t.Name.length<=40/\xM t.Domain
def UR (d:xA):Prop:=xM d.Id/\xM d.Ppm
def aN (s:yZ):Prop:=xM s.A/\xM s.AtA/\xM s.B/\xM s.AtB.Lo/\xM s.AtB.Hi
structure nY (h:yB):Prop where
 nt:h.Threads.length<=64
 t:∀ x∈h.Threads,r7 x
 nd:h.Domains.length<=8
 d:∀ x∈h.Domains,UR x
 ns:h.Snaps.length<=200
 s:∀ x∈h.Snaps,aN x
theorem zBn:Cod mN jW r7:=by
 refine (nK (q:=fun id=>vC cZ fun name=>vC uG fun dom=>qX (⟨id,name,dom⟩:xI)) (fun t:xI=>t.Id) nF (fun id _=>nK (q:=fun name=>vC uG fun dom=>qX (⟨id,name,dom⟩:xI)) (fun t:xI=>t.Name) zEQ (fun name _=>nK (q:=fun dom=>qX (⟨id,name,dom⟩:xI)) (fun t:xI=>t.Domain) nF (fun dom _=>NQ _) (fun a y _ h=>by rw [h])) (fun a y _ h=>by rw [h.2])) (fun a y _ h=>by rw [h.2.2])).enc ?_ ?_
 ·intro x;simp [jW]
 ·intro x;unfold r7;simp
theorem zIi:Cod fL k9 UR:=by
 refine (nK (q:=fun id=>vC uG fun ppm=>qX (⟨id,ppm⟩:xA)) (fun t:xA=>t.Id) nF (fun id _=>nK (q:=fun ppm=>qX (⟨id,ppm⟩:xA)) (fun t:xA=>t.Ppm) nF (fun dom _=>NQ _) (fun a y _ h=>by rw [h])) (fun a y _ h=>by rw [h.2])).enc ?_ ?_
 ·intro x;simp [k9]
 ·intro x;unfold UR;simp
theorem XQ:Cod pU kP aN:=by
 refine (nK (q:=fun a=>vC uG fun ata=>vC uG fun b=>vC uG fun lo=>vC uG fun hi=>qX (⟨a,ata,b,⟨lo,hi⟩⟩:yZ)) (fun t:yZ=>t.A) nF (fun a _ =>
  nK (q:=fun ata=>vC uG fun b=>vC uG fun lo=>vC uG fun hi=>qX (⟨a,ata,b,⟨lo,hi⟩⟩:yZ)) (fun t:yZ=>t.AtA) nF (fun ata _ =>
  nK (q:=fun b=>vC uG fun lo=>vC uG fun hi=>qX (⟨a,ata,b,⟨lo,hi⟩⟩:yZ)) (fun t:yZ=>t.B) nF (fun b _ =>
  nK (q:=fun lo=>vC uG fun hi=>qX (⟨a,ata,b,⟨lo,hi⟩⟩:yZ)) (fun t:yZ=>t.AtB.Lo) nF (fun lo _ =>
  nK (q:=fun hi=>qX (⟨a,ata,b,⟨lo,hi⟩⟩:yZ)) (fun t:yZ=>t.AtB.Hi) nF (fun hi _=>NQ _) (fun a y _ h=>by rw [h])) (fun a y _ h=>by rw [h.2])) (fun a y _ h=>by rw [h.2.2])) (fun a y _ h=>by rw [h.2.2.2])) (fun a y _ h=>by rw [h.2.2.2.2])).enc ?_ ?_
 ·intro x;simp [kP]
 ·intro x;unfold aN;simp
theorem EO:Cod p9 hdB nY:=by
 refine (nK (q:=fun n=>vC (jN mN n.toNat) fun ts=>vC (pG 8) fun m=>vC (jN fL m.toNat) fun ds=>vC (pG 200) fun k=>vC (jN pU k.toNat) fun ss=>qX (⟨ts,ds,ss⟩:yB)) (fun h:yB=>(h.Threads.length:Int)) (SP 64 (by omega)) (fun n _ =>
  nK (q:=fun ts=>vC (pG 8) fun m=>vC (jN fL m.toNat) fun ds=>vC (pG 200) fun k=>vC (jN pU k.toNat) fun ss=>qX (⟨ts,ds,ss⟩:yB)) (fun t:yB=>t.Threads) (LO zBn n.toNat) (fun ts _ =>
  nK (q:=fun m=>vC (jN fL m.toNat) fun ds=>vC (pG 200) fun k=>vC (jN pU k.toNat) fun ss=>qX (⟨ts,ds,ss⟩:yB)) (fun h:yB=>(h.Domains.length:Int)) (SP 8 (by omega)) (fun m _ =>
  nK (q:=fun ds=>vC (pG 200) fun k=>vC (jN pU k.toNat) fun ss=>qX (⟨ts,ds,ss⟩:yB)) (fun t:yB=>t.Domains) (LO zIi m.toNat) (fun ds _ =>
  nK (q:=fun k=>vC (jN pU k.toNat) fun ss=>qX (⟨ts,ds,ss⟩:yB)) (fun h:yB=>(h.Snaps.length:Int)) (SP 200 (by omega)) (fun k _ =>
  nK (q:=fun ss=>qX (⟨ts,ds,ss⟩:yB)) (fun t:yB=>t.Snaps) (LO XQ k.toNat) (fun ss _=>NQ _) (fun a y _ h=>by rw [h])) (fun a y ha h=>by have:=h.1.1;omega)) (fun a y _ h=>by rw [h.2.2])) (fun a y ha h=>by have:=h.1.1;omega)) (fun a y _ h=>by rw [h.2.2.2.2])) (fun a y ha h=>by have:=h.1.1;omega)).enc ?_ ?_
 ·intro x;simp [hdB]
 ·intro x
  constructor
  ·rintro ⟨⟨_,h1⟩,⟨_,h2⟩,⟨_,h3⟩,⟨_,h4⟩,⟨_,h5⟩,⟨_,h6⟩,_⟩;exact ⟨by omega,h2,by omega,h4,by omega,h6⟩
  ·rintro ⟨h1,h2,h3,h4,h5,h6⟩;exact ⟨⟨by omega,by omega⟩,⟨by simp,h2⟩,⟨by omega,by omega⟩,⟨by simp,h4⟩,⟨by omega,by omega⟩,⟨by simp,h6⟩,rfl⟩
end Go.Ab
