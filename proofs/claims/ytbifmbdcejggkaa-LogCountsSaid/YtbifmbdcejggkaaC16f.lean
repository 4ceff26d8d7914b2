/- LogReads, plain. No conditions. -/
import Derived.Test.YtbifmbdcejggkaaC16e
namespace Go.Ab
open Go
set_option linter.unusedVariables false

def zAQ (l:zX):Int:=if (pJ l.Head l.Parts).2=0 then (if (pJ l.Head l.Parts).1=l then 0 else 10) else (pJ l.Head l.Parts).2
/-- Bounds on a log. -/
structure Small (h:zR) (l:List zB):Prop where
  t:h.Threads.length≤100000
  d:h.Domains.length≤100000
  s:h.Snaps.length≤100000
  len:l.length≤100000
  n:evN l≤100000
theorem zB4 {l:zX} (h:Small l.Head l.Parts):kI 281474976710656 l=some (zAQ l):=by
  unfold kI zAQ
  rw [zGN h.t h.d h.s h.len h.n,Option.bind_some,zJC (zNo h.t h.d h.s h.n)]
  by_cases h0:(pJ l.Head l.Parts).2=0
  · rw [if_pos h0,v6 h0]
    by_cases h1:(pJ l.Head l.Parts).1=l
    · rw [if_pos h1,y5 h1,← h0];rfl
    · rw [if_neg h1,yU h1];rfl
  · rw [if_neg h0,t9 h0];rfl
theorem zGX {h:zR} {l:List zB} (h0:(pJ h l).2=0):zAd h=0∧zCs h l∧pJ h l=(⟨h,y0 h l⟩,0):=by
  unfold pJ at *
  split at h0
  · rename_i h1;exact absurd h0 h1
  rename_i h1
  split at h0
  · rename_i h2;exact absurd h0 h2
  rename_i h2
  rw [if_neg h1,if_neg h2]
  exact ⟨by omega,zCa.1 (by omega),rfl⟩
theorem zNM {h:zR} {l:List zB} (h1:zAd h=0) (h2:zCs h l):pJ h l=(⟨h,y0 h l⟩,0):=by
  unfold pJ
  rw [if_neg (by omega),if_neg (by rw [zCa.2 h2];omega)]
theorem zD3 {l:zX} (h:zAQ l=0):zAd l.Head=0∧zCs l.Head l.Parts∧y0 l.Head l.Parts=l.Parts:=by
  unfold zAQ at h
  by_cases h0:(pJ l.Head l.Parts).2=0
  · obtain ⟨k1,k2,k3⟩:=zGX h0
    rw [if_pos h0] at h
    by_cases h1:(pJ l.Head l.Parts).1=l
    · refine ⟨k1,k2,?_⟩
      rw [k3] at h1
      exact congrArg zX.Parts h1
    · rw [if_neg h1] at h;omega
  · rw [if_neg h0] at h;exact absurd h h0
theorem zNx {l:zX} (h1:zAd l.Head=0) (h2:zCs l.Head l.Parts) (h3:y0 l.Head l.Parts=l.Parts):zAQ l=0:=by
  unfold zAQ
  rw [zNM h1 h2,h3];simp

def zHz (p:zB):yE:=⟨p.Thread,p.Serial - p.Lost,p.Lost⟩
def tG (l:List zB):List yE:=(l.filter fun p=>decide (p.Lost>0)).map zHz
theorem zEG (l:List zB) (p:zB):tG (l++[p])=tG l++if p.Lost>0 then [zHz p] else []:=by
  unfold tG
  rw [List.filter_append,List.map_append]
  by_cases h:p.Lost>0
  · rw [if_pos h];simp [h]
  · rw [if_neg h];simp [h]
def zKa (l:zX):List yE:=if zAQ l=0 then tG l.Parts else []
theorem zLq {l:zX} (hl:l.Parts.length≤100000) (hv:jF l.Parts):∀ (n i:Nat),(l.Parts.drop i).length<n→k8 281474976710656 l n (i:Nat) (tG (l.Parts.take i))=some (tG l.Parts):=by
  intro n
  induction n with
  | zero=>intro i h;omega
  | succ n ih =>
    intro i hn
    show q6 _ _ _ _ _=_
    unfold q6
    rcases hd:l.Parts.drop i with _ | ⟨x,r⟩
    · have:=v5 hd
      rw [yU (by omega),cond_false,List.take_of_length_le this]
    · have hi:=uR hd
      rw [hd] at hn
      simp only [List.length_cons] at hn
      have hz:=vK (hv x (qH hd))
      have:=ih (i+1) (by rw [wM hd];omega)
      rw [vT hd,zEG] at this
      have hlen:(tG (l.Parts.take i)).length≤100000:=by
        unfold tG
        rw [List.length_map]
        have h1:=List.length_filter_le (fun p:zB=>decide (p.Lost>0)) (l.Parts.take i)
        rw [List.length_take] at h1
        omega
      rw [y5 (by omega),cond_true,xL hd,Option.bind_some,w6 (by omega)]
      by_cases h:x.Lost>0
      · rw [if_pos h] at this
        rw [y5 h,cond_true,w64 (by omega) (by omega),jN (by simp only [List.length_singleton];omega),Option.bind_some]
        exact this
      · rw [if_neg h,List.append_nil] at this
        rw [yU h,cond_false]
        exact this
theorem zJi {l:zX} (h:Small l.Head l.Parts):zA0 281474976710656 l=some (zKa l):=by
  unfold zA0 zKa
  rw [zB4 h,Option.bind_some]
  by_cases h0:zAQ l=0
  · rw [if_pos h0,t8 h0,cond_false]
    have:=zLq h.len (zD3 h0).2.1.passed.valids 281474976710656 0 (by have:=h.len;simp;omega)
    rw [show k8 281474976710656 l 281474976710656 (0:Int) []=_ from this];rfl
  · rw [if_neg h0,qA h0];rfl
def zBg (p:zB):List yC:=(List.range p.Events.length).map fun i=>⟨p.Thread,p.Serial+(i:Nat)⟩
def tS (l:List zB):List yC:=l.flatMap zBg
def zMb (l:zX):List yC:=if zAQ l=0 then tS l.Parts else []
theorem zC6 (l:List zB):(tS l).length=evN l:=by
  induction l with
  | nil=>rfl
  | cons a r ih=>simp [tS,zBg,evN] at *
theorem zKX {x:zB} (hx:uV x=0) {row:List yC} (hr:row.length≤200000):∀ (n j:Nat),j≤x.Events.length→x.Events.length - j<n →
    pX 281474976710656 x n (j:Nat) (row++(List.range j).map fun i=>⟨x.Thread,x.Serial+(i:Nat)⟩)=some (row++zBg x):=by
  have hz:=vK hx
  intro n
  induction n with
  | zero=>intro j _ h;omega
  | succ n ih =>
    intro j hj hn
    show jO _ _ _ _ _=_
    unfold jO
    rcases Nat.lt_or_ge j x.Events.length with hlt | hge
    · rw [y5 (by omega),cond_true,w64 (by omega) (by omega),jN (by simp;omega),Option.bind_some,w6 (by omega)]
      have:=ih (j+1) (by omega) (by omega)
      rw [List.range_succ,List.map_append,← List.append_assoc] at this
      exact this
    · have:j=x.Events.length:=by omega
      subst this
      rw [yU (by omega),cond_false];rfl
theorem zMp {l:zX} (hl:l.Parts.length≤100000) (hN:evN l.Parts≤100000) (hv:jF l.Parts):∀ (n i:Nat),(l.Parts.drop i).length<n→nD 281474976710656 l n (i:Nat) (tS (l.Parts.take i))=some (tS l.Parts):=by
  intro n
  induction n with
  | zero=>intro i h;omega
  | succ n ih =>
    intro i hn
    show jR _ _ _ _ _=_
    unfold jR
    rcases hd:l.Parts.drop i with _ | ⟨x,r⟩
    · have:=v5 hd
      rw [yU (by omega),cond_false,List.take_of_length_le this]
    · have hi:=uR hd
      rw [hd] at hn
      simp only [List.length_cons] at hn
      have hx:=hv x (qH hd)
      have hz:=vK hx
      have:=ih (i+1) (by rw [wM hd];omega)
      rw [vT hd,show tS (l.Parts.take i++[x])=tS (l.Parts.take i)++zBg x by simp [tS]] at this
      have hin:=zKX hx (row:=tS (l.Parts.take i)) (by rw [zC6];have:=zBN l.Parts i;omega) 281474976710656 0 (by omega) (by omega)
      simp only [List.range_zero,List.map_nil,List.append_nil] at hin
      rw [y5 (by omega),cond_true,xL hd,Option.bind_some,w6 (by omega),show pX 281474976710656 x 281474976710656 (0:Int) (tS (l.Parts.take i))=_ from hin,Option.bind_some]
      exact this
theorem zKz {l:zX} (h:Small l.Head l.Parts):zCY 281474976710656 l=some (zMb l):=by
  unfold zCY zMb
  rw [zB4 h,Option.bind_some]
  by_cases h0:zAQ l=0
  · rw [if_pos h0,t8 h0,cond_false]
    have:=zMp h.len h.n (zD3 h0).2.1.passed.valids 281474976710656 0 (by have:=h.len;simp;omega)
    rw [show nD 281474976710656 l 281474976710656 (0:Int) []=_ from this];rfl
  · rw [if_neg h0,qA h0];rfl
def zAD (id:yC) (p:zB):Prop:=p.Thread=id.Thread∧id.Serial≥p.Serial∧id.Serial<p.Serial+p.Events.length
instance decHasId {id:yC} {p:zB}:Decidable (zAD id p):=inferInstanceAs (Decidable (_∧_))
def ev0:zH:=⟨0,0,[],0,0,[]⟩
def zDJ (id:yC) (_:Nat) (p:zB):Option (zH×Bool):=if zAD id p then some ((p.Events[(id.Serial - p.Serial).toNat]?).getD ev0,true) else none
def zHY (l:List zB) (id:yC):zH×Bool:=match xV (zDJ id) 0 l with | .inl _=>(ev0,false) | .inr q=>q
def zC1 (l:zX) (id:yC):zH×Bool:=if zAQ l=0 then zHY l.Parts id else (ev0,false)
theorem zL9 {l:zX} {id:yC} (hl:l.Parts.length≤100000) (hv:jF l.Parts) (hid : -9223372036854775808≤id.Serial∧id.Serial≤9223372036854775807):nH 281474976710656 l id 281474976710656 0=some (xV (zDJ id) 0 l.Parts):=by
  refine zAm (l:=l.Parts) (fun n i=>nH 281474976710656 l id n i) (zDJ id) hl ?_ ?_
  · intro n i hi
    show tH _ _ _ _ _=_
    unfold tH
    rw [yU (by omega),cond_false]
  · intro n i x r hd hi
    show tH _ _ _ _ _=_
    unfold tH zDJ
    have hz:=vK (hv x (qH hd))
    rw [y5 (by omega),cond_true,xL hd,Option.bind_some,w6 (by omega),w64 (show -9223372036854775808≤x.Serial+(x.Events.length:Int) by omega) (by omega)]
    by_cases h:zAD id x
    · obtain ⟨k1,k2,k3⟩:=h
      rw [if_pos ⟨k1,k2,k3⟩,v6 k1,y5 k2,y5 k3,w64 (by omega) (by omega),zJW (by omega)]
      simp only [Bool.and_self,cond_true]
      rw [List.getElem?_eq_getElem (by omega)];rfl
    · rw [if_neg h]
      rw [show ((x.Thread==id.Thread)&&(decide (id.Serial≥x.Serial)&&decide (id.Serial<x.Serial+(x.Events.length:Int))))=false by
        unfold zAD at h
        rw [Bool.eq_false_iff]
        intro hc
        simp only [Bool.and_eq_true,decide_eq_true_eq,beq_iff_eq] at hc
        exact h ⟨hc.1,hc.2.1,hc.2.2⟩]
      rfl
theorem zF5 {l:zX} {id:yC} (h:Small l.Head l.Parts) (hid : -9223372036854775808≤id.Serial∧id.Serial≤9223372036854775807):zA3 281474976710656 l id=some (zC1 l id):=by
  unfold zA3 zC1
  rw [zB4 h,Option.bind_some]
  by_cases h0:zAQ l=0
  · rw [if_pos h0,t8 h0,cond_false,zL9 h.len (zD3 h0).2.1.passed.valids hid,Option.bind_some]
    unfold zHY
    cases xV (zDJ id) 0 l.Parts<;>rfl
  · rw [if_neg h0,qA h0];rfl
end Go.Ab
