/- A part of the proofs of the statements of one layer: E1. No condition is added here. -/
import Derived.Test.YtcemloapifojkaaDoorXA8
set_option linter.unusedVariables false
set_option linter.unusedSimpArgs false
section
namespace Go.VX
inductive Tr where
  | lf
  | nd (l : Tr) (v : AV) (r : Tr)
  deriving Inhabited
def Tr.get : Tr→Nat→AV
  | .lf,_=>undefA
  | .nd l v r,n=>bif Nat.beq n 0 then v else bif Nat.beq (n % 2) 1 then l.get (n / 2) else r.get (n / 2 - 1)
def Tr.put : Nat→Tr→Nat→AV→Tr
  | 0,t,_,_=>t
  | d + 1,.lf,n,v=>bif Nat.beq n 0 then .nd .lf v .lf else bif Nat.beq (n % 2) 1 then .nd (Tr.put d .lf (n / 2) v) undefA .lf else .nd .lf undefA (Tr.put d .lf (n / 2 - 1) v)
  | d + 1,.nd l x r,n,v=>bif Nat.beq n 0 then .nd l v r else bif Nat.beq (n % 2) 1 then .nd (l.put d (n / 2) v) x r else .nd l x (r.put d (n / 2 - 1) v)
theorem Tr.get_put : ∀ (d : Nat) (t : Tr) (n : Nat) (v : AV) (m : Nat),n + 1 < 2 ^ d→(Tr.put d t n v).get m = if m = n then v else t.get m
  | 0,t,n,v,m,h=>by simp at h
  | d + 1,.lf,n,v,m,h=>by
    have hp : 2 ^ (d + 1) = 2 * 2 ^ d:=by rw [Nat.pow_succ]; omega
    unfold Tr.put
    by_cases h0 : n = 0
    · subst h0
      have : Nat.beq 0 0 = true:=rfl
      simp only [this,cond_true,Tr.get]
      by_cases hm : m = 0
      · subst hm; simp
      · have : Nat.beq m 0 = false:=by cases hb : Nat.beq m 0 with | false=>rfl | true=>exact absurd (Nat.eq_of_beq_eq_true hb) hm
        simp [this,hm]
    · have hb0 : Nat.beq n 0 = false:=by cases hb : Nat.beq n 0 with | false=>rfl | true=>exact absurd (Nat.eq_of_beq_eq_true hb) h0
      simp only [hb0,cond_false]
      cases hb1 : Nat.beq (n % 2) 1 with
      | true =>
        have h1:=Nat.eq_of_beq_eq_true hb1
        simp only [cond_true,Tr.get]
        by_cases hm : m = 0
        · subst hm
          have : Nat.beq 0 0 = true:=rfl
          simp only [this,cond_true]
          rw [if_neg (by omega)]
        · have hm0 : Nat.beq m 0 = false:=by cases hb : Nat.beq m 0 with | false=>rfl | true=>exact absurd (Nat.eq_of_beq_eq_true hb) hm
          simp only [hm0,cond_false]
          cases hb2 : Nat.beq (m % 2) 1 with
          | true =>
            have h2:=Nat.eq_of_beq_eq_true hb2
            simp only [cond_true]
            rw [Tr.get_put d .lf (n / 2) v (m / 2) (by omega)]
            by_cases hmn : m = n
            · subst hmn; simp
            · rw [if_neg (by omega),if_neg hmn]; rfl
          | false =>
            have h2 : m % 2≠1:=fun e=>by rw [e] at hb2; cases hb2
            simp only [cond_false]
            rw [if_neg (by omega)]
      | false =>
        have h1 : n % 2≠1:=fun e=>by rw [e] at hb1; cases hb1
        simp only [cond_false,Tr.get]
        by_cases hm : m = 0
        · subst hm
          have : Nat.beq 0 0 = true:=rfl
          simp only [this,cond_true]
          rw [if_neg (by omega)]
        · have hm0 : Nat.beq m 0 = false:=by cases hb : Nat.beq m 0 with | false=>rfl | true=>exact absurd (Nat.eq_of_beq_eq_true hb) hm
          simp only [hm0,cond_false]
          cases hb2 : Nat.beq (m % 2) 1 with
          | true =>
            have h2:=Nat.eq_of_beq_eq_true hb2
            simp only [cond_true]
            rw [if_neg (by omega)]
          | false =>
            have h2 : m % 2≠1:=fun e=>by rw [e] at hb2; cases hb2
            simp only [cond_false]
            rw [Tr.get_put d .lf (n / 2 - 1) v (m / 2 - 1) (by omega)]
            by_cases hmn : m = n
            · subst hmn; simp
            · rw [if_neg (by omega),if_neg hmn]; rfl
  | d + 1,.nd l x r,n,v,m,h=>by
    have hp : 2 ^ (d + 1) = 2 * 2 ^ d:=by rw [Nat.pow_succ]; omega
    unfold Tr.put
    by_cases h0 : n = 0
    · subst h0
      have : Nat.beq 0 0 = true:=rfl
      simp only [this,cond_true,Tr.get]
      by_cases hm : m = 0
      · subst hm; simp
      · have : Nat.beq m 0 = false:=by cases hb : Nat.beq m 0 with | false=>rfl | true=>exact absurd (Nat.eq_of_beq_eq_true hb) hm
        simp [this,hm]
    · have hb0 : Nat.beq n 0 = false:=by cases hb : Nat.beq n 0 with | false=>rfl | true=>exact absurd (Nat.eq_of_beq_eq_true hb) h0
      simp only [hb0,cond_false]
      cases hb1 : Nat.beq (n % 2) 1 with
      | true =>
        have h1:=Nat.eq_of_beq_eq_true hb1
        simp only [cond_true,Tr.get]
        by_cases hm : m = 0
        · subst hm
          have : Nat.beq 0 0 = true:=rfl
          simp only [this,cond_true]
          rw [if_neg (by omega)]
        · have hm0 : Nat.beq m 0 = false:=by cases hb : Nat.beq m 0 with | false=>rfl | true=>exact absurd (Nat.eq_of_beq_eq_true hb) hm
          simp only [hm0,cond_false]
          cases hb2 : Nat.beq (m % 2) 1 with
          | true =>
            have h2:=Nat.eq_of_beq_eq_true hb2
            simp only [cond_true]
            rw [Tr.get_put d l (n / 2) v (m / 2) (by omega)]
            by_cases hmn : m = n
            · subst hmn; simp
            · rw [if_neg (by omega),if_neg hmn]
          | false =>
            have h2 : m % 2≠1:=fun e=>by rw [e] at hb2; cases hb2
            simp only [cond_false]
            rw [if_neg (by omega)]
      | false =>
        have h1 : n % 2≠1:=fun e=>by rw [e] at hb1; cases hb1
        simp only [cond_false,Tr.get]
        by_cases hm : m = 0
        · subst hm
          have : Nat.beq 0 0 = true:=rfl
          simp only [this,cond_true]
          rw [if_neg (by omega)]
        · have hm0 : Nat.beq m 0 = false:=by cases hb : Nat.beq m 0 with | false=>rfl | true=>exact absurd (Nat.eq_of_beq_eq_true hb) hm
          simp only [hm0,cond_false]
          cases hb2 : Nat.beq (m % 2) 1 with
          | true =>
            have h2:=Nat.eq_of_beq_eq_true hb2
            simp only [cond_true]
            rw [if_neg (by omega)]
          | false =>
            have h2 : m % 2≠1:=fun e=>by rw [e] at hb2; cases hb2
            simp only [cond_false]
            rw [Tr.get_put d r (n / 2 - 1) v (m / 2 - 1) (by omega)]
            by_cases hmn : m = n
            · subst hmn; simp
            · rw [if_neg (by omega),if_neg hmn]
def Tr.set (t : Tr) : Option Nat→AV→Option Tr
  | none,_=>some t
  | some d,v=>bif Nat.blt d 65535 then some (t.put 16 d v) else none
theorem Tr.set_ok {t t' : Tr} {d : Option Nat} {v : AV} (h : t.set d v = some t') : t'.get = Env.put t.get d v:=by
  cases d with
  | none=>simp [Tr.set] at h; subst h; rfl
  | some d =>
    cases hb : Nat.blt d 65535 with
    | false=>simp [Tr.set,hb] at h
    | true =>
      simp only [Tr.set,hb,cond_true,Option.some.injEq] at h
      subst h
      have : d < 65535:=Nat.lt_of_lt_of_le (Nat.lt_succ_self d) (Nat.le_of_ble_eq_true hb)
      funext m
      exact Tr.get_put 16 t d v m (by omega)
def trOf : Nat→Tr→List AV→Option Tr
  | _,t,[]=>some t
  | k,t,a :: r=>match t.set (some k) a with
    | some t'=>trOf (k + 1) t' r
    | none=>none
theorem trOf_ok : ∀ {l : List AV} {k : Nat} {t t' : Tr},trOf k t l = some t'→∀ m,t'.get m = if k≤m∧m < k + l.length then l.getD (m - k) undefA else t.get m
  | [],k,t,t',h,m=>by
    simp [trOf] at h; subst h
    rw [if_neg]
    rintro ⟨h1,h2⟩
    simp at h2
    omega
  | a :: r,k,t,t',h,m=>by
    unfold trOf at h
    split at h
    · rename_i t1 h1
      rw [trOf_ok h m,Tr.set_ok h1]
      simp only [List.length_cons,Env.put]
      by_cases hm : m = k
      · subst hm
        rw [if_neg (by omega),if_pos rfl,if_pos (by omega)]
        simp
      · by_cases h2 : k + 1≤m∧m < k + 1 + r.length
        · rw [if_pos h2,if_pos (by omega),show m - k = (m - (k + 1)) + 1 by omega]
          simp
        · rw [if_neg h2,if_neg hm,if_neg (by omega)]
    · cases h
theorem trOf_env {l : List AV} {t : Tr} (h : trOf 0 .lf l = some t) : t.get = envOf l:=by
  funext m
  rw [trOf_ok h m]
  unfold envOf
  by_cases hm : m < l.length
  · rw [if_pos (by omega)]; rfl
  · rw [if_neg (by omega),List.getD_eq_getElem?_getD,List.getElem?_eq_none (by omega)]; rfl
def keepsB : St→St→Bool
  | [],_=>true
  | _ :: _,[]=>false
  | x :: s,y :: s'=>Nat.beq x.ver y.ver && (Nat.beq x.mode y.mode && keepsB s s')
theorem keepsB_ok : ∀ {st st' : St},keepsB st st' = true→(∀ (b : Nat) (x : Box),st[b]? = some x→∃ y : Box,st'[b]? = some y∧(x.ver = y.ver→x.mode = y.mode→x = y))→st' = st++st'.drop st.length
  | [],st',_,_=>by simp
  | x :: s,[],h,_=>by cases h
  | x :: s,y :: s',h,he=>by
    simp only [keepsB,Bool.and_eq_true] at h
    obtain ⟨z,hz,hxy⟩:=he 0 x (by simp)
    simp at hz; subst hz
    have h1:=hxy (Nat.eq_of_beq_eq_true h.1) (Nat.eq_of_beq_eq_true h.2.1)
    have:=keepsB_ok h.2.2 (fun b z hb=>by simpa using he (b + 1) z (by simpa using hb))
    subst h1
    simp only [List.cons_append,List.length_cons,List.drop_succ_cons]
    rw [←this]
abbrev EvC:=VC→Tr→St→Option (VX × Tr × St)
abbrev EvF:=FuncId→List AV→St→Option (CRes × St)
def evO (P : Program) (call : EvF) : List VOper→Tr→St→Option (VX × Tr × St)
  | [],t,st=>some (.norm,t,st)
  | o :: l,t,st =>
    match wantedA t.get o.guard with
    | false=>match t.set o.dst undefA with
      | some t'=>evO P call l t' st
      | none=>none
    | true=>match vop P o.op t.get st with
      | some (.val v,st1)=>match keptA t.get st st1 o.keep with
        | true=>match t.set o.dst v with
          | some t'=>evO P call l t' st1
          | none=>none
        | false=>none
      | some (.skip,st1)=>match keptA t.get st st1 o.keep with
        | true=>match t.set o.dst undefA with
          | some t'=>evO P call l t' st1
          | none=>none
        | false=>none
      | some (.call f args,_)=>match call f args st with
        | some (.ret v,st1)=>match keptA t.get st st1 o.keep with
          | true=>match t.set o.dst v with
            | some t'=>evO P call l t' st1
            | none=>none
          | false=>none
        | some (.pan v,st1)=>some (.pan v,t,st1)
        | none=>none
      | some (.pan v,_)=>some (.pan v,t,st)
      | none=>none
def trim (r : CRes) (st st' : St) : CRes × St:=match r.flat && keepsB st st' with
  | true=>(r,st)
  | false=>(r,st')
def evF (F : FuncId→Option VFun) (rec : EvC) (f : FuncId) (args : List AV) (st : St) : Option (CRes × St) :=
  match F f with
  | some fn=>match trOf 0 .lf args with
    | some t=>match rec fn.body t st with
      | some (.norm,t',st')=>match resOf t'.get st' fn.res with
        | some vs=>some (trim (.ret (tupOf vs)) st st')
        | none=>none
      | some (.ret,t',st')=>match resOf t'.get st' fn.res with
        | some vs=>some (trim (.ret (tupOf vs)) st st')
        | none=>none
      | some (.pan v,_,st')=>some (.pan v,st')
      | _=>none
    | none=>none
  | none=>none
def evC (P : Program) (F : FuncId→Option VFun) (hk : EvF→EvF) : Nat→EvC
  | 0,_,_,_=>none
  | n + 1,.skip,t,st=>some (.norm,t,st)
  | n + 1,.reg l,t,st=>evO P (hk (evF F (evC P F hk n))) l t st
  | n + 1,.seq a b,t,st=>match evC P F hk n a t st with
    | some (.norm,t1,st1)=>evC P F hk n b t1 st1
    | r=>r
  | n + 1,.cond c a b,t,st=>match c.ev t.get with
    | .sc (.bool true)=>evC P F hk n a t st
    | .sc (.bool false)=>evC P F hk n b t st
    | _=>none
  | n + 1,.block id a,t,st=>match evC P F hk n a t st with
    | some (x,t1,st1)=>some (x.unblock id,t1,st1)
    | none=>none
  | n + 1,.loop a,t,st=>match evC P F hk n a t st with
    | some (.norm,t1,st1)=>evC P F hk n (.loop a) t1 st1
    | r=>r
  | n + 1,.exit id,t,st=>some (.exit id,t,st)
  | n + 1,.ret,t,st=>some (.ret,t,st)
section
variable {P : Program} {F : FuncId→Option VFun} {H : FuncId→List AV→St→CRes→St→Prop} {hk : EvF→EvF}
def CallOk (P : Program) (F : FuncId→Option VFun) (H : FuncId→List AV→St→CRes→St→Prop) (call : EvF) : Prop:=∀ f args st r st',call f args st = some (r,st')→J P F H (.call f args st r st')
def CodeOk (P : Program) (F : FuncId→Option VFun) (H : FuncId→List AV→St→CRes→St→Prop) (rec : EvC) : Prop:=∀ c t st x t' st',rec c t st = some (x,t',st')→J P F H (.code c t.get st x t'.get st')
theorem evO_ok {call : EvF} (hc : CallOk P F H call) : ∀ {l : List VOper} {t : Tr} {st : St} {x : VX} {t' : Tr} {st' : St},evO P call l t st = some (x,t',st')→J P F H (.ops l t.get st x t'.get st')
  | [],t,st,x,t',st',h=>by
    simp only [evO,Option.some.injEq,Prod.mk.injEq] at h
    obtain ⟨rfl,rfl,rfl⟩:=h
    exact .nil
  | o :: l,t,st,x,t',st',h=>by
    unfold evO at h
    split at h
    · rename_i hw
      split at h
      · rename_i t1 ht
        have:=evO_ok hc h
        rw [Tr.set_ok ht] at this
        exact .idle hw this
      · cases h
    · rename_i hw
      split at h
      · rename_i v st1 hv
        split at h
        · rename_i hk1
          split at h
          · rename_i t1 ht
            have:=evO_ok hc h
            rw [Tr.set_ok ht] at this
            exact .val hw hv hk1 this
          · cases h
        · cases h
      · rename_i st1 hv
        split at h
        · rename_i hk1
          split at h
          · rename_i t1 ht
            have:=evO_ok hc h
            rw [Tr.set_ok ht] at this
            exact .done hw hv hk1 this
          · cases h
        · cases h
      · rename_i f args st1 hv
        have e1:=vop_call_st hv
        subst e1
        split at h
        · rename_i v st2 hcall
          split at h
          · rename_i hk1
            split at h
            · rename_i t1 ht
              have:=evO_ok hc h
              rw [Tr.set_ok ht] at this
              exact .callR hw hv (hc _ _ _ _ _ hcall) hk1 this
            · cases h
          · cases h
        · rename_i v st2 hcall
          simp only [Option.some.injEq,Prod.mk.injEq] at h
          obtain ⟨rfl,rfl,rfl⟩:=h
          exact .callP hw hv (hc _ _ _ _ _ hcall)
        · cases h
      · rename_i v st1 hv
        have e1:=vop_pan_st hv
        subst e1
        simp only [Option.some.injEq,Prod.mk.injEq] at h
        obtain ⟨rfl,rfl,rfl⟩:=h
        exact .panic hw hv
      · cases h
theorem trim_ok (hE : ∀ f args st r st',H f args st r st'→Evo st st') {f : FuncId} {args : List AV} {st st' st2 : St} {r r' : CRes} (h : J P F H (.call f args st r st')) (ht : trim r st st' = (r',st2)) : J P F H (.call f args st r' st2):=by
  unfold trim at ht
  split at ht
  · rename_i hb
    simp only [Bool.and_eq_true] at hb
    cases ht
    have he:=J_evo hE h
    have:=keepsB_ok hb.2 (fun b x hx=>let ⟨y,h1,_,_,h4⟩:=he b x hx; ⟨y,h1,h4⟩)
    rw [this] at h
    exact .forget h hb.1
  · cases ht; exact h
theorem evF_ok (hE : ∀ f args st r st',H f args st r st'→Evo st st') {rec : EvC} (hr : CodeOk P F H rec) : CallOk P F H (evF F rec):=by
  intro f args st r st' h
  unfold evF at h
  split at h
  · rename_i fn hF
    split at h
    · rename_i t ht
      have he:=trOf_env ht
      split at h
      · rename_i t1 st1 hb
        split at h
        · rename_i vs hvs
          simp only [Option.some.injEq] at h
          have j:=hr _ _ _ _ _ _ hb
          rw [he] at j
          exact trim_ok hE (.call hF j (.inl rfl) hvs) h
        · cases h
      · rename_i t1 st1 hb
        split at h
        · rename_i vs hvs
          simp only [Option.some.injEq] at h
          have j:=hr _ _ _ _ _ _ hb
          rw [he] at j
          exact trim_ok hE (.call hF j (.inr rfl) hvs) h
        · cases h
      · rename_i v t1 st1 hb
        simp only [Option.some.injEq,Prod.mk.injEq] at h
        obtain ⟨rfl,rfl⟩:=h
        have j:=hr _ _ _ _ _ _ hb
        rw [he] at j
        exact .callX hF j
      · cases h
    · cases h
  · cases h
theorem evC_ok (hE : ∀ f args st r st',H f args st r st'→Evo st st') (hh : ∀ call,CallOk P F H call→CallOk P F H (hk call)) : ∀ n,CodeOk P F H (evC P F hk n)
  | 0=>fun c t st x t' st' h=>by simp [evC] at h
  | n + 1=>fun c t st x t' st' h=>by
    have ih:=evC_ok hE hh n
    cases c with
    | skip=>simp only [evC,Option.some.injEq,Prod.mk.injEq] at h; obtain ⟨rfl,rfl,rfl⟩:=h; exact .skip
    | reg l=>exact .reg (evO_ok (hh _ (evF_ok hE ih)) h)
    | seq a b =>
      simp only [evC] at h
      split at h
      · rename_i t1 st1 ha
        exact .seqN (ih _ _ _ _ _ _ ha) (ih _ _ _ _ _ _ h)
      · rename_i hno
        refine .seqX (ih _ _ _ _ _ _ h) ?_
        rintro rfl
        exact hno _ _ h
    | cond c a b =>
      simp only [evC] at h
      split at h
      · rename_i hc
        exact .cond (t:=true) hc (ih _ _ _ _ _ _ h)
      · rename_i hc
        exact .cond (t:=false) hc (ih _ _ _ _ _ _ h)
      · cases h
    | block id a =>
      simp only [evC] at h
      split at h
      · rename_i x1 t1 st1 ha
        simp only [Option.some.injEq,Prod.mk.injEq] at h
        obtain ⟨rfl,rfl,rfl⟩:=h
        exact .block (ih _ _ _ _ _ _ ha)
      · cases h
    | loop a =>
      simp only [evC] at h
      split at h
      · rename_i t1 st1 ha
        exact .loopN (ih _ _ _ _ _ _ ha) (ih _ _ _ _ _ _ h)
      · rename_i hno
        refine .loopX (ih _ _ _ _ _ _ h) ?_
        rintro rfl
        exact hno _ _ h
    | exit id=>simp only [evC,Option.some.injEq,Prod.mk.injEq] at h; obtain ⟨rfl,rfl,rfl⟩:=h; exact .exit
    | ret=>simp only [evC,Option.some.injEq,Prod.mk.injEq] at h; obtain ⟨rfl,rfl,rfl⟩:=h; exact .ret
end
end Go.VX
end
