/- A part of the proofs of the statements of one layer: V1. No condition is added here. -/
import Derived.Calls
import Derived.Orders
import Derived.Below
import Derived.KernelRfl
set_option linter.unusedVariables false
set_option linter.unusedSimpArgs false
section
namespace Go.VX

inductive AV where
  | sc (v : Value)
  | ptr (b o : Nat)
  | sl (b o len esz : Nat) (full : Bool)
  | agg (cs : List AV)
  | tup (vs : List AV)
  | iface (t : TypeId) (v : AV)
  | fn (f : FuncId) (first cap : List AV)
  | err
  deriving Inhabited

structure Box where
  cells : List AV
  mode : Nat
  ver : Nat
  deriving Inhabited

abbrev St:=List Box
abbrev Env:=Nat→AV

def undefA : AV:=.tup []
def Env.put (env : Env) (d : Option Nat) (v : AV) : Env :=
  match d with
  | none=>env
  | some d=>fun t=>if t = d then v else env t

inductive VOpd where
  | tmp (t : Nat)
  | con (v : Value)
  | glo (b : Nat)
  | fn (f : Nat)
  deriving Inhabited

def cellVal : Value→Bool
  | .agg _=>false
  | .tuple _=>false
  | _=>true
def ofV : Value→AV
  | .agg cs=>.agg (cs.toList.map AV.sc)
  | v=>.sc v

def VOpd.ev (env : Env) : VOpd→AV
  | .tmp t=>env t
  | .con v=>.sc v
  | .glo b=>.ptr b 0
  | .fn f=>.fn f [] []

def AV.cell? : AV→Option Value
  | .sc v=>some v
  | _=>none
def cellsV : List AV→Option (List Value)
  | []=>some []
  | a :: r=>match a.cell?,cellsV r with
    | some v,some vs=>some (v :: vs)
    | _,_=>none
def AV.toV : AV→Option Value
  | .sc v=>some v
  | .agg cs=>(cellsV cs).map fun vs=>.agg vs.toArray
  | _=>none

def closed (P : Program) {α : Type} : Sem α→Option α
  | .pure a=>some a
  | .program k=>closed P (k P)
  | _=>none

def St.at1 (st : St) (b o : Nat) : Option AV :=
  match st[b]? with
  | some x=>if 2≤x.mode then none else x.cells[o]?
  | none=>none
def St.atN (st : St) (b o n : Nat) : Option (List AV) :=
  match st[b]? with
  | some x=>if 2≤x.mode then none else if o + n≤x.cells.length then some ((x.cells.drop o).take n) else none
  | none=>none
def splice (l : List AV) (o : Nat) (vs : List AV) : List AV:=l.take o++vs++l.drop (o + vs.length)
def AV.isCell : AV→Bool
  | .agg _=>false
  | .tup _=>false
  | .sc (.agg _)=>false
  | .sc (.tuple _)=>false
  | _=>true
def St.put (st : St) (b o : Nat) (vs : List AV) : Option St :=
  match st[b]? with
  | some x=>if x.mode = 0∧o + vs.length≤x.cells.length∧vs.all AV.isCell = true then some (st.set b { x with cells:=splice x.cells o vs,ver:=x.ver + 1 }) else none
  | none=>none
def St.kill (st : St) (b : Nat) : St :=
  match st[b]? with
  | some x=>st.set b { x with mode:=2 }
  | none=>st
def cellsOf : AV→List AV
  | .agg cs=>cs
  | v=>[v]

def fillA (cells : List AV) : List (Nat × Nat × AV)→Option (List AV)
  | []=>some cells
  | (off,size,v) :: rest =>
    if (cellsOf v).length = size∧off + size≤cells.length then fillA (splice cells off (cellsOf v)) rest else none

def asInt? : AV→Option Int
  | .sc (.int _ n)=>some n
  | _=>none
def asNat? : AV→Option Nat
  | .sc (.int _ n)=>if 0≤n then some n.toNat else none
  | _=>none

inductive VOp where
  | mv (x : VOpd)
  | pick (c a b : VOpd)
  | alloc (zero : List Value)
  | allocF (told : List Value)
  | box (x : VOpd)
  | build (zero : List Value) (parts : List (Nat × Nat × VOpd))
  | bslice (esz len : Nat) (zero : List Value) (parts : List (Nat × Nat × VOpd))
  | load (n : Option Nat) (a : VOpd)
  | store (n : Nat) (a x : VOpd)
  | nilck (x : VOpd)
  | isnil (k : Nat) (neg : Bool) (x : VOpd)
  | peq (neg : Bool) (x y : VOpd)
  | bin (op : BinOp) (t : TypeId) (c : Bool) (x y : VOpd)
  | un (op : UnOp) (x : VOpd)
  | conv (s d : TypeId) (x : VOpd)
  | s2b (x : VOpd)
  | b2s (x : VOpd)
  | frz (x : VOpd)
  | idxS (t : TypeId) (x i : VOpd)
  | slS (t : TypeId) (x : VOpd) (lo hi : Option VOpd)
  | bi (b : Builtin) (ts : List TypeId) (t : TypeId) (xs : List VOpd)
  | fieldA (off : Nat) (x : VOpd)
  | field (off : Nat) (n : Option Nat) (x : VOpd)
  | idxA (arr : Option Nat) (esz : Nat) (x i : VOpd)
  | idx (len : Nat) (n : Option Nat) (esz : Nat) (x i : VOpd)
  | slice (arr : Option Nat) (esz : Nat) (x : VOpd) (lo hi mx : Option VOpd)
  | mksl (esz bytes : Nat) (zero : List Value) (len cap : VOpd)
  | append (esz bytes : Nat) (x y : VOpd)
  | len (x : VOpd)
  | copy (esz : Nat) (x y : VOpd)
  | mkif (t : TypeId) (x : VOpd)
  | assert (t : TypeId) (ok : Bool) (zero : Value) (x : VOpd)
  | mkfn (f : FuncId) (first cap : List VOpd)
  | ext (x : VOpd) (i : Nat)
  | call (f : FuncId) (args : List VOpd)
  | callv (x : VOpd) (args : List VOpd)
  | panic (x : VOpd)
  deriving Inhabited

def bytesOfCells : List AV→Option (List UInt8)
  | []=>some []
  | .sc (.int .u8 n) :: r=>match bytesOfCells r with
    | some l=>some (UInt8.ofNat n.toNat :: l)
    | none=>none
  | _ :: _=>none
inductive VN where
  | val (v : AV)
  | skip
  | call (f : FuncId) (args : List AV)
  | pan (v : AV)
  deriving Inhabited

def zeroes (zero : List Value) (n : Nat) : List AV:=(List.replicate n (zero.map AV.sc)).flatten

def partsEv (env : Env) (ps : List (Nat × Nat × VOpd)) : List (Nat × Nat × AV):=ps.map fun p=>(p.1,p.2.1,p.2.2.ev env)

def bnd (env : Env) (d : Nat) : Option VOpd→Option Nat
  | none=>some d
  | some x=>asNat? (x.ev env)

def srcCells (st : St) (esz n : Nat) : AV→Option (List AV)
  | .sl b o len esz' _=>if n≤len∧esz' = esz then st.atN b o (n * esz) else none
  | .sc (.slice none 0 0)=>if n = 0 then some [] else none
  | .sc (.string s)=>if n≤s.size∧esz = 1 then some ((s.data.toList.take n).map fun b=>.sc (.int .u8 b.toNat)) else none
  | _=>none
def srcLen : AV→Option Nat
  | .sl _ _ len _ _=>some len
  | .sc (.slice none 0 0)=>some 0
  | .sc (.string s)=>some s.size
  | _=>none

def vop (P : Program) (o : VOp) (env : Env) (st : St) : Option (VN × St) :=
  match o with
  | .mv x=>some (.val (x.ev env),st)
  | .pick c a b=>match c.ev env with
    | .sc (.bool t)=>some (.val (if t then a.ev env else b.ev env),st)
    | _=>none
  | .alloc zero=>some (.val (.ptr st.length 0),st++[⟨zero.map AV.sc,0,0⟩])
  | .allocF told=>some (.val (.ptr st.length 0),st++[⟨told.map AV.sc,3,0⟩])
  | .box x=>some (.val (.ptr st.length 0),st++[⟨cellsOf (x.ev env),0,0⟩])
  | .build zero ps=>(fillA (zero.map AV.sc) (partsEv env ps)).map fun cs=>(.val (.agg cs),st)
  | .bslice esz len zero ps=>(fillA (zeroes zero len) (partsEv env ps)).map fun cs=>(.val (.sl st.length 0 len esz true),st++[⟨cs,0,0⟩])
  | .load n a=>match a.ev env,n with
    | .ptr b o,none=>(st.at1 b o).map fun v=>(.val v,st)
    | .ptr b o,some n=>(st.atN b o n).map fun vs=>(.val (.agg vs),st)
    | _,_=>none
  | .store n a x=>match a.ev env with
    | .ptr b o=>if (cellsOf (x.ev env)).length = n then (st.put b o (cellsOf (x.ev env))).map fun st'=>(.skip,st') else none
    | _=>none
  | .nilck x=>match x.ev env with
    | .ptr b o=>some (.val (.ptr b o),st)
    | .fn f a b=>some (.val (.fn f a b),st)
    | .iface t v=>some (.val (.iface t v),st)
    | _=>none
  | .isnil k neg x=>match k with
    | 0=>match x.ev env with
      | .ptr _ _=>some (.val (.sc (.bool neg)),st)
      | .sc (.pointer none)=>some (.val (.sc (.bool (!neg))),st)
      | _=>none
    | 1=>match x.ev env with
      | .sl _ _ _ _ _=>some (.val (.sc (.bool neg)),st)
      | .sc (.slice none 0 0)=>some (.val (.sc (.bool (!neg))),st)
      | _=>none
    | 2=>match x.ev env with
      | .fn _ _ _=>some (.val (.sc (.bool neg)),st)
      | .sc .nilFunc=>some (.val (.sc (.bool (!neg))),st)
      | _=>none
    | 3=>match x.ev env with
      | .err=>some (.val (.sc (.bool neg)),st)
      | .sc .nilIface=>some (.val (.sc (.bool (!neg))),st)
      | _=>none
    | _=>none
  | .peq neg x y=>match x.ev env,y.ev env with
    | .ptr b o,.ptr b' o'=>if b = b' then some (.val (.sc (.bool (if neg then !(Nat.beq o o') else Nat.beq o o'))),st) else none
    | _,_=>none
  | .bin op t c x y=>match (x.ev env).toV,(y.ev env).toV with
    | some a,some b=>(closed P (do eqGuard op t (if c then .const a else .tmp 0) (.tmp 0) a b; binOp op t a b)).bind fun v=>if cellVal v then some (.val (.sc v),st) else none
    | _,_=>none
  | .un op x=>match (x.ev env).toV with
    | some a=>(closed P (Op.unary op a)).bind fun v=>if cellVal v then some (.val (.sc v),st) else none
    | _=>none
  | .conv s d x=>match (x.ev env).toV with
    | some a=>(closed P (convert s d a)).bind fun v=>if cellVal v then some (.val (.sc v),st) else none
    | _=>none
  | .s2b x=>match x.ev env with
    | .sc (.string s)=>some (.val (.sl st.length 0 s.data.toList.length 1 false),st++[⟨s.data.toList.map fun b=>.sc (.int .u8 b.toNat),1,0⟩])
    | _=>none
  | .b2s x=>match x.ev env with
    | .sl b o len esz _=>if esz = 1 then match st.atN b o len with
        | some cs=>match bytesOfCells cs with
          | some l=>some (.val (.sc (.string ⟨l.toArray⟩)),st)
          | none=>none
        | none=>none
      else none
    | .sc (.slice none 0 0)=>some (.val (.sc (.string ⟨#[]⟩)),st)
    | _=>none
  | .frz x=>match x.ev env with
    | .sl b o len esz full=>match st[b]? with
      | some q=>if q.mode = 0∧0 < len then some (.val (.sl st.length o len esz full),st.kill b++[⟨q.cells,1,0⟩]) else none
      | none=>none
    | _=>none
  | .idxS t x i=>match (x.ev env).toV,(i.ev env).toV with
    | some a,some b=>(closed P (Instr.index t a b)).bind fun v=>if cellVal v then some (.val (.sc v),st) else none
    | _,_=>none
  | .slS t x lo hi=>match (x.ev env).toV,(lo.map (·.ev env)).map AV.toV,(hi.map (·.ev env)).map AV.toV with
    | some a,none,none=>(closed P (Instr.sliceAt t a none none none)).bind fun v=>if cellVal v then some (.val (.sc v),st) else none
    | some a,some (some l),none=>(closed P (Instr.sliceAt t a (some l) none none)).bind fun v=>if cellVal v then some (.val (.sc v),st) else none
    | some a,none,some (some h)=>(closed P (Instr.sliceAt t a none (some h) none)).bind fun v=>if cellVal v then some (.val (.sc v),st) else none
    | some a,some (some l),some (some h)=>(closed P (Instr.sliceAt t a (some l) (some h) none)).bind fun v=>if cellVal v then some (.val (.sc v),st) else none
    | _,_,_=>none
  | .bi b ts t xs=>match cellsV (xs.map (·.ev env)) with
    | some vs=>match closed P (builtin b ts.toArray t #[] vs.toArray) with
      | some (.value v)=>if cellVal v then some (.val (.sc v),st) else none
      | _=>none
    | none=>none
  | .fieldA off x=>match x.ev env with
    | .ptr b o=>some (.val (.ptr b (o + off)),st)
    | _=>none
  | .field off n x=>match x.ev env,n with
    | .agg cs,none=>(cs[off]?).map fun v=>(.val v,st)
    | .agg cs,some n=>if off + n≤cs.length then some (.val (.agg ((cs.drop off).take n)),st) else none
    | _,_=>none
  | .idxA arr esz x i=>match x.ev env,arr,asInt? (i.ev env) with
    | .ptr b o,some len,some i=>if 0≤i∧i < len then some (.val (.ptr b (o + i.toNat * esz)),st) else none
    | .sl b o len esz' _,none,some i=>if 0≤i∧i < len∧esz' = esz then some (.val (.ptr b (o + i.toNat * esz)),st) else none
    | _,_,_=>none
  | .idx len n esz x i=>match x.ev env,asInt? (i.ev env),n with
    | .agg cs,some i,none=>if 0≤i∧i < len then (cs[i.toNat * esz]?).map fun v=>(.val v,st) else none
    | .agg cs,some i,some n=>if 0≤i∧i < len∧i.toNat * esz + n≤cs.length then some (.val (.agg ((cs.drop (i.toNat * esz)).take n)),st) else none
    | _,_,_=>none
  | .slice arr esz x lo hi mx=>match arr,x.ev env with
    | some n,.ptr b o=>match bnd env n mx,bnd env n hi,bnd env 0 lo with
      | some m,some h,some l=>if l≤h∧h≤m∧m≤n∧(mx.isSome = true→hi.isSome = true)∧(st.atN b o (n * esz)).isSome = true then some (.val (.sl b (o + l * esz) (h - l) esz (m == h)),st) else none
      | _,_,_=>none
    | none,.sl b o len esz' full=>match bnd env len mx,bnd env len hi,bnd env 0 lo with
      | some m,some h,some l=>if l≤h∧h≤m∧m≤len∧(mx.isSome = true→hi.isSome = true)∧esz' = esz then some (.val (.sl b (o + l * esz) (h - l) esz (if mx.isSome then m == h else full && h == len)),st) else none
      | _,_,_=>none
    | none,.sc (.slice none 0 0)=>match bnd env 0 mx,bnd env 0 hi,bnd env 0 lo with
      | some 0,some 0,some 0=>if (mx.isSome = true→hi.isSome = true) then some (.val (.sc (.slice none 0 0)),st) else none
      | _,_,_=>none
    | _,_=>none
  | .mksl esz bytes zero len cap=>match asNat? (len.ev env),asNat? (cap.ev env) with
    | some l,some c=>if l≤c∧c * bytes≤1000000000∧c≤1000000000 then some (.val (.sl st.length 0 l esz (l == c)),st++[⟨zeroes zero c,0,0⟩]) else none
    | _,_=>none
  | .append esz bytes x y=>match srcLen (x.ev env),srcLen (y.ev env) with
    | some n,some m=>if (n + m) * (bytes + 1)≤1000000000 then
        match srcCells st esz n (x.ev env),srcCells st esz m (y.ev env) with
        | some old,some new =>
          match x.ev env with
          | .sl b o len esz' full =>
            if m = 0 then some (.val (.sl b o len esz' full),st) else
            if full then some (.val (.sl st.length 0 (n + m) esz false),st++[⟨old++new,0,0⟩])
            else if ((st[b]?).map (·.mode)) = some 0∧new.all AV.isCell = true then some (.val (.sl st.length 0 (n + m) esz false),st.kill b++[⟨old++new,0,0⟩]) else none
          | .sc (.slice none 0 0)=>if m = 0 then some (.val (.sc (.slice none 0 0)),st) else some (.val (.sl st.length 0 (n + m) esz false),st++[⟨new,0,0⟩])
          | _=>none
        | _,_=>none
      else none
    | _,_=>none
  | .len x=>match x.ev env with
    | .sl _ _ n _ _=>some (.val (.sc (.int .i64 (n : Int))),st)
    | .sc (.slice none 0 0)=>some (.val (.sc (.int .i64 0)),st)
    | _=>none
  | .copy esz x y=>match x.ev env,srcLen (y.ev env) with
    | .sl b o len _ _,some m=>match srcCells st esz (min m len) (y.ev env) with
      | some cs=>(st.put b o cs).map fun st'=>(.val (.sc (.int .i64 (min m len : Nat))),st')
      | none=>none
    | .sc (.slice none 0 0),some m=>match srcCells st esz 0 (y.ev env) with
      | some _=>some (.val (.sc (.int .i64 0)),st)
      | none=>none
    | _,_=>none
  | .mkif t x=>some (.val (.iface t (x.ev env)),st)
  | .assert t ok zero x=>match x.ev env,ok with
    | .iface u v,true=>some (.val (if u = t then .tup [v,.sc (.bool true)] else .tup [ofV zero,.sc (.bool false)]),st)
    | .iface u v,false=>if u = t then some (.val v,st) else none
    | .sc .nilIface,true=>some (.val (.tup [ofV zero,.sc (.bool false)]),st)
    | _,_=>none
  | .mkfn f first cap=>some (.val (.fn f (first.map (·.ev env)) (cap.map (·.ev env))),st)
  | .ext x i=>match x.ev env with
    | .tup vs=>(vs[i]?).map fun v=>(.val v,st)
    | _=>none
  | .call f args=>some (.call f (args.map (·.ev env)),st)
  | .callv x args=>match x.ev env with
    | .fn f first cap=>some (.call f (first++args.map (·.ev env)++cap),st)
    | _=>none
  | .panic x=>match x.ev env with
    | .iface t v=>some (.pan (.iface t v),st)
    | _=>none

structure VOper where
  idx : Nat
  dst : Option Nat
  op : VOp
  guard : Option (Nat × Bool)
  keep : List VOpd
  deriving Inhabited

inductive VC where
  | skip
  | reg (ops : List VOper)
  | seq (a b : VC)
  | cond (c : VOpd) (a b : VC)
  | block (id : Nat) (a : VC)
  | loop (a : VC)
  | exit (id : Nat)
  | ret
  deriving Inhabited

inductive VX where
  | norm
  | exit (id : Nat)
  | ret
  | pan (v : AV)
  deriving Inhabited
def VX.unblock (id : Nat) : VX→VX
  | .exit i=>if i = id then .norm else .exit i
  | x=>x

inductive VRes where
  | tmp (t : Nat)
  | cell (a : Nat) (n : Option Nat)
  deriving Inhabited
structure VFun where
  body : VC
  res : List VRes
  deriving Inhabited

inductive CRes where
  | ret (v : AV)
  | pan (v : AV)
  deriving Inhabited

def wantedA (env : Env) : Option (Nat × Bool)→Bool
  | none=>true
  | some (t,b)=>match env t with
    | .sc (.bool c)=>c == b
    | _=>false
def adrBox : AV→Option Nat
  | .ptr b _=>some b
  | .sl b _ _ _ _=>some b
  | _=>none
def keptA (env : Env) (st st' : St) (l : List VOpd) : Bool :=
  l.all fun x=>match adrBox (x.ev env) with
    | some b=>match st[b]? with
      | some p=>match st'[b]? with
        | some q=>p.ver == q.ver && p.mode == q.mode
        | none=>false
      | none=>true
    | none=>true

def resOf (env : Env) (st : St) : List VRes→Option (List AV)
  | []=>some []
  | .tmp t :: r=>(resOf env st r).map fun vs=>env t :: vs
  | .cell a n :: r=>match env a,n with
    | .ptr b o,none=>match st.at1 b o,resOf env st r with
      | some v,some vs=>some (v :: vs)
      | _,_=>none
    | .ptr b o,some n=>match st.atN b o n,resOf env st r with
      | some v,some vs=>some (.agg v :: vs)
      | _,_=>none
    | _,_=>none
def tupOf : List AV→AV
  | [v]=>v
  | vs=>.tup vs

def envOf (args : List AV) : Env:=fun t=>args.getD t undefA

mutual
def AV.flat : AV→Bool
  | .sc _=>true
  | .ptr _ _=>false
  | .sl _ _ _ _ _=>false
  | .agg cs=>AV.flatL cs
  | .tup vs=>AV.flatL vs
  | .iface _ v=>AV.flat v
  | .fn _ a b=>AV.flatL a && AV.flatL b
  | .err=>true
def AV.flatL : List AV→Bool
  | []=>true
  | a :: r=>AV.flat a && AV.flatL r
end
def CRes.flat : CRes→Bool
  | .ret v=>v.flat
  | .pan v=>v.flat

inductive Jdg where
  | code (c : VC) (env : Env) (st : St) (x : VX) (env' : Env) (st' : St)
  | ops (l : List VOper) (env : Env) (st : St) (x : VX) (env' : Env) (st' : St)
  | call (f : FuncId) (args : List AV) (st : St) (r : CRes) (st' : St)

inductive J (P : Program) (F : FuncId→Option VFun) (H : FuncId→List AV→St→CRes→St→Prop) : Jdg→Prop
  | skip {env st} : J P F H (.code .skip env st .norm env st)
  | seqN {a b env st env1 st1 x env2 st2} : J P F H (.code a env st .norm env1 st1)→J P F H (.code b env1 st1 x env2 st2)→J P F H (.code (.seq a b) env st x env2 st2)
  | seqX {a b env st x env1 st1} : J P F H (.code a env st x env1 st1)→x≠.norm→J P F H (.code (.seq a b) env st x env1 st1)
  | cond {c a b env st t x env' st'} : c.ev env = .sc (.bool t)→J P F H (.code (if t then a else b) env st x env' st')→J P F H (.code (.cond c a b) env st x env' st')
  | block {id a env st x env' st'} : J P F H (.code a env st x env' st')→J P F H (.code (.block id a) env st (x.unblock id) env' st')
  | loopN {a env st env1 st1 x env2 st2} : J P F H (.code a env st .norm env1 st1)→J P F H (.code (.loop a) env1 st1 x env2 st2)→J P F H (.code (.loop a) env st x env2 st2)
  | loopX {a env st x env1 st1} : J P F H (.code a env st x env1 st1)→x≠.norm→J P F H (.code (.loop a) env st x env1 st1)
  | exit {id env st} : J P F H (.code (.exit id) env st (.exit id) env st)
  | ret {env st} : J P F H (.code .ret env st .ret env st)
  | reg {l env st x env' st'} : J P F H (.ops l env st x env' st')→J P F H (.code (.reg l) env st x env' st')
  | nil {env st} : J P F H (.ops [] env st .norm env st)
  | idle {o l env st x env' st'} : wantedA env o.guard = false→J P F H (.ops l (env.put o.dst undefA) st x env' st')→J P F H (.ops (o :: l) env st x env' st')
  | val {o l env st v st1 x env' st'} : wantedA env o.guard = true→vop P o.op env st = some (.val v,st1)→keptA env st st1 o.keep = true →
      J P F H (.ops l (env.put o.dst v) st1 x env' st')→J P F H (.ops (o :: l) env st x env' st')
  | done {o l env st st1 x env' st'} : wantedA env o.guard = true→vop P o.op env st = some (.skip,st1)→keptA env st st1 o.keep = true →
      J P F H (.ops l (env.put o.dst undefA) st1 x env' st')→J P F H (.ops (o :: l) env st x env' st')
  | callR {o l env st f args v st1 x env' st'} : wantedA env o.guard = true→vop P o.op env st = some (.call f args,st)→J P F H (.call f args st (.ret v) st1)→keptA env st st1 o.keep = true →
      J P F H (.ops l (env.put o.dst v) st1 x env' st')→J P F H (.ops (o :: l) env st x env' st')
  | callP {o l env st f args v st1} : wantedA env o.guard = true→vop P o.op env st = some (.call f args,st)→J P F H (.call f args st (.pan v) st1) →
      J P F H (.ops (o :: l) env st (.pan v) env st1)
  | panic {o l env st v} : wantedA env o.guard = true→vop P o.op env st = some (.pan v,st)→J P F H (.ops (o :: l) env st (.pan v) env st)
  | call {f fn args st x env' st' vs} : F f = some fn→J P F H (.code fn.body (envOf args) st x env' st')→(x = .norm∨x = .ret)→resOf env' st' fn.res = some vs→J P F H (.call f args st (.ret (tupOf vs)) st')
  | callX {f fn args st v env' st'} : F f = some fn→J P F H (.code fn.body (envOf args) st (.pan v) env' st')→J P F H (.call f args st (.pan v) st')
  | hook {f args st r st'} : H f args st r st'→J P F H (.call f args st r st')
  | forget {f args st r more} : J P F H (.call f args st r (st++more))→r.flat = true→J P F H (.call f args st r st)

end Go.VX
end
