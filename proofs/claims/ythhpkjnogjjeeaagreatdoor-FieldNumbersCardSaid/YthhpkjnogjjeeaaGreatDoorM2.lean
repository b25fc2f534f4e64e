import Derived.IntWalk
import Derived.ChangeArms
import Derived.DataReads
import Derived.OpenShut
import Derived.SizedLaws
import Derived.Below
import Derived.WideKeyArgs
import Derived.KernelRfl
import Derived.Test.YthhpkjnogjjeeaaGreatDoorM1
/-! Texts 2 of this claim, joined. -/
set_option linter.unnecessarySimpa false
set_option linter.unusedSimpArgs false
set_option linter.unusedVariables false
open _root_.Array renaming getD_eq_getD_getElem? → aag, getElem?_eq_some_iff → aaZ
open _root_.Bool renaming and_eq_true → aab, eq_iff_iff → aaW, false_eq_true → aam
open _root_.Classical renaming choose_spec → aaL
open _root_.Int renaming negSucc_eq → aaK, ofNat → abh, ofNat_eq_natCast → aaE
open _root_.List renaming all_eq_true → aaf, append_assoc → aas, append_nil → aaJ, cons_append → aaH, flatMap_cons → abn, getD_eq_getElem?_getD → aak, getElem?_append_left → aaj, getElem?_append_right → aaq, getElem?_cons_zero → aat, getElem?_eq_getElem → aac, getElem?_eq_some_iff → aad, getElem?_map → abc, getElem?_set_self → aa6, getElem_append_left → aaR, getElem_append_right → aaO, getElem_mem → aau, getElem_of_mem → aa1, length_append → aah, length_cons → aaw, length_eq_zero_iff → aaY, length_map → aaU, length_nil → aaX, map_congr_left → abs, map_cons → aaP, map_nil → abf, mem_append → aaG, mem_cons → aaA, mem_cons_of_mem → aao, mem_cons_self → aap, mem_flatMap → aaC, mem_map → aaQ, mem_of_getElem? → aaN, mem_of_mem_drop → aar, mem_of_mem_take → aaD, mem_range → abq, nil_append → aa5, not_mem_nil → abr, range → aal, take_append_drop → aa3, take_of_length_le → aa0
open _root_.Nat renaming add_mul → aaI, beq → aaz, eq_of_beq_eq_true → aaF, le_of_ble_eq_true → aaB, le_refl → aai, le_trans → abk, mul_le_mul_right → aay, succ → abl, zero_add → aav
open _root_.Option renaming getD_some → abg, map_eq_some_iff → aae, map_none → abm, map_some → abd, some → aaa
open _root_.UInt8 renaming ofNat → abj
section
namespace Go.D
noncomputable section
section
variable {α:Type}
def fN (n:Nat) (k:Nat→α):α:=Nat.rec (motive:=fun _=>α) (k 0) (fun m _=>k (abl m)) n
@[simp] theorem jD (n:Nat) (k:Nat→α):fN n k=k n:=by cases n<;>rfl
def fI (x:Int) (k:Int→α):α:=Int.rec (motive:=fun _=>α) (fun n=>fN n fun n=>k (abh n)) (fun n=>fN n fun n=>k (Int.negSucc n)) x
@[simp] theorem DX (x:Int) (k:Int→α):fI x k=k x:=by cases x<;>simp[fI]
def fB (b:Bool) (k:Bool→α):α:=Bool.rec (motive:=fun _=>α) (k false) (k true) b
@[simp] theorem Nu (b:Bool) (k:Bool→α):fB b k=k b:=by cases b<;>rfl
def fL {β:Type} (xs:List β):(List β→α)→α:=List.rec (motive:=fun _=>(List β→α)→α) (fun k=>k []) (fun x _ ih k=>ih fun t=>k (x::t)) xs
@[simp] theorem DY {β:Type} (xs:List β) (k:List β→α):fL xs k=k xs:=by
  induction xs generalizing k with
  | nil=>rfl
  | cons x t ih=>exact ih _
def fON (o:Option Nat) (k:Option Nat→α):α:=Option.rec (motive:=fun _=>α) (k none) (fun n=>fN n fun n=>k (some n)) o
@[simp] theorem Mq (o:Option Nat) (k:Option Nat→α):fON o k=k o:=by cases o<;>simp[fON]
def fTk (t:Tk) (k:Tk→α):α:=Tk.rec (motive:=fun _=>α) (k .no) (k .tight) (fun a b=>fN a fun a=>fN b fun b=>k (.own a b)) t
@[simp] theorem LU (t:Tk) (k:Tk→α):fTk t k=k t:=by cases t<;>simp[fTk]
def f0 (v:DV) (k:DV→α):α:=
 DV.casesOn (motive_1:=fun _=>α) v (k .undef) (fun b=>k (.bool b)) (fun a b=>k (.int a b)) (fun s=>k (.str s)) (fun a b=>k (.ptr a b)) (k .bG) (fun a=>k (.bC a))
  (fun a b c d e=>k (.list a b c d e)) (fun a b c d e f=>k (.hsl a b c d e f)) (fun a=>k (.map a)) (k .aR) (fun a b c=>k (.fn a b c)) (fun a=>k (.yield a)) (k .bt)
  (fun a b=>k (.iface a b)) (k .aB) (fun a=>k (.agg a)) (fun a=>k (.tuple a))
@[simp] theorem DS (v:DV) (k:DV→α):f0 v k=k v:=by cases v<;>rfl
def fX (f:DV→(DV→α)→α) (xs:List DV):(List DV→α)→α:=List.rec (motive:=fun _=>(List DV→α)→α) (fun k=>k []) (fun x _ ih k=>f x fun x=>ih fun t=>k (x::t)) xs
theorem Af {f:DV→(DV→α)→α} (hf:∀ v k,f v k=k v) (xs:List DV) (k:List DV→α):fX f xs k=k xs:=by
 induction xs generalizing k with
 | nil=>rfl
 | cons x t ih=>exact(hf x fun x=>fX f t fun t=>k (x::t)).trans (ih _)
def fS (f:DV→(DV→α)→α) (v:DV) (k:DV→α):α:=
 DV.casesOn (motive_1:=fun _=>α) v (k .undef) (fun b=>fB b fun b=>k (.bool b)) (fun a b=>fI b fun b=>k (.int a b)) (fun s=>fL s fun s=>k (.str s)) (fun a b=>fN a fun a=>fN b fun b=>k (.ptr a b)) (k .bG) (fun a=>fX f a fun a=>k (.bC a))
  (fun a b c d e=>fN a fun a=>fN b fun b=>fTk c fun c=>fB d fun d=>fX f e fun e=>k (.list a b c d e)) (fun a b c d e g=>fN a fun a=>fB b fun b=>fN c fun c=>fN d fun d=>fN e fun e=>fON g fun g=>k (.hsl a b c d e g)) (fun a=>fN a fun a=>k (.map a)) (k .aR)
  (fun a b c=>fN a fun a=>fX f b fun b=>fX f c fun c=>k (.fn a b c)) (fun a=>fN a fun a=>k (.yield a)) (k .bt)
  (fun a b=>fN a fun a=>f b fun b=>k (.iface a b)) (k .aB) (fun a=>fX f a fun a=>k (.agg a)) (fun a=>fX f a fun a=>k (.tuple a))
theorem tS {f:DV→(DV→α)→α} (hf:∀ v k,f v k=k v) (v:DV) (k:DV→α):fS f v k=k v:=by cases v<;>simp[fS,Af hf,hf]
def fD:DV→(DV→α)→α:=fS (fS (fS (fS f0)))
@[simp] theorem H4 (v:DV) (k:DV→α):fD v k=k v:=tS (tS (tS (tS DS))) v k
def fDs:List DV→(List DV→α)→α:=fX fD
@[simp] theorem ET (v:List DV) (k:List DV→α):fDs v k=k v:=Af H4 v k
end
def pE (m n:Nat):Int:=Bool.rec (abh (Nat.sub m n)) (Int.negSucc (Nat.sub (Nat.sub n m) 1)) (Nat.ble (abl m) n)
theorem sw (m n:Nat):pE m n=(m:Int)-n:=by
 unfold pE;cases h:Nat.ble (abl m) n
 · have:n≤m:=by
    rcases Nat.lt_or_ge m n with h1|h1
    · rw[Nat.ble_eq_true_of_le h1] at h;cases h
    · exact h1
   show ((m-n:Nat):Int)=_;omega
 · have:m<n:=aaB h;show Int.negSucc (n-m-1)=_;rw[aaK];omega
def Ez (a b:Int):Int:=
 Int.rec (motive:=fun _=>Int) (fun m=>Int.rec (motive:=fun _=>Int) (fun n=>.ofNat (Nat.add m n)) (fun n=>pE m (abl n)) b) (fun m=>Int.rec (motive:=fun _=>Int) (fun n=>pE n (abl m)) (fun n=>.negSucc (abl (Nat.add m n))) b) a
theorem B4 (a b:Int):Ez a b=a+b:=by
 cases a<;>cases b<;>simp only[Ez,sw]
 · rfl
 · rename_i m n;show (m:Int)-((n+1:Nat):Int)=_;rw[aaK];simp;omega
 · rename_i m n;show (n:Int)-((m+1:Nat):Int)=_;rw[aaK];simp;omega
 · rfl
def F5 (a b:Int):Int:=
 Int.rec (motive:=fun _=>Int) (fun m=>Int.rec (motive:=fun _=>Int) (fun n=>pE m n) (fun n=>.ofNat (Nat.add m (abl n))) b) (fun m=>Int.rec (motive:=fun _=>Int) (fun n=>.negSucc (Nat.add m n)) (fun n=>pE n m) b) a
theorem DA (a b:Int):F5 a b=a-b:=by
 cases a<;>cases b<;>simp only[F5,sw]
 · rfl
 · rename_i m n;show ((m+(n+1):Nat):Int)=_;rw[aaK];simp
 · rename_i m n;show Int.negSucc (m+n)=_;rw[aaK,aaK];simp only[aaE];omega
 · rename_i m n;rw[aaK,aaK];omega
def Ie (a b:Int):Int:=
 Int.rec (motive:=fun _=>Int) (fun m=>Int.rec (motive:=fun _=>Int) (fun n=>.ofNat (Nat.mul m n)) (fun n=>Int.mul (.ofNat m) (.negSucc n)) b) (fun m=>Int.mul (.negSucc m) b) a
theorem De (a b:Int):Ie a b=a*b:=by cases a<;>cases b<;>rfl
def iLe (a b:Int):Bool:=
 Int.rec (motive:=fun _=>Bool) (fun m=>Int.rec (motive:=fun _=>Bool) (fun n=>Nat.ble m n) (fun _=>false) b) (fun m=>Int.rec (motive:=fun _=>Bool) (fun _=>true) (fun n=>Nat.ble n m) b) a
theorem qV (a b:Int):iLe a b=decide (a≤b):=by
 cases a<;>cases b<;>simp only[iLe]<;>rename_i m n
 · rw[aaW,Nat.ble_eq,decide_eq_true_eq];simp
 · simp;omega
 · simp;omega
 · rw[aaW,Nat.ble_eq,decide_eq_true_eq,aaK,aaK];omega
def iLt (a b:Int):Bool:=Bool.rec true false (iLe b a)
theorem zQ (a b:Int):iLt a b=decide (a<b):=by
 unfold iLt;rw[qV];by_cases h:a<b
 · simp[h,show ¬ b≤a by omega]
 · simp[h,show b≤a by omega]
def iEq (a b:Int):Bool:=
 Int.rec (motive:=fun _=>Bool) (fun m=>Int.rec (motive:=fun _=>Bool) (fun n=>aaz m n) (fun _=>false) b) (fun m=>Int.rec (motive:=fun _=>Bool) (fun _=>false) (fun n=>aaz m n) b) a
theorem uT (a b:Int):iEq a b=(a==b):=by
 cases a<;>cases b<;>simp only[iEq]<;>rename_i m n<;>rw[aaW]<;>simp<;>try omega
def ikN (k:IntKind):Nat:=IntKind.rec (motive:=fun _=>Nat) 0 1 2 3 4 5 6 7 k
def yv (a b:IntKind):Bool:=aaz (ikN a) (ikN b)
theorem qR (a b:IntKind):yv a b=decide (a=b):=by cases a<;>cases b<;>rfl
def lO (k:IntKind):Nat:=IntKind.rec (motive:=fun _=>Nat) 127 32767 2147483647 9223372036854775807 255 65535 4294967295 18446744073709551615 k
def sgn (k:IntKind):Bool:=IntKind.rec (motive:=fun _=>Bool) true true true true false false false false k
def inK (k:IntKind) (n:Int):Bool:=
 Int.rec (motive:=fun _=>Bool) (fun m=>Nat.ble m (lO k)) (fun m=>Bool.rec false (Nat.ble m (lO k)) (sgn k)) n
def pH (k:IntKind) (n:Int):Int:=Bool.rec (k.wrap n) n (inK k n)
theorem sh (k:IntKind) (n:Int):pH k n=k.wrap n:=by
 unfold pH;cases h:inK k n
 · rfl
 · show n=k.wrap n;symm
   cases n with
   | ofNat m=>
     have hm:m≤lO k:=aaB h;cases k<;>simp only[lO] at hm
     · exact IntWalk.i8_in _ (by simp only[aaE];omega)
     · exact IntWalk.i16_in _ (by simp only[aaE];omega)
     · exact IntWalk.i32_in _ (by simp only[aaE];omega)
     · exact IntWalk.i64_in _ (by simp only[aaE];omega)
     · exact IntWalk.u8_in _ (by simp only[aaE];omega)
     · exact IntWalk.u16_in _ (by simp only[aaE];omega)
     · exact IntWalk.u32_in _ (by simp only[aaE];omega)
     · exact IntWalk.u64_in _ (by simp only[aaE];omega)
   | negSucc m=>
     cases k<;>simp only[inK,sgn] at h
     · have hm:=aaB h;simp only[lO] at hm;exact IntWalk.i8_in _ (by rw[aaK];omega)
     · have hm:=aaB h;simp only[lO] at hm;exact IntWalk.i16_in _ (by rw[aaK];omega)
     · have hm:=aaB h;simp only[lO] at hm;exact IntWalk.i32_in _ (by rw[aaK];omega)
     · have hm:=aaB h;simp only[lO] at hm;exact IntWalk.i64_in _ (by rw[aaK];omega)
     all_goals cases h
section
variable {β:Type}
def elA (v:DV) (B:Bool→β) (I:IntKind→Int→β) (S:List UInt8→β) (P:Nat→Nat→β) (C:List DV→β) (L:Nat→Nat→Tk→Bool→List DV→β)
    (H:Nat→Bool→Nat→Nat→Nat→Option Nat→β) (M:Nat→β) (F:Nat→List DV→List DV→β) (A:List DV→β) (U:List DV→β) (D:β):β:=
 DV.rec (motive_1:=fun _=>β) (motive_2:=fun _=>PUnit) D B I S P D (fun c _=>C c) (fun a b c d e _=>L a b c d e) H M D (fun f a b _ _=>F f a b) (fun _=>D) D (fun _ _ _=>D) D
  (fun a _=>A a) (fun a _=>U a) .unit (fun _ _ _ _=>.unit) v
end
section
variable {α:Type}
def sR (fr:Fr) (t:Nat):(DV→α)→α:=List.rec (motive:=fun _=>(DV→α)→α) (fun k=>k .undef) (fun p _ ih k=>Prod.rec (fun u v=>Bool.rec (ih k) (k v) (aaz u t)) p) fr
theorem kD (fr:Fr) (t:Nat) (k:DV→α):sR fr t k=k (fr.get t):=by
 induction fr with
 | nil=>rfl
 | cons p r ih=>
   obtain⟨u,v⟩:=p;show Bool.rec (sR r t k) (k v) (aaz u t)=k (if u=t then v else Fr.get r t);by_cases h:u=t
   · rw[if_pos h,h,show aaz t t=true from Nat.beq_refl t]
   · rw[if_neg h,show aaz u t=false from by cases e:aaz u t with | false=>rfl | true=>exact absurd (aaF e) h,ih]
def evC (fr:Fr) (x:X) (k:DV→α):α:=X.rec (motive:=fun _=>α) (fun n=>sR fr n k) k (fun g=>k (.fn g [] [])) x
theorem aC (fr:Fr) (x:X) (k:DV→α):evC fr x k=k (x.ev fr):=by cases x<;>first | rfl | exact kD _ _ _
def uu (fr:Fr) (xs:List X):(List DV→α)→α:=List.rec (motive:=fun _=>(List DV→α)→α) (fun k=>k []) (fun x _ ih k=>evC fr x fun v=>ih fun t=>k (v::t)) xs
theorem kI (fr:Fr) (xs:List X) (k:List DV→α):uu fr xs k=k (xs.map (X.ev fr)):=by
 induction xs generalizing k with
 | nil=>rfl
 | cons x t ih=>
   refine(aC fr x fun v=>uu fr t fun t=>k (v::t)).trans ?_;exact ih _
def AX (fr:Fr) (d:Option Nat) (v:DV) (k:Fr→α):α:=Option.rec (motive:=fun _=>α) (k fr) (fun t=>k ((t,v)::fr)) d
theorem wV (fr:Fr) (d:Option Nat) (v:DV) (k:Fr→α):AX fr d v k=k (fr.put d v):=by cases d<;>rfl
def oM (fr:Fr) (live:List Nat):(Fr→α)→α:=List.rec (motive:=fun _=>(Fr→α)→α) (fun k=>k []) (fun x _ ih k=>sR fr x fun v=>ih fun t=>k ((x,v)::t)) live
theorem nE (fr:Fr) (live:List Nat) (k:Fr→α):oM fr live k=k (fr.bl live):=by
 induction live generalizing k with
 | nil=>rfl
 | cons x t ih=>
   refine(kD fr x fun v=>oM fr t fun t=>k ((x,v)::t)).trans ?_;exact ih _
end
def jP {β:Type} (xs:List β):Nat→Option β:=List.rec (motive:=fun _=>Nat→Option β) (fun _=>none) (fun x _ ih i=>Nat.rec (motive:=fun _=>Option β) (some x) (fun i' _=>ih i') i) xs
def eE {β:Type} (xs:List β):Nat:=List.rec (motive:=fun _=>Nat) 0 (fun _ _ ih=>abl ih) xs
def sJ {β:Type} (xs:List β):Nat→List β:=List.rec (motive:=fun _=>Nat→List β) (fun _=>[]) (fun x t ih i=>Nat.rec (motive:=fun _=>List β) (x::t) (fun i' _=>ih i') i) xs
section
variable {α β:Type}
def wW (xs:List β):Nat→(List β→α)→α:=List.rec (motive:=fun _=>Nat→(List β→α)→α) (fun _ k=>k []) (fun x _ ih i k=>Nat.rec (motive:=fun _=>α) (k []) (fun i' _=>ih i' fun t=>k (x::t)) i) xs
def mw (xs ys:List β):(List β→α)→α:=List.rec (motive:=fun _=>(List β→α)→α) (fun k=>k ys) (fun x _ ih k=>ih fun t=>k (x::t)) xs
def CZ (xs:List β) (o:β):Nat→(List β→α)→α:=List.rec (motive:=fun _=>Nat→(List β→α)→α) (fun _ k=>k []) (fun x t ih i k=>Nat.rec (motive:=fun _=>α) (k (o::t)) (fun i' _=>ih i' fun t=>k (x::t)) i) xs
theorem eP (xs:List β) (i:Nat):jP xs i=xs[i]?:=by
 induction xs generalizing i with
 | nil=>rfl
 | cons x t ih=>cases i with
   | zero=>rfl
   | succ i=>exact(ih i).trans (by simp)
theorem ef (xs:List β):eE xs=xs.length:=by
 induction xs with
 | nil=>rfl
 | cons x t ih=>exact congrArg abl ih
theorem nX (xs:List β) (i:Nat):sJ xs i=xs.drop i:=by
 induction xs generalizing i with
 | nil=>simp[sJ]
 | cons x t ih=>cases i with
   | zero=>rfl
   | succ i=>exact(ih i).trans (by simp)
theorem tM (xs:List β) (i:Nat) (k:List β→α):wW xs i k=k (xs.take i):=by
 induction xs generalizing i k with
 | nil=>simp[wW]
 | cons x t ih=>cases i with
   | zero=>rfl
   | succ i=>exact(ih i fun t=>k (x::t)).trans (by simp)
theorem gM (xs ys:List β) (k:List β→α):mw xs ys k=k (xs++ys):=by
 induction xs generalizing k with
 | nil=>rfl
 | cons x t ih=>exact ih fun t=>k (x::t)
theorem wK (xs:List β) (o:β) (i:Nat) (k:List β→α):CZ xs o i k=k (xs.set i o):=by
 induction xs generalizing i k with
 | nil=>simp[CZ]
 | cons x t ih=>cases i with
   | zero=>rfl
   | succ i=>exact(ih i fun t=>k (x::t)).trans (by simp)
end
abbrev Out:=Option (DV×St)
def uK (st:St) (k:IntKind) (n:Int):Out:=fI n fun n=>some (.int k n,st)
def oC (st:St) (b:Bool):Out:=Bool.rec (some (.bool false,st)) (some (.bool true,st)) b
def Bt (st:St) (v:Option DV):Out:=Option.rec none (fun v=>fD v fun v=>some (v,st)) v
def fQ {α:Type} (v:DV) (k:DV→α):α:=
 elA v (fun b=>fB b fun b=>k (.bool b)) (fun a b=>fI b fun b=>k (.int a b)) (fun s=>fL s fun s=>k (.str s)) (fun a b=>fN a fun a=>fN b fun b=>k (.ptr a b)) (fun a=>fL a fun a=>k (.bC a))
  (fun a b c d e=>fN a fun a=>fN b fun b=>fTk c fun c=>fB d fun d=>fL e fun e=>k (.list a b c d e)) (fun a b c d e g=>fN a fun a=>fB b fun b=>fN c fun c=>fN d fun d=>fN e fun e=>fON g fun g=>k (.hsl a b c d e g)) (fun a=>fN a fun a=>k (.map a))
  (fun a b c=>fN a fun a=>fL b fun b=>fL c fun c=>k (.fn a b c)) (fun a=>fL a fun a=>k (.agg a)) (fun a=>fL a fun a=>k (.tuple a)) (f0 v k)
theorem Eh {α:Type} (v:DV) (k:DV→α):fQ v k=k v:=by cases v<;>simp[fQ,elA]
def uJ (st:St) (v:Option DV):Out:=Option.rec none (fun v=>fQ v fun v=>some (v,st)) v
theorem kH (st:St) (v:Option DV):uJ st v=v.map fun v=>(v,st):=by cases v<;>simp[uJ,Eh]
theorem rr (st:St) (v:Option DV):Bt st v=v.map fun v=>(v,st):=by cases v<;>simp[Bt]
theorem qY (st:St) (b:Bool):oC st b=some (.bool b,st):=by cases b<;>rfl
def Dz (b:Bool):Bool:=Bool.rec true false b
theorem wz (b:Bool):Dz b = !b:=by cases b<;>rfl
def iA (a b:Bool):Bool:=Bool.rec false b a
theorem fK (a b:Bool):iA a b=(a&&b):=by cases a<;>rfl
def ifK {β:Type} (b:Bool) (k:Option β):Option β:=Bool.rec none k b
abbrev zq:=St→IntKind→IntKind→Int→Int→Out
inductive KI where
 | mk (f:zq)
def jy (f:St→IntKind→Int→Int→Out):KI:=.mk fun st k k' a b=>ifK (yv k k') (f st k a b)
def Cc (op:BinOp):KI:=
 match op with
 | .add=>jy fun st k a b=>uK st k (pH k (Ez a b))
 | .sub=>jy fun st k a b=>uK st k (pH k (F5 a b))
 | .mul=>jy fun st k a b=>uK st k (pH k (Ie a b))
 | .eql=>jy fun st _ a b=>oC st (iEq a b)
 | .neq=>jy fun st _ a b=>oC st (Dz (iEq a b))
 | .lss=>jy fun st _ a b=>oC st (iLt a b)
 | .leq=>jy fun st _ a b=>oC st (iLe a b)
 | .gtr=>jy fun st _ a b=>oC st (iLt b a)
 | .geq=>jy fun st _ a b=>oC st (iLe b a)
 | op=>.mk fun st k k' a b=>Bt st (lV op (.int k a) (.int k' b))
abbrev nB:Bool→Out:=fun _=>none
abbrev nI:IntKind→Int→Out:=fun _ _=>none
abbrev nS:List UInt8→Out:=fun _=>none
abbrev nP:Nat→Nat→Out:=fun _ _=>none
abbrev nC:List DV→Out:=fun _=>none
abbrev nL:Nat→Nat→Tk→Bool→List DV→Out:=fun _ _ _ _ _=>none
abbrev nH:Nat→Bool→Nat→Nat→Nat→Option Nat→Out:=fun _ _ _ _ _ _=>none
abbrev nM:Nat→Out:=fun _=>none
abbrev nF:Nat→List DV→List DV→Out:=fun _ _ _=>none
def K9 (f:zq) (op:BinOp) (x y:DV) (st:St):Out:=
 elA x nB (fun k a=>elA y nB (fun k' b=>f st k k' a b) nS nP nC nL nH nM nF nC nC none)
  (fun s=>Bt st (lV op (.str s) y)) nP nC nL nH nM nF nC nC none
def qq (st:St) (b:Nat) (k:CK→List DV→Out):Out:=
 Option.rec none (fun o=>HO.rec k (fun _=>none) (fun _=>none) none o) (jP st.heap b)
def zW (st:St) (v:Option DV):Out:=Option.rec none (fun v=>some (v,st)) v
def m8 (vs:List DV) (off n:Nat) (ag:Bool) (st:St):Out:=
 Bool.rec (zW st (jP vs off)) (ifK (Nat.ble (Nat.add off n) (eE vs)) (wW (sJ vs off) n fun c=>some (.agg c,st))) ag
def Bn (n:Nat) (ag:Bool) (v:DV) (st:St):Out:=
 elA v nB nI nS (fun b off=>qq st b fun _ vs=>m8 vs off n ag st) (fun cs=>m8 cs 0 n ag st) nL nH nM nF nC nC none
section
variable {β:Type}
def j3 (v:DV) (k:List DV→β):β:=
 (fun (d:β)=>DV.rec (motive_1:=fun _=>β) (motive_2:=fun _=>PUnit) d (fun _=>d) (fun _ _=>d) (fun _=>d) (fun _ _=>d) d (fun _ _=>d) (fun _ _ _ _ _ _=>d) (fun _ _ _ _ _ _=>d) (fun _=>d) d (fun _ _ _ _ _=>d) (fun _=>d) d (fun _ _ _=>d) d
  (fun a _=>k a) (fun _ _=>d) .unit (fun _ _ _ _=>.unit) v) (k [v])
end
def md (vs:List DV):Bool:=List.rec (motive:=fun _=>Bool) true (fun v _ ih=>iA (DV.aT v) ih) vs
def re {α:Type} (vs:List DV) (off:Nat) (news:List DV) (k:List DV→α):α:=wW vs off fun a=>mw news (sJ vs (Nat.add off (eE news))) fun b=>mw a b k
def zH (n:Nat) (p v:DV) (st:St):Out:=
 elA p nB nI nS (fun b off=>St.rec (fun h tk cur base tb=>
     Option.rec none (fun o=>HO.rec (fun g vs=>
      j3 v fun ls=>
       ifK (iA (CK.wr g) (iA (Nat.ble base b) (iA (aaz (eE ls) n) (iA (Nat.ble (Nat.add off n) (eE vs)) (md ls)))))
        (re vs off ls fun vs'=>CZ h (.cells g vs') b fun h'=>some (.undef,⟨h',tk,cur,base,tb⟩)))
      (fun _=>none) (fun _=>none) none o) (jP h b)) st) nC nL nH nM nF nC nC none
def qP (i:Int):Nat:=Int.rec (motive:=fun _=>Nat) (fun n=>n) (fun _=>0) i
def xe (st:St) (o:HO) (k:Nat→St→Out):Out:=
 St.rec (fun h tk cur base tb=>fN (eE h) fun n=>mw h [o] fun h'=>k n ⟨h',tk,cur,base,tb⟩) st
inductive KF where
 | mk (f:Fr→St→Out)
 | call (g:Nat) (args:List X)
 | bd (f:X) (args:List X)
 | cI (f:X) (args:List X)
def DC {β:Type} (xs:List β) (st:St):Out:=fN (eE xs) fun n=>some (.int .i64 (.ofNat n),st)
def MO (k:uH) (x:X):KF:=
 match k with
 | .str=>.mk fun fr st=>evC fr x fun v=>elA v nB nI (fun s=>DC s st) nP nC nL nH nM nF nC nC none
 | .slice=>.mk fun fr st=>evC fr x fun v=>elA v nB nI nS nP nC (fun _ _ _ _ xs=>DC xs st) (fun _ _ _ _ len _=>some (.int .i64 (.ofNat len),st)) nM nF nC nC none
 | .map=>.mk fun fr st=>Bt st ((aq st fr (.len .map x)).map (·.1))
def By (n:Nat) (x i:DV) (st:St):Out:=
 elA i nB (fun _ j=>ifK (iLe (.ofNat 0) j)
  (elA x nB nI nS nP nC (fun _ n' _ _ xs=>ifK (aaz n' n) (Option.rec none (fun v=>j3 v fun ls=>some (.bC ls,st)) (jP xs (qP j))))
   (fun n' _ b off len _=>ifK (aaz n' n) (ifK (iLt j (.ofNat len)) (fN (Nat.add off (Nat.mul (qP j) n)) fun o=>some (.ptr b o,st)))) nM nF nC nC none))
  nS nP nC nL nH nM nF nC nC none
def BH (st:St) (k:St→Out):Out:=St.rec (fun h tks cur base tb=>fL h fun h=>fL tks fun tks=>k ⟨h,tks,cur,base,tb⟩) st
def fHO {α:Type} (o:HO) (k:HO→α):α:=
 HO.rec (fun g vs=>fL vs fun vs=>k (.cells g vs)) (fun es=>fL es fun es=>k (.map es)) (fun l=>k (.loop l)) (k .gone) o
theorem FU {α:Type} (o:HO) (k:HO→α):fHO o k=k o:=by cases o<;>simp[fHO]
def fOb {α:Type} (h:List HO):Nat→(List HO→α)→α:=
 List.rec (motive:=fun _=>Nat→(List HO→α)→α) (fun _ k=>k []) (fun x _ ih i k=>Nat.rec (motive:=fun _=>α) (fHO x fun x=>ih 1000000 fun t=>k (x::t)) (fun i' _=>ih i' fun t=>k (x::t)) i) h
theorem Gg {α:Type} (h:List HO) (i:Nat) (k:List HO→α):fOb h i k=k h:=by
 induction h generalizing i k with
 | nil=>rfl
 | cons x t ih=>
   cases i with
   | zero=>exact(FU x fun x=>fOb t 1000000 fun t=>k (x::t)).trans (ih _ _)
   | succ i=>exact ih _ _
def lh (i:Nat) (r:Out):Out:=
 Option.rec none (fun p=>Prod.rec (fun v st'=>fQ v fun v=>St.rec (fun h tks cur base tb=>fOb h i fun h=>fL tks fun tks=>some (v,⟨h,tks,cur,base,tb⟩)) st') p) r
theorem dk (i:Nat) (r:Out):lh i r=r:=by
 rcases r with _|⟨v,h,tks,cur,base,tb⟩
 · rfl
 · exact(Eh v _).trans ((Gg h i _).trans (DY tks _))
def y4 (v:DV):Nat:=elA v (fun _=>0) (fun _ _=>0) (fun _=>0) (fun b _=>b) (fun _=>0) (fun _ _ _ _ _=>0) (fun _ _ b _ _ _=>b) (fun b=>b) (fun _ _ _=>0) (fun _=>0) (fun _=>0) 0
def F7 (r:Out):Out:=Option.rec none (fun p=>Prod.rec (fun v st'=>fD v fun v=>BH st' fun st'=>some (v,st')) p) r
theorem wJ (r:Out):F7 r=r:=by rcases r with _ | ⟨v,st⟩<;>simp[F7,BH]
def D4 (n m:Nat) (ag:Bool) (bytes:Nat) (news:List DV) (tag n':Nat) (tk:Tk) (nn:Bool) (xs:List DV) (st:St):Out:=
 Nat.rec (some (.list tag n' tk nn xs,st)) (fun _ _=>
  if n=0∨(nn=true∧n'≠n)∨(xs.length+m)*bytes>ay∨xs.length+m>ay ∨ !(news.map DV.aE).all DV.pure then none else
  fDs (chunk n ag m (news.map DV.aE)) fun ys=>mw xs ys fun zs=>
   St.rec (fun h tks cur base tb=>
    (fun (fresh:Out)=>Bool.rec fresh (Tk.rec none fresh (fun t s=>if tb≤t∧tks[t]? = some s then fN (abl s) fun s'=>CZ tks s' t fun tks'=>some (.list cur n (.own t s') true zs,⟨h,tks',cur,base,tb⟩) else none) tk) nn)
     (fN (eE tks) fun l=>mw tks [0] fun tks'=>some (.list cur n (.own l 0) true zs,⟨h,tks',cur,base,tb⟩))) st) m
def wQ (n:Nat) (ag:Bool) (bytes:Nat) (x y:DV) (st:St):Out:=
 elA x nB nI nS nP nC (fun tag n' tk nn xs=>Option.rec none (fun p=>Prod.rec (fun m news=>D4 n m ag bytes news tag n' tk nn xs st) p) (bQ st n y))
  (fun _ _ b _ _ cap=>lh (Option.rec (eE st.heap) (fun _=>b) cap) (lh (eE st.heap) (bJ st n ag bytes x y))) nM nF nC nC none
def Es (op:ROp) (fr:Fr) (st:St):Out:=F7 (aq st fr op)
def FJ (n:Nat) (ag:Bool) (off:Nat) (v:DV) (st:St):Out:=elA v nB nI nS nP nC nL nH nM nF (fun vs=>m8 vs off n ag st) nC none
def rD (fr:Fr) (parts:List (Nat×Nat×X)):(List (Nat×Nat×DV)→Out)→Out:=
 List.rec (motive:=fun _=>(List (Nat×Nat×DV)→Out)→Out) (fun k=>k []) (fun p _ ih k=>evC fr p.2.2 fun v=>ih fun t=>k ((p.1,p.2.1,v)::t)) parts
def evO {α:Type} (fr:Fr) (x:Option X) (k:Option DV→α):α:=Option.rec (k none) (fun x=>evC fr x fun v=>k (some v)) x
theorem ui {α:Type} (fr:Fr) (x:Option X) (k:Option DV→α):evO fr x k=k (x.map (X.ev fr)):=by cases x<;>first | rfl | exact aC _ _ _
def tZ (fr:Fr) (n:Nat) (parts:List (Nat×X)):(List (Nat×Nat×DV)→Out)→Out:=
 List.rec (motive:=fun _=>(List (Nat×Nat×DV)→Out)→Out) (fun k=>k []) (fun p _ ih k=>evC fr p.2 fun v=>ih fun t=>k ((p.1*n,n,v)::t)) parts
theorem xl (fr:Fr) (n:Nat) (parts:List (Nat×X)) (k:List (Nat×Nat×DV)→Out):tZ fr n parts k=k (parts.map fun (i,x)=>(i*n,n,x.ev fr)):=by
 induction parts generalizing k with
 | nil=>rfl
 | cons p r ih=>
   refine(aC fr p.2 fun v=>tZ fr n r fun t=>k ((p.1*n,n,v)::t)).trans ?_;exact ih _
def Jz (st:St) (n:Nat) (ag:Bool) (zs:List DV) (len:Nat) (ps:List (Nat×Nat×DV)):Out:=
 match ix (bk zs len) ps with
 | some cs=>some (.hsl n ag st.heap.length 0 len (some len),st.push (.cells .plain cs))
 | none=>none
def Nh (v:DV) (st:St):Out:=
 DV.rec (motive_1:=fun _=>Out) (motive_2:=fun _=>PUnit) none (fun b=>some (.bool b,st)) (fun a b=>some (.int a b,st)) (fun s=>some (.str s,st)) (fun a b=>some (.ptr a b,st)) none (fun c _=>some (.bC c,st))
  (fun a b c d e _=>some (.list a b c d e,st)) (fun a b c d e f=>some (.hsl a b c d e f,st)) (fun a=>some (.map a,st)) (some (.aR,st)) (fun _ _ _ _ _=>none) (fun _=>none) none (fun _ _ _=>none) none
  (fun a _=>some (.agg a,st)) (fun a _=>some (.tuple a,st)) .unit (fun _ _ _ _=>.unit) v
def wh (k:LK) (a b:DV):Option Bool:=
 LK.rec (gf .bool a b)
  (elA a (fun _=>none) (fun k x=>elA b (fun _=>none) (fun k' y=>Bool.rec none (some (iEq x y)) (yv k k')) (fun _=>none) (fun _ _=>none) (fun _=>none) (fun _ _ _ _ _=>none) (fun _ _ _ _ _ _=>none) (fun _=>none) (fun _ _ _=>none) (fun _=>none) (fun _=>none) none)
   (fun _=>none) (fun _ _=>none) (fun _=>none) (fun _ _ _ _ _=>none) (fun _ _ _ _ _ _=>none) (fun _=>none) (fun _ _ _=>none) (fun _=>none) (fun _=>none) none)
  (gf .str a b) k
theorem rP (k:LK) (a b:DV):wh k a b=gf k a b:=by
 cases k<;>try rfl
 cases a<;>try (cases b<;>rfl)
 cases b<;>try rfl
 rename_i k x k' y;show Bool.rec none (some (iEq x y)) (yv k k')=if k=k' then some (x==y) else none
 rw[qR,uT];by_cases h:k=k'<;>simp[h]
def ji (ks:List LK):List DV→List DV→Option Bool:=
 List.rec (motive:=fun _=>List DV→List DV→Option Bool) (fun as_ bs=>aU [] as_ bs)
  (fun k _ ih as_ bs=>List.rec none (fun a as_ _=>List.rec none (fun b bs _=>Option.rec none (fun x=>Option.rec none (fun y=>some (iA x y)) (ih as_ bs)) (wh k a b)) bs) as_) ks
theorem j8:∀ (ks:List LK) (as_ bs:List DV),ji ks as_ bs=aU ks as_ bs
 | [],as_,bs=>rfl
 | k::ks,[],bs=>by cases bs<;>rfl
 | k::ks,a::as_,[]=>rfl
 | k::ks,a::as_,b::bs=>by
   show (Option.rec none (fun x=>Option.rec none (fun y=>some (iA x y)) (ji ks as_ bs)) (wh k a b):Option Bool)=_;rw[j8 ks as_ bs,rP];simp only[aU]
   cases gf k a b with
   | none=>rfl
   | some x=>cases aU ks as_ bs with
     | none=>rfl
     | some y=>simp[fK]
def uG (ks:List LK) (a b:DV):Option Bool:=
 List.rec (wv [] a b) (fun k r _=>List.rec (wh k a b) (fun _ _ _=>
  elA a (fun _=>none) (fun _ _=>none) (fun _=>none) (fun _ _=>none) (fun _=>none) (fun _ _ _ _ _=>none) (fun _ _ _ _ _ _=>none) (fun _=>none) (fun _ _ _=>none)
   (fun xs=>elA b (fun _=>none) (fun _ _=>none) (fun _=>none) (fun _ _=>none) (fun _=>none) (fun _ _ _ _ _=>none) (fun _ _ _ _ _ _=>none) (fun _=>none) (fun _ _ _=>none) (fun ys=>ji ks xs ys) (fun _=>none) none)
   (fun _=>none) none) r) ks
theorem xI (ks:List LK) (a b:DV):uG ks a b=wv ks a b:=by
 cases ks with
 | nil=>rfl
 | cons k r=>
   cases r with
   | nil=>exact rP _ _ _
   | cons k2 r=>
     cases a<;>try (cases b<;>rfl)
     cases b<;>try rfl
     rename_i xs ys;show ji (k::k2::r) xs ys=aU (k::k2::r) xs ys;exact j8 _ _ _
def v5 (ks:List LK) (k:DV) (es:List (DV×DV)):Nat→Option (Option (Nat×DV)):=
 List.rec (motive:=fun _=>Nat→Option (Option (Nat×DV))) (fun _=>some none)
  (fun p _ ih i=>Prod.rec (fun a v=>Option.rec none (fun b=>Bool.rec (ih (abl i)) (some (some (i,v))) b) (uG ks k a)) p) es
theorem tr (ks:List LK) (k:DV):∀ (es:List (DV×DV)) (i:Nat),v5 ks k es i=findD ks k es i
 | [],i=>rfl
 | (a,v)::es,i=>by
   show (Option.rec none (fun b=>Bool.rec (v5 ks k es (abl i)) (some (some (i,v))) b) (uG ks k a):Option (Option (Nat×DV)))=_;rw[xI,tr ks k es];simp only[findD]
   cases wv ks k a with
   | none=>rfl
   | some b=>cases b<;>rfl
def DU (zero:DV) (ok:Bool) (r:Option (Nat×DV)) (st:St):Out:=
 Option.rec (Bool.rec (some (zero,st)) (some (.tuple [zero,.bool false],st)) ok) (fun p=>Prod.rec (fun _ v=>Bool.rec (some (v,st)) (some (.tuple [v,.bool true],st)) ok) p) r
def wO (st:St) (ks:List LK) (zero:DV) (m k:DV) (ok:Bool):Out:=
 (fun (go:List (DV×DV)→Out)=>DV.rec (motive_1:=fun _=>Out) (motive_2:=fun _=>PUnit) none (fun _=>none) (fun _ _=>none) (fun _=>none) (fun _ _=>none) none (fun _ _=>none) (fun _ _ _ _ _ _=>none) (fun _ _ _ _ _ _=>none)
  (fun b=>Option.rec none (fun o=>HO.rec (fun _ _=>none) go (fun _=>none) none o) (jP st.heap b)) (go []) (fun _ _ _ _ _=>none) (fun _=>none) none (fun _ _ _=>none) none (fun _ _=>none) (fun _ _=>none) .unit (fun _ _ _ _=>.unit) m)
  fun es=>Option.rec none (fun r=>DU zero ok r st) (v5 ks k es 0)
theorem uP (st:St) (ks:List LK) (zero:DV) (m k:DV) (ok:Bool):wO st ks zero m k ok=(rl st ks zero m k ok).map fun v=>(v,st):=by
 have key:∀ es:List (DV×DV),(Option.rec none (fun r=>DU zero ok r st) (v5 ks k es 0):Out)=(match findD ks k es 0 with
  | none=>none
  | some r=>let (v,there):=match r with | some (_,v)=>(v,true) | none=>(zero,false)
            some (if ok then DV.tuple [v,.bool there] else v)).map fun v=>(v,st):=by
  intro es;rw[tr]
  cases findD ks k es 0 with
  | none=>rfl
  | some r=>cases r with
    | none=>cases ok<;>rfl
    | some p=>cases ok<;>rfl
 unfold rl;cases m<;>try rfl
 · rename_i b;simp only;show (Option.rec none _ (jP st.heap b):Out)=_;rw[eP]
   cases st.heap[b]? with
   | none=>rfl
   | some o=>
     cases o<;>try rfl
     exact key _
 · exact key []
def xj (op:ROp):KF:=
 match op with
 | .mv x=>.mk fun fr st=>evC fr x fun v=>some (v,st)
 | .pick c a b=>.mk fun fr st=>evC fr c fun v=>elA v (fun t=>Bool.rec (evC fr b fun v=>some (v,st)) (evC fr a fun v=>some (v,st)) t) nI nS nP nC nL nH nM nF nC nC none
 | .alloc zs=>.mk fun _ st=>xe st (.cells .plain zs) fun n st'=>some (.ptr n 0,st')
 | .load n ag x=>.mk fun fr st=>evC fr x fun v=>Bn n ag v st
 | .store n x v=>.mk fun fr st=>evC fr x fun p=>evC fr v fun v=>zH n p v st
 | .bin op x y=>KI.rec (fun f=>.mk fun fr st=>evC fr x fun a=>evC fr y fun b=>K9 f op a b st) (Cc op)
 | .i2i k x=>.mk fun fr st=>evC fr x fun v=>elA v nB (fun _ n=>uK st k (pH k n)) nS nP nC nL nH nM nF nC nC none
 | .un .not x=>.mk fun fr st=>evC fr x fun v=>elA v (fun b=>oC st (Dz b)) nI nS nP nC nL nH nM nF nC nC none
 | .fh off x=>.mk fun fr st=>evC fr x fun v=>elA v nB nI nS (fun b o=>fN (Nat.add o off) fun o=>some (.ptr b o,st)) (fun cs=>ifK (Nat.ble off (eE cs)) (some (.bC (sJ cs off),st))) nL nH nM nF nC nC none
 | .bw n x i=>.mk fun fr st=>evC fr x fun x=>evC fr i fun i=>By n x i st
 | .index x i=>.mk fun fr st=>evC fr x fun x=>evC fr i fun i=>elA x nB nI (fun s=>elA i nB (fun _ j=>ifK (iLe (.ofNat 0) j) (Option.rec none (fun b=>fN b.toNat fun n=>some (.int .u8 (.ofNat n),st)) (jP s (qP j)))) nS nP nC nL nH nM nF nC nC none) nP nC nL nH nM nF nC nC none
 | .extract x i=>.mk fun fr st=>evC fr x fun v=>elA v nB nI nS nP nC nL nH nM nF nC (fun vs=>zW st (jP vs i)) none
 | .iface t x=>.mk fun fr st=>evC fr x fun v=>some (.iface t v,st)
 | .ff g first captured=>.mk fun fr st=>uu fr first fun a=>uu fr captured fun b=>some (.fn g a b,st)
 | .len k x=>MO k x
 | .dg ty bytes x y=>.mk fun fr st=>evC fr x fun x=>evC fr y fun y=>lh (eE st.heap) (lh (y4 x) (df st ty bytes x y))
 | .mm ty x l=>.mk fun fr st=>evC fr x fun x=>evC fr l fun l=>uJ st (sC st ty x l)
 | .fe x=>.mk fun fr st=>evC fr x fun x=>uJ st (jW x)
 | .conv ty n x=>.mk fun fr st=>evC fr x fun x=>uJ st (sg st ty n x)
 | .fw ty zs=>.mk fun _ st=>xe st (.cells (.typed ty) zs) fun n st'=>some (.ptr n 0,st')
 | .eN n ag bytes x y=>.mk fun fr st=>evC fr x fun x=>evC fr y fun y=>lh (eE st.heap) (lh (y4 x) (tV st n ag bytes x y))
 | .append n ag bytes x y=>.mk fun fr st=>evC fr x fun x=>evC fr y fun y=>wQ n ag bytes x y st
 | .eq k neg x y=>.mk fun fr st=>evC fr x fun x=>evC fr y fun y=>Option.rec none (fun b=>oC st (neg != b)) (eqD k x y)
 | .field n ag off x=>.mk fun fr st=>evC fr x fun v=>FJ n ag off v st
 | .slice str n x lo hi mx=>.mk fun fr st=>evC fr x fun x=>evO fr lo fun lo=>evO fr hi fun hi=>evO fr mx fun mx=>uJ st (b6 str n x lo hi mx)
 | .build zs parts=>.mk fun fr st=>rD fr parts fun ps=>uJ st ((ix zs ps).map .agg)
 | .lookup ks zero x i ok=>.mk fun fr st=>evC fr x fun x=>evC fr i fun i=>ifK (qz ks i) (wO st ks zero x i ok)
 | .copy n x y=>.mk fun fr st=>evC fr x fun x=>evC fr y fun y=>lh (y4 x) (D1 st n x y)
 | .clear n zs x=>.mk fun fr st=>evC fr x fun x=>lh (y4 x) (Ak st n zs x)
 | .box n x=>.mk fun fr st=>evC fr x fun v=>j3 v fun ls=>ifK (iA (aaz (eE ls) n) (md ls)) (xe st (.cells .plain ls) fun b st'=>some (.ptr b 0,st'))
 | .fY ks m k v=>.mk fun fr st=>evC fr m fun m=>evC fr k fun k=>evC fr v fun v=>ifK (qz ks k) (lh (y4 m) ((wY st ks m k v).map fun s=>(.undef,s)))
 | .aJ x=>.mk fun fr st=>evC fr x fun v=>Nh v st
 | .s2b x=>.mk fun fr st=>evC fr x fun v=>elA v nB nI (fun s=>fX (fS f0) (s.map fun b=>.int .u8 b.toNat) fun l=>some (.list st.cur 1 .no true l,st)) nP nC nL nH nM nF nC nC none
 | .bZ n ag bytes zs len cap=>.mk fun fr st=>lh (eE st.heap) (aq st fr (.bZ n ag bytes zs len cap))
 | .s2h x=>.mk fun fr st=>lh (eE st.heap) (aq st fr (.s2h x))
 | .lZ n ag zs len parts=>.mk fun fr st=>tZ fr n parts fun ps=>lh (eE st.heap) (Jz st n ag zs len ps)
 | .call g args=>.call g args
 | .bd g args=>.bd g args
 | .cI g args=>.cI g args
 | op=>.mk fun fr st=>Es op fr st
def oG {β:Type} (r:Out) (k:DV→St→Option β):Option β:=Option.rec none (fun p=>Prod.rec k p) r
def Av (T:Tab) (R:Rec) (v:DV) (as_:List DV) (st:St):Out:=
 elA v nB nI nS nP nC nL nH nM (fun g a c=>ifK (ai T g) (mw as_ c fun x=>mw a x fun x=>R.F g x st)) nC nC none
def opK (T:Tab) (R:Rec) (op:ROp) (fr:Fr) (st:St):Out:=
 KF.rec (fun f=>f fr st) (fun g args=>uu fr args fun as_=>R.F g as_ st) (fun f args=>uu fr args fun as_=>evC fr f fun f=>R.V f as_ st)
  (fun f args=>uu fr args fun as_=>evC fr f fun f=>Av T R f as_ st) (xj op)
def qD (T:Tab) (R:Rec) (o:af) (fr:Fr) (st:St):Out:=
 Option.rec (opK T R o.op fr st) (fun g=>Option.rec none (fun b=>Bool.rec (some (.tuple [],st)) (opK T R o.op fr st) b) (dh fr (some g))) o.guard
def wX (R:Rec) (ops:List af) (fr:Fr) (st:St):Option (Fr×St):=
 List.rec (some (fr,st)) (fun o r _=>oG (R.N o fr st) fun v st'=>AX fr o.dst v fun fr'=>R.O r fr' st') ops
def sb (T:Tab) (R:Rec) (ops:List af) (fr:Fr) (st:St) (sts:List St):Option (Fr×List St):=
 List.rec (some (fr,sts)) (fun o r _=>oG (R.N o fr st) fun v st'=>AX fr o.dst v fun fr'=>Bool.rec (R.S r fr' st sts) (R.S r fr' st' (st'::sts)) (aP (ai T) o.op)) ops
abbrev iB:=Option (Ex×Fr×St)
def Aj (r:iB) (k:Fr→St→iB):iB:=
 Option.rec none (fun p=>Prod.rec (fun e q=>Ex.rec (Prod.rec k q) (fun id=>some (.exit id,q)) (some (.ret,q)) e) p) r
def q6 (R:Rec) (ops:List af) (live:List Nat) (fr:Fr) (st:St):iB:=
 Option.rec none (fun p=>Prod.rec (fun fr' st'=>oM fr' live fun fr'=>some (.normal,fr',st')) p) (R.O ops fr st)
def gp (R:Rec) (ops:List af) (chk:List (Nat×List Nat)) (live:List Nat) (fr:Fr) (st:St):iB:=
 Option.rec none (fun p=>Prod.rec (fun fr' sts=>ifK (R.A fr' ops sts.reverse chk) (List.rec none (fun st' _ _=>oM fr' live fun fr'=>some (.normal,fr',st')) sts)) p) (R.S ops fr st [st])
def KG (st:St) (k:St→iB):iB:=St.rec (fun h tks cur base tb=>fL h fun h=>k ⟨h,tks,cur,base,tb⟩) st
def sD (R:Rec) (ops:List af) (hs:List Nat) (chk:List (Nat×List Nat)) (live:List Nat) (fr:Fr) (st:St):iB:=
 List.rec (gp R ops chk live fr st) (fun _ _ _=>Option.rec none (fun p=>Prod.rec (fun st1 ops2=>KG st1 fun st1=>gp R ops2 chk live fr st1) p) (fg fr hs st ops)) hs
def JM (R:Rec) (x:X) (a b:RC) (fr:Fr) (st:St):iB:=
 evC fr x fun v=>elA v (fun t=>Bool.rec (R.C b fr st) (R.C a fr st) t) (fun _ _=>none) (fun _=>none) (fun _ _=>none) (fun _=>none) (fun _ _ _ _ _=>none) (fun _ _ _ _ _ _=>none) (fun _=>none) (fun _ _ _=>none) (fun _=>none) (fun _=>none) none
def u5 (R:Rec) (id:Nat) (a:RC) (fr:Fr) (st:St):iB:=
 Option.rec none (fun p=>Prod.rec (fun e q=>Ex.rec (some (.normal,q)) (fun id'=>Bool.rec (some (.exit id',q)) (some (.normal,q)) (aaz id' id)) (some (.ret,q)) e) p) (R.C a fr st)
def Kd (R:Rec) (live:List Nat) (a:RC) (fr:Fr) (st:St):iB:=oM fr live fun fr=>Aj (R.C a fr st) fun fr' st'=>R.C (.loop live a) fr' st'
inductive KC where
 | mk (f:Rec→Fr→St→iB)
def codeF (T:Tab) (c:RC):KC:=
 RC.casesOn c (.mk fun _ fr st=>some (.normal,fr,st)) (fun ops live=>.mk fun R fr st=>q6 R ops live fr st) (fun ops hs chk live=>.mk fun R fr st=>sD R ops hs chk live fr st)
  (fun a b=>.mk fun R fr st=>Aj (R.C a fr st) fun fr' st'=>R.C b fr' st')
  (fun x a b=>.mk fun R fr st=>JM R x a b fr st) (fun id a=>.mk fun R fr st=>u5 R id a fr st) (fun live a=>.mk fun R fr st=>Kd R live a fr st) (fun id=>.mk fun _ fr st=>some (.exit id,fr,st))
  (.mk fun _ fr st=>some (.ret,fr,st)) (fun f params assign body live=>.mk fun R fr st=>b7 T R (.eZ f params assign body live) fr st) (.mk fun _ _ _=>none)
def Ec (T:Tab) (R:Rec) (c:RC) (fr:Fr) (st:St):iB:=KC.rec (fun f=>f R fr st) (codeF T c)
def rm {α:Type} (as_:List DV):Nat→(Fr→α)→α:=List.rec (motive:=fun _=>Nat→(Fr→α)→α) (fun _ k=>k []) (fun v _ ih i k=>fN i fun i=>ih (abl i) fun t=>k ((i,v)::t)) as_
def Ao (R:Rec) (f:ak) (args:List DV) (st:St) (k:Fr→St→Out):Out:=
 rm args 0 fun fr0=>Option.rec none (fun p=>Prod.rec (fun e q=>Ex.rec (Prod.rec k q) (fun _=>none) (Prod.rec k q) e) p) (R.C f.body fr0 st)
def zb (st:St) (k:St→Out):Out:=
 St.rec (fun h tks cur _ _=>fN (eE h) fun b=>fN (eE tks) fun tb=>k ⟨h,tks,cur,b,tb⟩) st
def wD (st:St) (fr:Fr) (r:dQ) (k:DV→Out):Out:=
 dQ.rec (fun n=>sR fr n k) (fun a n ag=>sR fr a fun p=>oG (Bn n ag p st) fun v _=>k v) r
def qb (st:St) (fr:Fr) (rs:List dQ):(List DV→Out)→Out:=
 List.rec (motive:=fun _=>(List DV→Out)→Out) (fun k=>k []) (fun r _ ih k=>wD st fr r fun v=>ih fun t=>k (v::t)) rs
def Fi (st:St) (fr:Fr) (rs:List dQ) (k:DV→Out):Out:=
 qb st fr rs fun vs=>List.rec (k (.tuple vs)) (fun v t _=>List.rec (k v) (fun _ _ _=>k (.tuple vs)) t) vs
def CM (st0 st:St) (v:DV) (k:DV→Out):Out:=
 (fun (gen:Out)=>elA v (fun b=>k (.bool b)) (fun a b=>k (.int a b)) (fun s=>k (.str s)) (fun _ _=>gen) (fun c=>k (.bC c))
  (fun tag n tk nn xs=>Tk.rec (k (.list tag n .no nn xs)) (k (.list tag n .tight nn xs)) (fun _ _=>k (.list tag n .no nn xs)) tk) (fun _ _ _ _ _ _=>gen) (fun _=>gen) (fun _ _ _=>gen) (fun _=>gen) (fun _=>gen) gen)
  (Option.rec none (fun v=>fD v k) (aL st0 st v))
theorem wC (st0 st:St) (v:DV) (k:DV→Out):CM st0 st v k=match aL st0 st v with | some v=>k v | none=>none:=by
 have gen:(Option.rec none (fun v=>fD v k) (aL st0 st v):Out)=match aL st0 st v with | some v=>k v | none=>none:=by
  cases aL st0 st v<;>simp
 cases v<;>first | exact gen | rfl | skip
 rename_i tag n tk nn xs;cases tk<;>rfl
def zk (st0 st:St) (vs:List DV):(List DV→Out)→Out:=
 List.rec (motive:=fun _=>(List DV→Out)→Out) (fun k=>k []) (fun v _ ih k=>CM st0 st v fun v=>ih fun t=>k (v::t)) vs
theorem Be (st0 st:St) (vs:List DV) (k:List DV→Out):zk st0 st vs k=match b3 st0 st vs with | some vs=>k vs | none=>none:=by
 induction vs generalizing k with
 | nil=>rfl
 | cons v r ih=>
   refine(wC st0 st v fun v=>zk st0 st r fun t=>k (v::t)).trans ?_;simp only[b3]
   cases aL st0 st v with
   | none=>rfl
   | some a=>
     refine(ih _).trans ?_;cases b3 st0 st r<;>rfl
def za (st0 st:St) (v:DV) (k:DV→Out):Out:=
 (fun (gen:Out)=>elA v (fun _=>gen) (fun _ _=>gen) (fun _=>gen) (fun _ _=>gen) (fun _=>gen) (fun _ _ _ _ _=>gen) (fun _ _ _ _ _ _=>gen) (fun _=>gen) (fun _ _ _=>gen) (fun vs=>zk st0 st vs fun vs=>k (.agg vs)) (fun _=>gen) gen) (CM st0 st v k)
theorem vN (st0 st:St) (v:DV) (k:DV→Out):za st0 st v k=match bE st0 st v with | some v=>k v | none=>none:=by
 have other:(∀ vs,v≠.agg vs)→za st0 st v k=CM st0 st v k∧bE st0 st v=aL st0 st v:=by
  intro h;cases v<;>first | exact⟨rfl,rfl⟩ | exact absurd rfl (h _)
 by_cases h:∃ vs,v=.agg vs
 · obtain⟨vs,rfl⟩:=h;refine(Be st0 st vs fun vs=>k (.agg vs)).trans ?_;simp only[bE];cases b3 st0 st vs<;>rfl
 · obtain⟨h1,h2⟩:=other fun vs e=>h ⟨vs,e⟩;rw[h1,h2];exact wC st0 st v k
def Bs (st0 st:St) (vs:List DV):(List DV→Out)→Out:=
 List.rec (motive:=fun _=>(List DV→Out)→Out) (fun k=>k []) (fun v _ ih k=>za st0 st v fun v=>ih fun t=>k (v::t)) vs
theorem yQ (st0 st:St) (vs:List DV) (k:List DV→Out):Bs st0 st vs k=match cd st0 st vs with | some vs=>k vs | none=>none:=by
 induction vs generalizing k with
 | nil=>rfl
 | cons v r ih=>
   refine(vN st0 st v fun v=>Bs st0 st r fun t=>k (v::t)).trans ?_;simp only[cd]
   cases bE st0 st v with
   | none=>rfl
   | some a=>
     refine(ih _).trans ?_;cases cd st0 st r<;>rfl
def Cr (st0 st:St) (v:DV) (k:DV→Out):Out:=
 (fun (gen:Out)=>elA v (fun _=>gen) (fun _ _=>gen) (fun _=>gen) (fun _ _=>gen) (fun _=>gen) (fun _ _ _ _ _=>gen) (fun _ _ _ _ _ _=>gen) (fun _=>gen) (fun _ _ _=>gen) (fun _=>gen) (fun vs=>Bs st0 st vs fun vs=>k (.tuple vs)) gen) (za st0 st v k)
theorem Cu (st0 st:St) (v:DV) (k:DV→Out):Cr st0 st v k=match bj st0 st v with | some v=>k v | none=>none:=by
 have other:(∀ vs,v≠.tuple vs)→Cr st0 st v k=za st0 st v k∧bj st0 st v=bE st0 st v:=by
  intro h;cases v<;>first | exact⟨rfl,rfl⟩ | exact absurd rfl (h _)
 by_cases h:∃ vs,v=.tuple vs
 · obtain⟨vs,rfl⟩:=h;refine(yQ st0 st vs fun vs=>k (.tuple vs)).trans ?_;simp only[bj];cases cd st0 st vs<;>rfl
 · obtain⟨h1,h2⟩:=other fun vs e=>h ⟨vs,e⟩;rw[h1,h2];exact vN st0 st v k
def Fm (v u:DV):Bool:=
 (fun (gen:Bool)=>elA v (fun a=>elA u (fun b=>Bool.rec (Dz b) b a) (fun _ _=>false) (fun _=>false) (fun _ _=>false) (fun _=>false) (fun _ _ _ _ _=>false) (fun _ _ _ _ _ _=>false) (fun _=>false) (fun _ _ _=>false) (fun _=>false) (fun _=>false) false)
  (fun k a=>elA u (fun _=>false) (fun k' b=>iA (yv k k') (iEq a b)) (fun _=>false) (fun _ _=>false) (fun _=>false) (fun _ _ _ _ _=>false) (fun _ _ _ _ _ _=>false) (fun _=>false) (fun _ _ _=>false) (fun _=>false) (fun _=>false) false)
  (fun _=>gen) (fun b o=>elA u (fun _=>false) (fun _ _=>false) (fun _=>false) (fun b' o'=>iA (aaz b b') (aaz o o')) (fun _=>false) (fun _ _ _ _ _=>false) (fun _ _ _ _ _ _=>false) (fun _=>false) (fun _ _ _=>false) (fun _=>false) (fun _=>false) false)
  (fun _=>gen) (fun _ _ _ _ _=>gen) (fun _ _ _ _ _ _=>gen) (fun _=>gen) (fun _ _ _=>gen) (fun _=>gen) (fun _=>gen) gen) (DV.beq v u)
theorem C5 (v u:DV):Fm v u=DV.beq v u:=by
 cases v<;>try rfl
 · cases u<;>try rfl
   rename_i a b;cases a<;>cases b<;>rfl
 · cases u<;>try rfl
   rename_i k a k' b;show iA (yv k k') (iEq a b)=(k==k'&&a==b);rw[fK,qR,uT];by_cases h:k=k'<;>simp[h]
 · cases u<;>try rfl
   rename_i b o b' o';show iA (aaz b b') (aaz o o')=(b==b'&&o==o');rw[fK,aaW];simp
def wP (R:Rec) (fr:Fr) (o:af) (sts:List St) (vs:List Nat):Bool:=
 List.rec true (fun j r _=>iA (Option.rec false (fun st=>Option.rec false (fun p=>Prod.rec (fun v _=>Option.rec false (fun d=>sR fr d fun u=>Fm v u) o.dst) p) (R.N o fr st)) (jP sts j)) (R.K fr o sts r)) vs
def vJ (R:Rec) (fr:Fr) (ops:List af) (sts:List St) (chk:List (Nat×List Nat)):Bool:=
 List.rec true (fun p r _=>Prod.rec (fun i vs=>iA (Option.rec false (fun o=>R.K fr o sts vs) (jP ops i)) (R.A fr ops sts r)) p) chk
def uw (T:Tab) (R:Rec) (g:Nat) (args:List DV) (st:St):Out:=
 Option.rec none (fun d=>Def.rec (fun f=>
  Bool.rec (Ao R f args st fun fr st'=>Fi st' fr f.results fun v=>some (v,st'))
   (zb st fun st1=>Ao R f args st1 fun fr st'=>Fi st' fr f.results fun v=>Cr st st' v fun v=>some (v,st)) f.ez)
  (fun p=>p args st) (fun p=>Option.rec none (fun v=>fD v fun v=>some (v,st)) (p args)) d) (T g)
def uE (T:Tab) (R:Rec):Rec:=⟨Ec T R,wX R,sb T R,qD T R,vJ R,wP R,uw T R,hM T R⟩
def Bm (T:Tab) (n:Nat):Rec:=Nat.rec sr (fun _ R=>uE T R) n
def jx (T:Tab) (n g:Nat) (args:List DV) (st:St) (v:DV):Bool:=
 Option.rec false (fun p=>Prod.rec (fun u _=>DV.beq u v) p) ((Bm T n).F g args st)
end
end Go.D
end
section
namespace Go.D
theorem dS {β:Type} (b:Bool) (k:Option β):ifK b k=if b=true then k else none:=by cases b<;>rfl
theorem Cf (op:BinOp) (st:St) (k k':IntKind) (a b:Int):(KI.rec (motive:=fun _=>Out) (fun f=>f st k k' a b) (Cc op))=(lV op (.int k a) (.int k' b)).map fun v=>(v,st):=by
 cases op<;>simp only[Cc,jy,lV,jd,qR,uK,qY,wz,DX,sh,B4,DA,De,uT,zQ,qV,rr,dS]<;>by_cases h:k=k'<;>simp[h]<;>first | rfl | (cases h:(a==b)<;>simp_all[bne])
theorem Cz (op:BinOp) (x y:DV) (st:St) (f:zq) (hf:∀ k k' a b,f st k k' a b=(lV op (.int k a) (.int k' b)).map fun v=>(v,st)) :
 K9 f op x y st=(lV op x y).map fun v=>(v,st):=by
 cases x<;>try (first | rfl | (cases y<;>rfl))
 · cases y<;>first | rfl | exact hf _ _ _ _
 · exact rr _ _
theorem yd (st:St) (b:Nat) (k:CK→List DV→Out):qq st b k=match st.cells b with | some (g,vs)=>k g vs | none=>none:=by
 unfold qq St.cells;rw[eP]
 cases st.heap[b]? with
 | none=>rfl
 | some o=>cases o<;>rfl
theorem kT (vs:List DV) (off n:Nat) (ag:Bool) (st:St):m8 vs off n ag st=(takeN vs off n ag).map fun v=>(v,st):=by
 unfold m8 takeN;cases ag
 · simp only[eP,zW];show _=Option.map _ (vs[off]?);cases vs[off]? <;> rfl
 · simp only[dS,tM,nX,ef,Nat.ble_eq,if_true];show (if off+n≤vs.length then _ else none)=_;split<;>rfl
theorem rZ (n:Nat) (ag:Bool) (v:DV) (st:St):Bn n ag v st=(cL st n ag v).map fun v=>(v,st):=by
 cases v<;>try rfl
 · rename_i b off;show qq st b _=_;rw[yd];simp only[cL]
   cases st.cells b with
   | none=>rfl
   | some p=>exact kT _ _ _ _ _
 · exact kT _ _ _ _ _
theorem jG {β:Type} (v:DV) (k:List DV→β):j3 v k=k v.leaves:=by cases v<;>rfl
theorem mG (vs:List DV):md vs=vs.all DV.aT:=by
 induction vs with
 | nil=>rfl
 | cons v t ih=>show iA v.aT (md t)=_;rw[fK,ih];simp
theorem uQ {α:Type} (vs:List DV) (off:Nat) (news:List DV) (k:List DV→α):re vs off news k=k (b4 vs off news):=by
 unfold re b4;rw[tM,gM,gM,nX,ef,aas];rfl
theorem xW (n:Nat) (p v:DV) (st:St):zH n p v st=(jT st n p v).map fun s=>(.undef,s):=by
 cases p<;>try rfl
 rename_i b off;obtain⟨h,tk,cur,base,tb⟩:=st;simp only[jT,St.jL,St.cells];show (Option.rec none _ (jP h b):Out)=_;rw[eP]
 cases h[b]? with
 | none=>rfl
 | some o=>
   cases o<;>try rfl
   rename_i g vs;show j3 v _=_;rw[jG,dS,uQ,wK];simp only[fK,aab,Nat.ble_eq,Nat.beq_eq,ef,mG];by_cases hw:g.wr=true
   · rw[if_pos hw];show (if g.wr=true∧base≤b∧v.leaves.length=n∧off+n≤vs.length∧v.leaves.all DV.aT=true then _ else none)=_;by_cases hc:base≤b∧v.leaves.length=n∧off+n≤vs.length∧v.leaves.all DV.aT=true
     · rw[if_pos ⟨hw,hc⟩];simp only;rw[if_pos hc];rfl
     · rw[if_neg (fun h=>hc h.2)];simp only;rw[if_neg hc];rfl
   · rw[if_neg hw,if_neg (fun h=>hw h.1)];rfl
theorem mM (st:St) (o:HO) (k:Nat→St→Out):xe st o k=k st.heap.length (st.push o):=by
 obtain⟨h,tk,cur,base,tb⟩:=st;refine(jD (eE h) fun n=>mw h [o] fun h'=>k n ⟨h',tk,cur,base,tb⟩).trans ?_;rw[gM,ef];rfl
theorem k9 (i:Int):qP i=i.toNat:=by cases i<;>rfl
theorem Ch {β:Type} (xs:List β) (st:St):DC xs st=some (.int .i64 xs.length,st):=by
 unfold DC;rw[jD,ef];rfl
theorem xt (n:Nat) (x i:X) (fr:Fr) (st:St):By n (x.ev fr) (i.ev fr) st=aq st fr (.bw n x i):=by
 simp only[aq];cases i.ev fr<;>try (cases x.ev fr<;>rfl)
 rename_i k j;show ifK (iLe (.ofNat 0) j) _=_;rw[dS,qV];cases x.ev fr<;>try (show (if _ then none else none)=_;split<;>rfl)
 · rename_i tag n' tk nn xs;show (if _ then ifK (aaz n' n) _ else none)=_;simp only[dS,Nat.beq_eq,eP,k9,decide_eq_true_eq,aaE,Int.natCast_zero];by_cases h1:0≤j<;>by_cases h2:n'=n<;>simp only[h1,h2,if_true,if_false,and_true,and_false]
   cases xs[j.toNat]? with
   | none=>rfl
   | some v=>exact jG _ _
 · rename_i n' ag b off len cap;show (if _ then ifK (aaz n' n) _ else none)=_;simp only[dS,Nat.beq_eq,k9,decide_eq_true_eq,aaE,Int.natCast_zero,zQ,jD];by_cases h1:0≤j<;>by_cases h2:n'=n<;>simp only[h1,h2,if_true,if_false,true_and,and_false,false_and]
   rfl
theorem yM (n m:Nat) (ag:Bool) (bytes:Nat) (news:List DV) (tag n':Nat) (tk:Tk) (nn:Bool) (xs:List DV) (y:DV) (st:St) (h:bQ st n y=some (m,news)) :
 D4 n m ag bytes news tag n' tk nn xs st=bJ st n ag bytes (.list tag n' tk nn xs) y:=by
 simp only[bJ,h];obtain⟨hp,tks,cur,base,tb⟩:=st
 cases m with
 | zero=>rfl
 | succ m=>
   rw[if_neg (by omega)];show (if _ then none else _)=_;split
   · rfl
   · rw[ET,gM]
     have hfresh:∀ (zs:List DV),fN (eE tks) (fun l=>mw tks [0] fun tks'=>(some (DV.list cur n (.own l 0) true zs,(⟨hp,tks',cur,base,tb⟩:St)):Out))=some (.list cur n (.own tks.length 0) true zs,⟨hp,tks++[0],cur,base,tb⟩):=by
      intro zs;rw[jD,gM,ef]
     cases nn
     · exact hfresh _
     · cases tk with
       | no=>rfl
       | tight=>exact hfresh _
       | own t s=>
         show (if tb≤t∧tks[t]? = some s then _ else none)=if tb≤t∧tks[t]? = some s then _ else none
         split
         · rw[jD,wK]
         · rfl
theorem vr (n:Nat) (ag:Bool) (bytes:Nat) (x y:DV) (st:St):wQ n ag bytes x y st=bJ st n ag bytes x y:=by
 cases x<;>try (simp only[bJ];cases bQ st n y<;>rfl)
 · rename_i tag n' tk nn xs;show (Option.rec none _ (bQ st n y):Out)=_
   cases h:bQ st n y with
   | none=>simp only[bJ,h]
   | some p=>
     obtain⟨m,news⟩:=p;exact yM _ _ _ _ _ _ _ _ _ _ _ _ h
 · exact(dk _ _).trans (dk _ _)
theorem ub (fr:Fr) (parts:List (Nat×Nat×X)) (k:List (Nat×Nat×DV)→Out):rD fr parts k=k (parts.map fun (o,n,x)=>(o,n,x.ev fr)):=by
 induction parts generalizing k with
 | nil=>rfl
 | cons p r ih=>
   refine(aC fr p.2.2 fun v=>rD fr r fun t=>k ((p.1,p.2.1,v)::t)).trans ?_;exact ih _
def BU:ROp→Bool
 | .call .. | .bd .. | .cI .. => true
 | _=>false
def L8 (op:ROp):KF→Prop
 | .mk f=>(∀ fr st,f fr st=aq st fr op)∧BU op=false
 | .call g args=>op=.call g args
 | .bd g args=>op=.bd g args
 | .cI g args=>op=.cI g args
theorem AP (op:ROp):L8 op (xj op):=by
 cases op
 case call=>rfl
 case bd=>rfl
 case cI=>rfl
 case mv x=>exact⟨fun fr st=>aC _ _ _,rfl⟩
 case pick c a b=>
  refine⟨fun fr st=>(aC _ _ _).trans ?_,rfl⟩;simp only[aq];cases c.ev fr<;>try rfl
  rename_i t;cases t
  · exact aC _ _ _
  · exact aC _ _ _
 case alloc zs=>exact⟨fun fr st=>mM _ _ _,rfl⟩
 case load n ag x=>exact⟨fun fr st=>(aC _ _ _).trans (rZ _ _ _ _),rfl⟩
 case store n x v=>exact⟨fun fr st=>(aC _ _ _).trans ((aC _ _ _).trans (xW _ _ _ _)),rfl⟩
 case bin op x y=>
  have h:=fun st k k' a b=>Cf op st k k' a b;unfold xj;dsimp only
  revert h
  generalize Cc op=ki
  cases ki with
  | mk f=>exact fun h=>⟨fun fr st=>(aC _ _ _).trans ((aC _ _ _).trans (Cz _ _ _ _ _ fun k k' a b=>h st k k' a b)),rfl⟩
 case i2i k x=>
  refine⟨fun fr st=>(aC _ _ _).trans ?_,rfl⟩;simp only[aq];cases x.ev fr<;>try rfl
  show uK _ _ _=_;unfold uK;rw[DX,sh]
 case un op x=>
  cases op
  case not=>
   refine⟨fun fr st=>(aC _ _ _).trans ?_,rfl⟩;simp only[aq];cases x.ev fr<;>try rfl
   show oC _ _=_;rw[qY,wz];rfl
  all_goals exact⟨fun fr st=>wJ _,rfl⟩
 case fh off x=>
  refine⟨fun fr st=>(aC _ _ _).trans ?_,rfl⟩;simp only[aq];cases x.ev fr<;>try rfl
  · rename_i b o;exact jD (Nat.add o off) fun o=>(some (DV.ptr b o,st):Out)
  · show ifK _ _=_;rw[dS,nX,ef];simp only[Nat.ble_eq]
 case bw n x i=>exact⟨fun fr st=>(aC _ _ _).trans ((aC _ _ _).trans (xt _ _ _ _ _)),rfl⟩
 case index x i=>
  refine⟨fun fr st=>(aC _ _ _).trans ((aC _ _ _).trans ?_),rfl⟩;simp only[aq];cases x.ev fr<;>try (cases i.ev fr<;>rfl)
  cases i.ev fr<;>try rfl
  show ifK _ _=_;rw[dS,qV,eP,k9];simp only[decide_eq_true_eq];show (if (0:Int)≤_ then _ else none)=_;split
  · rename_i s _ j _
    cases s[j.toNat]? with
    | none=>rfl
    | some b=>exact jD _ _
  · rfl
 case extract x i=>
  refine⟨fun fr st=>(aC _ _ _).trans ?_,rfl⟩;simp only[aq];cases x.ev fr<;>try rfl
  rename_i vs;show zW st (jP vs i)=_;rw[eP];show zW st vs[i]? = Option.map _ vs[i]?;cases vs[i]? <;> rfl
 case iface t x=>exact⟨fun fr st=>aC _ _ _,rfl⟩
 case ff g a b=>exact⟨fun fr st=>(kI _ _ _).trans (kI _ _ _),rfl⟩
 case len k x=>
  cases k
  case map=>
   refine⟨fun fr st=>(rr _ _).trans ?_,rfl⟩;cases h:x.ev fr<;>simp only[aq,h,abm,abd]
   rename_i b
   cases st.heap[b]? with
   | none=>rfl
   | some o=>cases o<;>rfl
  all_goals
   refine⟨fun fr st=>(aC _ _ _).trans ?_,rfl⟩;simp only[aq];cases x.ev fr<;>first | rfl | exact Ch _ _
 case dg ty bytes x y=>exact⟨fun fr st=>(aC _ _ _).trans ((aC _ _ _).trans ((dk _ _).trans (dk _ _))),rfl⟩
 case mm ty x l=>exact⟨fun fr st=>(aC _ _ _).trans ((aC _ _ _).trans (kH _ _)),rfl⟩
 case fe x=>exact⟨fun fr st=>(aC _ _ _).trans (kH _ _),rfl⟩
 case conv ty n x=>exact⟨fun fr st=>(aC _ _ _).trans (kH _ _),rfl⟩
 case fw ty zs=>exact⟨fun fr st=>mM _ _ _,rfl⟩
 case eN n ag bytes x y=>exact⟨fun fr st=>(aC _ _ _).trans ((aC _ _ _).trans ((dk _ _).trans (dk _ _))),rfl⟩
 case append n ag bytes x y=>exact⟨fun fr st=>(aC _ _ _).trans ((aC _ _ _).trans (vr _ _ _ _ _ _)),rfl⟩
 case eq k neg x y=>
  refine⟨fun fr st=>(aC _ _ _).trans ((aC _ _ _).trans ?_),rfl⟩;simp only[aq]
  cases eqD k (x.ev fr) (y.ev fr) with
  | none=>rfl
  | some b=>exact qY _ _
 case field n ag off x=>
  refine⟨fun fr st=>(aC _ _ _).trans ?_,rfl⟩;simp only[aq];cases x.ev fr<;>try rfl
  exact kT _ _ _ _ _
 case slice str n x lo hi mx=>exact⟨fun fr st=>(aC _ _ _).trans ((ui _ _ _).trans ((ui _ _ _).trans ((ui _ _ _).trans (kH _ _)))),rfl⟩
 case build zs parts=>exact⟨fun fr st=>(ub _ _ _).trans ((kH _ _).trans (Option.map_map ..)),rfl⟩
 case lookup ks zero x i ok=>
  refine⟨fun fr st=>(aC _ _ _).trans ((aC _ _ _).trans ?_),rfl⟩;rw[dS,uP];rfl
 case copy n x y=>exact⟨fun fr st=>(aC _ _ _).trans ((aC _ _ _).trans (dk _ _)),rfl⟩
 case clear n zs x=>exact⟨fun fr st=>(aC _ _ _).trans (dk _ _),rfl⟩
 case box n x=>
  refine⟨fun fr st=>(aC _ _ _).trans ?_,rfl⟩;rw[jG,dS,mM];simp only[fK,aab,Nat.beq_eq,ef,mG,aq]
 case fY ks m k v=>
  refine⟨fun fr st=>(aC _ _ _).trans ((aC _ _ _).trans ((aC _ _ _).trans ?_)),rfl⟩;rw[dS,dk];rfl
 case aJ x=>
  refine⟨fun fr st=>(aC _ _ _).trans ?_,rfl⟩;simp only[aq];cases x.ev fr<;>rfl
 case s2b x=>
  refine⟨fun fr st=>(aC _ _ _).trans ?_,rfl⟩;simp only[aq];cases x.ev fr<;>try rfl
  exact Af (tS DS) _ _
 case bZ n ag bytes zs len cap=>exact⟨fun fr st=>dk _ _,rfl⟩
 case s2h x=>exact⟨fun fr st=>dk _ _,rfl⟩
 case lZ n ag zs len parts=>exact⟨fun fr st=>(xl _ _ _ _).trans (dk _ _),rfl⟩
 all_goals exact⟨fun fr st=>wJ _,rfl⟩
theorem mU {β:Type} (r:Out) (k:DV→St→Option β):oG r k=match r with | some (v,st)=>k v st | none=>none:=by
 rcases r with _|⟨v,st⟩<;>rfl
theorem yb (T:Tab) (R:Rec) (v:DV) (as_:List DV) (st:St) :
 Av T R v as_ st=match v with | .fn g first captured=>if ai T g then R.F g (first++as_++captured) st else none | _=>none:=by
 cases v<;>try rfl
 show ifK _ (mw _ _ _)=_;rw[dS,gM,gM,← aas]
theorem Bz (T:Tab) (R:Rec) (op:ROp) (fr:Fr) (st:St):opK T R op fr st =
 match op with
  | .call g args=>R.F g (args.map (X.ev fr)) st
  | .bd f args=>R.V (f.ev fr) (args.map (X.ev fr)) st
  | .cI f args=>
    match f.ev fr with
    | .fn g first captured=>if ai T g then R.F g (first++args.map (X.ev fr)++captured) st else none
    | _=>none
  | op=>aq st fr op:=by
 have h:=AP op;unfold opK
 revert h
 generalize xj op=kf
 cases kf with
 | mk f=>
   intro h;obtain⟨h1,h2⟩:=h;show f fr st=_;rw[h1];cases op<;>first | rfl | cases h2
 | call g args=>
   intro h;cases h;exact kI _ _ _
 | bd g args=>
   intro h;cases h;exact(kI _ _ _).trans (aC _ _ _)
 | cI g args=>
   intro h;cases h;exact(kI _ _ _).trans ((aC _ _ _).trans (yb _ _ _ _ _))
theorem vg (T:Tab) (R:Rec):qD T R=di T R:=by
 funext o fr st
 obtain⟨d,op,g⟩:=o
 cases g with
 | none=>
   refine(Bz T R op fr st).trans ?_;cases op<;>rfl
 | some g=>
   unfold qD di;dsimp only
   cases dh fr (some g) with
   | none=>rfl
   | some b=>
     cases b
     · rfl
     · refine(Bz T R op fr st).trans ?_;cases op<;>rfl
theorem vp (T:Tab) (R:Rec):wX R=ir T R:=by
 funext ops fr st
 cases ops with
 | nil=>rfl
 | cons o r=>
   show oG (R.N o fr st) (fun v st'=>AX fr o.dst v fun fr'=>R.O r fr' st')=_;rw[mU];simp only[ir,wV];cases R.N o fr st<;>rfl
theorem tJ (T:Tab) (R:Rec):sb T R=eB T R:=by
 funext ops fr st sts
 cases ops with
 | nil=>rfl
 | cons o r=>
   show oG (R.N o fr st) (fun v st'=>AX fr o.dst v fun fr'=>Bool.rec (R.S r fr' st sts) (R.S r fr' st' (st'::sts)) (aP (ai T) o.op))=_;rw[mU];simp only[eB,wV];cases aP (ai T) o.op<;>simp<;>cases R.N o fr st<;>rfl
theorem sx (r:iB) (k:Fr→St→iB):Aj r k=match r with | some (.normal,fr,st)=>k fr st | r=>r:=by
 rcases r with _|⟨e,fr,st⟩
 · rfl
 · cases e<;>rfl
theorem uq (R:Rec) (ops:List af) (live:List Nat) (fr:Fr) (st:St):q6 R ops live fr st=match R.O ops fr st with | some (fr',st')=>some (.normal,fr'.bl live,st') | none=>none:=by
 unfold q6
 cases R.O ops fr st with
 | none=>rfl
 | some p=>exact nE _ _ _
theorem kt (R:Rec) (ops:List af) (chk:List (Nat×List Nat)) (live:List Nat) (fr:Fr) (st:St):gp R ops chk live fr st =
 match R.S ops fr st [st] with
  | some (fr',sts)=>if R.A fr' ops sts.reverse chk then (match sts with | st'::_=>some (.normal,fr'.bl live,st') | []=>none) else none
  | none=>none:=by
 unfold gp
 cases R.S ops fr st [st] with
 | none=>rfl
 | some p=>
   obtain⟨fr',sts⟩:=p;show ifK _ _=_;rw[dS]
   cases sts with
   | nil=>rfl
   | cons s r=>
     have:(List.rec (motive:=fun _=>iB) none (fun st' _ _=>oM fr' live fun fr'=>some (.normal,fr',st')) (s::r))=some (.normal,fr'.bl live,s):=nE _ _ _;rw[this]
theorem tO (R:Rec) (ops:List af) (hs:List Nat) (chk:List (Nat×List Nat)) (live:List Nat) (fr:Fr) (st:St):sD R ops hs chk live fr st =
 match fg fr hs st ops with
  | some (st1,ops2)=>
    match R.S ops2 fr st1 [st1] with
    | some (fr',sts)=>if R.A fr' ops2 sts.reverse chk then (match sts with | st'::_=>some (.normal,fr'.bl live,st') | []=>none) else none
    | none=>none
  | none=>none:=by
 cases hs with
 | nil=>exact kt R ops chk live fr st
 | cons h t=>
   show (Option.rec none _ (fg fr (h::t) st ops):iB)=_
   cases fg fr (h::t) st ops with
   | none=>rfl
   | some p=>
     obtain⟨⟨hp,tks,cur,base,tb⟩,ops2⟩:=p;refine(DY hp fun h=>gp R ops2 chk live fr ⟨h,tks,cur,base,tb⟩).trans ?_;exact kt _ _ _ _ _ _
theorem xJ (R:Rec) (id:Nat) (a:RC) (fr:Fr) (st:St):u5 R id a fr st =
 match R.C a fr st with
  | some (.exit id',fr',st')=>if id'=id then some (.normal,fr',st') else some (.exit id',fr',st')
  | r=>r:=by
 unfold u5
 cases R.C a fr st with
 | none=>rfl
 | some p=>
   obtain⟨e,fr',st'⟩:=p
   cases e with
   | normal=>rfl
   | ret=>rfl
   | exit id'=>
     show (Bool.rec (some (.exit id',fr',st')) (some (.normal,fr',st')) (aaz id' id):iB)=if id'=id then _ else _
     by_cases h:id'=id
     · rw[if_pos h,h,show aaz id id=true from Nat.beq_refl id]
     · rw[if_neg h,show aaz id' id=false from by cases e:aaz id' id with | false=>rfl | true=>exact absurd (aaF e) h]
theorem Aq (T:Tab) (R:Rec):Ec T R=b7 T R:=by
 funext c fr st
 cases c with
 | skip=>rfl
 | region ops live=>exact uq R ops live fr st
 | av ops hs chk live=>exact tO R ops hs chk live fr st
 | seq a b=>
   refine(sx _ _).trans ?_;simp only[b7];rfl
 | cond x a b=>
   refine(aC _ _ _).trans ?_;simp only[b7];cases x.ev fr<;>try rfl
   rename_i t;cases t<;>rfl
 | block id a=>exact xJ R id a fr st
 | loop live a=>
   refine(nE _ _ _).trans ((sx _ _).trans ?_);simp only[b7];rfl
 | exit id=>rfl
 | ret=>rfl
 | stuck=>rfl
 | eZ f params assign body live=>rfl
theorem uY {α:Type} (as_:List DV) (i:Nat) (k:Fr→α):rm as_ i k=k (aX as_ i):=by
 induction as_ generalizing i k with
 | nil=>rfl
 | cons v t ih=>
   refine(jD i fun i=>rm t (abl i) fun t=>k ((i,v)::t)).trans ?_;exact ih _ _
theorem u7 (st:St) (fr:Fr) (r:dQ) (k:DV→Out):wD st fr r k=match gk st fr r with | some v=>k v | none=>none:=by
 cases r with
 | t n=>exact kD _ _ _
 | cell a n ag=>
   refine(kD _ _ _).trans ((mU _ _).trans ?_);rw[rZ];simp only[gk];cases cL st n ag (fr.get a)<;>rfl
theorem uW (st:St) (fr:Fr) (rs:List dQ) (k:List DV→Out):qb st fr rs k=match dL st fr rs with | some vs=>k vs | none=>none:=by
 induction rs generalizing k with
 | nil=>rfl
 | cons r rs ih=>
   refine(u7 st fr r fun v=>qb st fr rs fun t=>k (v::t)).trans ?_;simp only[dL]
   cases gk st fr r with
   | none=>rfl
   | some v=>
     refine(ih _).trans ?_;cases dL st fr rs<;>rfl
theorem xk (st:St) (fr:Fr) (rs:List dQ) (k:DV→Out):Fi st fr rs k=match dG st fr rs with | some v=>k v | none=>none:=by
 refine(uW _ _ _ _).trans ?_;unfold dG
 cases dL st fr rs with
 | none=>rfl
 | some vs=>
   cases vs with
   | nil=>rfl
   | cons v t=>cases t<;>rfl
theorem sN (R:Rec) (f:ak) (args:List DV) (st:St) (k:Fr→St→Out):Ao R f args st k =
 match R.C f.body (aX args 0) st with
  | some (.exit _,_,_)=>none
  | some (_,fr,st')=>k fr st'
  | none=>none:=by
 refine(uY _ _ _).trans ?_
 cases R.C f.body (aX args 0) st with
 | none=>rfl
 | some p=>obtain⟨e,fr,st'⟩:=p;cases e<;>rfl
theorem yh (st:St) (k:St→Out):zb st k=k st.enter:=by
 obtain⟨h,tks,cur,base,tb⟩:=st;refine(jD (eE h) fun b=>fN (eE tks) fun tb=>k ⟨h,tks,cur,b,tb⟩).trans ((jD (eE tks) fun tb=>k ⟨h,tks,cur,eE h,tb⟩).trans ?_);rw[ef,ef];rfl
theorem xV (T:Tab) (R:Rec):uw T R=cS T R:=by
 funext g args st
 unfold uw;simp only[cS]
 cases T g with
 | none=>rfl
 | some d=>
   cases d with
   | eW p=>rfl
   | dx p=>
     show (Option.rec none _ (p args):Out)=Option.map _ (p args);cases p args<;>simp
   | code f=>
     obtain⟨results,body,ez⟩:=f;cases ez
     · refine(sN _ _ _ _ _).trans ?_;dsimp only;rw[if_neg (by simp)];simp only[xk];rcases R.C body (aX args 0) st with _ | ⟨e,fr,st'⟩
       · rfl
       · cases e<;>first | rfl | (simp only;cases dG st' fr results<;>rfl)
     · refine(yh _ _).trans ((sN _ _ _ _ _).trans ?_);dsimp only;rw[if_pos rfl];simp only[xk];rcases R.C body (aX args 0) st.enter with _ | ⟨e,fr,st'⟩
       · rfl
       · have key:∀ (v:DV),(Cr st st' v fun v=>some (v,st))=(bj st st' v).map fun v'=>(v',st):=by
          intro v;rw[Cu];cases bj st st' v<;>rfl
         cases e<;>first | rfl | (simp only[key]<;>cases dG st' fr results<;>rfl)
theorem uS (T:Tab) (R:Rec):wP R=gU T R:=by
 funext fr o sts vs
 cases vs with
 | nil=>rfl
 | cons j r=>
   show iA (Option.rec false _ (jP sts j)) (R.K fr o sts r)=_;rw[fK,eP];simp only[gU]
   cases sts[j]? with
   | none=>rfl
   | some st=>
     simp only
     cases R.N o fr st with
     | none=>rfl
     | some p=>
       obtain⟨v,s'⟩:=p;obtain⟨d,op,g⟩:=o
       cases d with
       | none=>rfl
       | some d=>
         show (sR fr d (fun u=>Fm v u)&&_)=_;rw[kD,C5]
theorem ue (T:Tab) (R:Rec):vJ R=gX T R:=by
 funext fr ops sts chk
 cases chk with
 | nil=>rfl
 | cons p r=>
   obtain⟨i,vs⟩:=p;show iA (Option.rec false _ (jP ops i)) (R.A fr ops sts r)=_;rw[fK,eP];simp only[gX];cases ops[i]? <;> rfl
theorem xX (T:Tab) (R:Rec):uE T R=c6 T R:=by
 unfold uE c6;rw[Aq,vp,tJ,vg,xV,ue T R,uS T R]
theorem rX (T:Tab):∀ n,Bm T n=cK T n
 | 0=>rfl
 | n+1=>(xX T (Bm T n)).trans (by rw[rX T n];rfl)
theorem rT {T:Tab} {n g:Nat} {args:List DV} {st:St} {v:DV} (h:jx T n g args st v=true):∃ st',dE T n g args st=some (v,st'):=by
 unfold jx at h;rw[rX] at h
 cases hr:(cK T n).F g args st with
 | none=>rw[hr] at h;cases h
 | some p=>
   obtain⟨u,st'⟩:=p;rw[hr] at h;have:=DV.beq_eq u v h;subst this;exact⟨st',mq hr⟩
end Go.D
end
section
namespace Go.D
open Go.RowKit
variable {P:Program} {fm:FM}
mutual
def DV.free:DV→Bool
 | .bool _ | .int _ _ | .str _ | .bG | .aR | .bt | .aB=>true
 | .bC cs=>DV.iu cs
 | .list _ _ tk _ xs=>(match tk with | .own _ _=>false | _=>true)&&DV.iu xs
 | .fn _ a b=>DV.iu a&&DV.iu b
 | .iface _ v=>DV.free v
 | .agg vs | .tuple vs=>DV.iu vs
 | _=>false
def DV.iu:List DV→Bool
 | []=>true
 | v::r=>DV.free v&&DV.iu r
end
theorem cF:∀ {vs:List DV},DV.iu vs=true→∀ i (h:i<vs.length),(vs[i]).free=true
 | [],_,i,h=>by simp at h
 | v::r,hf,i,h=>by
   simp only[DV.iu,aab] at hf
   cases i with
   | zero=>exact hf.1
   | succ i=>exact cF hf.2 i (by simpa using h)
theorem qp {v:DV} (h:v.free=true):∀ x∈v.leaves,x.free=true:=by
 intro x hx;cases v<;>simp only[DV.leaves,List.mem_singleton] at hx<;>try (subst hx;exact h)
 rename_i vs;simp only[DV.free] at h;obtain⟨i,hi,rfl⟩:=aa1 hx;exact cF h i hi
theorem vD {xs:List DV} (h:DV.iu xs=true) (i:Nat) (hi:i<(flat xs).length):((flat xs)[i]).free=true:=by
 have hm:=aau hi;unfold flat at hm;obtain⟨v,hv,hm⟩:=aaC.1 hm;obtain⟨j,hj,rfl⟩:=aa1 hv;exact qp (cF h j hj) _ hm
theorem Rel.uX {G G':Gh} (hro:∀ r i v,G.ro r i=some v→G'.ro r i=some v) {v:DV} {x:Value} (k:Rel fm G v x) (h:v.free=true):Rel fm G' v x:=by
 induction k with
 | undef x=>cases h
 | bool b=>exact .bool b
 | int k n=>exact .int k n
 | str l s hh=>exact .str l s hh
 | ptr b off r hh=>cases h
 | bG=>exact .bG
 | bC cs r off f hr _ hp ih=>
   simp only[DV.free] at h;exact .bC cs r off f (fun i hi=>(hr i hi).imp (hro _ _ _) id) (fun i hi=>ih i hi (cF h i hi)) hp
 | eF tag n tk=>exact .eF tag n tk
 | list tag n tk xs r off cap f hr _ hp hk hl hn ih=>
   simp only[DV.free,aab] at h;refine .list tag n tk xs r off cap f (fun i hi=>hro _ _ _ (hr i hi)) (fun i hi=>ih i hi (vD h.2 i hi)) hp ?_ hl hn
   cases tk with
   | no=>trivial
   | tight=>exact hk
   | own a b=>simp at h
 | hsl n ag b off len cap r c hh hc=>cases h
 | map b r hh=>cases h
 | aR=>exact .aR
 | fn g first captured f fs cs hh h1 h2 _ _ ih1 ih2=>
   simp only[DV.free,aab] at h;exact .fn g first captured f fs cs hh h1 h2 (fun i hi=>ih1 i hi (cF h.1 i hi)) (fun i hi=>ih2 i hi (cF h.2 i hi))
 | yield l r hh=>cases h
 | bt=>exact .bt
 | iface t v x _ ih=>exact .iface t v x (ih h)
 | aB=>exact .aB
 | agg vs cs hl _ ih=>
   simp only[DV.free] at h;exact .agg vs cs hl (fun i hi=>ih i hi (cF h i hi))
 | tuple vs cs hl _ ih=>
   simp only[DV.free] at h;exact .tuple vs cs hl (fun i hi=>ih i hi (cF h i hi))
def Gh.bare (G:Gh) (w:World):Gh:={ gh0 w with ro:=G.ro }
theorem Sim.bare {CR CR':Nat→RC→Code→Prop} {G:Gh} {w0 w:World} {st:St} (h:Sim fm CR G w0 st w):Sim fm CR' (G.bare w) w st0 w where
 bD:=fun b r h=>by cases h
 bu:=fun b b' o o' r h=>by simp[st0] at h
 obj:=fun b o h=>by simp[st0] at h
 ro:=h.ro
 cB:=fun r i v b o _ h=>by simp[st0] at h
 tok:=fun t s h=>by simp[st0] at h
 a0:=fun t t' s s' x x' h=>by simp[st0] at h
 aY:=fun t s x h=>by cases h
 dfr:=fun r h=>h.elim
 lps:=fun r h=>h.elim
 aw:=aai _
 below:=Below.refl _ w
 base:=rfl
 aF:=rfl
 bg:=Nat.zero_le _
 aQ:=fun b o h=>by cases h
 env:=h.oR
def pz (l:List (List DV×DV)) (as_:List DV):Option DV:=
 match l with
 | []=>none
 | (a,v)::r=>if DV.kB a as_ then some v else pz r as_
def Ran (T:Tab) (g:Nat) (as_:List DV) (v:DV):Prop:=DV.iu as_=true∧v.free=true∧∃ n st',dE T n g as_ st0=some (v,st')
theorem vq {T:Tab} {n g:Nat} {as_:List DV} {v:DV} (h1:DV.iu as_=true) (h2:v.free=true) (h:jx T n g as_ st0 v=true):Ran T g as_ v:=by
 obtain⟨st',h⟩:=rT h;exact⟨h1,h2,n,st',h⟩
theorem Dt {T T2:Tab} (hT:cH P fm T) (hm:P.follows .mixedOrders=true) {g:Nat} {f:FuncId} (hf:fm g=some f):∀ (l:List (List DV×DV)),(∀ p∈l,Ran T g p.1 p.2)→dr P fm T2 (.dx (pz l)) f:=by
 intro l hl;show ee P fm T2 _ f;intro G w0 st w args args' v st' hs ha hp;simp only[aae] at hp;obtain⟨u,hu,hp⟩:=hp;cases hp
 have key:∃ p∈l,args=p.1∧v=p.2:=by
  clear hl
  induction l with
  | nil=>simp[pz] at hu
  | cons p r ih=>
    obtain⟨a,x⟩:=p;simp only[pz] at hu;split at hu
    · rename_i hb;injection hu with hu;exact⟨(a,x),by simp,(DV.gZ _ _ hb).symm,hu.symm⟩
    · obtain⟨p,h1,h2⟩:=ih hu;exact⟨p,by simp[h1],h2⟩
 obtain⟨p,hpl,rfl,rfl⟩:=key;obtain⟨h1,h2,n,st',hrun⟩:=hl p hpl;have hs0:bB P fm T (G.bare w) w st0 w:=hs.bare
 have ha0:b0 fm (G.bare w) p.1 args':=by
  refine⟨ha.1,fun i hi=>?_⟩;have hr:Rel fm G (p.1[i]) (args'.getD i undef):=ha.2 i hi;exact Rel.uX (G:=G) (G':=G.bare w) (fun _ _ _ h=>h) hr (cF h1 i hi)
 have hfin:∀ x w',(∃ G',(G.bare w).le G'∧bB P fm T G' w st' w'∧Rel fm G' p.2 x)→∃ G',G.le G'∧bB P fm T2 G' w0 st w'∧Rel fm G' p.2 x:=by
  rintro x w' ⟨G1,g1,g2,g3⟩
  have hb:Below w.heap.size w w':=by
   have:=g2.below;rw[g1.floor] at this;exact this
  refine⟨G.shut w w',Gh.fG hs w',hs.shut hb,g3.uX (fun r i u hu=>?_) h2⟩;show (if _ then _ else _)=_;by_cases e:r<w.heap.size
  · rw[if_pos e];have:=g1.dP r i e;rw[this] at hu;exact hu
  · rw[if_neg e];obtain⟨cs,t,fz,e1,e2⟩:=g2.ro r i u hu;rw[e1];exact e2
 have hfn:=((km hT hm n).fn hf hrun hs0 ha0).1;rcases hfn with ⟨f',q1,q2⟩ | ⟨x,w',q1,q2⟩
 · refine .inl ⟨f',q1,Go.CallsIn.mono q2 ?_⟩;rintro e w' ⟨x,rfl,hx⟩;exact⟨x,rfl,hfin x w' hx⟩
 · exact .inr ⟨x,w',q1,hfin x w' q2⟩
end Go.D
end
section
namespace Go.D
def Ev (p:Nat→Prop):Prop:=∃ n,∀ m,n≤m→p m
theorem Ev.all {p:Nat→Prop} (h:∀ m,p m):Ev p:=⟨0,fun m _=>h m⟩
theorem Ev.two {p q:Nat→Prop} (h:Ev p) (k:Ev q):Ev fun m=>p m∧q m:=by
 obtain⟨a,ha⟩:=h;obtain⟨b,hb⟩:=k;exact⟨max a b,fun m hm=>⟨ha m (by omega),hb m (by omega)⟩⟩
theorem Ev.mono {p q:Nat→Prop} (h:Ev p) (k:∀ m,p m→q m):Ev q:=by
 obtain⟨a,ha⟩:=h;exact⟨a,fun m hm=>k m (ha m hm)⟩
structure Conv (ch:Nat→Rec) (L:Rec):Prop where
 C:∀ c fr st r,L.C c fr st=some r→Ev fun m=>(ch m).C c fr st=some r
 O:∀ a fr st r,L.O a fr st=some r→Ev fun m=>(ch m).O a fr st=some r
 S:∀ a fr st b r,L.S a fr st b=some r→Ev fun m=>(ch m).S a fr st b=some r
 N:∀ a fr st r,L.N a fr st=some r→Ev fun m=>(ch m).N a fr st=some r
 A:∀ a b c d,L.A a b c d=true→Ev fun m=>(ch m).A a b c d=true
 K:∀ a b c d,L.K a b c d=true→Ev fun m=>(ch m).K a b c d=true
 F:∀ a b c r,L.F a b c=some r→Ev fun m=>(ch m).F a b c=some r
 V:∀ a b c r,L.V a b c=some r→Ev fun m=>(ch m).V a b c=some r
theorem Fk {T:Tab} {ch:Nat→Rec} {L:Rec} (hc:Conv ch L) (c:RC) (fr:Fr) (st:St) (r:Ex×Fr×St) (h:b7 T L c fr st=some r):Ev fun m=>b7 T (ch m) c fr st=some r:=by
 cases c with
 | skip=>exact .all fun m=>h
 | exit id=>exact .all fun m=>h
 | ret=>exact .all fun m=>h
 | stuck=>simp[b7] at h
 | region ops live=>
   simp only[b7] at h ⊢
   cases e:L.O ops fr st with
   | none=>rw[e] at h;cases h
   | some p=>
     rw[e] at h;exact(hc.O _ _ _ _ e).mono fun m k=>by rw[k];exact h
 | av ops hs chk live=>
   simp only[b7] at h ⊢
   cases e0:fg fr hs st ops with
   | none=>rw[e0] at h;cases h
   | some q=>
     obtain⟨st1,ops2⟩:=q;rw[e0] at h;simp only at h ⊢
     cases e:L.S ops2 fr st1 [st1] with
     | none=>rw[e] at h;cases h
     | some p=>
       obtain⟨fr',sts⟩:=p;rw[e] at h;simp only at h;split at h
       · rename_i ha;refine((hc.S _ _ _ _ _ e).two (hc.A _ _ _ _ ha)).mono fun m k=>?_;rw[k.1];simp only[k.2,if_true];exact h
       · cases h
 | seq a b=>
   simp only[b7] at h ⊢
   cases e:L.C a fr st with
   | none=>rw[e] at h;cases h
   | some p=>
     obtain⟨ex,fr',st'⟩:=p;rw[e] at h
     cases ex with
     | normal=>exact((hc.C _ _ _ _ e).two (hc.C _ _ _ _ h)).mono fun m k=>by rw[k.1];exact k.2
     | exit id=>exact(hc.C _ _ _ _ e).mono fun m k=>by rw[k];exact h
     | ret=>exact(hc.C _ _ _ _ e).mono fun m k=>by rw[k];exact h
 | cond x a b=>
   simp only[b7] at h ⊢;generalize x.ev fr=y at h ⊢;cases y<;>try (cases h;done)
   rename_i v
   cases v with
   | true=>exact hc.C _ _ _ _ h
   | false=>exact hc.C _ _ _ _ h
 | block id a=>
   simp only[b7] at h ⊢
   cases e:L.C a fr st with
   | none=>rw[e] at h;cases h
   | some p=>rw[e] at h;exact(hc.C _ _ _ _ e).mono fun m k=>by rw[k];exact h
 | loop live a=>
   simp only[b7] at h ⊢
   cases e:L.C a (fr.bl live) st with
   | none=>rw[e] at h;cases h
   | some p=>
     obtain⟨ex,fr',st'⟩:=p;rw[e] at h
     cases ex with
     | normal=>exact((hc.C _ _ _ _ e).two (hc.C _ _ _ _ h)).mono fun m k=>by rw[k.1];exact k.2
     | exit id=>exact(hc.C _ _ _ _ e).mono fun m k=>by rw[k];exact h
     | ret=>exact(hc.C _ _ _ _ e).mono fun m k=>by rw[k];exact h
 | eZ f params assign body live=>
   simp only[b7] at h ⊢;cases e:f.ev (fr.bl live)<;>rw[e] at h<;>simp only at h<;>try (cases h;done)
   rename_i g first captured;by_cases hi:du T g=true
   · simp only[hi,if_true] at h ⊢
     cases e2:L.F g (first++[.yield st.heap.length]++captured) (st.push (.loop ⟨fr.bl live,params,assign,body,0,none⟩)) with
     | none=>rw[e2] at h;cases h
     | some p=>rw[e2] at h;exact(hc.F _ _ _ _ e2).mono fun m k=>by rw[k];exact h
   · simp[hi] at h
theorem F6 {T:Tab} {ch:Nat→Rec} {L:Rec} (hc:Conv ch L) (g:Nat) (as_:List DV) (st:St) (r:DV×St) (h:cS T L g as_ st=some r):Ev fun m=>cS T (ch m) g as_ st=some r:=by
 simp only[cS] at h ⊢
 cases e:T g with
 | none=>rw[e] at h;cases h
 | some d=>
   rw[e] at h
   cases d with
   | eW p=>exact .all fun m=>h
   | dx p=>exact .all fun m=>h
   | code f=>
     simp only at h ⊢;by_cases hp:f.ez=true
     · simp only[hp,if_true] at h ⊢
       cases e2:L.C f.body (aX as_ 0) st.enter with
       | none=>rw[e2] at h;cases h
       | some p=>rw[e2] at h;exact(hc.C _ _ _ _ e2).mono fun m k=>by rw[k];exact h
     · simp only[hp] at h ⊢
       cases e2:L.C f.body (aX as_ 0) st with
       | none=>rw[e2] at h;cases h
       | some p=>rw[e2] at h;exact(hc.C _ _ _ _ e2).mono fun m k=>by rw[k];exact h
theorem FO (T:Tab) {ch:Nat→Rec} {L:Rec} (hc:Conv ch L) (f:DV) (as_:List DV) (st:St) (r:DV×St) (h:hM T L f as_ st=some r):Ev fun m=>hM T (ch m) f as_ st=some r:=by
 cases f<;>simp only[hM] at h ⊢ <;> try (cases h;done)
 · exact hc.F _ _ _ _ h
 · rename_i l
   cases e:st.heap[l]? with
   | none=>rw[e] at h;cases h
   | some o=>
     rw[e] at h;cases o<;>simp only at h ⊢ <;> try (cases h;done)
     rename_i lo;split at h
     · rename_i hb;simp only[hb,and_self,if_true]
       cases e1:L.C lo.assign (cl lo.fr lo.params as_) st with
       | none=>rw[e1] at h;cases h
       | some p=>
         obtain⟨ex,fr1,st1⟩:=p;rw[e1] at h;cases ex<;>simp only at h<;>try (cases h;done)
         cases e2:st1.heap[l]? with
         | none=>rw[e2] at h;cases h
         | some o2=>
           rw[e2] at h;cases o2<;>simp only at h<;>try (cases h;done)
           rename_i lo1;split at h
           · rename_i h0
             cases e3:L.C lo.body fr1 { st1 with heap:=st1.heap.set l (.loop { lo1 with state:=1 }) } with
             | none=>rw[e3] at h;cases h
             | some q=>
               rw[e3] at h;refine((hc.C _ _ _ _ e1).two (hc.C _ _ _ _ e3)).mono fun m k=>?_;rw[k.1];simp only[e2,h0,if_true];rw[k.2];exact h
           · cases h
     · cases h
theorem cZ {T:Tab} {ch:Nat→Rec} {L:Rec} (hc:Conv ch L):Conv (fun m=>c6 T (ch m)) (c6 T L) where
 C:=Fk hc
 F:=F6 hc
 V:=FO T hc
 O:=by
   intro a fr st r h
   cases a with
   | nil=>exact .all fun m=>h
   | cons o l=>
     simp only[c6,ir] at h ⊢
     cases e:L.N o fr st with
     | none=>rw[e] at h;cases h
     | some p=>rw[e] at h;exact((hc.N _ _ _ _ e).two (hc.O _ _ _ _ h)).mono fun m k=>by rw[k.1];exact k.2
 S:=by
   intro a fr st b r h
   cases a with
   | nil=>exact .all fun m=>h
   | cons o l=>
     simp only[c6,eB] at h ⊢
     cases e:L.N o fr st with
     | none=>rw[e] at h;cases h
     | some p=>
       obtain⟨v,st'⟩:=p;rw[e] at h;simp only at h;split at h
       · rename_i hl;exact((hc.N _ _ _ _ e).two (hc.S _ _ _ _ _ h)).mono fun m k=>by rw[k.1];simp only[hl,if_true];exact k.2
       · rename_i hl;exact((hc.N _ _ _ _ e).two (hc.S _ _ _ _ _ h)).mono fun m k=>by rw[k.1];simp only[hl];exact k.2
 N:=by
   intro o fr st r h;simp only[c6,di] at h ⊢
   cases e:dh fr o.guard with
   | none=>rw[e] at h;cases h
   | some b=>
     rw[e] at h
     cases b with
     | false=>exact .all fun m=>h
     | true=>
       simp only at h ⊢;cases e2:o.op<;>rw[e2] at h<;>simp only at h ⊢ <;> try exact .all fun m=>h
       · exact hc.F _ _ _ _ h
       · exact hc.V _ _ _ _ h
       · rename_i f args;cases e3:f.ev fr<;>rw[e3] at h<;>simp only at h ⊢ <;> try (cases h;done)
         rename_i g first captured;by_cases hp:ai T g=true
         · simp only[hp,if_true] at h ⊢;exact hc.F _ _ _ _ h
         · simp only[hp] at h;cases h
 A:=by
   intro a b c d h
   cases d with
   | nil=>exact .all fun m=>h
   | cons p r=>
     obtain⟨i,vs⟩:=p;simp only[c6,gX,aab] at h ⊢
     cases e:b[i]? with
     | none=>rw[e] at h;cases h.1
     | some o=>rw[e] at h;exact(hc.K _ _ _ _ h.1).two (hc.A _ _ _ _ h.2)
 K:=by
   intro a b c d h
   cases d with
   | nil=>exact .all fun m=>h
   | cons j r=>
     simp only[c6,gU,aab] at h ⊢
     cases e:c[j]? with
     | none=>rw[e] at h;cases h.1
     | some st=>
       rw[e] at h;simp only at h ⊢
       cases e2:L.N b a st with
       | none=>rw[e2] at h;cases h.1
       | some p=>rw[e2] at h;exact((hc.N _ _ _ _ e2).two (hc.K _ _ _ _ h.2)).mono fun m k=>⟨by rw[k.1];exact h.1,k.2⟩
def Rec.le (R R':Rec):Prop:=Conv (fun _=>R') R
theorem Rec.le.step {T:Tab} {R R':Rec} (h:R.le R'):(c6 T R).le (c6 T R'):=cZ h
theorem sH (R:Rec):sr.le R where
 C:=fun _ _ _ _ h=>by cases h
 O:=fun _ _ _ _ h=>by cases h
 S:=fun _ _ _ _ _ h=>by cases h
 N:=fun _ _ _ _ h=>by cases h
 A:=fun _ _ _ _ h=>by cases h
 K:=fun _ _ _ _ h=>by cases h
 F:=fun _ _ _ _ h=>by cases h
 V:=fun _ _ _ _ h=>by cases h
theorem ar {p:Prop} (h:Ev fun _=>p):p:=by obtain⟨n,h⟩:=h;exact h n (aai _)
theorem Rec.le.refl (R:Rec):R.le R where
 C:=fun _ _ _ _ h=>.all fun _=>h
 O:=fun _ _ _ _ h=>.all fun _=>h
 S:=fun _ _ _ _ _ h=>.all fun _=>h
 N:=fun _ _ _ _ h=>.all fun _=>h
 A:=fun _ _ _ _ h=>.all fun _=>h
 K:=fun _ _ _ _ h=>.all fun _=>h
 F:=fun _ _ _ _ h=>.all fun _=>h
 V:=fun _ _ _ _ h=>.all fun _=>h
theorem Rec.le.trans {A B C:Rec} (h:A.le B) (k:B.le C):A.le C where
 C:=fun _ _ _ _ x=>k.C _ _ _ _ (ar (h.C _ _ _ _ x))
 O:=fun _ _ _ _ x=>k.O _ _ _ _ (ar (h.O _ _ _ _ x))
 S:=fun _ _ _ _ _ x=>k.S _ _ _ _ _ (ar (h.S _ _ _ _ _ x))
 N:=fun _ _ _ _ x=>k.N _ _ _ _ (ar (h.N _ _ _ _ x))
 A:=fun _ _ _ _ x=>k.A _ _ _ _ (ar (h.A _ _ _ _ x))
 K:=fun _ _ _ _ x=>k.K _ _ _ _ (ar (h.K _ _ _ _ x))
 F:=fun _ _ _ _ x=>k.F _ _ _ _ (ar (h.F _ _ _ _ x))
 V:=fun _ _ _ _ x=>k.V _ _ _ _ (ar (h.V _ _ _ _ x))
theorem kG (T:Tab):∀ n,(cK T n).le (cK T (n+1))
 | 0=>sH _
 | n+1=>(kG T n).step
theorem bK (T:Tab) (n:Nat):∀ m,n≤m→(cK T n).le (cK T m):=by
 intro m h
 induction m with
 | zero=>obtain rfl:n=0:=by omega
         exact .refl _
 | succ m ih=>
   by_cases e:n=m+1
   · subst e;exact .refl _
   · exact(ih (by omega)).trans (kG T m)
open Classical in
noncomputable def lim {β:Type} (f:Nat→Option β):Option β:=if h:∃ r n,f n=some r then some (Classical.choose h) else none
open Classical in
noncomputable def B6 (f:Nat→Bool):Bool:=decide (∃ n,f n=true)
theorem kb {f:Nat→Bool}:B6 f=true↔∃ n,f n=true:=by
 unfold B6;exact⟨fun h=>by classical exact of_decide_eq_true h,fun h=>by classical exact decide_eq_true h⟩
theorem eK {β:Type} {f:Nat→Option β} (hm:∀ n r,f n=some r→∀ m,n≤m→f m=some r) {r:β}:lim f=some r↔∃ n,f n=some r:=by
 unfold lim;constructor
 · intro h;split at h
   · rename_i hh;injection h with h;subst h;exact aaL hh
   · cases h
 · rintro⟨n,h⟩;have hh:∃ r n,f n=some r:=⟨r,n,h⟩;rw[dif_pos hh];obtain⟨n',h'⟩:=aaL hh;have a:=hm n r h (max n n') (by omega);have b:=hm n' _ h' (max n n') (by omega);rw[a] at b;exact congrArg some (aaa.inj b).symm
noncomputable def E (T:Tab):Rec where
 C:=fun c fr st=>lim fun n=>(cK T n).C c fr st
 O:=fun a fr st=>lim fun n=>(cK T n).O a fr st
 S:=fun a fr st b=>lim fun n=>(cK T n).S a fr st b
 N:=fun a fr st=>lim fun n=>(cK T n).N a fr st
 A:=fun a b c d=>B6 fun n=>(cK T n).A a b c d
 K:=fun a b c d=>B6 fun n=>(cK T n).K a b c d
 F:=fun a b c=>lim fun n=>(cK T n).F a b c
 V:=fun a b c=>lim fun n=>(cK T n).V a b c
theorem b9 (T:Tab):Conv (cK T) (E T) where
 C:=fun c fr st r h=>by
   obtain⟨n,h⟩:=(eK (fun n _ h m hm=>ar ((bK T n m hm).C _ _ _ _ h))).1 h;exact⟨n,fun m hm=>ar ((bK T n m hm).C _ _ _ _ h)⟩
 O:=fun c fr st r h=>by
   obtain⟨n,h⟩:=(eK (fun n _ h m hm=>ar ((bK T n m hm).O _ _ _ _ h))).1 h;exact⟨n,fun m hm=>ar ((bK T n m hm).O _ _ _ _ h)⟩
 S:=fun c fr st b r h=>by
   obtain⟨n,h⟩:=(eK (fun n _ h m hm=>ar ((bK T n m hm).S _ _ _ _ _ h))).1 h;exact⟨n,fun m hm=>ar ((bK T n m hm).S _ _ _ _ _ h)⟩
 N:=fun c fr st r h=>by
   obtain⟨n,h⟩:=(eK (fun n _ h m hm=>ar ((bK T n m hm).N _ _ _ _ h))).1 h;exact⟨n,fun m hm=>ar ((bK T n m hm).N _ _ _ _ h)⟩
 A:=fun a b c d h=>by
   obtain⟨n,h⟩:=kb.1 h;exact⟨n,fun m hm=>ar ((bK T n m hm).A _ _ _ _ h)⟩
 K:=fun a b c d h=>by
   obtain⟨n,h⟩:=kb.1 h;exact⟨n,fun m hm=>ar ((bK T n m hm).K _ _ _ _ h)⟩
 F:=fun c fr st r h=>by
   obtain⟨n,h⟩:=(eK (fun n _ h m hm=>ar ((bK T n m hm).F _ _ _ _ h))).1 h;exact⟨n,fun m hm=>ar ((bK T n m hm).F _ _ _ _ h)⟩
 V:=fun c fr st r h=>by
   obtain⟨n,h⟩:=(eK (fun n _ h m hm=>ar ((bK T n m hm).V _ _ _ _ h))).1 h;exact⟨n,fun m hm=>ar ((bK T n m hm).V _ _ _ _ h)⟩
theorem cQ (T:Tab) (n:Nat):(cK T n).le (E T) where
 C:=fun _ _ _ _ h=>.all fun _=>(eK (fun n _ h m hm=>ar ((bK T n m hm).C _ _ _ _ h))).2 ⟨n,h⟩
 O:=fun _ _ _ _ h=>.all fun _=>(eK (fun n _ h m hm=>ar ((bK T n m hm).O _ _ _ _ h))).2 ⟨n,h⟩
 S:=fun _ _ _ _ _ h=>.all fun _=>(eK (fun n _ h m hm=>ar ((bK T n m hm).S _ _ _ _ _ h))).2 ⟨n,h⟩
 N:=fun _ _ _ _ h=>.all fun _=>(eK (fun n _ h m hm=>ar ((bK T n m hm).N _ _ _ _ h))).2 ⟨n,h⟩
 A:=fun _ _ _ _ h=>.all fun _=>kb.2 ⟨n,h⟩
 K:=fun _ _ _ _ h=>.all fun _=>kb.2 ⟨n,h⟩
 F:=fun _ _ _ _ h=>.all fun _=>(eK (fun n _ h m hm=>ar ((bK T n m hm).F _ _ _ _ h))).2 ⟨n,h⟩
 V:=fun _ _ _ _ h=>.all fun _=>(eK (fun n _ h m hm=>ar ((bK T n m hm).V _ _ _ _ h))).2 ⟨n,h⟩
theorem dD (T:Tab):(c6 T (E T)).le (E T) where
 C:=fun _ _ _ _ h=>by obtain⟨n,h⟩:=(cZ (T:=T) (b9 T)).C _ _ _ _ h;exact(cQ T (n+1)).C _ _ _ _ (h n (aai _))
 O:=fun _ _ _ _ h=>by obtain⟨n,h⟩:=(cZ (T:=T) (b9 T)).O _ _ _ _ h;exact(cQ T (n+1)).O _ _ _ _ (h n (aai _))
 S:=fun _ _ _ _ _ h=>by obtain⟨n,h⟩:=(cZ (T:=T) (b9 T)).S _ _ _ _ _ h;exact(cQ T (n+1)).S _ _ _ _ _ (h n (aai _))
 N:=fun _ _ _ _ h=>by obtain⟨n,h⟩:=(cZ (T:=T) (b9 T)).N _ _ _ _ h;exact(cQ T (n+1)).N _ _ _ _ (h n (aai _))
 A:=fun _ _ _ _ h=>by obtain⟨n,h⟩:=(cZ (T:=T) (b9 T)).A _ _ _ _ h;exact(cQ T (n+1)).A _ _ _ _ (h n (aai _))
 K:=fun _ _ _ _ h=>by obtain⟨n,h⟩:=(cZ (T:=T) (b9 T)).K _ _ _ _ h;exact(cQ T (n+1)).K _ _ _ _ (h n (aai _))
 F:=fun _ _ _ _ h=>by obtain⟨n,h⟩:=(cZ (T:=T) (b9 T)).F _ _ _ _ h;exact(cQ T (n+1)).F _ _ _ _ (h n (aai _))
 V:=fun _ _ _ _ h=>by obtain⟨n,h⟩:=(cZ (T:=T) (b9 T)).V _ _ _ _ h;exact(cQ T (n+1)).V _ _ _ _ (h n (aai _))
theorem dA (T:Tab):(E T).le (c6 T (E T)) where
 C:=fun _ _ _ _ h=>by obtain⟨n,h⟩:=(b9 T).C _ _ _ _ h;exact((cQ T n).step (T:=T)).C _ _ _ _ (h (n+1) (by omega))
 O:=fun _ _ _ _ h=>by obtain⟨n,h⟩:=(b9 T).O _ _ _ _ h;exact((cQ T n).step (T:=T)).O _ _ _ _ (h (n+1) (by omega))
 S:=fun _ _ _ _ _ h=>by obtain⟨n,h⟩:=(b9 T).S _ _ _ _ _ h;exact((cQ T n).step (T:=T)).S _ _ _ _ _ (h (n+1) (by omega))
 N:=fun _ _ _ _ h=>by obtain⟨n,h⟩:=(b9 T).N _ _ _ _ h;exact((cQ T n).step (T:=T)).N _ _ _ _ (h (n+1) (by omega))
 A:=fun _ _ _ _ h=>by obtain⟨n,h⟩:=(b9 T).A _ _ _ _ h;exact((cQ T n).step (T:=T)).A _ _ _ _ (h (n+1) (by omega))
 K:=fun _ _ _ _ h=>by obtain⟨n,h⟩:=(b9 T).K _ _ _ _ h;exact((cQ T n).step (T:=T)).K _ _ _ _ (h (n+1) (by omega))
 F:=fun _ _ _ _ h=>by obtain⟨n,h⟩:=(b9 T).F _ _ _ _ h;exact((cQ T n).step (T:=T)).F _ _ _ _ (h (n+1) (by omega))
 V:=fun _ _ _ _ h=>by obtain⟨n,h⟩:=(b9 T).V _ _ _ _ h;exact((cQ T n).step (T:=T)).V _ _ _ _ (h (n+1) (by omega))
theorem je {β:Type} {a b:Option β} (h:∀ r,a=some r→b=some r) (k:∀ r,b=some r→a=some r):a=b:=by
 cases a with
 | none=>cases b with
   | none=>rfl
   | some r=>exact absurd (k r rfl) (by simp)
 | some r=>exact(h r rfl).symm
theorem EC (T:Tab) (c:RC) (fr:Fr) (st:St):(E T).C c fr st=b7 T (E T) c fr st:=
 je (fun r h=>ar ((dA T).C _ _ _ r h)) (fun r h=>ar ((dD T).C _ _ _ r h))
theorem EO (T:Tab) (a:List af) (fr:Fr) (st:St):(E T).O a fr st=ir T (E T) a fr st:=
 je (fun r h=>ar ((dA T).O _ _ _ r h)) (fun r h=>ar ((dD T).O _ _ _ r h))
theorem ES (T:Tab) (a:List af) (fr:Fr) (st:St) (b:List St):(E T).S a fr st b=eB T (E T) a fr st b:=
 je (fun r h=>ar ((dA T).S _ _ _ _ r h)) (fun r h=>ar ((dD T).S _ _ _ _ r h))
theorem EN (T:Tab) (a:af) (fr:Fr) (st:St):(E T).N a fr st=di T (E T) a fr st:=
 je (fun r h=>ar ((dA T).N _ _ _ r h)) (fun r h=>ar ((dD T).N _ _ _ r h))
theorem EF (T:Tab) (g:Nat) (as_:List DV) (st:St):(E T).F g as_ st=cS T (E T) g as_ st:=
 je (fun r h=>ar ((dA T).F _ _ _ r h)) (fun r h=>ar ((dD T).F _ _ _ r h))
theorem EV (T:Tab) (f:DV) (as_:List DV) (st:St):(E T).V f as_ st=hM T (E T) f as_ st:=
 je (fun r h=>ar ((dA T).V _ _ _ r h)) (fun r h=>ar ((dD T).V _ _ _ r h))
theorem EA (T:Tab) (fr:Fr) (ops:List af) (sts:List St) (l:List (Nat×List Nat)):(E T).A fr ops sts l=gX T (E T) fr ops sts l:=
 aaW.2 ⟨fun h=>ar ((dA T).A _ _ _ _ h),fun h=>ar ((dD T).A _ _ _ _ h)⟩
theorem EK (T:Tab) (fr:Fr) (o:af) (sts:List St) (l:List Nat):(E T).K fr o sts l=gU T (E T) fr o sts l:=
 aaW.2 ⟨fun h=>ar ((dA T).K _ _ _ _ h),fun h=>ar ((dD T).K _ _ _ _ h)⟩
theorem B0 {T:Tab} {g:Nat} {as_:List DV} {st:St} {r:DV×St} (h:(E T).F g as_ st=some r):∃ n,dE T n g as_ st=some r:=by
 obtain⟨n,h⟩:=(b9 T).F _ _ _ _ h;exact⟨n,mq (h n (aai _))⟩
end Go.D
end
section
namespace Go.D
variable {T:Tab}
@[simp] theorem M4 (fr:Fr) (st:St):(E T).C .skip fr st=some (.normal,fr,st):=EC _ _ _ _
@[simp] theorem Nl (fr:Fr) (st:St):(E T).C .ret fr st=some (.ret,fr,st):=EC _ _ _ _
@[simp] theorem M6 (i:Nat) (fr:Fr) (st:St):(E T).C (.exit i) fr st=some (.exit i,fr,st):=EC _ _ _ _
@[simp] theorem zw (ops:List af) (live:List Nat) (fr:Fr) (st:St) :
 (E T).C (.region ops live) fr st=match (E T).O ops fr st with | some (fr',st')=>some (.normal,fr'.bl live,st') | none=>none:=EC _ _ _ _
@[simp] theorem cp (a b:RC) (fr:Fr) (st:St) :
 (E T).C (.seq a b) fr st=match (E T).C a fr st with
  | some (.normal,fr',st')=>(E T).C b fr' st'
  | some (.exit i,fr',st')=>some (.exit i,fr',st')
  | some (.ret,fr',st')=>some (.ret,fr',st')
  | none=>none:=by
 rw[EC];simp only[b7];rcases (E T).C a fr st with _ | ⟨e,fr',st'⟩
 · rfl
 · cases e<;>rfl
@[simp] theorem mc (id:Nat) (a:RC) (fr:Fr) (st:St) :
 (E T).C (.block id a) fr st=match (E T).C a fr st with
  | some (.normal,fr',st')=>some (.normal,fr',st')
  | some (.exit i,fr',st')=>if i=id then some (.normal,fr',st') else some (.exit i,fr',st')
  | some (.ret,fr',st')=>some (.ret,fr',st')
  | none=>none:=by
 rw[EC];simp only[b7];rcases (E T).C a fr st with _ | ⟨e,fr',st'⟩
 · rfl
 · cases e<;>rfl
theorem u4 (live:List Nat) (a:RC) (fr:Fr) (st:St) :
 (E T).C (.loop live a) fr st=match (E T).C a (fr.bl live) st with
  | some (.normal,fr',st')=>(E T).C (.loop live a) fr' st'
  | some (.exit i,fr',st')=>some (.exit i,fr',st')
  | some (.ret,fr',st')=>some (.ret,fr',st')
  | none=>none:=by
 rw[EC];simp only[b7];rcases (E T).C a (fr.bl live) st with _ | ⟨e,fr',st'⟩
 · rfl
 · cases e<;>rfl
@[simp] theorem FP (x:X) (a b:RC) (fr:Fr) (st:St) (v:Bool) (h:x.ev fr=.bool v) :
 (E T).C (.cond x a b) fr st=if v=true then (E T).C a fr st else (E T).C b fr st:=by
 rw[EC];simp only[b7];rw[h];cases v<;>rfl
@[simp] theorem Nt (fr:Fr) (st:St):(E T).O [] fr st=some (fr,st):=EO _ _ _ _
@[simp] theorem FV (o:af) (r:List af) (fr:Fr) (st:St) :
 (E T).O (o::r) fr st=match (E T).N o fr st with | some (v,st')=>(E T).O r (fr.put o.dst v) st' | none=>none:=EO _ _ _ _
noncomputable def opE (T:Tab) (op:ROp) (fr:Fr) (st:St):Option (DV×St):=
 match op with
 | .call g args=>(E T).F g (args.map (X.ev fr)) st
 | .bd f args=>(E T).V (f.ev fr) (args.map (X.ev fr)) st
 | .cI f args=>
   match f.ev fr with
   | .fn g first captured=>if ai T g then (E T).F g (first++args.map (X.ev fr)++captured) st else none
   | _=>none
 | op=>aq st fr op
@[simp] theorem MH (d:Option Nat) (op:ROp) (fr:Fr) (st:St):(E T).N ⟨d,op,none⟩ fr st=opE T op fr st:=by
  rw[EN];simp only[di,dh];cases op<;>rfl
@[simp] theorem Nf (d:Option Nat) (op:ROp) (t:Nat) (w b:Bool) (fr:Fr) (st:St) (h:fr.get t=.bool b) :
 (E T).N ⟨d,op,some (t,w)⟩ fr st=if b=w then opE T op fr st else some (.tuple [],st):=by
 rw[EN];simp only[di,dh];rw[h];cases b<;>cases w<;>first | rfl | (cases op<;>rfl)
@[simp] theorem Me (d:Option Nat) (op:ROp) (t:Nat) (w:Bool) (fr:Fr) (st:St) (h:fr.get t=.tuple []) :
 (E T).N ⟨d,op,some (t,w)⟩ fr st=some (.tuple [],st):=by
 rw[EN];simp only[di,dh];rw[h]
@[simp] theorem Lv (g:Nat) (args:List X) (fr:Fr) (st:St):opE T (.call g args) fr st=(E T).F g (args.map (X.ev fr)) st:=rfl
@[simp] theorem Nn (x:X) (fr:Fr) (st:St):opE T (.mv x) fr st=some (x.ev fr,st):=rfl
@[simp] theorem ML (op:BinOp) (x y:X) (fr:Fr) (st:St):opE T (.bin op x y) fr st=(lV op (x.ev fr) (y.ev fr)).map fun v=>(v,st):=rfl
@[simp] theorem Ns (op:UnOp) (x:X) (fr:Fr) (st:St):opE T (.un op x) fr st=(unD op (x.ev fr)).map fun v=>(v,st):=rfl
@[simp] theorem LF (c a b:X) (fr:Fr) (st:St):opE T (.pick c a b) fr st=aq st fr (.pick c a b):=rfl
@[simp] theorem Hl (zs:List DV) (fr:Fr) (st:St):opE T (.alloc zs) fr st=aq st fr (.alloc zs):=rfl
@[simp] theorem Mu (n:Nat) (x:X) (fr:Fr) (st:St):opE T (.box n x) fr st=aq st fr (.box n x):=rfl
@[simp] theorem IE (zs:List DV) (parts:List (Nat×Nat×X)) (fr:Fr) (st:St):opE T (.build zs parts) fr st=aq st fr (.build zs parts):=rfl
theorem aW (n:Nat) (ag:Bool) (zs:List DV) (len:Nat) (parts:List (Nat×X)) (fr:Fr) (st:St):opE T (.lit n ag zs len parts) fr st=aq st fr (.lit n ag zs len parts):=rfl
theorem Dj (n:Nat) (ag:Bool) (zs:List DV) (len:Nat) (parts:List (Nat×X)) (fr:Fr) (st:St):opE T (.lZ n ag zs len parts) fr st=aq st fr (.lZ n ag zs len parts):=rfl
@[simp] theorem LL (n:Nat) (ag:Bool) (x:X) (fr:Fr) (st:St):opE T (.load n ag x) fr st=aq st fr (.load n ag x):=rfl
@[simp] theorem JT (n:Nat) (x v:X) (fr:Fr) (st:St):opE T (.store n x v) fr st=aq st fr (.store n x v):=rfl
@[simp] theorem GA (x:X) (fr:Fr) (st:St):opE T (.aJ x) fr st=aq st fr (.aJ x):=rfl
@[simp] theorem Nm (k:EqK) (neg:Bool) (x y:X) (fr:Fr) (st:St):opE T (.eq k neg x y) fr st=aq st fr (.eq k neg x y):=rfl
@[simp] theorem MB (k:IntKind) (x:X) (fr:Fr) (st:St):opE T (.i2i k x) fr st=aq st fr (.i2i k x):=rfl
@[simp] theorem MQ (x:X) (fr:Fr) (st:St):opE T (.i2s x) fr st=aq st fr (.i2s x):=rfl
@[simp] theorem L9 (x:X) (fr:Fr) (st:St):opE T (.s2b x) fr st=aq st fr (.s2b x):=rfl
@[simp] theorem Ms (x:X) (fr:Fr) (st:St):opE T (.s2h x) fr st=aq st fr (.s2h x):=rfl
@[simp] theorem LA (x:X) (fr:Fr) (st:St):opE T (.same x) fr st=aq st fr (.same x):=rfl
@[simp] theorem Lm (g:Nat) (first captured:List X) (fr:Fr) (st:St):opE T (.ff g first captured) fr st=aq st fr (.ff g first captured):=rfl
@[simp] theorem KU  (fr:Fr) (st:St):opE T (.iz ) fr st=aq st fr (.iz ):=rfl
@[simp] theorem Fa (n:Nat) (ag:Bool) (bytes:Nat) (zs:List DV) (len cap:X) (fr:Fr) (st:St):opE T (.bZ n ag bytes zs len cap) fr st=aq st fr (.bZ n ag bytes zs len cap):=rfl
@[simp] theorem GK (n:Nat) (bytes:Nat) (len cap:X) (fr:Fr) (st:St):opE T (.jQ n bytes len cap) fr st=aq st fr (.jQ n bytes len cap):=rfl
@[simp] theorem Kz (str:Bool) (n:Nat) (x:X) (lo hi mx:Option X) (fr:Fr) (st:St):opE T (.slice str n x lo hi mx) fr st=aq st fr (.slice str n x lo hi mx):=rfl
def lb (st:St) (off:Nat):DV→Option (DV×St)
 | .ptr b o=>some (.ptr b (o+off),st)
 | .bC cs=>if off≤cs.length then some (.bC (cs.drop off),st) else none
 | _=>none
def lj (st:St) (n:Nat):DV→DV→Option (DV×St)
 | .list _ n' _ _ xs,.int _ j=>if 0≤j∧n'=n then (match xs[j.toNat]? with | some v=>some (.bC v.leaves,st) | none=>none) else none
 | .hsl n' _ b off len _,.int _ j=>if n'=n∧0≤j∧j<len then some (.ptr b (off+j.toNat*n),st) else none
 | _,_=>none
def qJ (st:St):uH→DV→Option (DV×St)
 | .str,.str s=>some (.int .i64 s.length,st)
 | .slice,.list _ _ _ _ xs=>some (.int .i64 xs.length,st)
 | .slice,.hsl _ _ _ _ len _=>some (.int .i64 len,st)
 | .map,.aR=>some (.int .i64 0,st)
 | .map,.map b=>match st.heap[b]? with | some (.map es)=>some (.int .i64 es.length,st) | _=>none
 | _,_=>none
def KQ (st:St):DV→Option (DV×St)
 | .list _ _ .tight true xs=>some (.int .i64 xs.length,st)
 | .list _ _ _ false _=>some (.int .i64 0,st)
 | .hsl _ _ _ _ _ (some c)=>some (.int .i64 c,st)
 | _=>none
@[simp] theorem E5 (st:St) (off b o:Nat):lb st off (.ptr b o)=some (.ptr b (o+off),st):=rfl
@[simp] theorem DJ (st:St) (off:Nat) (cs:List DV):lb st off (.bC cs)=if off≤cs.length then some (.bC (cs.drop off),st) else none:=rfl
@[simp] theorem Ei (st:St) (n t n':Nat) (tk:Tk) (nn:Bool) (xs:List DV) (k:IntKind) (j:Int) :
 lj st n (.list t n' tk nn xs) (.int k j)=if 0≤j∧n'=n then (match xs[j.toNat]? with | some v=>some (.bC v.leaves,st) | none=>none) else none:=rfl
@[simp] theorem Fy (st:St) (n n':Nat) (ag:Bool) (b off len:Nat) (c:Option Nat) (k:IntKind) (j:Int) :
 lj st n (.hsl n' ag b off len c) (.int k j)=if n'=n∧0≤j∧j<len then some (.ptr b (off+j.toNat*n),st) else none:=rfl
@[simp] theorem I0 (st:St) (s:List UInt8):qJ st .str (.str s)=some (.int .i64 s.length,st):=rfl
@[simp] theorem GX (st:St) (t n:Nat) (tk:Tk) (nn:Bool) (xs:List DV):qJ st .slice (.list t n tk nn xs)=some (.int .i64 xs.length,st):=rfl
@[simp] theorem Ip (st:St) (n:Nat) (ag:Bool) (b off len:Nat) (c:Option Nat):qJ st .slice (.hsl n ag b off len c)=some (.int .i64 len,st):=rfl
@[simp] theorem Ek (st:St):qJ st .map .aR=some (.int .i64 0,st):=rfl
@[simp] theorem IH (st:St) (b:Nat):qJ st .map (.map b)=match st.heap[b]? with | some (.map es)=>some (.int .i64 es.length,st) | _=>none:=rfl
@[simp] theorem Gm (st:St) (t n:Nat) (xs:List DV):KQ st (.list t n .tight true xs)=some (.int .i64 xs.length,st):=rfl
@[simp] theorem Kr (st:St) (n:Nat) (ag:Bool) (b off len c:Nat):KQ st (.hsl n ag b off len (some c))=some (.int .i64 c,st):=rfl
@[simp] theorem Jf (off:Nat) (x:X) (fr:Fr) (st:St):opE T (.fh off x) fr st=lb st off (x.ev fr):=by
  simp only[opE,aq];cases x.ev fr<;>rfl
@[simp] theorem Ih (n:Nat) (ag:Bool) (off:Nat) (x:X) (fr:Fr) (st:St):opE T (.field n ag off x) fr st=aq st fr (.field n ag off x):=rfl
@[simp] theorem G6 (n:Nat) (x i:X) (fr:Fr) (st:St):opE T (.bw n x i) fr st=lj st n (x.ev fr) (i.ev fr):=by
  simp only[opE,aq];cases x.ev fr<;>cases i.ev fr<;>rfl
@[simp] theorem Gz (n len:Nat) (x i:X) (fr:Fr) (st:St):opE T (.cP n len x i) fr st=aq st fr (.cP n len x i):=rfl
@[simp] theorem Jc (x i:X) (fr:Fr) (st:St):opE T (.index x i) fr st=aq st fr (.index x i):=rfl
@[simp] theorem GW (n:Nat) (ag:Bool) (len:Nat) (x i:X) (fr:Fr) (st:St):opE T (.gL n ag len x i) fr st=aq st fr (.gL n ag len x i):=rfl
@[simp] theorem GD (ks:List LK) (zero:DV) (x i:X) (ok:Bool) (fr:Fr) (st:St):opE T (.lookup ks zero x i ok) fr st=aq st fr (.lookup ks zero x i ok):=rfl
@[simp] theorem GB (ks:List LK) (m k v:X) (fr:Fr) (st:St):opE T (.fY ks m k v) fr st=aq st fr (.fY ks m k v):=rfl
@[simp] theorem Gr (x:X) (i:Nat) (fr:Fr) (st:St):opE T (.extract x i) fr st=aq st fr (.extract x i):=rfl
@[simp] theorem Ka (t:Nat) (x:X) (fr:Fr) (st:St):opE T (.iface t x) fr st=aq st fr (.iface t x):=rfl
@[simp] theorem MI (k:uH) (x:X) (fr:Fr) (st:St):opE T (.len k x) fr st=qJ st k (x.ev fr):=by
  simp only[opE,aq];cases k<;>cases x.ev fr<;>rfl
@[simp] theorem Lt (n:Nat) (fr:Fr) (st:St):opE T (.ur n) fr st=aq st fr (.ur n):=rfl
@[simp] theorem GC (n:Nat) (ag:Bool) (bytes:Nat) (x y:X) (fr:Fr) (st:St):opE T (.append n ag bytes x y) fr st=aq st fr (.append n ag bytes x y):=rfl
@[simp] theorem LB (n:Nat) (x y:X) (fr:Fr) (st:St):opE T (.copy n x y) fr st=aq st fr (.copy n x y):=rfl
@[simp] theorem Mx (args:List X) (fr:Fr) (st:St):opE T (.max args) fr st=aq st fr (.max args):=rfl
@[simp] theorem LY (args:List X) (fr:Fr) (st:St):opE T (.min args) fr st=aq st fr (.min args):=rfl
@[simp] theorem EL (n:Nat) (ag:Bool) (bytes:Nat) (x y:X) (fr:Fr) (st:St):opE T (.eN n ag bytes x y) fr st=aq st fr (.eN n ag bytes x y):=rfl
@[simp] theorem I8 (n:Nat) (zs:List DV) (x:X) (fr:Fr) (st:St):opE T (.clear n zs x) fr st=aq st fr (.clear n zs x):=rfl
@[simp] theorem Gx (ty:Nat) (zs:List DV) (fr:Fr) (st:St):opE T (.fw ty zs) fr st=aq st fr (.fw ty zs):=rfl
@[simp] theorem Lx (ty n:Nat) (x:X) (fr:Fr) (st:St):opE T (.conv ty n x) fr st=aq st fr (.conv ty n x):=rfl
@[simp] theorem Fs (ty bytes:Nat) (x y:X) (fr:Fr) (st:St):opE T (.dg ty bytes x y) fr st=aq st fr (.dg ty bytes x y):=rfl
@[simp] theorem GV (x:X) (fr:Fr) (st:St):opE T (.fe x) fr st=aq st fr (.fe x):=rfl
@[simp] theorem LQ (ty:Nat) (x l:X) (fr:Fr) (st:St):opE T (.mm ty x l) fr st=aq st fr (.mm ty x l):=rfl
@[simp] theorem GM (n:Nat) (ag:Bool) (len:Nat) (x:X) (lo hi mx:Option X) (fr:Fr) (st:St):opE T (.sliceB n ag len x lo hi mx) fr st=aq st fr (.sliceB n ag len x lo hi mx):=rfl
@[simp] theorem GS (n:Nat) (ag:Bool) (len:Nat) (x:X) (fr:Fr) (st:St):opE T (.fi n ag len x) fr st=aq st fr (.fi n ag len x):=rfl
@[simp] theorem Nd (v:DV) (xs:List (X×DV)) (fr:Fr) (st:St):opE T (.got v xs) fr st=aq st fr (.got v xs):=rfl
@[simp] theorem Lq  (fr:Fr) (st:St):opE T (.fail ) fr st=aq st fr (.fail ):=rfl
theorem iQ {g:Nat} {f:ak} (args:List DV) (st:St) (h:T g=some (.code f)) (hp:f.ez=true) {e:Ex} {fr:Fr} {st':St} {v v':DV}
 (hr:(E T).C f.body (aX args 0) st.enter=some (e,fr,st')) (he:e=.ret∨e=.normal) (hv:dG st' fr f.results=some v) (hx:bj st st' v=some v'):(E T).F g args st=some (v',st):=by
 rw[EF];simp only[cS,h,hp,if_true,hr];rcases he with rfl | rfl<;>simp only[hv,hx,abd]
theorem qC {g:Nat} {p:List DV→Option DV} {args:List DV} {st:St} {v:DV} (h:T g=some (.dx p)) (hv:p args=some v):(E T).F g args st=some (v,st):=by
 rw[EF];simp only[cS,h,hv,abd]
attribute [simp] aq jd takeN unD kl
@[simp] theorem GO (st:St) (n:Nat) (ag:Bool) (b off:Nat):cL st n ag (.ptr b off)=match st.cells b with | some (_,vs)=>takeN vs off n ag | none=>none:=rfl
@[simp] theorem FW (st:St) (n:Nat) (ag:Bool) (cs:List DV):cL st n ag (.bC cs)=takeN cs 0 n ag:=rfl
@[simp] theorem FX (k:IntKind) (n:Int):(DV.int k n).leaves=[.int k n]:=rfl
@[simp] theorem Gf (l:List UInt8):(DV.str l).leaves=[.str l]:=rfl
@[simp] theorem Ee (b:Bool):(DV.bool b).leaves=[.bool b]:=rfl
@[simp] theorem FZ (vs:List DV):(DV.agg vs).leaves=vs:=rfl
@[simp] theorem Ef (tag n:Nat) (tk:Tk) (nn:Bool) (xs:List DV):(DV.list tag n tk nn xs).leaves=[.list tag n tk nn xs]:=rfl
@[simp] theorem Nv (fr:Fr) (n:Nat):X.ev fr (.t n)=fr.get n:=rfl
@[simp] theorem Nx (fr:Fr) (v:DV):X.ev fr (.c v)=v:=rfl
@[simp] theorem Nz (fr:Fr) (g:Nat):X.ev fr (.f g)=.fn g [] []:=rfl
@[simp] theorem AK (u:Nat) (v:DV) (r:Fr) (t:Nat):Fr.get ((u,v)::r) t=if u=t then v else Fr.get r t:=rfl
@[simp] theorem JI (fr:Fr) (t:Nat) (v:DV):fr.put (some t) v=(t,v)::fr:=rfl
@[simp] theorem IW (fr:Fr) (v:DV):fr.put none v=fr:=rfl
@[simp] theorem HC (fr:Fr):fr.bl []=[]:=rfl
@[simp] theorem yC (fr:Fr) (t:Nat) (l:List Nat):fr.bl (t::l)=(t,fr.get t)::fr.bl l:=rfl
@[simp] theorem Gl (i:Nat):aX [] i=[]:=rfl
@[simp] theorem DO (v:DV) (r:List DV) (i:Nat):aX (v::r) i=(i,v)::aX r (i+1):=rfl
@[simp] theorem Ll (op:BinOp) (k:IntKind) (a b:Int) (h:op≠.shl) (h':op≠.shr):lV op (.int k a) (.int k b)=jd op k a b:=by
  cases op<;>simp[lV] at h h' ⊢
@[simp] theorem LH (op:BinOp) (a b:List UInt8):lV op (.str a) (.str b)=kl op a b:=rfl
end Go.D
end
section
namespace Go.D
open Go.RowKit
variable {P:Program} {fm:FM}
theorem A9 {T T2:Tab} (hT:cH P fm T) (hm:P.follows .mixedOrders=true) {g:Nat} {f:FuncId} (hf:fm g=some f) (q:List DV→Option DV) (hq:∀ as_ v,q as_=some v→Ran T g as_ v):dr P fm T2 (.dx q) f:=by
 intro G w0 st w args args' v st' hs ha hp;simp only[aae] at hp;obtain⟨u,hu,hp⟩:=hp;cases hp
 have hl:∀ p∈[(args,v)],Ran T g p.1 p.2:=by
  intro p hp;obtain rfl:p=(args,v):=by simpa using hp
  exact hq _ _ hu
 have hm2:pz [(args,v)] args=some v:=by
  unfold pz;rw[if_pos (DV.gD args)]
 exact Dt (T2:=T2) hT hm hf _ hl G w0 st w args args' v st hs ha (by simp[hm2])
theorem lH.congr {T T':Tab} (h:ai T=ai T') {rs:List af} {chk:List (Nat×List Nat)} {ops:Array Oper} {anc:Nat→List Nat} (k:lH T rs chk ops anc):lH T' rs chk ops anc where
 yn:=k.yn
 pJ:=k.pJ
 gw:=k.gw
 rA:=h ▸ k.rA
 eQ:=k.eQ
 jk:=k.jk
 cover:=h ▸ k.cover
theorem wT {T T':Tab} (h:ai T=ai T') {N:Nat}:∀ {c:RC} {x:Code},fE P fm T N c x→fE P fm T' N c x:=by
 intro c
 induction c with
 | skip=>intro x k;exact k
 | region ops live=>intro x k;exact k
 | av ops hs chk live=>
   intro x k;obtain⟨id,oops,anc,e,k⟩:=k;exact⟨id,oops,anc,e,⟨k.rel,k.free,k.rest.congr h⟩⟩
 | seq a b iha ihb=>
   intro x k;obtain⟨u,v,e,k1,k2⟩:=k;exact⟨u,v,e,iha k1,ihb k2⟩
 | cond y a b iha ihb=>
   intro x k;obtain⟨o,u,v,e,k0,k1,k2⟩:=k;exact⟨o,u,v,e,k0,iha k1,ihb k2⟩
 | block id a ih=>
   intro x k;obtain⟨u,e,k⟩:=k;exact⟨u,e,ih k⟩
 | loop live a ih=>
   intro x k;obtain⟨u,e,k⟩:=k;exact⟨u,e,ih k⟩
 | exit id=>intro x k;exact k
 | ret=>intro x k;exact k
 | stuck=>intro x k;exact k
 | eZ f ps as_ bo live iha ihb=>
   intro x k;obtain⟨o,qs,u,v,e,k0,k1,k2,k3,k4⟩:=k;exact⟨o,qs,u,v,e,k0,k1,k2,iha k3,ihb k4⟩
theorem qG {T T':Tab} (h:ai T=ai T'):fE P fm T=fE P fm T':=by
 funext N c x
 exact propext ⟨wT h,wT h.symm⟩
theorem lB {T T':Tab} (h:ai T=ai T') {d:Def} {f:FuncId} (k:dr P fm T d f):dr P fm T' d f:=by
 cases d<;>simp only[dr,ee,bB,qG (P:=P) (fm:=fm) h] at k ⊢ <;> exact k
def over (T:Tab):List (Nat×(List DV→Option DV))→Tab
 | [],g=>T g
 | (h,p)::r,g=>bif aaz g h then some (.dx p) else over T r g
theorem pe (T:Tab):∀ l:List (Nat×(List DV→Option DV)),(∀ x∈l,ai T x.1=true)→ai T=ai (over T l)
 | [],_=>rfl
 | (h,p)::r,hl=>by
   funext g
   have ih:=congrFun (pe T r fun x hx=>hl x (aao _ hx)) g;show ai T g=match over T ((h,p)::r) g with | some (.code f)=>f.ez | some (.dx _)=>true | _=>false
   simp only[over]
   cases hb:aaz g h with
   | true=>
     have:=aaF hb;subst this;exact hl (g,p) (aap ..)
   | false=>exact ih
theorem tg (T:Tab):∀ (l:List (Nat×(List DV→Option DV))) (g:Nat) (d:Def),over T l g=some d→T g=some d∨∃ x∈l,x.1=g∧d=.dx x.2
 | [],g,d,h=>.inl h
 | (h0,p)::r,g,d,h=>by
   simp only[over] at h
   cases hb:aaz g h0 with
   | true=>
     rw[hb] at h;have:=aaF hb;subst this;simp only[cond_true,aaa.injEq] at h;exact .inr ⟨(g,p),aap ..,rfl,h.symm⟩
   | false=>
     rw[hb] at h;rcases tg T r g d h with h | ⟨x,hx,h⟩
     · exact .inl h
     · exact .inr ⟨x,aao _ hx,h⟩
theorem Dy {T:Tab} (hT:cH P fm T) (hm:P.follows .mixedOrders=true) (l:List (Nat×(List DV→Option DV))) (hp:∀ x∈l,ai T x.1=true) (hr:∀ x∈l,∀ as_ v,x.2 as_=some v→Ran T x.1 as_ v):cH P fm (over T l):=by
 intro g d f hd hf;rcases tg T l g d hd with h | ⟨x,hx,rfl,rfl⟩
 · exact lB (pe T l hp) (hT g d f h hf)
 · exact A9 hT hm hf x.2 (hr x hx)
end Go.D
end
section
namespace Go.D
open Go.RowKit
variable {P:Program} {fm:FM}
def ghA (w:World):Gh:={ gh0 w with ro:=fun r i=>match w.heap[r]? with | some (.cells cs _ _)=>cs[i]? | _=>none }
theorem Fc {w:World} {r i:Nat} {v:Value} (h:(ghA w).ro r i=some v):∃ cs t fz,w.heap[r]? = some (.cells cs t fz)∧cs[i]? = some v:=by
 simp only[ghA] at h;split at h
 · rename_i cs t fz e;exact⟨cs,t,fz,e,h⟩
 · cases h
theorem L4 (CR:Nat→RC→Code→Prop) (w:World) (he:lI fm w):Sim fm CR (ghA w) w st0 w where
 bD:=fun b r h=>by cases h
 bu:=fun b b' o o' r h=>by simp[st0] at h
 obj:=fun b o h=>by simp[st0] at h
 ro:=fun r i v h=>Fc h
 cB:=fun r i v b o _ h=>by simp[st0] at h
 tok:=fun t s h=>by simp[st0] at h
 a0:=fun t t' s s' x x' h=>by simp[st0] at h
 aY:=fun t s x h=>by cases h
 dfr:=fun r h=>h.elim
 lps:=fun r h=>h.elim
 aw:=aai _
 below:=Below.refl _ w
 base:=rfl
 aF:=rfl
 bg:=Nat.zero_le _
 aQ:=fun b o h=>by cases h
 env:=he
theorem rv {T:Tab} (hT:cH P fm T) (hm:P.follows .mixedOrders=true) {g:Nat} {f:FuncId} {F:ak} {st':St} {args:List DV} {args':Array Value} (hg:T g=some (.code F)) (hf:fm g=some f)
 (hrun:(E T).F g args st0=some (.bool true,st')) (w:World) (he:lI fm w) (ha:b0 fm (ghA w) args args') :
 Calls P f args' w (fun e w'=>e=.returned (.bool true)∧Below w.heap.size w w'):=by
 obtain⟨n,h⟩:=B0 hrun;have hc:du T g=true:=by unfold du;rw[hg]
 have h:=mI hT hm hf h (L4 (fm:=fm) (fE P fm T) w he) ha hc (AS (hT g _ f hg hf));refine h.mono ?_;rintro e w' ⟨x,rfl,G',hle,hs,hx⟩;cases hx;have:=hs.below;rw[hle.floor] at this;exact⟨rfl,this⟩
theorem C6 {w:World} {a:Addr} {v:Value} (h:w.cell? a=some v):a.spot=none∧(ghA w).ro a.block a.off=some v:=by
 unfold World.cell? at h;split at h
 · rename_i c t fz e;split at h
   · cases h
   · rename_i hs;refine⟨by simpa using hs,?_⟩;simp only[ghA];rw[e];exact h
 · cases h
inductive Sh where
 | bool
 | int (k:IntKind)
 | str
 | list (ag:Bool) (z:Nat) (e:List Sh)
def Sh.flat:Sh→Bool
 | .list _ _ _=>false
 | _=>true
def elemOf (ag:Bool) (vs:List DV):DV:=if ag then .agg vs else vs.headD .undef
def BI:Sh→DV→Prop
 | .bool,v=>∃ b,v=.bool b
 | .int k,v=>∃ n,v=.int k n∧(Lit.int k n).wf=true
 | .str,v=>∃ s,v=.str s∧s.length≤reachBytes
 | .list _ _ _,_=>False
def iL:List Sh→List DV→Prop
 | [],vs=>vs=[]
 | s::ss,vs=>∃ v r,vs=v::r∧BI s v∧iL ss r
def Fit:Sh→DV→Prop
 | .list ag z e,v=>∃ nn xs,v=.list 0 e.length .no nn xs∧(nn=false→xs=[])∧(xs.length:Int)≤maxLen∧xs.length*z≤reachBytes∧∀ x∈xs,∃ vs,iL e vs∧x=elemOf ag vs
 | s,v=>BI s v
def Fits:List Sh→List DV→Prop
 | [],vs=>vs=[]
 | s::ss,vs=>∃ v r,vs=v::r∧Fit s v∧Fits ss r
def nt:Nat→List (Nat×Nat×List Sh)→Option (List Sh)
 | _,[]=>some []
 | k,(off,c,s)::r=>if off=k∧s.length=c then (nt (k+c) r).map (s ++ ·) else none
def dq (P:Program) (t:TypeId):Bool:=match P.underlying t with | some (.struct _) | some (.array _ _)=>true | _=>false
def rJ (P:Program):Nat→Bool→TypeId→Option (List Sh)
 | 0,_,_=>none
 | n+1,top,t=>
   match P.underlying t with
   | some .bool=>some [.bool]
   | some (.int k)=>some [.int k]
   | some .string=>some [.str]
   | some (.slice e)=>
     match top,rJ P n false e with
     | true,some s=>if s.length=P.cellsOf e∧0<s.length∧s.all Sh.flat=true∧(dq P e=true∨s.length=1) then some [.list (dq P e) (P.bytesOf e) s] else none
     | _,_=>none
   | some (.struct fs)=>
     match fs.toList.mapM (fun f=>(rJ P n top f.type).map fun s=>(f.offset,P.cellsOf f.type,s)) with
     | some l=>match nt 0 l with | some s=>if s.length=P.cellsOf t then some s else none | none=>none
     | none=>none
   | some (.array m e)=>
     match rJ P n top e with
     | some s=>match nt 0 ((aal m).map fun i=>(i*P.cellsOf e,P.cellsOf e,s)) with | some s=>if s.length=P.cellsOf t then some s else none | none=>none
     | none=>none
   | _=>none
theorem Fits.append:∀ {a b:List Sh} {vs us:List DV},Fits a vs→Fits b us→Fits (a++b) (vs++us)
 | [],b,vs,us,h,k=>by cases h;exact k
 | s::ss,b,vs,us,h,k=>by
   obtain⟨v,r,rfl,h1,h2⟩:=h;exact⟨v,r++us,rfl,h1,h2.append k⟩
theorem Fits.length:∀ {a:List Sh} {vs:List DV},Fits a vs→vs.length=a.length
 | [],vs,h=>by cases h;rfl
 | s::ss,vs,h=>by
   obtain⟨v,r,rfl,_,h2⟩:=h;simp[h2.length]
theorem iL.length:∀ {a:List Sh} {vs:List DV},iL a vs→vs.length=a.length
 | [],vs,h=>by cases h;rfl
 | s::ss,vs,h=>by
   obtain⟨v,r,rfl,_,h2⟩:=h;simp[h2.length]
theorem Fits.toF:∀ {a:List Sh} {vs:List DV},a.all Sh.flat=true→Fits a vs→iL a vs
 | [],vs,_,h=>h
 | s::ss,vs,hf,h=>by
   rw[List.all_cons,aab] at hf;obtain⟨v,r,rfl,h1,h2⟩:=h;refine⟨v,r,rfl,?_,h2.toF hf.2⟩;cases s<;>first | exact h1 | (simp[Sh.flat] at hf)
theorem BI.leaf {s:Sh} {v:DV} (h:BI s v):v.leaves=[v]∧v.pure=true:=by
 cases s<;>simp only[BI] at h
 · obtain⟨b,rfl⟩:=h;exact⟨rfl,rfl⟩
 · obtain⟨n,rfl,_⟩:=h;exact⟨rfl,rfl⟩
 · obtain⟨n,rfl,_⟩:=h;exact⟨rfl,rfl⟩
theorem iL.pure:∀ {a:List Sh} {vs:List DV},iL a vs→vs.all DV.pure=true
 | [],vs,h=>by cases h;rfl
 | s::ss,vs,h=>by
   obtain⟨v,r,rfl,h1,h2⟩:=h;simp[h1.leaf.2,h2.pure]
theorem oz {ag:Bool} {e:List Sh} {vs:List DV} (h:iL e vs) (ha:ag=true∨e.length=1):(elemOf ag vs).leaves=vs:=by
 cases ag with
 | true=>rfl
 | false=>
   have hl:e.length=1:=by simpa using ha
   match e,vs,h,hl with
   | [s],_,⟨v,r,rfl,h1,h2⟩,_=>
     cases h2;exact h1.leaf.1
def Reads (fm:FM) (w:World) (vs:List DV) (cs:List Value):Prop:=cs.length=vs.length∧∀ i (h:i<vs.length),Rel fm (ghA w) (vs[i]) (cs.getD i undef)
theorem Reads.append {w:World} {vs us:List DV} {cs ds:List Value} (h:Reads fm w vs cs) (k:Reads fm w us ds):Reads fm w (vs++us) (cs++ds):=by
 refine⟨by simp[h.1,k.1],fun i hi=>?_⟩;by_cases hv:i<vs.length
 · have e1:(vs++us)[i]=vs[i]:=aaR hv
   have e2:(cs++ds).getD i undef=cs.getD i undef:=by
    rw[aak,aak,aaj (by rw[h.1];exact hv)]
   rw[e1,e2];exact h.2 i hv
 · have hu:i-vs.length<us.length:=by simp at hi;omega
   have e1:(vs++us)[i]=us[i-vs.length]:=aaO (by omega)
   have e2:(cs++ds).getD i undef=ds.getD (i-vs.length) undef:=by
    rw[aak,aak,aaq (by rw[h.1];omega),h.1]
   rw[e1,e2];exact k.2 _ hu
theorem pk {c:Nat} (g:Nat→List DV) (ag:Bool) (hg:∀ i,(elemOf ag (g i)).leaves=g i):∀ (len:Nat),(∀ i,i<len→(g i).length=c) →
 (flat ((aal len).map fun i=>elemOf ag (g i))).length=len*c∧∀ i k,i<len→k<c→(flat ((aal len).map fun i=>elemOf ag (g i)))[i*c+k]? = (g i)[k]?
 | 0,_=>by simp[flat]
 | len+1,h=>by
   obtain⟨h1,h2⟩:=pk g ag hg len fun i hi=>h i (by omega)
   have e:flat ((aal (len+1)).map fun i=>elemOf ag (g i))=flat ((aal len).map fun i=>elemOf ag (g i))++g len:=by
    rw[List.range_succ];simp[flat,hg]
   rw[e];refine⟨by simp[h1,h len (by omega),Nat.succ_mul],fun i k hi hk=>?_⟩;by_cases hl:i<len
   · have:i*c+k<len*c:=by
      have:(i+1)*c≤len*c:=aay _ hl;rw[Nat.succ_mul] at this;omega
     rw[aaj (by rw[h1];exact this)];exact h2 i k hl hk
   · obtain rfl:i=len:=by omega
     rw[aaq (by rw[h1];omega),h1]
     congr 1
     omega
section
variable {H:Type} {enc:TypeId×Value→H} {w:World} {base:Nat} {sp:Nat→Bool} {held:Bool}
def AV (cs:List Value):Prop:=∀ a len cap,Value.slice (some a) len cap∈cs→a.spot=none
theorem iF:∀ (l:List (Nat×Nat×List Sh)) (k:Nat) (s:List Sh) (cs:List Value),nt k l=some s→k+s.length=cs.length →
 (∀ (off c:Nat) (s:List Sh),(off,c,s)∈l→∃ vs,Fits s vs∧Reads fm w vs ((cs.drop off).take c))→∃ vs,Fits s vs∧Reads fm w vs (cs.drop k)
 | [],k,s,cs,h,hl,_=>by
   cases h;refine⟨[],rfl,?_,fun i hi=>by simp at hi⟩;simp at hl ⊢;omega
 | (off,c,s0)::r,k,s,cs,h,hl,hr=>by
   simp only[nt] at h;split at h
   · rename_i hc;obtain⟨rfl,rfl⟩:=hc;simp only[aae] at h;obtain⟨s1,h1,rfl⟩:=h;rw[aah] at hl;obtain⟨us,hu1,hu2⟩:=iF r _ s1 cs h1 (by omega) fun off c s hm=>hr off c s (aao _ hm);obtain⟨vs,hv1,hv2⟩:=hr off s0.length s0 (aap ..);refine⟨vs++us,hv1.append hu1,?_⟩
     have e:cs.drop off=(cs.drop off).take s0.length++cs.drop (off+s0.length):=by
      rw[← List.drop_drop,aa3]
     rw[e];exact hv2.append hu2
   · cases h
theorem su {α β:Type} {f:α→Option β}:∀ {l:List α} {r:List β},l.mapM f=some r→∀ y∈r,∃ (i:Nat) (x:α),l[i]? = some x∧f x=some y
 | [],r,h,y,hy=>by
   have:r=[]:=by simpa using h.symm
   subst this;cases hy
 | a::l,r,h,y,hy=>by
   simp only[List.mapM_cons,Option.bind_eq_bind,Option.bind_eq_some_iff,Option.pure_def,aaa.injEq] at h;obtain⟨b,hb,r',hr',rfl⟩:=h;rcases aaA.1 hy with rfl | hy
   · exact⟨0,a,rfl,hb⟩
   · obtain⟨i,x,h1,h2⟩:=su hr' y hy;exact⟨i+1,x,h1,h2⟩
theorem fq {e:TypeId}:∀ {l:List (DataW H)} {d:DataW H} {k:Nat},d∈l→k∈d.weights P e→k∈DataW.weightsAll P e l
 | a::r,d,k,h,hk=>by
   simp only[DataW.weightsAll,aaG];rcases aaA.1 h with rfl | h
   · exact .inl hk
   · exact .inr (fq h hk)
theorem BS:∀ (n:Nat) (top:Bool) (t:TypeId) (ss:List Sh),rJ P n top t=some ss→∀ (fuel:Nat) (cs:List Value) (x:DataW H×List MemPlace),
 DataW.trod enc P w base sp held fuel t cs=some x→(∀ k∈DataW.weights P t x.1,k≤reachBytes)→(top=true→AV cs)→∃ vs,Fits ss vs∧Reads fm w vs cs:=by
 intro n
 induction n with
 | zero=>intro top t ss h;cases h
 | succ n ih=>
   intro top t ss h fuel cs x hx hwt hsp;simp only[rJ] at h;split at h
   · rename_i hu;cases h;obtain⟨b,rfl,_⟩:=DataW.trod_bool hu hx
     exact⟨[.bool b],⟨_,_,rfl,⟨b,rfl⟩,rfl⟩,rfl,fun i hi=>by
      have:i=0:=by simpa using hi
      subst this;exact .bool b⟩
   · rename_i k hu;cases h;obtain⟨m,rfl,_,hw⟩:=DataW.trod_int hu hx
     exact⟨[.int k m],⟨_,_,rfl,⟨m,rfl,hw⟩,rfl⟩,rfl,fun i hi=>by
      have:i=0:=by simpa using hi
      subst this;exact .int k m⟩
   · rename_i hu;cases h;obtain⟨s,rfl,rfl,hw⟩:=DataW.trod_string hu hx
     exact⟨[.str s.data.toList],⟨_,_,rfl,⟨_,rfl,hwt _ (by simp[DataW.weights])⟩,rfl⟩,rfl,fun i hi=>by
      have:i=0:=by simpa using hi
      subst this;exact .str _ s rfl⟩
   · rename_i e hu;split at h
     · rename_i s hs;split at h
       · rename_i hc;obtain⟨hc1,hc2,hc3,hc4⟩:=hc;cases h;rcases DataW.trod_slice hu hx with ⟨rfl,_⟩ | ⟨a,len,cap,elems,rest,m,_,rfl,hxe,_,hl,hcap,hel,heach,_⟩
         · exact⟨[.list 0 s.length .no false []],⟨_,_,rfl,⟨false,[],rfl,fun _=>rfl,by simp[maxLen],by simp,fun x hx=>by cases hx⟩,rfl⟩,rfl,fun i hi=>by
            have:i=0:=by simpa using hi
            subst this;exact .eF 0 s.length .no⟩
         · have each:∀ i,i<len→∃ vs cs',iL s vs∧Reads fm w vs cs'∧w.cells? base (a.add (i*P.cellsOf e)) (P.cellsOf e)=some cs':=by
            intro i hi;have:=heach i hi;rw[aac (by omega)] at this;obtain⟨cs',h1,h2⟩:=Option.bind_eq_some_iff.1 this
            obtain⟨vs,h3,h4⟩:=ih false e s hs m cs' _ h2 (fun k hk=>hwt k (by
             rw[hxe];simp only[DataW.weights,hu,aaA,aaG]
             exact .inr (.inl (fq (aaQ.2 ⟨_,aau _,rfl⟩) hk)))) (fun h=>by cases h)
            exact⟨vs,cs',h3.toF hc3,h4,h1⟩
           have ⟨g,hg⟩:∃ g:Nat→List DV,∀ i,iL s (g i)∧(i<len→∃ cs',Reads fm w (g i) cs'∧w.cells? base (a.add (i*P.cellsOf e)) (P.cellsOf e)=some cs'):=by
            have dflt:∃ vs,iL s vs:=by
             clear hc1 hc2 hc4 each hs
             induction s with
             | nil=>exact⟨[],rfl⟩
             | cons s r ihs=>
               rw[List.all_cons,aab] at hc3;obtain⟨vs,hvs⟩:=ihs hc3.2
               cases s with
               | bool=>exact⟨.bool true::vs,_,_,rfl,⟨_,rfl⟩,hvs⟩
               | int k=>exact⟨.int k (k.wrap 0)::vs,_,_,rfl,⟨_,rfl,wf_wrap k 0⟩,hvs⟩
               | str=>exact⟨.str []::vs,_,_,rfl,⟨_,rfl,by simp[reachBytes]⟩,hvs⟩
               | list a b c=>simp[Sh.flat] at hc3
            classical
            refine⟨fun i=>if h:i<len then Classical.choose (each i h) else Classical.choose dflt,fun i=>?_⟩;by_cases h:i<len
            · obtain⟨cs',h1,h2,h3⟩:=aaL (each i h);simp only[h,dif_pos];exact⟨h1,fun _=>⟨cs',h2,h3⟩⟩
            · simp only[h,dif_neg,not_false_iff];exact⟨aaL dflt,fun h'=>absurd h' (by first | exact h | simp)⟩
           have hleaf:∀ i,(elemOf (dq P e) (g i)).leaves=g i:=fun i=>oz (hg i).1 hc4;obtain⟨f1,f2⟩:=pk (c:=s.length) g (dq P e) hleaf len fun i _=>(hg i).1.length;have hspot:a.spot=none:=hsp rfl a len cap (by simp)
           have key:∀ j,j<len*s.length→∃ v,(ghA w).ro a.block (a.off+j)=some v∧∃ u,(flat ((aal len).map fun i=>elemOf (dq P e) (g i)))[j]? = some u∧Rel fm (ghA w) u v:=by
            intro j hj;have hi:j/s.length<len:=(Nat.div_lt_iff_lt_mul hc2).2 hj;have hk:j%s.length<s.length:=Nat.mod_lt _ hc2;have hj2:j/s.length*s.length+j%s.length=j:=by rw[Nat.mul_comm];exact Nat.div_add_mod _ _
            obtain⟨cs',r1,r2⟩:=(hg (j/s.length)).2 hi;obtain⟨_,r3,r4⟩:=World.cells?_some r2;have hlen:(g (j/s.length)).length=s.length:=(hg _).1.length;have r5:=r4 (j%s.length) (by rw[← hc1];exact hk);rw[aac (by rw[r1.1,hlen];exact hk)] at r5;obtain⟨_,r6⟩:=C6 r5
            have hadd:((a.add (j/s.length*P.cellsOf e)).add (j%s.length)).block=a.block∧((a.add (j/s.length*P.cellsOf e)).add (j%s.length)).off=a.off+j:=by
             rw[← hc1];unfold Addr.add;constructor<;>(repeat' split)<;>simp_all<;>omega
            rw[hadd.1,hadd.2] at r6;refine⟨_,r6,(g (j/s.length))[j%s.length]'(by rw[hlen];exact hk),?_,?_⟩
            · rw[← aac,← f2 _ _ hi hk,hj2]
            · have:=r1.2 (j%s.length) (by rw[hlen];exact hk);rw[aak,aac (by rw[r1.1,hlen];exact hk)] at this;exact this
           refine⟨[.list 0 s.length .no true ((aal len).map fun i=>elemOf (dq P e) (g i))],⟨_,_,rfl,⟨true,_,rfl,(fun h=>by cases h),?_,?_,?_⟩,rfl⟩,rfl,fun i hi=>?_⟩
           · simp only[aaU,List.length_range];exact_mod_cast abk hl hcap
           · simp only[aaU,List.length_range];refine abk ?_ (hwt ((elems.length+rest.length)*P.bytesOf e) (by rw[hxe];simp[DataW.weights,hu]));exact aay _ (by omega)
           · intro x hx;obtain⟨i,_,rfl⟩:=aaQ.1 hx;exact⟨g i,(hg i).1,rfl⟩
           · have:i=0:=by simpa using hi
             subst this;obtain⟨r,off,spot⟩:=a;simp only at hspot;subst hspot;have:=Rel.list (fm:=fm) (G:=ghA w) 0 s.length .no ((aal len).map fun i=>elemOf (dq P e) (g i)) r off cap (fun j=>((ghA w).ro r (off+j)).getD undef) ?_ ?_ ?_ trivial (by simpa using hl) ?_
             · simp only[aaU,List.length_range] at this;exact this
             · intro j hj;rw[f1] at hj;obtain⟨v,k1,_⟩:=key j hj;simp only at k1;rw[k1];rfl
             · intro j hj;have hj':=hj;rw[f1] at hj';obtain⟨v,k1,u,k2,k3⟩:=key j hj';simp only at k1;rw[aac hj] at k2;injection k2 with k2;rw[k2,k1];exact k3
             · rw[aaf];intro u hu;unfold flat at hu;obtain⟨y,hy,hu⟩:=aaC.1 hu;obtain⟨i,_,rfl⟩:=aaQ.1 hy;rw[hleaf] at hu;exact aaf.1 (hg i).1.pure _ hu
             · intro y hy;obtain⟨i,_,rfl⟩:=aaQ.1 hy;rw[hleaf];exact(hg i).1.length
       · cases h
     · cases h
   · rename_i fs hu;split at h
     · rename_i l hl;split at h
       · rename_i s hs;split at h
         · rename_i hlen;cases h;obtain⟨xs,m,_,hxe,h1,h2,h3⟩:=DataW.trod_struct hu hx;have:=iF (fm:=fm) (w:=w) l 0 ss cs hs (by rw[h1,hlen];omega) ?_
           · simpa using this
           · intro off c s0 hm;obtain⟨i,f,hi,hf⟩:=su hl _ hm;simp only[aae,Prod.mk.injEq] at hf;obtain⟨s1,e1,rfl,rfl,rfl⟩:=hf;have hi2:fs[i]? = some f:=by simpa using hi
             have:=h3 i f hi2
             have hlt:i<xs.length:=by
              rw[h2];exact(aaZ.1 hi2).1
             rw[aac hlt] at this
             refine ih top f.type s1 e1 m _ _ this (fun k hk=>hwt k (by
              rw[hxe];simp only[DataW.weights,hu]
              exact DataW.weights_mem_each (j:=i) (t:=f.type) (by simp[hi2]) (by rw[abc,aac hlt];rfl) k hk)) fun ht a len cap hmem=>hsp ht a len cap ?_
             exact aar (aaD hmem)
         · cases h
       · cases h
     · cases h
   · rename_i m e hu;split at h
     · rename_i s0 hs0;split at h
       · rename_i s hs;split at h
         · rename_i hlen;cases h;obtain⟨xs,k,_,hxe,h1,h2,h3⟩:=DataW.trod_array hu hx;have:=iF (fm:=fm) (w:=w) _ 0 ss cs hs (by rw[h1,hlen];omega) ?_
           · simpa using this
           · intro off c s1 hm;obtain⟨i,hi,e1⟩:=aaQ.1 hm;cases e1;have:=h3 i (abq.1 hi);rw[aac (by rw[h2];exact abq.1 hi)] at this
             refine ih top e s0 hs0 k _ _ this (fun q hq=>hwt q (by
              rw[hxe];simp only[DataW.weights,hu]
              exact fq (aaQ.2 ⟨_,aau _,rfl⟩) hq)) fun ht a len cap hmem=>hsp ht a len cap ?_
             exact aar (aaD hmem)
         · cases h
       · cases h
     · cases h
   · cases h
end
end Go.D
end
section
namespace Go.D
open Go.RowKit
variable {P:Program} {fm:FM}
theorem hD {w:World} {base:Nat} {t:TypeId} {a:Addr} {len cap:Nat} (h:Cell.okWide P w .any base t (.slice (some a) len cap)):a.spot=none:=by
 unfold Cell.okWide at h;split at h<;>try (rename_i e1 e2;cases e2;done)
 unfold Cell.ok at h;split at h<;>rename_i e1 e2<;>first | (cases e2;done) | skip
 · cases e2;exact h.2.2.2.1
 · cases h
theorem oy {w:World} {base:Nat} {t:TypeId} {v:Value} (h:Value.okWide P w .any base t v):AV v.cells.toList:=by
 intro a len cap hm;unfold Value.okWide at h;split at h
 · obtain⟨cs,rfl,_,ts,_,_,hc⟩:=h;obtain⟨i,hi⟩:=List.mem_iff_getElem?.1 hm;obtain⟨u,_,hu⟩:=hc i _ (by simpa[Value.cells] using hi);exact hD hu
 · obtain⟨cs,rfl,_,ts,_,_,hc⟩:=h;obtain⟨i,hi⟩:=List.mem_iff_getElem?.1 hm;obtain⟨u,_,hu⟩:=hc i _ (by simpa[Value.cells] using hi);exact hD hu
 · cases v
   case agg cs=>
    exfalso;unfold Cell.okWide at h;split at h<;>try (rename_i e1 e2;cases e2;done)
    unfold Cell.ok at h;split at h<;>rename_i e1 e2<;>first | (cases e2;done) | (cases h;done)
   all_goals
    simp[Value.cells] at hm
   obtain⟨rfl,rfl,rfl⟩:=hm;exact hD h
theorem CB {w:World} {base:Nat} {t:TypeId} {cs:Array Value} (ht:dq P t=false) (h:Value.okWide P w .any base t (.agg cs)):False:=by
 unfold Value.okWide at h;unfold dq at ht;split at h
 · rename_i e;rw[e] at ht;cases ht
 · rename_i e;rw[e] at ht;cases ht
 · unfold Cell.okWide at h;split at h<;>try (rename_i e1 e2;cases e2;done)
   unfold Cell.ok at h;split at h<;>rename_i e1 e2<;>first | (cases e2;done) | (cases h;done)
theorem zz {n:Nat} {top:Bool} {t:TypeId} {ss:List Sh} (h:rJ P n top t=some ss) (ht:dq P t=false):ss.length=1:=by
 cases n with
 | zero=>cases h
 | succ n=>
   unfold dq at ht;simp only[rJ] at h;split at h<;>rename_i e<;>try (rw[e] at ht)
   · cases h;rfl
   · cases h;rfl
   · cases h;rfl
   · split at h
     · split at h
       · cases h;rfl
       · cases h
     · cases h
   · cases ht
   · cases ht
   · cases h
theorem F2 {H:Type} {enc:TypeId×Value→H} {w:World} {base base':Nat} {sp:Nat→Bool} {held:Bool} {n:Nat} {t:TypeId} {ss:List Sh} {b:Bool} {v:Value} {d:DataW H} {p:List MemPlace}
 (hsh:rJ P n true t=some ss) (hb:dq P t=b) (hval:Value.okWide P w .any base' t v) (h:DataW.Trod enc P w base sp held t v d p) (hwt:∀ k∈DataW.weights P t d,k≤reachBytes) :
 ∃ vs,Fits ss vs∧Rel fm (ghA w) (elemOf b vs) v:=by
 obtain⟨fuel,h⟩:=h;obtain⟨vs,h1,h2⟩:=BS (fm:=fm) n true t ss hsh fuel _ _ h hwt fun _=>oy hval;refine⟨vs,h1,?_⟩
 cases b with
 | true=>
   have:∃ cs,v=.agg cs:=by
    unfold dq at hb;unfold Value.okWide at hval;split at hval
    · obtain⟨cs,rfl,_⟩:=hval;exact⟨cs,rfl⟩
    · obtain⟨cs,rfl,_⟩:=hval;exact⟨cs,rfl⟩
    · rename_i k1 k2;split at hb<;>rename_i e
      · exact absurd e (k1 _)
      · exact absurd e (k2 _ _)
      · cases hb
   obtain⟨cs,rfl⟩:=this;refine .agg vs cs (by simpa[Value.cells] using h2.1) fun i hi=>?_;have:=h2.2 i hi;simpa[Value.cells,aag,aak] using this
 | false=>
   have hl:=h1.length;rw[zz hsh hb] at hl
   match vs,hl with
   | [x],_=>
     have:=h2.2 0 (by simp)
     have hv:v.cells = #[v]:=by
      cases v<;>first | rfl | exact(CB hb hval).elim
     rw[hv] at this;exact this
def rh:List (Bool×List Sh)→List DV→Prop
 | [],us=>us=[]
 | (b,ss)::r,us=>∃ vs us',us=elemOf b vs::us'∧Fits ss vs∧rh r us'
def qh (P:Program):List TypeId→Option (List (Bool×List Sh))
 | []=>some []
 | t::ts=>match rJ P 9 true t,qh P ts with | some s,some r=>some ((dq P t,s)::r) | _,_=>none
theorem vV {H:Type} {enc:TypeId×Value→H} {w:World} {base base':Nat} {sp:Nat→Bool} {held:Bool}:∀ (ts:List TypeId) (shs:List (Bool×List Sh)) (vs:List Value) (ds:List (DataW H)) (ps:List MemPlace),
 qh P ts=some shs→(∀ (j:Nat) t v,ts[j]? = some t→vs[j]? = some v→Value.okWide P w .any base' t v)→DataW.TrodAll enc P w base sp held ts vs ds ps→(∀ k∈DataW.weightsEach P ts ds,k≤reachBytes) →
 ∃ us:List DV,rh shs us∧vs.length=us.length∧∀ i (h:i<us.length),Rel fm (ghA w) (us[i]) (vs.getD i undef)
 | [],shs,vs,ds,ps,h,hv,ht,hwt=>by
   cases h;cases vs<;>cases ds<;>simp[DataW.TrodAll] at ht
   exact⟨[],rfl,rfl,fun i hi=>by simp at hi⟩
 | t::ts,shs,vs,ds,ps,h,hv,ht,hwt=>by
   simp only[qh] at h;split at h
   · rename_i s r e1 e2;cases h;obtain⟨v,vs',d,ds',p,q,rfl,rfl,rfl,h1,h2⟩:=Go.ChangeShapes.trodAll_cons ht;obtain⟨u,f1,f2⟩:=F2 (fm:=fm) e1 rfl (hv 0 t v rfl rfl) h1 fun k hk=>hwt k (by simp only[DataW.weightsEach,aaG];exact .inl hk);obtain⟨us,f3,f4,f5⟩:=vV ts r vs' ds' q e2 (fun j t' v' k1 k2=>hv (j+1) t' v' (by simpa using k1) (by simpa using k2)) h2 fun k hk=>hwt k (by simp only[DataW.weightsEach,aaG];exact .inr hk);refine⟨elemOf (dq P t) u::us,⟨u,us,rfl,f1,f3⟩,by simp[f4],fun i hi=>?_⟩
     cases i with
     | zero=>exact f2
     | succ i=>simpa using f5 i (by simpa using hi)
   · cases h
theorem jz {H:Type} {enc:TypeId×Value→H} {W W':World} {sp':Nat→Bool} (hl:laidOutB P=true):∀ (ts:List TypeId) (vs:List Value) (ds:List (DataW H)) (ps:List MemPlace),
 (ts.all fun t=>P.readableRec t&&decide (t<P.types.size))=true→DataW.TrodAll enc P W 0 (fun _=>true) true ts vs ds ps→(∀ p∈ps,W.sameAt W' p)→(∀ p∈ps,sp' p.block=true) →
 DataW.TrodAll enc P W' 0 sp' true ts vs ds ps
 | [],vs,ds,ps,_,h,_,_=>by
   cases vs<;>cases ds<;>simp[DataW.TrodAll] at h ⊢
   exact h
 | t::ts,vs,ds,ps,hr,h,hs,hp=>by
   rw[List.all_cons,aab,aab] at hr;obtain⟨v,vs',d,ds',p,q,rfl,rfl,rfl,h1,h2⟩:=Go.ChangeShapes.trodAll_cons h
   exact⟨p,q,WideElems.Trod_stays hl hr.1.1 (of_decide_eq_true hr.1.2) h1 (fun x hx=>hs x (List.mem_append_left _ hx)) (fun x hx=>hp x (List.mem_append_left _ hx)),
    jz hl ts vs' ds' q hr.2 h2 (fun x hx=>hs x (List.mem_append_right _ hx)) (fun x hx=>hp x (List.mem_append_right _ hx)),rfl⟩
theorem oE {H:Type} {enc:TypeId×Value→H} {T:Tab} (hT:cH P fm T) (hm:P.follows .mixedOrders=true) {g:Nat} {f:FuncId} {F:ak} {args:Array Value} {ts:List TypeId} {shs:List (Bool×List Sh)} {ds:List (DataW H)} {ps:List MemPlace} {sp:Nat→Bool} {held:Bool}
 (hg:T g=some (.code F)) (hf:fm g=some f) (hsh:qh P ts=some shs) (w:World) {base base':Nat} (hv:∀ (j:Nat) t v,ts[j]? = some t→args.toList[j]? = some v→Value.okWide P w .any base' t v)
 (ht:DataW.TrodAll enc P w base sp held ts args.toList ds ps) (hwt:(DataW.weightsEach P ts ds).all (· ≤ reachBytes)=true) (hrun:∀ us,rh shs us→∃ st',(E T).F g us st0=some (.bool true,st')) (he:lI fm w) :
 Calls P f args w (fun e w'=>e=.returned (.bool true)∧Below w.heap.size w w'):=by
 obtain⟨us,h1,h2,h3⟩:=vV (fm:=fm) ts shs _ ds ps hsh hv ht fun k hk=>by simpa using aaf.1 hwt k hk
 obtain⟨st',hr⟩:=hrun us h1;refine rv hT hm hg hf hr w he ⟨by simpa using h2,fun i hi=>?_⟩;have:=h3 i hi;simpa[aag,aak] using this
end Go.D
end
section
namespace Go.D
variable {T:Tab}
def pst (st:St) (H:List HO) (K:List Nat):St:=⟨st.heap++H,st.aO++K,st.cur,st.heap.length,st.aO.length⟩
theorem xM (st:St):st.enter=pst st [] []:=by
 simp[St.enter,pst]
def fin (st:St) (rs:List dQ):Option (Ex×Fr×St)→Option (DV×St)
 | some (.exit _,_,_)=>none
 | some (.ret,fr,st')=>match dG st' fr rs with | some v=>(bj st st' v).map fun v'=>(v',st) | none=>none
 | some (.normal,fr,st')=>match dG st' fr rs with | some v=>(bj st st' v).map fun v'=>(v',st) | none=>none
 | none=>none
def Fb (rs:List dQ):Option (Ex×Fr×St)→Option (DV×St)
 | some (.exit _,_,_)=>none
 | some (.ret,fr,st')=>(dG st' fr rs).map fun v=>(v,st')
 | some (.normal,fr,st')=>(dG st' fr rs).map fun v=>(v,st')
 | none=>none
theorem aK {g:Nat} {f:ak} (h:T g=some (.code f)) (hp:f.ez=true) (args:List DV) (st:St) :
 (E T).F g args st=fin st f.results ((E T).C f.body (aX args 0) (pst st [] [])):=by
 rw[EF];simp only[cS,h,hp,if_true,xM];rcases (E T).C f.body (aX args 0) (pst st [] []) with _ | ⟨e,fr,st'⟩
 · rfl
 · cases e<;>rfl
theorem dV {g:Nat} {f:ak} (h:T g=some (.code f)) (hp:f.ez=false) (args:List DV) (st:St) :
 (E T).F g args st=Fb f.results ((E T).C f.body (aX args 0) st):=by
 rw[EF];simp only[cS,h,hp];rcases (E T).C f.body (aX args 0) st with _ | ⟨e,fr,st'⟩
 · rfl
 · cases e<;>rfl
@[simp] theorem Lz (st:St) (rs:List dQ) (fr:Fr) (st':St):fin st rs (some (.ret,fr,st'))=match dG st' fr rs with | some v=>(bj st st' v).map fun v'=>(v',st) | none=>none:=rfl
@[simp] theorem FY (st:St) (rs:List dQ) (fr:Fr) (st':St):fin st rs (some (.normal,fr,st'))=match dG st' fr rs with | some v=>(bj st st' v).map fun v'=>(v',st) | none=>none:=rfl
@[simp] theorem HQ (rs:List dQ) (fr:Fr) (st':St):Fb rs (some (.ret,fr,st'))=(dG st' fr rs).map fun v=>(v,st'):=rfl
@[simp] theorem D3 (rs:List dQ) (fr:Fr) (st':St):Fb rs (some (.normal,fr,st'))=(dG st' fr rs).map fun v=>(v,st'):=rfl
attribute [simp] dG dL gk
@[simp] theorem MC (st st':St) (k:IntKind) (n:Int):aL st st' (.int k n)=some (.int k n):=rfl
@[simp] theorem LM (st st':St) (b:Bool):aL st st' (.bool b)=some (.bool b):=rfl
@[simp] theorem Mg (st st':St) (s:List UInt8):aL st st' (.str s)=some (.str s):=rfl
@[simp] theorem Lo (st st':St):aL st st' .bG=some .bG:=rfl
@[simp] theorem GU (st st':St):aL st st' .aR=some .aR:=rfl
@[simp] theorem KE (st st':St):aL st st' .bt=some .bt:=rfl
@[simp] theorem LI (st st':St) (cs:List DV):aL st st' (.bC cs)=some (.bC cs):=rfl
@[simp] theorem eT (st st':St) (tag n:Nat) (tk:Tk) (nn:Bool) (xs:List DV):aL st st' (.list tag n tk nn xs)=some (.list tag n (match tk with | .own _ _=>.no | k=>k) nn xs):=rfl
@[simp] theorem KN (st st':St):b3 st st' []=some []:=rfl
@[simp] theorem GJ (st st':St) (v:DV) (r:List DV):b3 st st' (v::r)=match aL st st' v,b3 st st' r with | some a,some b=>some (a::b) | _,_=>none:=rfl
@[simp] theorem KA (st st':St):cd st st' []=some []:=rfl
@[simp] theorem GG (st st':St) (v:DV) (r:List DV):cd st st' (v::r)=match bE st st' v,cd st st' r with | some a,some b=>some (a::b) | _,_=>none:=rfl
@[simp] theorem GL (st st':St) (vs:List DV):bj st st' (.tuple vs)=(cd st st' vs).map .tuple:=rfl
@[simp] theorem Ly (st st':St) (vs:List DV):bE st st' (.agg vs)=(b3 st st' vs).map .agg:=rfl
@[simp] theorem LO (st st':St) (k:IntKind) (n:Int):bE st st' (.int k n)=some (.int k n):=rfl
@[simp] theorem Ld (st st':St) (b:Bool):bE st st' (.bool b)=some (.bool b):=rfl
@[simp] theorem LN (st st':St) (s:List UInt8):bE st st' (.str s)=some (.str s):=rfl
@[simp] theorem KT (st st':St):bE st st' .bG=some .bG:=rfl
@[simp] theorem He (st st':St) (tag n:Nat) (tk:Tk) (nn:Bool) (xs:List DV):bE st st' (.list tag n tk nn xs)=aL st st' (.list tag n tk nn xs):=rfl
@[simp] theorem LD (st st':St) (n:Nat) (ag:Bool) (b off len:Nat) (cap:Option Nat):bE st st' (.hsl n ag b off len cap)=aL st st' (.hsl n ag b off len cap):=rfl
@[simp] theorem Lp (st st':St) (k:IntKind) (n:Int):bj st st' (.int k n)=some (.int k n):=rfl
@[simp] theorem Il (st st':St) (b:Bool):bj st st' (.bool b)=some (.bool b):=rfl
@[simp] theorem Lu (st st':St) (s:List UInt8):bj st st' (.str s)=some (.str s):=rfl
@[simp] theorem IB (st st':St):bj st st' .bG=some .bG:=rfl
@[simp] theorem LC (st st':St) (vs:List DV):bj st st' (.agg vs)=(b3 st st' vs).map .agg:=rfl
@[simp] theorem Ko (st st':St) (tag n:Nat) (tk:Tk) (nn:Bool) (xs:List DV):bj st st' (.list tag n tk nn xs)=aL st st' (.list tag n tk nn xs):=rfl
@[simp] theorem Lr (st st':St) (n:Nat) (ag:Bool) (b off len:Nat) (cap:Option Nat):bj st st' (.hsl n ag b off len cap)=aL st st' (.hsl n ag b off len cap):=rfl
@[simp] theorem KH (st:St) (H:List HO) (K:List Nat) (o:HO):(pst st H K).push o=pst st (H++[o]) K:=by simp[pst,St.push]
@[simp] theorem LR (st:St) (H:List HO) (K:List Nat):(pst st H K).heap.length=st.heap.length+H.length:=by simp[pst]
@[simp] theorem Ls (st:St) (H:List HO) (K:List Nat):(pst st H K).cur=st.cur:=rfl
@[simp] theorem tC (st:St) (H:List HO) (K:List Nat):(pst st H K).base=st.heap.length:=rfl
@[simp] theorem GH (st:St) (H:List HO) (K:List Nat):(pst st H K).aF=st.aO.length:=rfl
theorem qF {α:Type} (J H:List α) (k:Nat):(J++H)[J.length+k]? = H[k]?:=by
 rw[aaq (Nat.le_add_right _ _),Nat.add_sub_cancel_left]
@[simp high] theorem eV (st:St) (H:List HO) (K:List Nat) (k:Nat):(pst st H K).heap[st.heap.length+k]? = H[k]?:=qF _ _ _
@[simp high] theorem LG (st:St) (H:List HO) (K:List Nat) (k:Nat):(pst st H K).aO[st.aO.length+k]? = K[k]?:=qF _ _ _
def rowAt (H:List HO) (k:Nat):Option (CK×List DV):=match H[k]? with | some (.cells g vs)=>some (g,vs) | _=>none
@[simp] theorem Fe (g:CK) (vs:List DV) (H:List HO):rowAt (.cells g vs::H) 0=some (g,vs):=rfl
@[simp] theorem Fu (o:HO) (H:List HO) (k:Nat):rowAt (o::H) (k+1)=rowAt H k:=rfl
@[simp] theorem GR (g:CK) (vs:List DV) (J H:List HO):rowAt (J++.cells g vs::H) J.length=some (g,vs):=by simp[rowAt]
@[simp] theorem Ft (o:HO) (J H:List HO) (k:Nat):rowAt (J++o::H) (J.length+(k+1))=rowAt H k:=by
  unfold rowAt;rw[qF];rfl
@[simp] theorem o8 (st:St) (H:List HO) (K:List Nat) (k:Nat):(pst st H K).cells (st.heap.length+k)=rowAt H k:=by
  unfold St.cells rowAt;rw[eV];rfl
@[simp] theorem E0 (st:St) (H:List HO) (K:List Nat):(pst st H K).cells st.heap.length=rowAt H 0:=by simpa using o8 st H K 0
@[simp] theorem x8 (st:St) (H:List HO) (K:List Nat) (k n off:Nat) (v:DV):jT (pst st H K) n (.ptr (st.heap.length+k) off) v =
 match rowAt H k with
 | some (g,vs)=>if g.wr=true∧v.leaves.length=n∧off+n≤vs.length∧v.leaves.all DV.aT=true then some (pst st (H.set k (.cells g (b4 vs off v.leaves))) K) else none
 | none=>none:=by
 unfold jT St.jL;simp only[o8,tC]
 cases h:rowAt H k with
 | none=>rfl
 | some p=>
   obtain⟨g,vs⟩:=p
   have hk:k<H.length:=by
    unfold rowAt at h;split at h
    · rename_i e;exact(aad.1 e).1
    · cases h
   cases hw:g.wr
   · simp[hw]
   · simp only[hw,if_true,true_and,Nat.le_add_right];split
     · rename_i hc;simp[pst,List.set_append_right]
     · rfl
@[simp] theorem EW (st:St) (H:List HO) (K:List Nat) (n off:Nat) (v:DV):jT (pst st H K) n (.ptr st.heap.length off) v =
 match rowAt H 0 with
 | some (g,vs)=>if g.wr=true∧v.leaves.length=n∧off+n≤vs.length∧v.leaves.all DV.aT=true then some (pst st (H.set 0 (.cells g (b4 vs off v.leaves))) K) else none
 | none=>none:=x8 st H K 0 n off v
attribute [simp] b4 CK.wr ix
@[simp] theorem JJ (k:IntKind) (n:Int):(DV.int k n).aT=true:=rfl
@[simp] theorem GP (b:Bool):(DV.bool b).aT=true:=rfl
@[simp] theorem G7 (s:List UInt8):(DV.str s).aT=true:=rfl
@[simp] theorem HP (b o:Nat):(DV.ptr b o).aT=true:=rfl
@[simp] theorem Gu:DV.bG.aT=true:=rfl
@[simp] theorem Gw (cs:List DV):(DV.bC cs).aT=true:=rfl
@[simp] theorem GN (t n:Nat) (tk:Tk) (nn:Bool) (xs:List DV):(DV.list t n tk nn xs).aT=true:=rfl
@[simp] theorem JD (n:Nat) (ag:Bool) (b off len:Nat) (cap:Option Nat):(DV.hsl n ag b off len cap).aT=true:=rfl
@[simp] theorem IV (b:Nat):(DV.map b).aT=true:=rfl
@[simp] theorem D5:DV.aR.aT=true:=rfl
@[simp] theorem LJ (g:Nat) (a c:List DV):(DV.fn g a c).aT=true:=rfl
@[simp] theorem E3:DV.bt.aT=true:=rfl
@[simp] theorem Eu (l:Nat):(DV.yield l).aT=true:=rfl
@[simp] theorem EX (b o:Nat):(DV.ptr b o).leaves=[.ptr b o]:=rfl
@[simp] theorem Ea:DV.bG.leaves=[.bG]:=rfl
@[simp] theorem FN (n:Nat) (ag:Bool) (b off len:Nat) (cap:Option Nat):(DV.hsl n ag b off len cap).leaves=[.hsl n ag b off len cap]:=rfl
@[simp] theorem Ff (b:Nat):(DV.map b).leaves=[.map b]:=rfl
@[simp] theorem BR:DV.aR.leaves=[.aR]:=rfl
@[simp] theorem GF (g:Nat) (a c:List DV):(DV.fn g a c).leaves=[.fn g a c]:=rfl
@[simp] theorem CH:DV.bt.leaves=[.bt]:=rfl
theorem zi (fr:Fr) (l:List Nat) (t:Nat):(fr.bl l).get t=if t∈l then fr.get t else .undef:=by
 induction l with
 | nil=>rfl
 | cons a l ih=>
   rw[yC];simp only[AK,aaA,ih];by_cases h:a=t
   · subst h;simp
   · have:t≠a:=fun e=>h e.symm;simp[h,this]
theorem yu (fr:Fr) (l:List Nat):(fr.bl l).bl l=fr.bl l:=by
 unfold Fr.bl;apply abs;intro t ht;have:=zi fr l t;rw[if_pos ht] at this;exact Prod.ext rfl this
theorem sA (live:List Nat) (a:RC) (fr:Fr) (st:St):(E T).C (.loop live a) fr st=(E T).C (.loop live a) (fr.bl live) st:=by
 rw[u4,u4 live a (fr.bl live),yu]
theorem al {L:RC} {live:List Nat} {a:RC} (h:L=.loop live a) (fr:Fr) (st:St) :
 (E T).C L fr st=match (E T).C a (fr.bl live) st with
  | some (.normal,fr',st')=>(E T).C L fr' st'
  | some (.exit i,fr',st')=>some (.exit i,fr',st')
  | some (.ret,fr',st')=>some (.ret,fr',st')
  | none=>none:=by
 subst h;exact u4 live a fr st
theorem Ce {o:af} {fr:Fr} {st st':St} {v:DV} (hq:aP (ai T) o.op=false) (h:(E T).N o fr st=some (v,st')):st'=st:=by
 have hF:∀ (g:Nat) (as_:List DV),ai T g=true→(E T).F g as_ st=some (v,st')→st'=st:=by
  intro g as_ hg h;rw[EF] at h;simp only[cS] at h;unfold ai at hg;split at h
  · cases h
  · rename_i e;rw[e] at hg;cases hg
  · simp only[aae,Prod.mk.injEq] at h;obtain⟨_,_,_,h⟩:=h;exact h.symm
  · rename_i f e;rw[e] at hg;simp only at hg;simp only[hg,if_true] at h;split at h
    · cases h
    · split at h
      · simp only[aae,Prod.mk.injEq] at h;obtain⟨_,_,_,h⟩:=h;exact h.symm
      · cases h
    · cases h
 rw[EN] at h;simp only[di] at h;split at h
 · cases h
 · cases h;rfl
 · split at h
   · rename_i g args e;rw[e] at hq;exact hF g _ (by simpa[aP] using hq) h
   · rename_i e;rw[e] at hq;cases hq
   · rename_i f args e;split at h
     · split at h
       · rename_i hg;exact hF _ _ hg h
       · cases h
     · cases h
   · exact lG hq h
@[simp] theorem Np (fr:Fr) (st:St) (sts:List St):(E T).S [] fr st sts=some (fr,sts):=ES _ _ _ _ _
theorem gj (o:af) (r:List af) (fr:Fr) (st:St) (sts:List St) :
 (E T).S (o::r) fr st sts=match (E T).N o fr st with
  | some (v,st')=>if aP (ai T) o.op then (E T).S r (fr.put o.dst v) st' (st'::sts) else (E T).S r (fr.put o.dst v) st sts
  | none=>none:=ES _ _ _ _ _
theorem S_O:∀ (ops:List af) (fr:Fr) (st:St) (sts:List St),((E T).S ops fr st (st::sts)).bind (fun p=>p.2.head?.map fun st'=>(p.1,st'))=(E T).O ops fr st
 | [],fr,st,sts=>by simp
 | o::r,fr,st,sts=>by
   rw[gj,FV]
   cases e:(E T).N o fr st with
   | none=>rfl
   | some p=>
     obtain⟨v,st'⟩:=p;simp only
     cases hl:aP (ai T) o.op with
     | true=>simp only[if_true];exact S_O r _ st' (st::sts)
     | false=>
       obtain rfl:=Ce hl e;simp only[aam,if_false];exact S_O r _ st' sts
@[simp] theorem Fl (ops:List af) (live:List Nat) (fr:Fr) (st:St):(E T).C (.av ops [] [] live) fr st=(E T).C (.region ops live) fr st:=by
  rw[zw,← S_O ops fr st [],EC];simp only[b7,fg]
  cases e:(E T).S ops fr st [st] with
  | none=>rfl
  | some p=>
    obtain⟨fr',sts⟩:=p;have hA:(E T).A fr' ops sts.reverse []=true:=EA _ _ _ _ _;simp only[hA,if_true,Option.bind_some];cases sts<;>rfl
theorem cO (ops:List af) (c:Nat×List Nat) (chk:List (Nat×List Nat)) (live:List Nat) (fr:Fr) (st:St):(E T).C (.av ops [] (c::chk) live) fr st =
 match (E T).S ops fr st [st] with
 | some (fr',sts)=>if (E T).A fr' ops sts.reverse (c::chk)=true then (match sts with | st'::_=>some (.normal,fr'.bl live,st') | []=>none) else none
 | none=>none:=by
 rw[EC];simp only[b7,fg]
 all_goals cases (E T).S ops fr st [st] with
 | none=>rfl
 | some p=>obtain⟨fr',sts⟩:=p;rfl
@[simp] theorem No (fr:Fr) (ops:List af) (sts:List St):(E T).A fr ops sts []=true:=EA _ _ _ _ _
theorem iU (fr:Fr) (ops:List af) (sts:List St) (i:Nat) (vs:List Nat) (r:List (Nat×List Nat)) :
 (E T).A fr ops sts ((i,vs)::r)=((match ops[i]? with | some o=>(E T).K fr o sts vs | none=>false)&&(E T).A fr ops sts r):=EA _ _ _ _ _
@[simp] theorem Nr (fr:Fr) (o:af) (sts:List St):(E T).K fr o sts []=true:=EK _ _ _ _ _
theorem iJ (fr:Fr) (o:af) (sts:List St) (j:Nat) (r:List Nat) :
 (E T).K fr o sts (j::r)=((match sts[j]? with
  | some st=>(match (E T).N o fr st,o.dst with | some (v,_),some d=>DV.beq v (fr.get d) | _,_=>false)
  | none=>false)&&(E T).K fr o sts r):=EK _ _ _ _ _
@[simp] theorem GQ (v:DV):DV.beq v v=true:=DV.mT v
theorem lq {g:Nat} {f:ak} (h:T g=some (.code f)):ai T g=f.ez:=by unfold ai;rw[h]
def St.ow (st:St) (l:Nat) (o:HO):St:={ st with heap:=st.heap.set l o }
@[simp] theorem kh (st:St) (H:List HO) (K:List Nat) (k:Nat) (o:HO):(pst st H K).ow (st.heap.length+k) o=pst st (H.set k o) K:=by
  simp[St.ow,pst,List.set_append_right]
theorem x6 {g:Nat} {f:ak} (h:T g=some (.code f)):du T g=true:=by unfold du;rw[h]
theorem xc {f:X} {params live:List Nat} {assign body:RC} {fr:Fr} {st:St} {g:Nat} {first captured:List DV} {F:ak} (hf:f.ev (fr.bl live)=.fn g first captured) (hg:T g=some (.code F)) :
 (E T).C (.eZ f params assign body live) fr st =
  match (E T).F g (first++[.yield st.heap.length]++captured) (st.push (.loop ⟨fr.bl live,params,assign,body,0,none⟩)) with
  | some (_,st')=>
    match st'.heap[st.heap.length]? with
    | some (.loop lo)=>if lo.state=1 then none else
     match lo.pending with
     | none=>some (.normal,fr.bl live,st'.ow st.heap.length (.loop { lo with state:=3 }))
     | some e=>some (e,fr.bl live,st'.ow st.heap.length (.loop { lo with state:=3 }))
    | _=>none
  | none=>none:=by
 rw[EC];simp only[b7,hf,x6 hg,if_true];rfl
theorem cU (g:Nat) (first captured args:List DV) (st:St):(E T).V (.fn g first captured) args st=(E T).F g (first++args++captured) st:=EV _ _ _ _
theorem wA {st:St} {H:List HO} {K:List Nat} {k:Nat} {lo:jX} {args:List DV} (h:H[k]? = some (.loop lo)) (hl:args.length=lo.params.length) :
 (E T).V (.yield (st.heap.length+k)) args (pst st H K) =
  match (E T).C lo.assign (cl lo.fr lo.params args) (pst st H K) with
  | some (.normal,fr1,st1)=>
    match st1.heap[st.heap.length+k]? with
    | some (.loop lo1)=>
      if lo1.state=0 then
       match (E T).C lo.body fr1 (st1.ow (st.heap.length+k) (.loop { lo1 with state:=1 })) with
       | some (.normal,_,st2)=>
         match st2.heap[st.heap.length+k]? with
         | some (.loop lo2)=>some (.bool true,st2.ow (st.heap.length+k) (.loop { lo2 with state:=0,pending:=none }))
         | _=>none
       | some (.exit i,_,st2)=>
         match st2.heap[st.heap.length+k]? with
         | some (.loop lo2)=>some (.bool false,st2.ow (st.heap.length+k) (.loop { lo2 with state:=2,pending:=some (.exit i) }))
         | _=>none
       | some (.ret,_,st2)=>
         match st2.heap[st.heap.length+k]? with
         | some (.loop lo2)=>some (.bool false,st2.ow (st.heap.length+k) (.loop { lo2 with state:=2,pending:=some .ret }))
         | _=>none
       | none=>none
      else none
    | _=>none
  | _=>none:=by
 rw[EV];simp only[hM,eV,h,tC,Nat.le_add_right,hl,and_self,if_true];rcases (E T).C lo.assign (cl lo.fr lo.params args) (pst st H K) with _ | ⟨e,fr1,st1⟩
 · rfl
 · cases e<;>try rfl
   simp only
   cases e1:st1.heap[st.heap.length+k]? with
   | none=>rfl
   | some o=>
     cases o<;>try rfl
     simp only;split
     · rename_i lo1 h0;show (match (E T).C lo.body fr1 (st1.ow (st.heap.length+k) (.loop { lo1 with state:=1 })) with | some (e,_,st2)=>_ | none=>none)=_;rcases (E T).C lo.body fr1 (st1.ow (st.heap.length+k) (.loop { lo1 with state:=1 })) with _ | ⟨e,fr2,st2⟩
       · rfl
       · cases e<;>rfl
     · rfl
@[simp] theorem HV (f:X) (args:List X) (fr:Fr) (st:St):opE T (.bd f args) fr st=(E T).V (f.ev fr) (args.map (X.ev fr)) st:=rfl
attribute [simp] cl
def tU (tk:Tk) (len lo hi:Nat):Tk:=if hi=len then (if lo=0 then tk else if tk=.tight then .tight else .no) else .no
theorem jg {k:IntKind} {i:Int} {m:Nat} (h0:0≤i) (h1:i≤m):bnd (.int k i) m=some i.toNat:=by
 simp[bnd,h0,h1]
theorem rM {n en t:Nat} {tk:Tk} {nn:Bool} {xs:List DV} {k k':IntKind} {lo hi:Int} (hn:nn=true→en=n) (h0:0≤lo) (h1:lo≤hi) (h2:hi≤xs.length) :
 b6 false n (.list t en tk nn xs) (some (.int k lo)) (some (.int k' hi)) none=some (.list t en (tU tk xs.length lo.toNat hi.toNat) nn ((xs.drop lo.toNat).take (hi.toNat-lo.toNat))):=by
 have e1:¬ (nn=true∧en≠n):=fun h=>h.2 (hn h.1);simp[b6,e1,jg (k:=k') (show 0≤hi by omega) h2,jg (k:=k) (m:=hi.toNat) h0 (by omega),tU]
theorem qO {n en t:Nat} {tk:Tk} {nn:Bool} {xs:List DV} {k:IntKind} {lo:Int} (hn:nn=true→en=n) (h0:0≤lo) (h2:lo≤xs.length) :
 b6 false n (.list t en tk nn xs) (some (.int k lo)) none none=some (.list t en (tU tk xs.length lo.toNat xs.length) nn (xs.drop lo.toNat)):=by
 have e1:¬ (nn=true∧en≠n):=fun h=>h.2 (hn h.1);have e:(xs.drop lo.toNat).take (xs.length-lo.toNat)=xs.drop lo.toNat:=aa0 (by simp);simp[b6,e1,jg (k:=k) (m:=xs.length) h0 (by omega),tU,e]
theorem AH {n:Nat} {s:List UInt8} {k:IntKind} {hi:Int} (h0:0≤hi) (h2:hi≤s.length) :
 b6 true n (.str s) none (some (.int k hi)) none=some (.str (s.take hi.toNat)):=by
 simp[b6,jg (k:=k) (m:=s.length) h0 (by omega)]
@[simp] theorem Fw (k:IntKind) (n:Int):(DV.int k n).aE=.int k n:=rfl
@[simp] theorem Ed (b:Bool):(DV.bool b).aE=.bool b:=rfl
@[simp] theorem Gc (s:List UInt8):(DV.str s).aE=.str s:=rfl
@[simp] theorem El:DV.bG.aE=.bG:=rfl
@[simp] theorem Gy (t n:Nat) (nn:Bool) (xs:List DV):(DV.list t n .no nn xs).aE=.list t n .no nn xs:=rfl
@[simp] theorem Dx (t n:Nat) (nn:Bool) (xs:List DV):(DV.list t n .tight nn xs).aE=.list t n .tight nn xs:=rfl
@[simp] theorem E8 (t n a b:Nat) (nn:Bool) (xs:List DV):(DV.list t n (.own a b) nn xs).aE=.list t n .no nn xs:=rfl
@[simp] theorem GY (k:IntKind) (n:Int):(DV.int k n).pure=true:=rfl
@[simp] theorem GI (b:Bool):(DV.bool b).pure=true:=rfl
@[simp] theorem Lh (s:List UInt8):(DV.str s).pure=true:=rfl
@[simp] theorem Gv:DV.bG.pure=true:=rfl
@[simp] theorem LP (t n:Nat) (nn:Bool) (xs:List DV):(DV.list t n .no nn xs).pure=true:=rfl
@[simp] theorem Ey (t n:Nat) (nn:Bool) (xs:List DV):(DV.list t n .tight nn xs).pure=true:=rfl
def eG (n:Nat) (ag:Bool) (y:DV):Prop:=y.leaves.length=n∧y.leaves.all DV.pure=true∧(if ag then y=.agg y.leaves else y.leaves=[y])
theorem tL {v:DV} (h:v.pure=true):v.aE=v:=by
 cases v<;>first | rfl | (rename_i t n tk nn xs;cases tk<;>first | rfl | (simp[DV.pure] at h))
theorem cW:∀ {vs:List DV},vs.all DV.pure=true→vs.map DV.aE=vs
 | [],_=>rfl
 | v::r,h=>by
   rw[List.all_cons,aab] at h;rw[aaP,tL h.1,cW h.2]
theorem gz {n:Nat} {ag:Bool} {ys:List DV} (h:∀ y∈ys,eG n ag y):(flat ys).all DV.pure=true:=by
 rw[aaf];intro v hv;obtain⟨y,hy,hv⟩:=aaC.1 hv;exact aaf.1 (h y hy).2.1 v hv
theorem dR {n:Nat} {ag:Bool}:∀ {ys:List DV},(∀ y∈ys,eG n ag y)→chunk n ag ys.length (flat ys)=ys
 | [],_=>rfl
 | y::r,h=>by
   obtain⟨h1,h2,h3⟩:=h y (aap ..);have e:flat (y::r)=y.leaves++flat r:=by simp[flat]
   have ih:=dR (ys:=r) fun z hz=>h z (aao _ hz);rw[aaw,chunk,e];have e1:(y.leaves++flat r).take n=y.leaves:=by rw[← h1];simp
   have e2:(y.leaves++flat r).drop n=flat r:=by rw[← h1];simp
   rw[e1,e2,ih]
   cases ag with
   | true=>simp only[if_true] at h3 ⊢;rw[← h3]
   | false=>simp only[aam,if_false] at h3 ⊢;rw[h3];rfl
theorem pB {st:St} {n t:Nat} {tk:Tk} {ys:List DV}:bQ st n (.list t n tk true ys)=some (ys.length,flat ys):=by simp[bQ]
theorem Ba {st:St} {n n' t by_:Nat} {ag:Bool} {tk:Tk} {nn:Bool} {xs:List DV} {y:DV} (hy:bQ st n y=some (0,[])):bJ st n ag by_ (.list t n' tk nn xs) y=some (.list t n' tk nn xs,st):=by
 simp[bJ,hy]
theorem v7 {st:St} {H:List HO} {K:List Nat} {n n' t t' by_:Nat} {ag:Bool} {tk tk':Tk} {nn:Bool} {xs ys:List DV} (hx:nn=false∨(nn=true∧tk=.tight∧n'=n)) (hn:0<n) (hy:ys≠[]) (he:∀ y∈ys,eG n ag y)
 (hr:(xs.length+ys.length)*by_≤ay) (hr2:xs.length+ys.length≤ay) :
 bJ (pst st H K) n ag by_ (.list t n' tk nn xs) (.list t' n tk' true ys)=some (.list st.cur n (.own (st.aO.length+K.length) 0) true (xs++ys),pst st H (K++[0])):=by
 have hl:ys.length≠0:=fun h=>hy (aaY.1 h);have hp:(flat ys).all DV.pure=true:=gz he;have hc:=dR he;have h0:¬ n=0:=by omega
 have h1:¬ (nn=true∧n'≠n):=by rcases hx with h | ⟨_,_,h⟩<;>simp[h]
 have h2:¬ ((xs.length+ys.length)*by_>ay):=by omega
 have h3:¬ (xs.length+ys.length>ay):=by omega
 simp only[bJ,pB,cW hp,hc,hl,h0,h1,h2,h3,hp,if_false,Bool.not_true,aam,or_false];rcases hx with rfl | ⟨rfl,rfl,_⟩<;>simp[pst]
theorem xd {st:St} {H:List HO} {K:List Nat} {n t t' by_ k s:Nat} {ag:Bool} {tk':Tk} {xs ys:List DV} (hk:K[k]? = some s) (hn:0<n) (hy:ys≠[]) (he:∀ y∈ys,eG n ag y)
 (hr:(xs.length+ys.length)*by_≤ay) (hr2:xs.length+ys.length≤ay) :
 bJ (pst st H K) n ag by_ (.list t n (.own (st.aO.length+k) s) true xs) (.list t' n tk' true ys)=some (.list st.cur n (.own (st.aO.length+k) (s+1)) true (xs++ys),pst st H (K.set k (s+1))):=by
 have hl:ys.length≠0:=fun h=>hy (aaY.1 h);have hp:(flat ys).all DV.pure=true:=gz he;have hc:=dR he;have h0:¬ n=0:=by omega
 have h2:¬ ((xs.length+ys.length)*by_>ay):=by omega
 have h3:¬ (xs.length+ys.length>ay):=by omega
 simp only[bJ,pB,cW hp,hc,hl,h0,h2,h3,hp,if_false,Bool.not_true,aam,or_false,ne_eq,not_true_eq_false,and_false];simp[hk];simp[pst,List.set_append_right]
def Acc (st:St) (K:List Nat) (n:Nat) (xs:List DV) (v:DV):Prop:=
 (xs=[]∧∃ t n' tk,v=.list t n' tk false [])∨∃ k s,v=.list st.cur n (.own (st.aO.length+k) s) true xs∧K[k]? = some s
theorem fR (st:St) (K:List Nat) (n t n':Nat) (tk:Tk):Acc st K n [] (.list t n' tk false []):=.inl ⟨rfl,t,n',tk,rfl⟩
theorem jf {st:St} {H:List HO} {K:List Nat} {n t by_:Nat} {ag:Bool} {tk:Tk} {xs ys:List DV} {v:DV} (h:Acc st K n xs v) (hn:0<n) (hy:ys≠[]) (he:∀ y∈ys,eG n ag y)
 (hr:(xs.length+ys.length)*by_≤ay) (hr2:xs.length+ys.length≤ay) :
 ∃ v' K',bJ (pst st H K) n ag by_ v (.list t n tk true ys)=some (v',pst st H K')∧Acc st K' n (xs++ys) v':=by
 rcases h with ⟨rfl,t,n',tk,rfl⟩ | ⟨k,s,rfl,hk⟩
 · exact⟨_,_,v7 (.inl rfl) hn hy he hr hr2,.inr ⟨K.length,0,rfl,by simp⟩⟩
 · refine⟨_,_,xd hk hn hy he hr hr2,.inr ⟨k,s+1,rfl,?_⟩⟩;have:=(aad.1 hk).1;simp[this]
theorem pY {st:St} {K:List Nat} {n:Nat} {xs:List DV} {v:DV} {st':St} (h:Acc st K n xs v):∃ t n' tk nn,aL st st' v=some (.list t n' tk nn xs)∧(nn=false→xs=[])∧(nn=true→n'=n)∧(tk=.no∨nn=false):=by
 rcases h with ⟨rfl,t,n',tk,rfl⟩ | ⟨k,s,rfl,hk⟩
 · exact⟨t,n',_,false,rfl,fun _=>rfl,(fun h=>by cases h),.inr rfl⟩
 · exact⟨_,n,_,true,rfl,(fun h=>by cases h),fun _=>rfl,.inl rfl⟩
theorem ib {st:St} {K:List Nat} {n:Nat} {xs:List DV} {v:DV} (h:Acc st K n xs v):∃ t n' tk nn,v=.list t n' tk nn xs:=by
 rcases h with ⟨rfl,t,n',tk,rfl⟩ | ⟨k,s,rfl,hk⟩
 · exact⟨_,_,_,_,rfl⟩
 · exact⟨_,_,_,_,rfl⟩
theorem aG {n:Int} (h:-9223372036854775808≤n∧n≤9223372036854775807):IntKind.i64.wrap n=n:=IntWalk.i64_in n h
end Go.D
end
section
namespace Go.D.Tab
def kg (F:Nat→DV):List DV→Option DV
 | [.int .u8 (.ofNat c)]=>if c<256 then some (F c) else none
 | _=>none
theorem ly {g:Nat} {F:Nat→DV} (hr:((aal 256).all fun c=>jx tree.get 1000 g [.int .u8 (.ofNat c)] st0 (F c))=true) (hf:∀ c,(F c).free=true):∀ as_ v,kg F as_=some v→Ran tree.get g as_ v:=by
 intro as_ v h;unfold kg at h;split at h
 · rename_i c;split at h
   · rename_i hc;injection h with h;subst h;exact vq rfl (hf c) (aaf.1 hr c (abq.2 hc))
   · cases h
 · cases h
def emL:List Nat:=[0,0,0,0,0,0,0,0,0,0,0,0,0,0,0,0,0,0,0,0,0,0,0,0,0,0,0,0,0,0,0,0,3,2,3,6,6,6,6,2,3,3,6,6,2,3,2,6,5,5,5,5,5,5,5,5,5,5,2,2,6,6,6,6,6,6,6,6,6,6,6,6,6,3,6,6,6,8,6,6,6,6,6,6,6,6,6,8,6,6,6,3,6,3,3,3,3,5,5,5,5,5,3,5,5,2,2,5,2,7,5,5,5,5,3,5,3,5,5,7,5,5,5,3,2,3,3,0,0,0,0,0,0,0,0,0,0,0,0,0,0,0,0,0,0,0,0,0,0,0,0,0,0,0,0,0,0,0,0,0,0,0,0,0,0,0,0,0,0,0,0,0,0,0,0,0,0,0,0,0,0,0,0,0,0,0,0,0,0,0,0,0,0,0,0,0,0,0,0,0,0,0,0,0,0,0,0,0,0,0,0,0,0,0,0,0,0,0,0,0,0,0,0,0,0,0,0,0,0,0,0,0,0,0,0,0,0,0,0,0,0,0,0,0,0,0,0,0,0,0,0,0,0,0,0,0]
def em (c:Nat):Int:=abh (emL.getD c 0)
def emV (c:Nat):DV:=.int .i64 (em c)
def kdL:List Nat:=[0,6,7,8,0,0,0,0,0,4,0,0,0,0,0,0,0,0,0,0,0,0,0,0,0,0,0,0,0,0,0,5,3,2,2,2,2,2,2,2,2,2,2,2,2,2,2,2,2,2,2,2,2,2,2,2,2,2,2,2,2,2,2,2,2,1,1,1,1,1,1,1,1,1,1,1,1,1,1,1,1,1,1,1,1,1,1,1,1,1,1,2,2,2,2,2,2,1,1,1,1,1,1,1,1,1,1,1,1,1,1,1,1,1,1,1,1,1,1,1,1,1,1,2,2,2,2,0,0,0,0,0,0,0,0,0,0,0,0,0,0,0,0,0,0,0,0,0,0,0,0,0,0,0,0,0,0,0,0,0,0,0,0,0,0,0,0,0,0,0,0,0,0,0,0,0,0,0,0,0,0,0,0,0,0,0,0,0,0,0,0,0,0,0,0,0,0,0,0,0,0,0,0,0,0,0,0,0,0,0,0,0,0,0,0,0,0,0,0,0,0,0,0,0,0,0,0,0,0,0,0,0,0,0,0,0,0,0,0,0,0,0,0,0,0,0,0,0,0,0,0,0,0,0,0,0]
def kd (c:Nat):Int:=abh (kdL.getD c 0)
def kdV (c:Nat):DV:=.int .i64 (kd c)
def wu (c:Nat):Bool:=c==94||c==96||c==126
def F0 (c:Nat):DV:=.bool (wu c)
theorem yq:((List.range 256).all fun c=>jx tree.get 1000 21 [.int .u8 (.ofNat c)] st0 (emV c))=true:=by kernel_rfl
theorem xG:((List.range 256).all fun c=>jx tree.get 1000 68 [.int .u8 (.ofNat c)] st0 (kdV c))=true:=by kernel_rfl
theorem uO:((List.range 256).all fun c=>jx tree.get 1000 70 [.int .u8 (.ofNat c)] st0 (F0 c))=true:=by kernel_rfl
def eX:List (Nat×(List DV→Option DV)):=[(21,kg emV),(68,kg kdV),(70,kg F0)]
theorem mF:∀ x∈eX,∀ as_ v,x.2 as_=some v→Ran tree.get x.1 as_ v:=by
 intro x hx;simp only[eX,aaA,abr,or_false] at hx;rcases hx with rfl | rfl | rfl
 · exact ly yq fun _=>rfl
 · exact ly xG fun _=>rfl
 · exact ly uO fun _=>rfl
theorem lW:∀ x∈eX,ai tree.get x.1=true:=by
 intro x hx;simp only[eX,aaA,abr,or_false] at hx;rcases hx with rfl | rfl | rfl<;>kernel_rfl
def AA:List DV→Option DV
 | []=>some (.bool true)
 | _=>none
theorem yc {g:Nat} (h:∃ n,jx tree.get n g [] st0 (.bool true)=true):∀ as_ v,AA as_=some v→Ran tree.get g as_ v:=by
 intro as_ v e;obtain⟨n,h⟩:=h
 cases as_ with
 | nil=>cases e;exact vq rfl rfl h
 | cons a r=>cases e
def p3:Nat→Nat→List UInt8
 | 0,_=>[]
 | f+1,n=>if n<10 then [abj (48+n)] else p3 f (n/10)++[abj (48+n%10)]
def cE (n:Nat):List UInt8:=p3 5 n
noncomputable def bI (n:Nat):Bool:=jx tree.get 100000 374 [.int .i64 (.ofNat n)] st0 (.str (cE n))
theorem Df:((List.range 128).all fun c=>bI (0+c))=true:=by kernel_rfl
theorem BX:((List.range 128).all fun c=>bI (128+c))=true:=by kernel_rfl
theorem Du:((List.range 128).all fun c=>bI (256+c))=true:=by kernel_rfl
theorem Cb:((List.range 128).all fun c=>bI (384+c))=true:=by kernel_rfl
theorem Db:((List.range 128).all fun c=>bI (512+c))=true:=by kernel_rfl
theorem BT:((List.range 128).all fun c=>bI (640+c))=true:=by kernel_rfl
theorem Ci:((List.range 128).all fun c=>bI (768+c))=true:=by kernel_rfl
theorem CC:((List.range 128).all fun c=>bI (896+c))=true:=by kernel_rfl
theorem CP:((List.range 128).all fun c=>bI (1024+c))=true:=by kernel_rfl
theorem Cl:((List.range 128).all fun c=>bI (1152+c))=true:=by kernel_rfl
theorem zV:((List.range 128).all fun c=>bI (1280+c))=true:=by kernel_rfl
theorem zN:((List.range 128).all fun c=>bI (1408+c))=true:=by kernel_rfl
theorem yJ:((List.range 128).all fun c=>bI (1536+c))=true:=by kernel_rfl
theorem z5:((List.range 128).all fun c=>bI (1664+c))=true:=by kernel_rfl
theorem Bx:((List.range 128).all fun c=>bI (1792+c))=true:=by kernel_rfl
theorem zA:((List.range 128).all fun c=>bI (1920+c))=true:=by kernel_rfl
theorem zB:((List.range 128).all fun c=>bI (2048+c))=true:=by kernel_rfl
theorem Bp:((List.range 128).all fun c=>bI (2176+c))=true:=by kernel_rfl
theorem zy:((List.range 128).all fun c=>bI (2304+c))=true:=by kernel_rfl
theorem AN:((List.range 128).all fun c=>bI (2432+c))=true:=by kernel_rfl
theorem zh:((List.range 128).all fun c=>bI (2560+c))=true:=by kernel_rfl
theorem zt:((List.range 128).all fun c=>bI (2688+c))=true:=by kernel_rfl
theorem Bi:((List.range 128).all fun c=>bI (2816+c))=true:=by kernel_rfl
theorem yR:((List.range 128).all fun c=>bI (2944+c))=true:=by kernel_rfl
theorem zp:((List.range 128).all fun c=>bI (3072+c))=true:=by kernel_rfl
theorem zj:((List.range 128).all fun c=>bI (3200+c))=true:=by kernel_rfl
theorem z0:((List.range 128).all fun c=>bI (3328+c))=true:=by kernel_rfl
theorem BA:((List.range 128).all fun c=>bI (3456+c))=true:=by kernel_rfl
theorem zC:((List.range 128).all fun c=>bI (3584+c))=true:=by kernel_rfl
theorem zc:((List.range 128).all fun c=>bI (3712+c))=true:=by kernel_rfl
theorem zv:((List.range 128).all fun c=>bI (3840+c))=true:=by kernel_rfl
theorem z7:((List.range 128).all fun c=>bI (3968+c))=true:=by kernel_rfl
theorem zG:((List.range 128).all fun c=>bI (4096+c))=true:=by kernel_rfl
theorem yy:∀ i,i<33→((aal 128).all fun c=>bI (128*i+c))=true
 | 0,_=>Df
 | 1,_=>BX
 | 2,_=>Du
 | 3,_=>Cb
 | 4,_=>Db
 | 5,_=>BT
 | 6,_=>Ci
 | 7,_=>CC
 | 8,_=>CP
 | 9,_=>Cl
 | 10,_=>zV
 | 11,_=>zN
 | 12,_=>yJ
 | 13,_=>z5
 | 14,_=>Bx
 | 15,_=>zA
 | 16,_=>zB
 | 17,_=>Bp
 | 18,_=>zy
 | 19,_=>AN
 | 20,_=>zh
 | 21,_=>zt
 | 22,_=>Bi
 | 23,_=>yR
 | 24,_=>zp
 | 25,_=>zj
 | 26,_=>z0
 | 27,_=>BA
 | 28,_=>zC
 | 29,_=>zc
 | 30,_=>zv
 | 31,_=>z7
 | 32,_=>zG
 | n+33,h=>by omega
theorem zx {n:Nat} (h:n<4224):bI n=true:=by
 have h1:=aaf.1 (yy (n/128) (by omega)) (n%128) (abq.2 (by omega))
 rwa [Nat.div_add_mod] at h1
def wU:List DV→Option DV
 | [.int .i64 (.ofNat n)]=>if n<4224 then some (.str (cE n)) else none
 | _=>none
theorem xK:∀ as_ v,wU as_=some v→Ran tree.get 374 as_ v:=by
 intro as_ v h;unfold wU at h;split at h
 · rename_i n;split at h
   · rename_i hn;injection h with h;subst h;exact vq rfl rfl (zx hn)
   · cases h
 · cases h
theorem sm:jx tree.get 10000000 395 [] st0 (.bool true)=true:=by kernel_rfl
def known:List (Nat×(List DV→Option DV)):=[(395,AA),(374,wU)]++eX
def tab:Tab:=over tree.get known
theorem yf:∀ x∈known,∀ as_ v,x.2 as_=some v→Ran tree.get x.1 as_ v:=by
 intro x hx;rcases aaG.1 hx with hx | hx
 · simp only[aaA,abr,or_false] at hx;rcases hx with rfl | rfl
   · exact yc ⟨_,sm⟩
   · exact xK
 · exact mF x hx
theorem vB:∀ x∈known,ai tree.get x.1=true:=by
 intro x hx;rcases aaG.1 hx with hx | hx
 · simp only[aaA,abr,or_false] at hx;rcases hx with rfl | rfl<;>kernel_rfl
 · exact lW x hx
theorem Hp:tab 395=some (.dx AA):=by kernel_rfl
theorem uM (st:St):(E tab).F 395 [] st=some (.bool true,st):=qC Hp rfl
theorem JG:tab 374=some (.dx wU):=by kernel_rfl
theorem zn {n:Nat} (h:n<4224) (st:St):(E tab).F 374 [.int .i64 n] st=some (.str (cE n),st):=qC JG (by
 show (if n<4224 then some (DV.str (cE n)) else none)=_
 rw[if_pos h])
@[simp] theorem DN (n:Nat):¬ ((n:Int)<0):=by omega
theorem kq {H:List HO} {k:Nat} {x:CK×List DV} (h:rowAt H k=some x):k<H.length:=by
 unfold rowAt at h;split at h
 · rename_i e;exact(aad.1 e).1
 · cases h
theorem mV {H X:List HO} {k:Nat} (h:k<H.length):rowAt (H++X) k=rowAt H k:=by
 unfold rowAt;rw[aaj h]
theorem eU {H:List HO} {k:Nat} (h:k<H.length) (g:CK) (vs:List DV):rowAt (H.set k (.cells g vs)) k=some (g,vs):=by
 unfold rowAt;rw[aa6 h]
theorem AM {H X:List HO} {k:Nat} (h:k<H.length) (o:HO):(H++X).set k o=H.set k o++X:=List.set_append_left _ _ h
theorem gH {H:List HO} {k:Nat} {g:CK} {vs:List DV} (h:rowAt H k=some (g,vs)) (X:List HO):rowAt (H++X) k=some (g,vs):=by
 rw[mV (kq h),h]
theorem gO {H:List HO} {k:Nat} (h:k<H.length) (g:CK) (vs:List DV) (X:List HO):rowAt (H.set k (.cells g vs)++X) k=some (g,vs):=by
 rw[mV (by simpa using h),eU h]
theorem j9 {H:List HO} {k:Nat} (h:k<H.length) (o o':HO) (X:List HO):(H.set k o++X).set k o'=H.set k o'++X:=by
 rw[AM (by simpa using h),List.set_set]
theorem tP {H X:List HO} (j:Nat):rowAt (H++X) (H.length+j)=rowAt X j:=by
 unfold rowAt;rw[qF]
theorem xH (st:St) (k:Nat):st.lK (st.heap.length+k)=false:=by
 unfold St.lK;rw[List.getElem?_eq_none (Nat.le_add_right _ _)]
theorem sa {st:St} {H:List HO} {K:List Nat} {k:Nat} {g:CK} {vs:List DV} (h:rowAt H k=some (g,vs)):(pst st H K).heap[st.heap.length+k]? = some (.cells g vs):=by
 rw[eV];unfold rowAt at h;split at h
 · rename_i e;simp only[aaa.injEq,Prod.mk.injEq] at h;rw[e,h.1,h.2]
 · cases h
theorem rL {n:Nat} {ag:Bool}:∀ {ys:List DV},(∀ y∈ys,eG n ag y)→(flat ys).length=ys.length*n
 | [],_=>by simp[flat]
 | y::r,h=>by
   have h1:=(h y (aap ..)).1;have h2:=rL (ys:=r) fun z hz=>h z (aao _ hz);simp only[flat,abn,aah,h1,aaw] at h2 ⊢;rw[h2,Nat.succ_mul];omega
theorem Gn {st:St} {H:List HO} {K:List Nat} {k n:Nat} {ag:Bool} {g:CK} {ys:List DV} {cap:Option Nat} (hr:rowAt H k=some (g,flat ys)) (hn:0<n) (hag:ag=true∨n=1) (he:∀ y∈ys,eG n ag y) :
 aL st (pst st H K) (.hsl n ag (st.heap.length+k) 0 ys.length cap)=some (.list st.cur n (if cap=some ys.length then .tight else .no) true ys):=by
 have hl:=rL he;have hp:=gz he;have hd:=cW hp;simp only[aL,xH,aam,if_false,sa hr];have ht:(flat ys).take (ys.length*n)=flat ys:=aa0 (by omega);simp only[List.drop_zero,ht,hd,hp,dR he];rw[if_pos ⟨Nat.le_add_right _ _,by omega,hn,hag,trivial⟩];rfl
theorem tm (z:DV):∀ n,bk [z] n=List.replicate n z
 | 0=>rfl
 | n+1=>by rw[bk,tm z n];rfl
theorem pD:∀ (ys:List DV),(∀ y∈ys,eG 1 false y)→flat ys=ys
 | [],_=>rfl
 | y::r,h=>by
   have h1:=(h y (aap ..)).2.2;have h2:=pD r fun z hz=>h z (aao _ hz);simp only[aam,if_false] at h1;simp only[flat,abn,h1] at h2 ⊢;rw[h2];rfl
variable {T:Tab}
def iC (fr:Fr) (params:List Nat) (assign body:RC) (s:Nat) (q:Option Ex):jX:=⟨fr,params,assign,body,s,q⟩
def yT:Ex→Option Ex
 | .normal=>none
 | e=>some e
theorem BO {st:St} {H H1 H2:List HO} {K K1 K2:List Nat} {k:Nat} {fr:Fr} {params:List Nat} {assign body:RC} {args:List DV} {fr1:Fr} {e:Ex}
 (h:H[k]? = some (.loop (iC fr params assign body 0 none))) (hl:args.length=params.length)
 (hA:(E T).C assign (cl fr params args) (pst st H K)=some (.normal,fr1,pst st H1 K1)) (h1:H1[k]? = some (.loop (iC fr params assign body 0 none)))
 (hB:∃ fr2,(E T).C body fr1 (pst st (H1.set k (.loop (iC fr params assign body 1 none))) K1)=some (e,fr2,pst st H2 K2)) (h2:H2[k]? = some (.loop (iC fr params assign body 1 none))) :
 (E T).V (.yield (st.heap.length+k)) args (pst st H K)=some (.bool (yT e).isNone,pst st (H2.set k (.loop (iC fr params assign body (if (yT e).isNone then 0 else 2) (yT e)))) K2):=by
 obtain⟨fr2,hB⟩:=hB;rw[wA h hl];have e1:(iC fr params assign body 0 none).assign=assign:=rfl;have e2:(iC fr params assign body 0 none).params=params:=rfl;have e3:(iC fr params assign body 0 none).fr=fr:=rfl;have e4:(iC fr params assign body 0 none).state=0:=rfl;have hB1:(E T).C (iC fr params assign body 0 none).body fr1 (pst st (H1.set k (.loop (iC fr params assign body 1 none))) K1)=some (e,fr2,pst st H2 K2):=hB;rw[e1,e2,e3,hA];simp only[eV,h1,e4,if_true,kh]
 erw [hB1]
 cases e<;>simp only[eV,h2,kh]<;>rfl
theorem rV {st:St} {H H':List HO} {K K':List Nat} {f:X} {params live:List Nat} {assign body:RC} {fr:Fr} {g:Nat} {first captured:List DV} {F:ak} {v:DV} {s:Nat} {q:Option Ex} (hf:f.ev (fr.bl live)=.fn g first captured) (hg:T g=some (.code F))
 (hF:(E T).F g (first++[.yield (st.heap.length+H.length)]++captured) (pst st (H++[.loop (iC (fr.bl live) params assign body 0 none)]) K)=some (v,pst st H' K'))
 (h2:H'[H.length]? = some (.loop (iC (fr.bl live) params assign body s q))) (hs:s≠1) :
 (E T).C (.eZ f params assign body live) fr (pst st H K)=some (q.getD .normal,fr.bl live,pst st (H'.set H.length (.loop (iC (fr.bl live) params assign body 3 q))) K'):=by
 rw[xc hf hg];have e1:(pst st H K).heap.length=st.heap.length+H.length:=by simp
 have e2:(pst st H K).push (.loop (iC (fr.bl live) params assign body 0 none))=pst st (H++[.loop (iC (fr.bl live) params assign body 0 none)]) K:=by simp
 rw[e1]
 erw [e2]
 rw[hF];have e3:(iC (fr.bl live) params assign body s q).state=s:=rfl
 cases q with
 | none=>simp only[eV,h2,e3,hs,if_false,kh];rfl
 | some e=>simp only[eV,h2,e3,hs,if_false,kh];rfl
theorem uZ {ops ops2:List af} {hs:List Nat} {chk:List (Nat×List Nat)} {live:List Nat} {fr:Fr} {st st1:St} (h:fg fr hs st ops=some (st1,ops2)):(E T).C (.av ops hs chk live) fr st =
 match (E T).S ops2 fr st1 [st1] with
 | some (fr',sts)=>if (E T).A fr' ops2 sts.reverse chk=true then (match sts with | st'::_=>some (.normal,fr'.bl live,st') | []=>none) else none
 | none=>none:=by
 rw[EC];simp only[b7,h]
 cases (E T).S ops2 fr st1 [st1] with
 | none=>rfl
 | some p=>obtain⟨fr',sts⟩:=p;rfl
theorem lu {A B:RC} {f f':Fr} {S S':St} (h:(E T).C (.seq A B) f S=some (.normal,f',S')):∃ fu1 S1,(E T).C A f S=some (.normal,fu1,S1)∧(E T).C B fu1 S1=some (.normal,f',S'):=by
 rw[cp] at h;split at h
 · rename_i fu1 S1 e;exact⟨fu1,S1,e,h⟩
 · cases h
 · cases h
 · cases h
inductive Vw (st:St) (n:Nat) (ag:Bool) (xs:List DV):DV→Prop
 | list (t n':Nat) (tk:Tk) (nn:Bool) (h1:nn=true→n'=n) (h2:nn=false→xs=[]):Vw st n ag xs (.list t n' tk nn xs)
 | hsl (b off c:Nat) (g:CK) (vs:List DV) (hc:st.cells b=some (g,vs)) (hl:off+xs.length*n≤vs.length) (hx:(vs.drop off).take (xs.length*n)=flat xs) (hcap:xs.length≤c) :
  Vw st n ag xs (.hsl n ag b off xs.length (some c))
theorem Vw.ny {st st':St} {n:Nat} {ag:Bool} {xs:List DV} {v:DV} (h:Vw st n ag xs v) (hs:∀ b g vs,st.cells b=some (g,vs)→st'.cells b=some (g,vs)):Vw st' n ag xs v:=by
 cases h with
 | list t n' tk nn h1 h2=>exact .list t n' tk nn h1 h2
 | hsl b off c g vs hc hl hx hcap=>exact .hsl b off c g vs (hs _ _ _ hc) hl hx hcap
theorem pG {st:St} {H:List HO} {K:List Nat} {b:Nat} {g:CK} {vs:List DV} (h:st.cells b=some (g,vs)):(pst st H K).cells b=some (g,vs):=by
 have h1:=gA h;have hb:=(aad.1 h1).1;unfold St.cells;show (match (st.heap++H)[b]? with | some (.cells g vs)=>some (g,vs) | _=>none)=_;rw[aaj hb,h1]
theorem Vw.inn {st:St} {n:Nat} {ag:Bool} {xs:List DV} {v:DV} (h:Vw st n ag xs v) (H:List HO) (K:List Nat):Vw (pst st H K) n ag xs v:=h.ny fun _ _ _=>pG
theorem Vw.out {st:St} {n:Nat} {ag:Bool} {xs:List DV} {v:DV} (h:Vw (pst st [] []) n ag xs v):Vw st n ag xs v:=h.ny fun b g vs hc=>by
 have:(pst st [] []).cells b=st.cells b:=by unfold St.cells;simp only[pst,aaJ]
 rw[← this];exact hc
theorem Vw.app {st:St} {H:List HO} {K:List Nat} {n:Nat} {ag:Bool} {xs:List DV} {v:DV} (h:Vw (pst st H K) n ag xs v) (X:List HO) (K':List Nat):Vw (pst st (H++X) K') n ag xs v:=by
 refine h.ny fun b g vs hc=>?_;have h1:=gA hc;have hb:=(aad.1 h1).1;unfold St.cells;change (st.heap++H)[b]? = _ at h1;show (match (st.heap++(H++X))[b]? with | some (.cells g vs)=>some (g,vs) | _=>none)=_;rw[← aas,aaj (show b<(st.heap++H).length from hb),h1]
def elP (n:Nat):DV→Nat→DV
 | .list _ _ _ _ xs,i=>.bC ((xs.getD i .undef).leaves)
 | .hsl _ _ b off _ _,i=>.ptr b (off+i*n)
 | _,_=>.undef
def faP (off:Nat):DV→DV
 | .ptr b o=>.ptr b (o+off)
 | .bC cs=>.bC (cs.drop off)
 | _=>.undef
section
variable {st:St} {H:List HO} {K:List Nat} {n:Nat} {ag:Bool} {xs:List DV} {v:DV}
theorem Vw.len (h:Vw st n ag xs v) (st':St):qJ st' .slice v=some (.int .i64 xs.length,st'):=by
 cases h<;>rfl
theorem Vw.bw (h:Vw st n ag xs v) {i:Nat} (hi:i<xs.length) (k:IntKind) (st':St):lj st' n v (.int k i)=some (elP n v i,st'):=by
 cases h with
 | list t n' tk nn h1 h2=>
   cases nn with
   | false=>rw[h2 rfl] at hi;cases hi
   | true=>simp[h1 rfl,hi,elP,aak]
 | hsl b off c g vs hc hl hx hcap=>
   simp[hi,elP]
theorem Aa (he:∀ x∈xs,eG n ag x):∀ {i:Nat} {x:DV},xs[i]? = some x→((flat xs).drop (i*n)).take n=x.leaves:=by
 induction xs with
 | nil=>intro i x h;cases h
 | cons y r ih=>
   intro i x h;have hy:=(he y (aap ..)).1;have e:flat (y::r)=y.leaves++flat r:=by simp[flat]
   rw[e]
   cases i with
   | zero=>
     simp only[aat,aaa.injEq] at h;subst h;simp[← hy]
   | succ i=>
     rw[List.getElem?_cons_succ] at h;rw[Nat.succ_mul,Nat.add_comm,← List.drop_drop,← hy];simp only[List.drop_left];rw[hy];exact ih (fun z hz=>he z (aao _ hz)) h
theorem kj {off:Nat} {vs:List DV} (he:∀ x∈xs,eG n ag x) (hl:off+xs.length*n≤vs.length) (hx:(vs.drop off).take (xs.length*n)=flat xs) {i:Nat} {x:DV} (h:xs[i]? = some x) :
 (vs.drop (off+i*n)).take n=x.leaves∧off+i*n+n≤vs.length:=by
 have hi:=(aad.1 h).1;have h1:=Aa he h;have hle:(i+1)*n≤xs.length*n:=aay _ hi;rw[Nat.succ_mul] at hle;refine⟨?_,by omega⟩;rw[← h1,← hx,List.drop_take,List.drop_drop,List.take_take]
 congr 1
 omega
theorem Vw.load (h:Vw st n ag xs v) (he:∀ x∈xs,eG n ag x) (ha:ag=true) {i:Nat} {x:DV} (hx:xs[i]? = some x):cL st n true (elP n v i)=some x:=by
 have hm:=he x (aaN hx);have hxl:x=.agg x.leaves:=by have:=hm.2.2;rw[ha] at this;exact this
 cases h with
 | list t n' tk nn h1 h2=>
   simp only[elP,cL,takeN,aak,hx,abg,if_true,aav];rw[if_pos (by rw[hm.1];exact aai _),List.drop_zero,aa0 (by rw[hm.1];exact aai _),← hxl]
 | hsl b off c g vs hc hl hxx hcap=>
   obtain⟨h1,h2⟩:=kj he hl hxx hx;simp only[elP,cL,takeN,hc,if_true,h1];rw[if_pos h2,← hxl]
theorem Vw.fh (h:Vw st n ag xs v) (he:∀ x∈xs,eG n ag x) {i:Nat} (hi:i<xs.length) {off:Nat} (ho:off≤n) (st':St):lb st' off (elP n v i)=some (faP off (elP n v i),st'):=by
 have hx:xs[i]? = some xs[i]:=aac hi;have hm:=he _ (aau hi)
 cases h with
 | list t n' tk nn h1 h2=>
   simp only[elP,lb,faP,aak,hx,abg];rw[if_pos (by rw[hm.1];exact ho)]
 | hsl b off c g vs hc hl hxx hcap=>simp[elP,faP]
theorem Vw.K5 (h:Vw st n ag xs v) (he:∀ x∈xs,eG n ag x) {i:Nat} {x:DV} (hx:xs[i]? = some x) {off:Nat} {y:DV} (ho:x.leaves[off]? = some y):cL st 1 false (faP off (elP n v i))=some y:=by
 have hm:=he x (aaN hx);have hlt:off<n:=by have:=(aad.1 ho).1;rw[hm.1] at this;exact this
 cases h with
 | list t n' tk nn h1 h2=>
   simp only[elP,faP,cL,takeN,aak,hx,abg,aam,if_false];rw[List.getElem?_drop];simpa using ho
 | hsl b off' c g vs hc hl hxx hcap=>
   obtain⟨h1,h2⟩:=kj he hl hxx hx;simp only[elP,faP,cL,takeN,hc,aam,if_false];rw[← h1,List.getElem?_take_of_lt hlt,List.getElem?_drop] at ho;exact ho
theorem Vw.news (h:Vw st n ag xs v):bQ st n v=some (xs.length,flat xs):=by
 cases h with
 | list t n' tk nn h1 h2=>
   cases nn with
   | false=>simp[bQ,h2 rfl,flat]
   | true=>simp[bQ,h1 rfl]
 | hsl b off c g vs hc hl hx hcap=>simp[bQ,hc,hl,hx]
theorem Vw.slice (h:Vw st n ag xs v) (hn:0<n) (he:∀ x∈xs,eG n ag x) {lo hi:Nat} (h1:lo≤hi) (h2:hi≤xs.length) (k k':IntKind) :
 ∃ v',b6 false n v (some (.int k lo)) (some (.int k' hi)) none=some v'∧Vw st n ag ((xs.drop lo).take (hi-lo)) v':=by
 cases h with
 | list t n' tk nn g1 g2=>
   refine⟨_,rM g1 (by omega) (by omega) (by omega),?_⟩;simp only[Int.toNat_natCast];exact .list _ _ _ _ g1 fun e=>by rw[g2 e];simp
 | hsl b off c g vs hc hl hx hcap=>
   have hb1:bnd (.int k' (hi:Int)) c=some hi:=by rw[jg (by omega) (by omega)];simp
   have hb2:bnd (.int k (lo:Int)) hi=some lo:=by rw[jg (by omega) (by omega)];simp
   refine⟨_,by simp only[b6,if_true,Option.isSome_none,aam,if_false,hb1,hb2];rfl,?_⟩;have hlen:((xs.drop lo).take (hi-lo)).length=hi-lo:=by simp;omega
   by_cases hcl:c=lo
   · have e0:hi-lo=0:=by omega
     rw[if_pos hcl];have h3:=Vw.hsl (st:=st) (n:=n) (ag:=ag) (xs:=(xs.drop lo).take (hi-lo)) b off (c-lo) g vs hc (by rw[hlen,e0];omega) (by rw[hlen,e0];simp[flat]) (by rw[hlen];omega);rw[hlen] at h3;exact h3
   · rw[if_neg hcl];have hmul:lo*n+(hi-lo)*n≤xs.length*n:=by rw[← aaI];exact aay _ (by omega)
     have fl:∀ (ys:List DV),(∀ y∈ys,eG n ag y)→∀ k,(flat ys).take (k*n)=flat (ys.take k)∧(flat ys).drop (k*n)=flat (ys.drop k):=by
      intro ys
      induction ys with
      | nil=>intro _ k;simp[flat]
      | cons y r ih=>
        intro hy k;have e:flat (y::r)=y.leaves++flat r:=by simp[flat]
        have hly:=(hy y (aap ..)).1
        cases k with
        | zero=>simp[flat]
        | succ k=>
          have:=ih (fun z hz=>hy z (aao _ hz)) k;rw[e,Nat.succ_mul,Nat.add_comm (k*n)];constructor
          · rw[List.take_append,aa0 (by omega),hly,show n+k*n-n=k*n by omega,this.1];simp[flat]
          · rw[← List.drop_drop,← hly,List.drop_left,hly,this.2,List.drop_succ_cons]
     have h3:=Vw.hsl (st:=st) (n:=n) (ag:=ag) (xs:=(xs.drop lo).take (hi-lo)) b (off+lo*n) (c-lo) g vs hc (by rw[hlen];omega) (by
      rw[hlen,← (fl _ (fun y hy=>he y (aar hy)) _).1,← (fl xs he _).2,← hx,List.drop_take,List.drop_drop,List.take_take]
      congr 1
      rw[Nat.min_eq_left (by omega)]) (by rw[hlen];omega)
     rw[hlen] at h3;exact h3
end
inductive Lw (n:Nat) (xs:List DV):DV→Prop
 | list (t n':Nat) (tk:Tk) (nn:Bool) (h1:nn=true→n'=n) (h2:nn=false→xs=[]):Lw n xs (.list t n' tk nn xs)
theorem Lw.vw {st:St} {n:Nat} {ag:Bool} {xs:List DV} {w:DV} (h:Lw n xs w):Vw st n ag xs w:=by
 cases h with | list t n' tk nn h1 h2=>exact .list t n' tk nn h1 h2
theorem Lw.ex {st st':St} {n:Nat} {xs:List DV} {w:DV} (h:Lw n xs w):∃ w',aL st st' w=some w'∧bE st st' w=some w'∧bj st st' w=some w'∧Lw n xs w':=by
 cases h with | list t n' tk nn h1 h2=>exact⟨_,rfl,rfl,rfl,.list _ _ _ _ h1 h2⟩
theorem Ae {st:St} {H:List HO} {K:List Nat} {n t n' by_:Nat} {ag:Bool} {tk:Tk} {xs:List DV} {v:DV} (hv:Vw (pst st H K) n ag xs v) (he:∀ x∈xs,eG n ag x) (hx:xs≠[]) (hn:0<n) (hr:xs.length*by_≤ay) (hr2:xs.length≤ay) :
 bJ (pst st H K) n ag by_ (.list t n' tk false []) v=some (.list st.cur n (.own (st.aO.length+K.length) 0) true xs,pst st H (K++[0])):=by
 have hl:xs.length≠0:=fun h=>hx (aaY.1 h);have hp:=gz he;have hc:=dR he;have h0:¬ n=0:=by omega
 have h2:¬ ((0+xs.length)*by_>ay):=by rw[aav];omega
 have h3:¬ (0+xs.length>ay):=by omega
 simp only[bJ,Vw.news hv,cW hp,hc,hl,h0,aaX,h2,h3,hp,if_false,Bool.not_true,aam,or_false,false_and];simp[pst]
theorem xN {st:St} {n t n' by_:Nat} {ag:Bool} {tk:Tk} {nn:Bool} {ys:List DV} {v:DV} (hv:Vw st n ag [] v):bJ st n ag by_ (.list t n' tk nn ys) v=some (.list t n' tk nn ys,st):=by
 refine Ba ?_;have:=Vw.news hv;simpa[flat] using this
theorem ME:tab 51=some (.code f51):=by kernel_rfl
theorem Mw:tab 30=some (.code f30):=by kernel_rfl
theorem Ml:tab 31=some (.code f31):=by kernel_rfl
theorem EM:tab 17=some (.code f17):=by kernel_rfl
theorem Mi:tab 21=some (.dx (kg emV)):=by kernel_rfl
theorem kQ (n:Int) (st:St):(E tab).F 51 [.int .i64 n] st=some (.bool (decide (1≤n∧n≤64)),st):=by
 refine iQ (e:=.ret) (fr:=[(2,.bool (decide (1≤n∧n≤64)))]) (st':=st.enter) (v:=.bool (decide (1≤n∧n≤64))) _ _ ME rfl ?_ (.inl rfl) rfl rfl
 by_cases h1:1≤n<;>by_cases h2:n≤64 <;>
 simp[f51,h1,h2]
theorem Mm (c:UInt8) (st:St):(E tab).F 21 [.int .u8 (c.toNat:Int)] st=some (.int .i64 (em c.toNat),st):=
 qC Mi (by show (if c.toNat<256 then some (emV c.toNat) else _)=_;rw[if_pos (by exact c.toNat_lt)];rfl)
def wd (c:UInt8) (size:Int):Int:=IntKind.i64.wrap ((IntKind.i64.wrap (em c.toNat*size)).tdiv 8)
theorem tp (c:UInt8) (n:Int) (st:St):(E tab).F 30 [.int .u8 (c.toNat:Int),.int .i64 n] st=some (.int .i64 (wd c n),st):=by
 refine iQ (e:=.ret) (fr:=[(4,.int .i64 (wd c n))]) (st':=st.enter) (v:=.int .i64 (wd c n)) _ _ Mw rfl ?_ (.inl rfl) rfl rfl;simp[f30,Mm,wd]
def tw (n:Int):Int→List UInt8→Int
 | a,[]=>a
 | a,c::r=>tw n (IntKind.i64.wrap (a+wd c n)) r
theorem DH (n:Int) (bs:List UInt8) (hb:bs.length≤4096) (st:St) (cur:Nat):∀ (r d:List UInt8) (a:Int),bs=d++r →
 (E tab).C wo [(1,.int .i64 n),(5,.int .i64 a),(9,.list cur 1 .no true (bs.map fun b=>.int .u8 b.toNat)),(10,.int .i64 bs.length),(11,.int .i64 d.length)] st =
  some (.exit 0,[(1,.int .i64 n),(5,.int .i64 (tw n a r)),(9,.list cur 1 .no true (bs.map fun b=>.int .u8 b.toNat)),(10,.int .i64 bs.length),(11,.int .i64 bs.length),(12,.bool false)],st):=by
 intro r
 induction r with
 | nil=>
   intro d a hd;rw[al (L:=wo) rfl];simp[z4,hd,tw]
 | cons c r ih=>
   intro d a hd;have hl:d.length<bs.length:=by rw[hd];simp
   have hg:bs[d.length]=c:=by simp[hd]
   have hw:IntKind.i64.wrap ((d.length:Int)+1)=((d++[c]).length:Nat):=by rw[IntWalk.i64_in _ (by omega)];simp
   rw[tw,← ih (d++[c]) (IntKind.i64.wrap (a+wd c n)) (by simp[hd])];rw[al (L:=wo) rfl];simp[z4,hl,hg,tp,hw]
theorem tD (bs:List UInt8) (hb:bs.length≤4096) (n:Int) (st:St):(E tab).F 31 [.str bs,.int .i64 n] st=some (.int .i64 (tw n 0 bs),st):=by
 refine iQ (e:=.ret) (fr:=[(4,.int .i64 (tw n 0 bs))]) (st':=st.enter) (v:=.int .i64 (tw n 0 bs)) _ _ Ml rfl ?_ (.inl rfl) rfl rfl;have h:=DH n bs hb st.enter st.enter.cur bs [] 0 rfl;simp at h;simp[f31,h]
theorem Mn:tab 57=some (.code f57):=by kernel_rfl
theorem Ni:tab 32=some (.code f32):=by kernel_rfl
def dW (bs:List UInt8) (n:Int):DV:=
 if 1≤n∧n≤64 then (if 4096<bs.length then .tuple [.int .i64 0,.int .i64 3] else .tuple [.int .i64 (tw n 0 bs),.int .i64 0]) else .tuple [.int .i64 0,.int .i64 5]
theorem rC (bs:List UInt8) (n:Int) (st:St):(E tab).F 17 [.str bs,.int .i64 n] st=some (dW bs n,st):=by
 by_cases h1:1≤n∧n≤64
 · by_cases h2:4096<bs.length
   · refine iQ (e:=.ret) (fr:=[(4,.int .i64 0),(5,.int .i64 3)]) (st':=st.enter) (v:=dW bs n) _ _ EM rfl ?_ (.inl rfl) (by simp[dW,h1,h2,f17,dG,dL,gk]) (by simp[dW,h1,h2]);have h3:(4096:Int)<bs.length:=by omega
     simp[f17,kQ,h1,h3]
   · refine iQ (e:=.ret) (fr:=[(4,.int .i64 (tw n 0 bs)),(5,.int .i64 0)]) (st':=st.enter) (v:=dW bs n) _ _ EM rfl ?_ (.inl rfl) (by simp[dW,h1,h2,f17,dG,dL,gk]) (by simp[dW,h1,h2]);have h3:¬ (4096:Int)<bs.length:=by omega
     simp[f17,kQ,h1,h3,tD bs (by omega)]
 · refine iQ (e:=.ret) (fr:=[(4,.int .i64 0),(5,.int .i64 5)]) (st':=st.enter) (v:=dW bs n) _ _ EM rfl ?_ (.inl rfl) (by simp[dW,h1,f17,dG,dL,gk]) (by simp[dW,h1]);simp[f17,kQ,h1]
def pr (a b:UInt8):List UInt8→Bool
 | x::y::_::r=>(x==a&&y==b)||pr a b r
 | _=>false
theorem AW (x a:UInt8):((x.toNat:Int)==(a.toNat:Int))=(x==a):=by
 rw[aaW];simp only[beq_iff_eq];constructor
 · intro h;exact UInt8.toNat_inj.1 (by omega)
 · rintro rfl;rfl
theorem CL (s:List UInt8) (hs:s.length≤1000) (a b:UInt8) (st:St):∀ (k:Nat) (r d:List UInt8),r.length=3*k→s=d++r →
 (E tab).C vT [(0,.str s),(1,.int .u8 a.toNat),(2,.int .u8 b.toNat),(7,.int .i64 d.length)] st =
  some (if pr a b r then (.ret,[(6,.bool true)],st) else (.exit 0,[(0,.str s),(1,.int .u8 a.toNat),(2,.int .u8 b.toNat),(7,.int .i64 s.length),(12,.bool false)],st)):=by
 intro k
 induction k with
 | zero=>
   intro r d hr hd;obtain rfl:r=[]:=aaY.1 (by omega);have hw:IntKind.i64.wrap ((d.length:Int)+1)=d.length+1:=by rw[IntWalk.i64_in _ (by simp at hd;subst hd;omega)]
   rw[al (L:=vT) rfl];simp at hd;subst hd;have hn:¬ (s.length:Int)+1<s.length:=by omega
   simp[sV,pr,hw,hn]
 | succ k ih=>
   intro r d hr hd
   match r,hr with
   | x::y::z::r,hr=>
     have e0:d.length+3+r.length=s.length:=by simp[hd];omega
     have hw:IntKind.i64.wrap ((d.length:Int)+1)=d.length+1:=by rw[IntWalk.i64_in _ (by omega)]
     have hw3:IntKind.i64.wrap ((d.length:Int)+3)=((d++[x,y,z]).length:Nat):=by rw[IntWalk.i64_in _ (by omega)];simp
     have hl:d.length<s.length:=by omega
     have hl1:d.length+1<s.length:=by omega
     have hl2:(d.length:Int)+1<s.length:=by omega
     have hg:s[d.length]=x:=by simp[hd]
     have hg1:s[d.length+1]=y:=by simp[hd]
     have ht:((d.length:Int)+1).toNat=d.length+1:=by omega
     have h0:(0:Int)≤(d.length:Int)+1:=by omega
     rw[al (L:=vT) rfl];by_cases hx:x=a
     · by_cases hy:y=b
       · simp[sV,hw,hl,hl1,hl2,hg,hg1,ht,h0,pr,hx,hy]
       · have:=ih r (d++[x,y,z]) (by simp at hr;omega) (by simp[hd]);simp[sV,hw,hl,hl1,hl2,hg,hg1,ht,h0,AW,pr,hx,hy,hw3] at this ⊢;exact this
     · have:=ih r (d++[x,y,z]) (by simp at hr;omega) (by simp[hd]);simp[sV,hw,hl,hl2,hg,AW,pr,hx,hw3] at this ⊢;exact this
theorem nb (s:List UInt8) (k:Nat) (hk:s.length=3*k) (hs:s.length≤1000) (a b:UInt8) (st:St):(E tab).F 57 [.str s,.int .u8 a.toNat,.int .u8 b.toNat] st=some (.bool (pr a b s),st):=by
 refine iQ (e:=.ret) (fr:=[(6,.bool (pr a b s))]) (st':=st.enter) (v:=.bool (pr a b s)) _ _ Mn rfl ?_ (.inl rfl) rfl rfl;have h:=CL s hs a b st.enter k s [] hk rfl;simp at h;by_cases hp:pr a b s=true
 · simp only[hp,if_true] at h;simp[f57,h,hp]
 · simp only[hp] at h;simp[f57,h,hp]
def P19:List (UInt8×UInt8):=[(65,84),(65,86),(65,87),(65,89),(84,65),(86,65),(87,65),(89,65),(76,84),(76,86),(76,89),(80,65),(84,111),(84,97),(84,101),(86,111),(86,97),(89,111),(89,97)]
def P10:List (UInt8×UInt8):=[(114,46),(114,44),(102,46),(102,44),(118,46),(121,46),(65,118),(65,121),(111,118),(118,111)]
def isP (l:List (UInt8×UInt8)) (a b:UInt8):Bool:=l.any fun p=>p.1==a&&p.2==b
def txt (l:List (UInt8×UInt8)):List UInt8:=l.flatMap fun p=>[p.1,p.2,32]
def two (l:List (UInt8×UInt8)):List (List UInt8):=l.map fun p=>[p.1,p.2]
theorem BK (a b:UInt8):∀ l,pr a b (txt l)=isP l a b
 | []=>rfl
 | p::r=>by
   have:=BK a b r;unfold txt isP at *;simp only[abn,aaH,aa5,pr,List.any_cons,this]
def iw (a b:UInt8) (n:Int):Int:=if isP P10 a b then -(n/16) else if isP P19 a b then -(2*n/16) else 0
theorem uD (a b:UInt8) (n:Int) (hn:1≤n∧n≤64) (st:St):(E tab).F 32 [.int .u8 a.toNat,.int .u8 b.toNat,.int .i64 n] st=some (.int .i64 (iw a b n),st):=by
 refine iQ (e:=.ret) (fr:=[(6,.int .i64 (iw a b n))]) (st':=st.enter) (v:=.int .i64 (iw a b n)) _ _ Ni rfl ?_ (.inl rfl) rfl rfl;have h19:=nb (txt P19) 19 (by rfl) (by decide) a b st.enter;have h10:=nb (txt P10) 10 (by rfl) (by decide) a b st.enter;rw[BK] at h19 h10;simp only[show txt P19=[65,84,32,65,86,32,65,87,32,65,89,32,84,65,32,86,65,32,87,65,32,89,65,32,76,84,32,76,86,32,76,89,32,80,65,32,84,111,32,84,97,32,84,101,32,86,111,32,86,97,32,89,111,32,89,97,32] from rfl] at h19;simp only[show txt P10=[114,46,32,114,44,32,102,46,32,102,44,32,118,46,32,121,46,32,65,118,32,65,121,32,111,118,32,118,111,32] from rfl] at h10;have w1:IntKind.i64.wrap n=n:=IntWalk.i64_in _ (by omega);have w2:IntKind.i64.wrap (2*n)=2*n:=IntWalk.i64_in _ (by omega);have w3:IntKind.i64.wrap ((2*n).tdiv 16)=2*n/16:=IntWalk.i64_quo _ _ (by omega);have w4:IntKind.i64.wrap (n.tdiv 16)=n/16:=IntWalk.i64_quo _ _ (by omega);have w5:IntKind.i64.wrap (-(n/16)) = -(n/16):=IntWalk.i64_in _ (by omega);have w6:IntKind.i64.wrap (-(2*n/16)) = -(2*n/16):=IntWalk.i64_in _ (by omega);have w7:IntKind.i64.wrap 0=0:=by decide
 cases e1:isP P19 a b<;>cases e2:isP P10 a b<;>rw[e1] at h19<;>rw[e2] at h10 <;>
 simp[f32,h19,h10,iw,e1,e2,w1,w2,w3,w4,w5,w6,w7]
theorem LZ:tab 23=some (.code f23):=by kernel_rfl
structure ae where
 a:Int
 b:Int
 k:Int
 s:Int
 w:Int
 e:Int
 deriving DecidableEq
def ae.cs (m:ae):List DV:=[.int .i64 m.a,.int .i64 m.b,.int .i64 m.k,.int .i64 m.s,.int .i64 m.w,.int .i64 m.e]
def ae.dv (m:ae):DV:=.agg m.cs
@[simp] theorem ae.leaves (m:ae):m.dv.leaves=m.cs:=rfl
def okM (m:ae):Bool:=decide (0≤m.w∧m.w≤4095 ∧ -64≤m.e∧m.e≤0)
def ky (o:Bool) (n:Int):List ae→Int
 | []=>n
 | m::r=>ky false (if o then n+m.w else n+m.w+m.e) r
theorem Iu (l:List ae) (hl:l.length≤4096) (x y:DV) (t n6:Nat) (tk:Tk) (nn:Bool) (h6:l≠[]→n6=6) (st:St) (K:List Nat):∀ (r d:List ae) (H:List HO),l=d++r →
 ∃ J,(E tab).C so [(0,.list t n6 tk nn (l.map ae.dv)),(1,x),(2,y),(16,.list t n6 tk nn (l.map ae.dv)),(17,.int .i64 l.length),(18,.int .i64 d.length)] (pst st H K) =
   some (if r.all okM then (.exit 0,[(0,.list t n6 tk nn (l.map ae.dv)),(1,x),(2,y),(16,.list t n6 tk nn (l.map ae.dv)),(17,.int .i64 l.length),(18,.int .i64 l.length),(19,.bool false)],pst st (H++J) K)
    else (.ret,[(6,.int .i64 0),(7,.int .i64 2)],pst st (H++J) K)):=by
 intro r
 induction r with
 | nil=>
   intro d H hd;refine⟨[],?_⟩;rw[al (L:=so) rfl];simp[mi,hd]
 | cons m r ih=>
   intro d H hd;obtain rfl:n6=6:=h6 (by simp[hd]);have h0:d.length<l.length:=by simp[hd]
   have hw:IntKind.i64.wrap ((d.length:Int)+1)=((d++[m]).length:Nat):=by rw[aG (by omega)];simp
   have hg:l[d.length]=m:=by simp[hd]
   by_cases ho:okM m=true
   · obtain⟨J,hJ⟩:=ih (d++[m]) (H++[.cells .plain m.cs]) (by simp[hd]);refine⟨.cells .plain m.cs::J,?_⟩;rw[al (L:=so) rfl];obtain⟨o1,o2,o3,o4⟩:0≤m.w∧m.w≤4095 ∧ -64≤m.e∧m.e≤0:=by simpa[okM] using ho
     have o1':¬ m.w<0:=by omega
     have o2':¬ 4095<m.w:=by omega
     have o3':¬ m.e < -64:=by omega
     have o4':¬ 0<m.e:=by omega
     simp[mi,h0,hg,hw,ae.cs,o1',o2',o3',o4',ho] at hJ ⊢;exact hJ
   · refine⟨[.cells .plain m.cs],?_⟩;rw[al (L:=so) rfl];simp[okM] at ho;by_cases o1:m.w<0
     · simp[mi,h0,hg,ae.cs,o1,okM,show ¬ 0≤m.w by omega]
     by_cases o2:4095<m.w
     · simp[mi,h0,hg,ae.cs,o1,o2,okM,show ¬ m.w≤4095 by omega]
     by_cases o3:m.e < -64
     · simp[mi,h0,hg,ae.cs,o1,o2,o3,okM,show ¬ -64≤m.e by omega]
     have o4:0<m.e:=by omega
     simp[mi,h0,hg,ae.cs,o1,o2,o3,o4,okM,show ¬ m.e≤0 by omega]
theorem Hw (l:List ae) (hl:l.length≤4096) (hok:l.all okM=true) (t n6:Nat) (tk:Tk) (nn:Bool) (h6:l≠[]→n6=6) (st:St) (K:List Nat):∀ (r d:List ae) (H:List HO) (n:Int),l=d++r → -64*(d.length:Int)≤n→n≤4095*d.length →
 ∃ J,(E tab).C wZ [(10,.int .i64 n),(57,.list t n6 tk nn (l.map ae.dv)),(58,.int .i64 l.length),(59,.int .i64 d.length)] (pst st H K) =
   some (.exit 2,[(10,.int .i64 (ky d.isEmpty n r)),(57,.list t n6 tk nn (l.map ae.dv)),(58,.int .i64 l.length),(59,.int .i64 l.length),(60,.bool false)],pst st (H++J) K):=by
 intro r
 induction r with
 | nil=>
   intro d H n hd _ _;refine⟨[],?_⟩;rw[al (L:=wZ) rfl];simp[wm,hd,ky]
 | cons m r ih=>
   intro d H n hd h1 h2;obtain rfl:n6=6:=h6 (by simp[hd]);have h0:d.length<l.length:=by simp[hd]
   have hw:IntKind.i64.wrap ((d.length:Int)+1)=((d++[m]).length:Nat):=by rw[aG (by omega)];simp
   have hg:l[d.length]=m:=by simp[hd]
   have hm:okM m=true:=aaf.1 hok m (by simp[hd]);obtain⟨o1,o2,o3,o4⟩:0≤m.w∧m.w≤4095 ∧ -64≤m.e∧m.e≤0:=by simpa[okM] using hm
   have hd':d.length+r.length+1=l.length:=by simp[hd];omega
   have hw1:IntKind.i64.wrap (n+m.w)=n+m.w:=aG (by omega);have hw2:IntKind.i64.wrap (n+m.w+m.e)=n+m.w+m.e:=aG (by omega);obtain⟨J,hJ⟩:=ih (d++[m]) (H++[.cells .plain m.cs]) (if d.isEmpty then n+m.w else n+m.w+m.e) (by simp[hd]) (by split<;>simp<;>omega) (by split<;>simp<;>omega);refine⟨.cells .plain m.cs::J,?_⟩;have hE:(d++[m]).isEmpty=false:=by cases d<;>rfl
   rw[hE] at hJ;rw[al (L:=wZ) rfl];by_cases he:d=[]
   · subst he;simp at h0 hg hw;simp[wm,h0,hg,hw,ae.cs,hw1,ky] at hJ ⊢;exact hJ
   · have hp:0<d.length:=List.length_pos_iff.2 he;simp[wm,h0,hg,hw,ae.cs,hw1,hw2,ky,he,hp] at hJ ⊢;exact hJ
def qe (l:List ae) (x y:Int):DV:=
 if 4096<l.length then .tuple [.int .i64 0,.int .i64 3] else
 if l.all okM=false then .tuple [.int .i64 0,.int .i64 2] else
 if 0≤x∧x≤y∧y≤l.length then .tuple [.int .i64 (ky true 0 ((l.drop x.toNat).take (y.toNat-x.toNat))),.int .i64 0] else .tuple [.int .i64 0,.int .i64 5]
theorem yi (l:List ae) (x y:Int) (t n6:Nat) (tk:Tk) (nn:Bool) (h6:l≠[]→n6=6) (h7:nn=true→n6=6) (st:St) :
 (E tab).F 23 [.list t n6 tk nn (l.map ae.dv),.int .i64 x,.int .i64 y] st=some (qe l x y,st):=by
 rw[aK LZ rfl];by_cases h1:4096<l.length
 · have h1':(4096:Int)<l.length:=by omega
   simp[f23,h1',qe,h1]
 have h1':¬ (4096:Int)<l.length:=by omega
 obtain⟨J,hJ⟩:=Iu l (by omega) (.int .i64 x) (.int .i64 y) t n6 tk nn h6 st [] l [] [] rfl;simp at hJ;by_cases h2:l.all okM=true
 · rw[aaf] at h2;rw[if_pos h2] at hJ;rw[← aaf] at h2;by_cases a1:x<0
   · simp[f23,h1',qe,h1,hJ,h2,a1,show ¬ 0≤x by omega]
   by_cases a2:y<x
   · simp[f23,h1',qe,h1,hJ,h2,a1,a2,show ¬ x≤y by omega]
   by_cases a3:l.length<y
   · simp[f23,h1',qe,h1,hJ,h2,a1,a2,a3,show ¬ y≤l.length by omega]
   have a4:b6 false 6 (.list t n6 tk nn (l.map ae.dv)) (some (.int .i64 x)) (some (.int .i64 y)) none=_:=rM h7 (by omega) (by omega) (by simp;omega);rw[← List.map_drop,← List.map_take] at a4
   have hq:((l.drop x.toNat).take (y.toNat-x.toNat)).all okM=true:=by
    rw[aaf] at h2 ⊢;exact fun m hm=>h2 m (aar (aaD hm))
   have hl:((l.drop x.toNat).take (y.toNat-x.toNat)).length≤4096:=by simp;omega
   have hb:0≤x∧x≤y∧y≤l.length:=by omega
   obtain⟨J2,hJ2⟩:=Hw _ hl hq t n6 (tU tk l.length x.toNat y.toNat) nn (fun h=>h6 (fun e=>h (by rw[e];simp))) st [] _ [] J 0 rfl (by simp) (by simp);have e1:min (y.toNat-x.toNat) (l.length-x.toNat)=y.toNat-x.toNat:=by omega
   simp[e1] at hJ2 a4;simp[f23,h1',qe,h1,hJ,h2,a1,a2,a3,a4,hb,hJ2,e1]
 · have h3:l.all okM=false:=by simpa using h2
   rw[aaf] at h2;rw[if_neg h2] at hJ;simp[f23,h1',qe,h1,hJ,h3]
theorem Cw (m:ae):eG 6 true m.dv:=⟨rfl,rfl,rfl⟩
theorem Mz:tab 54=some (.code f54):=by kernel_rfl
theorem MA:tab 27=some (.code f27):=by kernel_rfl
theorem M8:tab 55=some (.code f55):=by kernel_rfl
theorem G5:tab 69=some (.code f69):=by kernel_rfl
theorem L3:tab 68=some (.dx (kg kdV)):=by kernel_rfl
theorem MZ:tab 70=some (.dx (kg F0)):=by kernel_rfl
theorem se {g:Nat} {F:Nat→DV} (h:tab g=some (.dx (kg F))) (c:UInt8) (st:St):(E tab).F g [.int .u8 (c.toNat:Int)] st=some (F c.toNat,st):=
 qC h (by show (if c.toNat<256 then some (F c.toNat) else _)=_;rw[if_pos (by exact c.toNat_lt)])
theorem FG (c:UInt8) (st:St):(E tab).F 68 [.int .u8 (c.toNat:Int)] st=some (.int .i64 (kd c.toNat),st):=se L3 c st
theorem DP (c:UInt8) (st:St):(E tab).F 70 [.int .u8 (c.toNat:Int)] st=some (.bool (wu c.toNat),st):=se MZ c st
def xL (c:UInt8):Bool:=!(kd c.toNat==0)
def c8 (s:List UInt8):Int:=if 4096<s.length then 3 else if s.all xL then 0 else 4
theorem JK (s:List UInt8) (hs:s.length≤4096) (st:St) (cur:Nat):∀ (r d:List UInt8),s=d++r →
 (E tab).C wk [(9,.list cur 1 .no true (s.map fun b=>.int .u8 b.toNat)),(10,.int .i64 s.length),(11,.int .i64 d.length)] st =
  some (if r.all xL then (.exit 0,[(9,.list cur 1 .no true (s.map fun b=>.int .u8 b.toNat)),(10,.int .i64 s.length),(11,.int .i64 s.length),(12,.bool false)],st) else (.ret,[(2,.int .i64 4)],st)):=by
 intro r
 induction r with
 | nil=>
   intro d hd;rw[al (L:=wk) rfl];simp[vM,hd]
 | cons c r ih=>
   intro d hd;have h0:d.length<s.length:=by simp[hd]
   have hw:IntKind.i64.wrap ((d.length:Int)+1)=((d++[c]).length:Nat):=by rw[aG (by omega)];simp
   have hg:s[d.length]=c:=by simp[hd]
   rw[al (L:=wk) rfl];have hJ:=ih (d++[c]) (by simp[hd]);by_cases hk:kd c.toNat=0
   · simp[vM,h0,hg,FG,hk,xL]
   · simp[vM,h0,hg,hw,FG,hk,xL] at hJ ⊢;exact hJ
theorem vY (s:List UInt8) (st:St):(E tab).F 54 [.str s] st=some (.int .i64 (c8 s),st):=by
 rw[aK Mz rfl];by_cases h1:4096<s.length
 · simp[f54,c8,h1,show (4096:Int)<s.length by omega]
 · have h:=JK s (by omega) (pst st [] []) st.cur s [] rfl;simp at h
   cases h2:s.all xL with
   | true=>
     rw[if_pos (by simpa using h2)] at h;simp[f54,c8,h1,show ¬ (4096:Int)<s.length by omega,h,h2]
   | false=>
     rw[if_neg (by simpa using h2)] at h;simp[f54,c8,h1,show ¬ (4096:Int)<s.length by omega,h,h2]
structure Clu where
 a:Nat
 b:Nat
 k:Int
 deriving DecidableEq
def Clu.cs (c:Clu):List DV:=[.int .i64 c.a,.int .i64 c.b,.int .i64 c.k]
def Clu.dv (c:Clu):DV:=.agg c.cs
@[simp] theorem Clu.leaves (c:Clu):c.dv.leaves=c.cs:=rfl
theorem EG (c:Clu):eG 3 true c.dv:=⟨rfl,rfl,rfl⟩
def adv (s:List UInt8) (k:Int):Nat→Nat→Nat
 | 0,t=>t
 | n+1,t=>if k=1∧t<s.length∧wu (s.getD t 0).toNat=true then adv s k n (t+1) else t
def jm (s:List UInt8) (i:Nat):Int:=kd (s.getD i 0).toNat
def cTo (s:List UInt8) (i:Nat):Nat:=adv s (jm s i) 2 (i+1)
def fv (s:List UInt8):Nat→Nat→List Clu
 | 0,_=>[]
 | n+1,i=>if i<s.length then ⟨i,cTo s i,jm s i⟩::fv s n (cTo s i) else []
def kA (s:List UInt8):List Clu:=fv s s.length 0
theorem qu (s:List UInt8) (k:Int):∀ n t,t≤adv s k n t∧adv s k n t≤t+n∧(t≤s.length→adv s k n t≤s.length)
 | 0,t=>⟨aai _,aai _,id⟩
 | n+1,t=>by
   unfold adv;split
   · rename_i h;have:=qu s k n (t+1);exact⟨by omega,by omega,fun _=>this.2.2 (by omega)⟩
   · exact⟨aai _,by omega,id⟩
theorem zL {s:List UInt8} {i:Nat} (h:i<s.length):s[i]? = some (s.getD i 0):=by
 simp[aac h]
theorem eD {s:List UInt8} (h:c8 s=0):s.length≤4096∧s.all xL=true:=by
 unfold c8 at h;split at h
 · simp at h
 · split at h
   · rename_i h1 h2;exact⟨by omega,h2⟩
   · simp at h
def FD (s:List UInt8) (v:DV):Prop:=∃ t n' tk nn,v=.tuple [.list t n' tk nn ((if c8 s=0 then kA s else []).map Clu.dv),.int .i64 (c8 s)]∧(nn=true→n'=3)∧(nn=false→(if c8 s=0 then kA s else [])=[])
theorem Hx (s:List UInt8) (hs:s.length≤4096) (y:DV) (st:St) (A:List HO) (hA:∀ o,rowAt (A++[o]) 1=some (.plain,[.str s])) (K:List Nat) (a:Nat) (ha:a<s.length) (k:Int):∀ (n t:Nat),t+n=a+3→1≤t →
 (E tab).C xg [(0,y),(1,.ptr (st.heap.length+1) 0),(3,.int .i64 a),(4,.ptr (st.heap.length+A.length) 0)] (pst st (A++[.cells .plain [.int .i64 a,.int .i64 t,.int .i64 k]]) K) =
  some (.exit 2,[(0,y),(1,.ptr (st.heap.length+1) 0),(3,.int .i64 a),(4,.ptr (st.heap.length+A.length) 0),(40,.bool false)],pst st (A++[.cells .plain [.int .i64 a,.int .i64 (adv s k n t),.int .i64 k]]) K):=by
 intro n
 induction n with
 | zero=>
   intro t ht _;have hw:IntKind.i64.wrap ((a:Int)+3)=(a:Int)+3:=aG (by omega);have h1:¬ (t:Int)<a+3:=by omega
   rw[al (L:=xg) rfl];by_cases hk:k=1
   · by_cases hl:t<s.length
     · simp[lM,hk,hl,hw,h1,adv,hA]
     · simp[lM,hk,hl,adv,hA]
   · simp[lM,hk,adv]
 | succ n ih=>
   intro t ht h0;have hw:IntKind.i64.wrap ((a:Int)+3)=(a:Int)+3:=aG (by omega);have h1:(t:Int)<a+3:=by omega
   rw[al (L:=xg) rfl];by_cases hk:k=1
   · by_cases hl:t<s.length
     · have hw2:IntKind.i64.wrap ((t:Int)+1)=((t+1:Nat):Int):=by rw[aG (by omega)];simp
       cases hac:wu (s[t]).toNat with
       | true=>
         have hJ:=ih (t+1) (by omega) (by omega);simp[lM,hk,hl,hw,h1,DP,hac,hw2,adv,hA] at hJ ⊢;exact hJ
       | false=>simp[lM,hk,hl,hw,h1,DP,hac,adv,hA]
     · simp[lM,hk,hl,adv,hA]
   · simp[lM,hk,adv]
def jN (st:St):jX:=⟨[(5,.ptr st.heap.length 0),(13,.fn 69 [] [.ptr (st.heap.length+1) 0])],[14],.region Bl [5,6],.block 1 (.region zX []),0,none⟩
theorem CV (s:List UInt8) (c:Clu) (st:St) (J:List HO) (K:List Nat) (xs:List Clu) (v:DV) (hx:xs.length≤4096) (hA:Acc st K 3 (xs.map Clu.dv) v) :
 ∃ v' K',(E tab).V (.yield (st.heap.length+2)) [c.dv] (pst st (.cells .plain [v]::.cells .plain [.str s]::.loop (jN st)::J) K) =
   some (.bool true,pst st (.cells .plain [v']::.cells .plain [.str s]::.loop (jN st)::(J++[.cells .plain c.cs])) K')∧Acc st K' 3 ((xs++[c]).map Clu.dv) v':=by
 obtain⟨v2,K2,e2,hA2⟩:=jf (H:=.cells .plain [v]::.cells .plain [.str s]::.loop { jN st with state:=1 }::(J++[.cells .plain c.cs])) (t:=st.cur) (by_:=24) (ag:=true) (tk:=.tight) (ys:=[c.dv]) hA (by omega) (by simp) (by simp[EG]) (by simp[ay];omega) (by simp[ay];omega);refine⟨v2,K2,?_,by simpa using hA2⟩;obtain⟨t',n',tk',nn',rfl⟩:=ib hA2;rw[wA (lo:=jN st) rfl rfl];simp[jN,Clu.cs,Clu.dv] at e2 ⊢;simp[aW,bk,ix,chunk,e2]
theorem Hk (s:List UInt8) (hs:s.length≤4096) (st:St):∀ (n i:Nat) (J:List HO) (K:List Nat) (xs:List Clu) (v:DV),s.length≤i+n→i≤s.length→xs.length≤i→Acc st K 3 (xs.map Clu.dv) v →
 ∃ v' J' K',(E tab).C sd [(0,.yield (st.heap.length+2)),(1,.ptr (st.heap.length+1) 0),(3,.int .i64 i)] (pst st (.cells .plain [v]::.cells .plain [.str s]::.loop (jN st)::J) K) =
   some (.exit 0,[(0,.yield (st.heap.length+2)),(1,.ptr (st.heap.length+1) 0),(3,.int .i64 s.length),(8,.bool false)],pst st (.cells .plain [v']::.cells .plain [.str s]::.loop (jN st)::J') K')∧Acc st K' 3 ((xs++fv s n i).map Clu.dv) v':=by
 intro n
 induction n with
 | zero=>
   intro i J K xs v h1 h2 h3 hA;obtain rfl:i=s.length:=by omega
   refine⟨v,J,K,?_,by simpa[fv] using hA⟩;rw[al (L:=sd) rfl];simp[wx]
 | succ n ih=>
   intro i J K xs v h1 h2 h3 hA;by_cases hi:i<s.length
   · have hw:IntKind.i64.wrap ((i:Int)+1)=((i+1:Nat):Int):=by rw[aG (by omega)];simp
     have ht:=qu s (jm s i) 2 (i+1);have hL:=Hx s hs (.yield (st.heap.length+2)) st (.cells .plain [v]::.cells .plain [.str s]::.loop (jN st)::J) (fun o=>rfl) K i hi (jm s i) 2 (i+1) (by omega) (by omega);have hg:jm s i=kd (s[i]).toNat:=by simp[jm,hi]
     obtain⟨v2,K2,e2,hA2⟩:=CV s ⟨i,cTo s i,jm s i⟩ st (J++[.cells .plain (Clu.cs ⟨i,cTo s i,jm s i⟩)]) K xs v (by omega) hA;obtain⟨v3,J3,K3,e3,hA3⟩:=ih (cTo s i) (J++[.cells .plain (Clu.cs ⟨i,cTo s i,jm s i⟩)]++[.cells .plain (Clu.cs ⟨i,cTo s i,jm s i⟩)]) K2 (xs++[⟨i,cTo s i,jm s i⟩]) v2 (by unfold cTo;omega) (by unfold cTo;omega) (by unfold cTo;simp;omega) (by simpa using hA2);refine⟨v3,J3,K3,?_,by simpa[fv,hi] using hA3⟩;rw[al (L:=sd) rfl];simp[Clu.cs,Clu.dv,cTo] at e2 e3 hL ⊢;simp[wx,hi,hw,FG,hL,← hg,e2,e3]
   · obtain rfl:i=s.length:=by omega
     refine⟨v,J,K,?_,by simpa[fv] using hA⟩;rw[al (L:=sd) rfl];simp[wx]
theorem vZ (s:List UInt8) (st:St):∃ v,(E tab).F 27 [.str s] st=some (v,st)∧FD s v:=by
 rw[aK MA rfl];by_cases hw:c8 s=0
 · obtain⟨hs,_⟩:=eD hw;obtain⟨v',J,K',h1,h2⟩:=Hk s hs st s.length 0 [] [] [] ik (by omega) (by omega) (by simp) (fR _ _ _ _ _ _);obtain⟨t,n',tk,nn,e1,e2,e3,e4⟩:=pY (st':=pst st (.cells .plain [v']::.cells .plain [.str s]::.loop { jN st with state:=3 }::J) K') h2;obtain⟨t',n'',tk',nn',rfl⟩:=ib h2;refine⟨.tuple [.list t n' tk nn ((kA s).map Clu.dv),.int .i64 0],?_,t,n',tk,nn,by simp[hw],e3,by simpa[hw,kA] using e2⟩
   have h55:∀ (H:List HO) (K:List Nat),(E tab).F 55 [.str s] (pst st H K)=some (.fn 69 [] [.ptr (st.heap.length+H.length) 0],pst st (H++[.cells .plain [.str s]]) K):=by
    intro H K;rw[dV M8 rfl];simp[f55]
   have h69:(E tab).F 69 [.yield (st.heap.length+2),.ptr (st.heap.length+1) 0] (pst st [.cells .plain [ik],.cells .plain [.str s],.loop (jN st)] [])=some (.tuple [],pst st (.cells .plain [.list t' n'' tk' nn' (([]++fv s s.length 0).map Clu.dv)]::.cells .plain [.str s]::.loop (jN st)::J) K'):=by
    rw[dV G5 rfl];simp at h1;simp[f69,h1]
   simp[jN] at h69 e1
   have hr:∀ (fr:Fr) (H:List HO),(E tab).C (.eZ (.t 13) [14] (.region Bl [5,6]) (.block 1 (.region zX [])) [5,13]) [(5,.ptr st.heap.length 0),(13,.fn 69 [] [.ptr (st.heap.length+1) 0])] (pst st [.cells .plain [ik],.cells .plain [.str s]] [])=some (.normal,[(5,.ptr st.heap.length 0),(13,.fn 69 [] [.ptr (st.heap.length+1) 0])],pst st (.cells .plain [.list t' n'' tk' nn' ((fv s s.length 0).map Clu.dv)]::.cells .plain [.str s]::.loop { jN st with state:=3 }::J) K'):=by
    intro fr H;rw[xc (g:=69) (first:=[]) (captured:=[.ptr (st.heap.length+1) 0]) rfl G5];simp[h69,jN]
   simp[jN] at hr;simp[f27,vY,hw,h55,hr,kA,e1]
 · exact⟨.tuple [.list 0 0 .no false [],.int .i64 (c8 s)],by simp[f27,vY,hw],0,0,.no,false,by simp[hw],by simp,by simp[hw]⟩
theorem MX:tab 13=some (.code f13):=by kernel_rfl
theorem Mo:tab 40=some (.code f40):=by kernel_rfl
theorem MF:tab 41=some (.code f41):=by kernel_rfl
theorem MK:tab 42=some (.code f42):=by kernel_rfl
theorem LX:tab 43=some (.code f43):=by kernel_rfl
theorem M0:tab 44=some (.code f44):=by kernel_rfl
theorem Na:tab 61=some (.code f61):=by kernel_rfl
theorem MS:tab 62=some (.code f62):=by kernel_rfl
theorem MM:tab 64=some (.eW dX):=by kernel_rfl
theorem L6:tab 72=some (.eW dT):=by kernel_rfl
def fb (n a b:Int):Bool:=decide (a≤n∧n≤b)
structure bA where
 z:Int
 t:Int
 e:Int
 deriving DecidableEq
def bA.cs (c:bA):List DV:=[.int .i64 c.z,.int .i64 c.t,.int .i64 c.e]
def dN (c:bA):Bool:=fb c.z 0 64&&fb c.t 0 15&&fb c.e 0 1
theorem FF (c:bA) (st:St):(E tab).F 62 [.agg c.cs] st=some (.bool (dN c),st):=by
 rw[aK MS rfl];by_cases h1:0≤c.z
 · by_cases h2:c.z≤64
   · by_cases h3:0≤c.t
     · by_cases h4:c.t≤15
       · by_cases h5:c.e=0
         · simp[f62,bA.cs,dN,fb,h1,h2,h3,h4,h5]
         · by_cases h6:c.e=1
           · simp[f62,bA.cs,dN,fb,h1,h2,h3,h4,h6]
           · simp[f62,bA.cs,dN,fb,h1,h2,h3,h4,h5,h6];rw[aaW];simp;omega
       · simp[f62,bA.cs,dN,fb,h1,h2,h3,h4]
     · simp[f62,bA.cs,dN,fb,h1,h2,h3]
   · simp[f62,bA.cs,dN,fb,h1,h2]
 · simp[f62,bA.cs,dN,fb,h1]
structure eA where
 size:Int
 vS:Int
 align:Int
 first:Int
 inn:Int
 out:Int
 before:Int
 after:Int
 next:Int
 whole:Int
 qd:Int
 vH:Int
 bS:Int
 least:Int
 drop:Int
 list:Int
 level:Int
 deriving DecidableEq
def eA.l (p:eA):List Int:=[p.size,p.vS,p.align,p.first,p.inn,p.out,p.before,p.after,p.next,p.whole,p.qd,p.vH,p.bS,p.least,p.drop,p.list,p.level]
def eA.cs (p:eA):List DV:=[.int .i64 p.size,.int .i64 p.vS,.int .i64 p.align,.int .i64 p.first,.int .i64 p.inn,.int .i64 p.out,.int .i64 p.before,.int .i64 p.after,.int .i64 p.next,.int .i64 p.whole,.int .i64 p.qd,.int .i64 p.vH,.int .i64 p.bS,.int .i64 p.least,.int .i64 p.drop,.int .i64 p.list,.int .i64 p.level]
def cu (p:eA):Bool:=fb p.size 1 64&&fb p.vS 1 255&&fb p.align 0 3&&fb p.first 0 255&&fb p.inn 0 255&&fb p.out 0 255&&fb p.before 0 255&&fb p.after 0 255&&fb p.next 0 1&&fb p.whole 0 1&&fb p.qd 1 4&&fb p.vH 1 4&&fb p.bS 0 1&&fb p.least 0 1&&fb p.drop 0 4&&fb p.list 0 8&&fb p.level 0 3
def jb (ok:Nat→Bool):Nat→Nat→Bool
 | _,0=>true
 | i,k+1=>ok i&&jb ok (i+1) k
theorem IY (vs:List DV) (n lo hi:Nat→Int) (hv:∀ i,i<17→(vs.drop (i*3)).take 3=[.int .i64 (n i),.int .i64 (lo i),.int .i64 (hi i)]) (hl:vs.length=51) (st:St) (K:List Nat):∀ (k i:Nat) (H:List HO),i+k=17 →
 ∃ J,(E tab).C oW [(56,.agg vs),(57,.int .i64 i)] (pst st H K) =
   some (if jb (fun j=>fb (n j) (lo j) (hi j)) i k then (.exit 0,[(56,.agg vs),(57,.int .i64 (17:Nat)),(58,.bool false)],pst st (H++J) K) else (.ret,[(2,.bool false)],pst st (H++J) K)):=by
 intro k
 induction k with
 | zero=>
   intro i H hi0;obtain rfl:i=17:=by omega
   refine⟨[],?_⟩;rw[al (L:=oW) rfl];simp[tN,jb]
 | succ k ih=>
   intro i H hi0;have h0:(i:Int)<17:=by omega
   have hw:IntKind.i64.wrap ((i:Int)+1)=((i+1:Nat):Int):=by rw[aG (by omega)];simp
   have hx:=hv i (by omega);have hx2:i*3+3≤vs.length:=by omega
   by_cases h1:n i<lo i
   · refine⟨[.cells .plain [.int .i64 (n i),.int .i64 (lo i),.int .i64 (hi i)]],?_⟩;rw[al (L:=oW) rfl];simp[tN,h0,hx,hx2,h1,jb,fb,show ¬ lo i≤n i by omega]
   by_cases h2:hi i<n i
   · refine⟨[.cells .plain [.int .i64 (n i),.int .i64 (lo i),.int .i64 (hi i)]],?_⟩;rw[al (L:=oW) rfl];simp[tN,h0,hx,hx2,h1,h2,jb,fb,show ¬ n i≤hi i by omega]
   obtain⟨J,hJ⟩:=ih (i+1) (H++[.cells .plain [.int .i64 (n i),.int .i64 (lo i),.int .i64 (hi i)]]) (by omega);refine⟨.cells .plain [.int .i64 (n i),.int .i64 (lo i),.int .i64 (hi i)]::J,?_⟩;have e1:fb (n i) (lo i) (hi i)=true:=by simp[fb];omega
   rw[al (L:=oW) rfl];simp[e1,jb] at hJ ⊢;simp[tN,h0,hx,hx2,h1,h2,hw,hJ]
theorem CF (p:eA) (st:St):(E tab).F 42 [.agg p.cs] st=some (.bool (cu p),st):=by
 rw[aK MK rfl]
 obtain⟨J,hJ⟩:=IY [.int .i64 p.size,.int .i64 1,.int .i64 64,.int .i64 p.vS,.int .i64 1,.int .i64 255,.int .i64 p.align,.int .i64 0,.int .i64 3,.int .i64 p.first,.int .i64 0,.int .i64 255,.int .i64 p.inn,.int .i64 0,.int .i64 255,.int .i64 p.out,.int .i64 0,.int .i64 255,.int .i64 p.before,.int .i64 0,.int .i64 255,.int .i64 p.after,.int .i64 0,.int .i64 255,.int .i64 p.next,.int .i64 0,.int .i64 1,.int .i64 p.whole,.int .i64 0,.int .i64 1,.int .i64 p.qd,.int .i64 1,.int .i64 4,.int .i64 p.vH,.int .i64 1,.int .i64 4,.int .i64 p.bS,.int .i64 0,.int .i64 1,.int .i64 p.least,.int .i64 0,.int .i64 1,.int .i64 p.drop,.int .i64 0,.int .i64 4,.int .i64 p.list,.int .i64 0,.int .i64 8,.int .i64 p.level,.int .i64 0,.int .i64 3] (fun i=>p.l.getD i 0) (fun i=>([1,1,0,0,0,0,0,0,0,0,1,1,0,0,0,0,0]:List Int).getD i 0) (fun i=>([64,255,3,255,255,255,255,255,1,1,4,4,1,1,4,8,3]:List Int).getD i 0) (by
  intro i hi
  match i,hi with
  | 0,_=>rfl
  | 1,_=>rfl
  | 2,_=>rfl
  | 3,_=>rfl
  | 4,_=>rfl
  | 5,_=>rfl
  | 6,_=>rfl
  | 7,_=>rfl
  | 8,_=>rfl
  | 9,_=>rfl
  | 10,_=>rfl
  | 11,_=>rfl
  | 12,_=>rfl
  | 13,_=>rfl
  | 14,_=>rfl
  | 15,_=>rfl
  | 16,_=>rfl
  | k+17,h=>omega) rfl st [] 17 0 [.cells .plain p.cs] rfl
 have e:jb (fun j=>fb (p.l.getD j 0) (([1,1,0,0,0,0,0,0,0,0,1,1,0,0,0,0,0]:List Int).getD j 0) (([64,255,3,255,255,255,255,255,1,1,4,4,1,1,4,8,3]:List Int).getD j 0)) 0 17=cu p:=by
  simp[jb,cu,eA.l,Bool.and_assoc]
 rw[e] at hJ;cases h:cu p<;>simp[h,eA.cs] at hJ<;>simp[f42,eA.cs,hJ]
def jH (c:UInt8):Bool:=decide (33≤c.toNat∧c.toNat≤126)
def dm (s:List UInt8) (n:Int):Bool:=s.all jH&&decide ((s.length:Int)≤n)
theorem Ji (s:List UInt8) (hs:s.length≤140737488355328) (x y:DV) (st:St) (cur:Nat):∀ (r d:List UInt8),s=d++r →
 (E tab).C wI [(0,x),(1,y),(8,.list cur 1 .no true (s.map fun b=>.int .u8 b.toNat)),(9,.int .i64 s.length),(10,.int .i64 d.length)] st =
  some (if r.all jH then (.exit 0,[(0,x),(1,y),(8,.list cur 1 .no true (s.map fun b=>.int .u8 b.toNat)),(9,.int .i64 s.length),(10,.int .i64 s.length),(11,.bool false)],st) else (.ret,[(4,.bool false)],st)):=by
 intro r
 induction r with
 | nil=>
   intro d hd;rw[al (L:=wI) rfl];simp[r9,hd]
 | cons c r ih=>
   intro d hd;have h0:d.length<s.length:=by simp[hd]
   have hw:IntKind.i64.wrap ((d.length:Int)+1)=((d++[c]).length:Nat):=by rw[aG (by omega)];simp
   have hg:s[d.length]=c:=by simp[hd]
   rw[al (L:=wI) rfl];have hJ:=ih (d++[c]) (by simp[hd]);by_cases h1:(c.toNat:Int)≤32
   · simp[r9,h0,hg,h1,jH,show ¬ 33≤c.toNat by omega]
   by_cases h2:(126:Int)<c.toNat
   · simp[r9,h0,hg,h1,h2,jH,show ¬ c.toNat≤126 by omega]
   have e1:jH c=true:=by simp[jH];omega
   simp[e1] at hJ ⊢;simp[r9,h0,hg,h1,h2,hw,hJ]
theorem w9 (s:List UInt8) (hs:s.length≤140737488355328) (n:Int) (st:St):(E tab).F 43 [.str s,.int .i64 n] st=some (.bool (dm s n),st):=by
 rw[aK LX rfl];have h:=Ji s hs (.str s) (.int .i64 n) (pst st [] []) st.cur s [] rfl;simp at h
 cases h2:s.all jH with
 | true=>
   rw[if_pos (by simpa using h2)] at h;simp[f43,dm,h,h2]
 | false=>
   rw[if_neg (by simpa using h2)] at h;simp[f43,dm,h,h2]
theorem wG {g:Nat} {p:List DV→St→Option (DV×St)} {args:List DV} {st:St} (h:tab g=some (.eW p)):(E tab).F g args st=p args st:=by
 rw[EF];simp only[cS,h]
theorem wH (s:List UInt8) (c:UInt8) (st:St):(E tab).F 40 [.str s,.int .u8 (c.toNat:Int)] st=some (.int .i64 (Lib.indexByte s c),st):=by
 have h72:∀ st,(E tab).F 72 [.str s,.int .u8 (c.toNat:Int)] st=some (.int .i64 (Lib.indexByte s c),st):=fun st=>by
  rw[wG L6];simp[dT]
 have h61:∀ st,(E tab).F 61 [.str s,.int .u8 (c.toNat:Int)] st=some (.int .i64 (Lib.indexByte s c),st):=fun st=>by
  rw[aK Na rfl];simp[f61,h72]
 rw[aK Mo rfl];simp[f40,h61]
theorem ng (c:UInt8):∀ s:List UInt8,0≤Lib.indexByte s c↔c∈s
 | []=>by simp[Lib.indexByte]
 | b::r=>by
   have:=ng c r;have h1:=Lib.indexByte_ge r c;unfold Lib.indexByte;by_cases h:b=c
   · simp[h]
   · by_cases h2:c∈r
     · have:=this.2 h2;simp[h,h2];split<;>omega
     · have h3:¬ 0≤Lib.indexByte r c:=fun h=>h2 (this.1 h);have h4:Lib.indexByte r c = -1:=by omega
       have h5:¬ c=b:=fun e=>h e.symm;simp[h,h2,h4,h5]
theorem Dp (s:List UInt8) (st:St):(E tab).F 44 [.str s,.str [2]] st=some (.int .i64 (s.count 2),st):=by
 have h64:∀ st,(E tab).F 64 [.str s,.int .u8 2] st=some (.int .i64 (s.count 2),st):=fun st=>by
  rw[wG MM];simp[dX,Lib.countByte]
 rw[aK M0 rfl];simp[f44,h64]
structure Span where
 n:Int
 c:bA
 deriving DecidableEq
def Span.cs (s:Span):List DV:=[.int .i64 s.n,.int .i64 s.c.z,.int .i64 s.c.t,.int .i64 s.c.e]
def Span.dv (s:Span):DV:=.agg s.cs
@[simp] theorem Span.leaves (s:Span):s.dv.leaves=s.cs:=rfl
def dY:Int→List Span→Option Int
 | n,[]=>some n
 | n,s::r=>if 1≤s.n∧s.n≤n∧dN s.c=true then dY (n-s.n) r else none
theorem I6 (l:List Span) (t n':Nat) (tk:Tk) (nn:Bool) (hn:l≠[]→n'=4) (st:St) (K:List Nat):∀ (r d:List Span) (n:Int) (H:List HO),l=d++r→0≤n→(d.length:Int)+n≤4096 →
 ∃ J fr,(E tab).C nf [(1,.int .i64 n),(7,.list t n' tk nn (l.map Span.dv)),(8,.int .i64 l.length),(9,.int .i64 d.length)] (pst st H K) =
   some (match dY n r with | some m=>(.exit 0,(1,.int .i64 m)::fr,pst st (H++J) K) | none=>(.ret,[(4,.bool false)],pst st (H++J) K)):=by
 intro r
 induction r with
 | nil=>
   intro d n H hd _ _;refine⟨[],[(7,.list t n' tk nn (l.map Span.dv)),(8,.int .i64 l.length),(9,.int .i64 l.length),(10,.bool false)],?_⟩;rw[al (L:=nf) rfl];simp[pj,hd,dY]
 | cons c r ih=>
   intro d n H hd h0 h1;obtain rfl:n'=4:=hn (by simp[hd]);have hl:d.length<l.length:=by simp[hd]
   have hg:l[d.length]=c:=by simp[hd]
   have hw:IntKind.i64.wrap ((d.length:Int)+1)=((d++[c]).length:Nat):=by rw[aG (by omega)];simp
   have h62:=fun st=>FF c.c st;simp only[bA.cs] at h62;by_cases a1:c.n<1
   · refine⟨[.cells .plain c.cs],[],?_⟩;rw[al (L:=nf) rfl];simp[pj,hl,hg,Span.cs,a1,dY,show ¬ 1≤c.n by omega]
   by_cases a2:n<c.n
   · refine⟨[.cells .plain c.cs],[],?_⟩;rw[al (L:=nf) rfl];simp[pj,hl,hg,Span.cs,a1,a2,dY,show ¬ c.n≤n by omega]
   cases a3:dN c.c with
   | false=>
     refine⟨[.cells .plain c.cs],[],?_⟩;rw[al (L:=nf) rfl];simp[pj,hl,hg,Span.cs,a1,a2,a3,h62,dY]
   | true=>
     obtain⟨J,fr,hJ⟩:=ih (d++[c]) (n-c.n) (H++[.cells .plain c.cs]) (by simp[hd]) (by omega) (by simp;omega);refine⟨.cells .plain c.cs::J,fr,?_⟩;have hw2:IntKind.i64.wrap (n-c.n)=n-c.n:=aG (by omega);rw[al (L:=nf) rfl];simp[dY,a3,show 1≤c.n∧c.n≤n by omega,Span.cs] at hJ ⊢;simp[pj,hl,hg,Span.cs,a1,a2,a3,h62,hw,hw2,hJ]
def eb (n:Int) (l:List Span):Bool:=dY n l==some 0
theorem DI (l:List Span) (t n':Nat) (tk:Tk) (nn:Bool) (hn:l≠[]→n'=4) (n:Int) (h0:0≤n) (h1:n≤4096) (st:St) :
 (E tab).F 41 [.list t n' tk nn (l.map Span.dv),.int .i64 n] st=some (.bool (eb n l),st):=by
 rw[aK MF rfl];obtain⟨J,fr,h⟩:=I6 l t n' tk nn hn st [] l [] n [] rfl h0 (by simpa using h1);simp at h
 cases hm:dY n l with
 | none=>
   rw[hm] at h;simp[f41,h,eb,hm]
 | some m=>
   rw[hm] at h;simp[f41,h,eb,hm]
structure LW where
 t:Nat
 n:Nat
 tk:Tk
 nn:Bool
def LW.dv (w:LW) (xs:List DV):DV:=.list w.t w.n w.tk w.nn xs
def LW.ok {α:Type} (w:LW) (n:Nat) (xs:List α):Prop:=(w.nn=true→w.n=n)∧(w.nn=false→xs=[])
theorem LW.ok.n {α:Type} {w:LW} {n:Nat} {xs:List α} (h:w.ok n xs) (hx:xs≠[]):w.n=n:=by
 cases e:w.nn with
 | true=>exact h.1 e
 | false=>exact absurd (h.2 e) hx
structure bb where
 text:List UInt8
 aI:List Span
 pr:eA
 label:List UInt8
 marks:List (List UInt8)
def aj (p:bb) (w u:LW):List DV:=.str p.text::w.dv (p.aI.map Span.dv)::(p.pr.cs++[.str p.label,u.dv (p.marks.map .str)])
@[simp high] theorem pc0 (p:bb) (w u:LW):(aj p w u)[0]? = some (.str p.text):=rfl
@[simp high] theorem pc1 (p:bb) (w u:LW):(aj p w u)[1]? = some (.list w.t w.n w.tk w.nn (p.aI.map Span.dv)):=rfl
@[simp high] theorem pc2 (p:bb) (w u:LW):(aj p w u)[2]? = some (.int .i64 p.pr.size):=rfl
@[simp high] theorem Nw (p:bb) (w u:LW):(aj p w u)[19]? = some (.str p.label):=rfl
@[simp high] theorem Ny (p:bb) (w u:LW):(aj p w u)[20]? = some (.list u.t u.n u.tk u.nn (p.marks.map .str)):=rfl
@[simp] theorem pcl (p:bb) (w u:LW):(aj p w u).length=21:=rfl
@[simp] theorem pcP (p:bb) (w u:LW):((aj p w u).drop 2).take 17=p.pr.cs:=rfl
@[simp] theorem pcA (p:bb) (w u:LW):(aj p w u).take 21=aj p w u:=rfl
@[simp high] theorem pcS (p:bb) (w u:LW):(aj p w u).all DV.aT=true:=rfl
def fZ (m:List UInt8):Bool:=!(m==[])&&dm m 8
def az (p:bb):Int:=
 if c8 p.text=0 then
  if (3:UInt8)∈p.text then 4
  else if eb p.text.length p.aI&&cu p.pr&&dm p.label 16&&decide (p.marks.length=p.text.count 2) then (if p.marks.all fZ then 0 else 2)
  else 2
 else c8 p.text
def bb.small (p:bb):Prop:=p.label.length≤140737488355328∧p.marks.length≤140737488355328∧∀ m∈p.marks,m.length≤140737488355328
theorem Jy (l:List (List UInt8)) (hs:l.length≤140737488355328) (hm:∀ m∈l,m.length≤140737488355328) (u:LW) (hn:l≠[]→u.n=1) (st:St):∀ (r d:List (List UInt8)),l=d++r →
 (E tab).C vK [(49,.list u.t u.n u.tk u.nn (l.map .str)),(50,.int .i64 l.length),(51,.int .i64 d.length)] st =
  some (if r.all fZ then (.exit 0,[(49,.list u.t u.n u.tk u.nn (l.map .str)),(50,.int .i64 l.length),(51,.int .i64 l.length),(52,.bool false)],st) else (.ret,[(2,.int .i64 2)],st)):=by
 intro r
 induction r with
 | nil=>
   intro d hd;rw[al (L:=vK) rfl];simp[tz,hd]
 | cons c r ih=>
   intro d hd;have hu:=hn (by simp[hd]);have h0:d.length<l.length:=by simp[hd]
   have hw:IntKind.i64.wrap ((d.length:Int)+1)=((d++[c]).length:Nat):=by rw[aG (by omega)];simp
   have hg:l[d.length]=c:=by simp[hd]
   have h43:=fun st=>w9 c (hm c (by simp[hd])) 8 st;rw[al (L:=vK) rfl];have hJ:=ih (d++[c]) (by simp[hd]);by_cases h1:c=[]
   · simp[tz,h0,hg,hu,h1,fZ]
   cases h2:dm c 8 with
   | false=>simp[tz,h0,hg,hu,h1,h2,h43,fZ]
   | true=>
     simp[fZ,h1,h2,hu] at hJ ⊢;simp[tz,h0,hg,h1,h2,h43,hw,hJ]
theorem v8 (p:bb) (hp:p.small) (w u:LW) (hw:w.ok 4 p.aI) (hu:u.ok 1 p.marks) (st:St):(E tab).F 13 [.agg (aj p w u)] st=some (.int .i64 (az p),st):=by
 rw[aK MX rfl];obtain⟨v,hv,t,n',tk,nn,rfl,_⟩:=vZ p.text (pst st [.cells .plain (aj p w u)] []);by_cases h1:c8 p.text=0
 · rw[h1] at hv;obtain⟨hlen,_⟩:=eD h1;by_cases h2:(3:UInt8)∈p.text
   · have h2':=(ng 3 p.text).2 h2;have h40:=fun st=>wH p.text 3 st;simp at h40;simp[f13,az,h1,hv,h2,h40,h2']
   have h2':¬ 0≤Lib.indexByte p.text 3:=fun h=>h2 ((ng 3 p.text).1 h);have h40:=fun st=>wH p.text 3 st;simp at h40;have h41:=fun st=>DI p.aI w.t w.n w.tk w.nn hw.n p.text.length (by omega) (by omega) st;have h42:=fun st=>CF p.pr st;have h43:=fun st=>w9 p.label hp.1 16 st;have h44:=fun st=>Dp p.text st;cases a1:eb p.text.length p.aI
   · simp[f13,az,h1,hv,h2,h40,h2',h41,a1]
   cases a2:cu p.pr
   · simp[f13,az,h1,hv,h2,h40,h2',h41,h42,a1,a2]
   cases a3:dm p.label 16
   · simp[f13,az,h1,hv,h2,h40,h2',h41,h42,h43,a1,a2,a3]
   by_cases a4:p.marks.length=p.text.count 2
   · have a4':(p.marks.length:Int)=p.text.count 2:=by omega
     have h13:=Jy p.marks hp.2.1 hp.2.2 u hu.n (pst st [.cells .plain (aj p w u)] []) p.marks [] rfl;simp[a4] at h13;by_cases a5:∀ x∈p.marks,fZ x=true
     · rw[if_pos a5] at h13;simp[f13,az,h1,hv,h2,h40,h2',h41,h42,h43,h44,a1,a2,a3,a4,h13];exact a5
     · rw[if_neg a5] at h13;simp[f13,az,h1,hv,h2,h40,h2',h41,h42,h43,h44,a1,a2,a3,a4,h13];simpa using a5
   · have a4':¬ (p.marks.length:Int)=p.text.count 2:=by omega
     simp[f13,az,h1,hv,h2,h40,h2',h41,h42,h43,h44,a1,a2,a3,a4,a4']
 · simp[f13,az,h1,hv]
theorem Mp:tab 10=some (.code f10):=by kernel_rfl
theorem Mv:tab 29=some (.code f29):=by kernel_rfl
theorem Ma:tab 56=some (.code f56):=by kernel_rfl
def dc:Int→List Span→Int→Option bA
 | _,[],_=>none
 | e,s::r,i=>if i<e+s.n then some s.c else dc (e+s.n) r i
def oL:bA:=⟨0,0,0⟩
def bz (l:List Span) (i:Int):bA:=(dc 0 l i).getD oL
def fC:List Span→Int
 | []=>0
 | s::r=>s.n+fC r
def lU (l:List Span):Prop:=∀ s∈l,1≤s.n∧dN s.c=true
theorem jc:∀ (r:List Span) (n m:Int),dY n r=some m→lU r∧fC r=n-m
 | [],n,m,e=>by
   simp[dY] at e;exact⟨fun s hs=>(by cases hs),by simp[fC];omega⟩
 | s::r,n,m,e=>by
   simp only[dY] at e;split at e
   · rename_i h;obtain⟨h1,h2⟩:=jc r _ m e;refine⟨fun x hx=>?_,by simp[fC];omega⟩;rcases aaA.1 hx with rfl | hx
     · exact⟨h.1,h.2.2⟩
     · exact h1 x hx
   · cases e
theorem rH:∀ {l:List Span},lU l→(l.length:Int)≤fC l
 | [],_=>by simp[fC]
 | s::r,h=>by
   have:=rH (l:=r) fun x hx=>h x (aao _ hx);have:=(h s (aap ..)).1;simp[fC];omega
def sizeOf (p:bb) (i:Int):Int:=if (bz p.aI i).z=0 then p.pr.size else (bz p.aI i).z
def aV (k:Int):Bool:=k==1||k==2
theorem Ij (x0:HO) (i:Int) (w:LW) (st:St) (K:List Nat) (J:List HO):∀ (r:List Span) (s:Span) (e:Int) (tk:Tk),lU (s::r)→0≤e→e+fC (s::r)≤4096→e≤i→i<e+fC (s::r) →
 ∃ e' s' r' tk' fr,(E tab).C rY [(0,.int .i64 i),(1,.ptr (st.heap.length+1) 0),(2,.ptr (st.heap.length+2) 0),(4,.ptr (st.heap.length+(J.length+3)) 0)] (pst st (x0::.cells .plain [.list w.t 4 tk true ((s::r).map Span.dv)]::.cells .plain [.int .i64 (e+s.n)]::(J++[.cells .plain oL.cs])) K) =
   some (.exit 0,(0,.int .i64 i)::(1,.ptr (st.heap.length+1) 0)::(2,.ptr (st.heap.length+2) 0)::(4,.ptr (st.heap.length+(J.length+3)) 0)::fr,pst st (x0::.cells .plain [.list w.t 4 tk' true ((s'::r').map Span.dv)]::.cells .plain [.int .i64 (e'+s'.n)]::(J++[.cells .plain oL.cs])) K) ∧
   lU (s'::r')∧e≤e'∧e'+fC (s'::r')=e+fC (s::r)∧e'≤i∧i<e'+s'.n∧(∀ j,i≤j→dc e (s::r) j=dc e' (s'::r') j):=by
 intro r
 induction r with
 | nil=>
   intro s e tk h1 h2 h3 h4 h5;refine⟨e,s,[],tk,[(12,.bool false)],?_,h1,Int.le_refl _,rfl,h4,by simpa[fC] using h5,fun _ _=>rfl⟩;rw[al (L:=rY) rfl];simp[wL]
 | cons c r ih=>
   intro s e tk h1 h2 h3 h4 h5;by_cases a:e+s.n≤i
   · have hc:lU (c::r):=fun x hx=>h1 x (aao _ hx);have hs:=(h1 s (aap ..)).1;have hg:=rH hc;simp only[fC] at h3 h5 hg;have hcn:=(hc c (aap ..)).1;simp only[aaw] at hg;have hw2:IntKind.i64.wrap (e+s.n+c.n)=e+s.n+c.n:=aG (by have:=rH (l:=r) (fun x hx=>hc x (aao _ hx));omega);obtain⟨e',s',r',tk',fr,k1,k2,k3,k4,k5,k6,k7⟩:=ih c (e+s.n) (tU tk (r.length+2) 1 (r.length+2)) hc (by omega) (by simp only[fC];omega) a (by simp only[fC];omega);refine⟨e',s',r',tk',fr,?_,k2,by omega,?_,k5,k6,fun j hj=>?_⟩
     · rw[al (L:=rY) rfl];have hsl:b6 false 4 (.list w.t 4 tk true (s.dv::c.dv::r.map Span.dv)) (some (.int .i64 1)) none none=_:=qO (fun _=>rfl) (by omega) (by simp;omega);simp[oL,bA.cs] at k1 hsl ⊢;simp[wL,a,hsl,hw2,Span.cs,k1,show (1:Int)<r.length+1+1 by omega]
     · rw[k4];simp only[fC];omega
     · rw[← k7 j hj];simp only[dc];rw[if_neg (by omega)]
   · refine⟨e,s,c::r,tk,[(12,.bool false)],?_,h1,Int.le_refl _,rfl,h4,by omega,fun _ _=>rfl⟩;rw[al (L:=rY) rfl];simp[wL,a,show (1:Int)<r.length+1+1 by omega]
structure Dv (l:List Span) (i:Int) (e:Int) (s:Span) (r:List Span):Prop where
 ok:lU (s::r)
 e0:0≤e
 ei:e≤i
 sum:e+fC (s::r)=fC l
 same:∀ j,i≤j→dc 0 l j=dc e (s::r) j
theorem EH (l:List Span) (x0:HO) (i:Int) (w:LW) (st:St) (K:List Nat) (J:List HO) (r:List Span) (s:Span) (e i0:Int) (tk:Tk) (h:Dv l i0 e s r) (hi:i0≤i) (h3:fC l≤4096) (h5:i<fC l) :
 ∃ e' s' r' tk',(E tab).F 56 [.int .i64 i,.ptr (st.heap.length+1) 0,.ptr (st.heap.length+2) 0] (pst st (x0::.cells .plain [.list w.t 4 tk true ((s::r).map Span.dv)]::.cells .plain [.int .i64 (e+s.n)]::J) K) =
   some (.agg (bz l i).cs,pst st (x0::.cells .plain [.list w.t 4 tk' true ((s'::r').map Span.dv)]::.cells .plain [.int .i64 (e'+s'.n)]::(J++[.cells .plain (bz l i).cs])) K)∧Dv l i e' s' r':=by
 obtain⟨e',s',r',tk',fr,k1,k2,k3,k4,k5,k6,k7⟩:=Ij x0 i w st K J r s e tk h.ok h.e0 (by have:=h.sum;omega) (by have:=h.ei;omega) (by have:=h.sum;omega)
 have hlk:bz l i=s'.c:=by
  unfold bz;rw[h.same i hi,k7 i (Int.le_refl _)];simp[dc,k6]
 refine⟨e',s',r',tk',?_,k2,by have:=h.e0;omega,k5,by rw[k4];exact h.sum,fun j hj=>by rw[h.same j (by omega),k7 j hj]⟩;rw[dV Ma rfl,hlk];simp[oL,bA.cs] at k1 ⊢;simp[f56,k1,Span.cs]
def mN:List Span→Int
 | []=>0
 | s::_=>s.n
theorem Dw (x0:HO) (w:LW) (l:List Span) (hw:w.ok 4 l) (st:St) (K:List Nat):(E tab).F 29 [.list w.t w.n w.tk w.nn (l.map Span.dv)] (pst st [x0] K) =
 some (.fn 56 [] [.ptr (st.heap.length+1) 0,.ptr (st.heap.length+2) 0],pst st [x0,.cells .plain [.list w.t w.n w.tk w.nn (l.map Span.dv)],.cells .plain [.int .i64 (mN l)]] K):=by
 rw[dV Mv rfl]
 cases l with
 | nil=>simp[f29,mN]
 | cons s r=>
   have:=hw.n (by simp);simp[f29,this,mN,Span.cs,show (0:Int)<r.length+1 by omega]
theorem kV (p:bb) (hp:cu p.pr=true) (h1:lU p.aI) (i:Int):1≤sizeOf p i∧sizeOf p i≤64∧0≤(bz p.aI i).t∧(bz p.aI i).t≤15:=by
 have hs:1≤p.pr.size∧p.pr.size≤64:=by
  simp only[cu,aab,fb,decide_eq_true_eq] at hp;omega
 have:∀ (l:List Span) (e:Int),lU l→dN ((dc e l i).getD oL)=true:=by
  intro l
  induction l with
  | nil=>intro e _;rfl
  | cons s r ih=>
    intro e h;simp only[dc];split
    · exact(h s (aap ..)).2
    · exact ih _ fun x hx=>h x (aao _ hx)
 have:=this p.aI 0 h1;change dN (bz p.aI i)=true at this;simp only[dN,aab,fb,decide_eq_true_eq] at this;unfold sizeOf;split<;>omega
def bAt (s:List UInt8) (i:Nat):UInt8:=s.getD i 0
def kv (p:bb) (mk:List (List UInt8)) (c:Clu):Int:=
 if aV c.k||c.k==3 then IntKind.i64.wrap (wd (bAt p.text c.a) (sizeOf p c.a)+(bz p.aI c.a).t)
 else if c.k=7 then tw (sizeOf p c.a) 0 (mk.headD []) else 0
def br (p:bb) (kr:Bool) (bf:UInt8) (ps:Int) (c:Clu):Int:=
 if aV c.k&&(bz p.aI c.a).e==1&&kr&&ps==sizeOf p c.a then iw bf (bAt p.text c.a) (sizeOf p c.a) else 0
def aM (p:bb) (kr:Bool) (bf:UInt8) (ps:Int) (mk:List (List UInt8)) (c:Clu):ae:=⟨c.a,c.b,c.k,sizeOf p c.a,kv p mk c,br p kr bf ps c⟩
def fA (p:bb) (c:Clu):Bool:=aV c.k&&(bz p.aI c.a).e==1
def lX (mk:List (List UInt8)) (c:Clu):List (List UInt8):=if c.k=7 then mk.tail else mk
def dU (p:bb):Bool→UInt8→Int→List (List UInt8)→List Clu→List ae
 | _,_,_,_,[]=>[]
 | kr,bf,ps,mk,c::r=>aM p kr bf ps mk c::dU p (fA p c) (bAt p.text c.a) (sizeOf p c.a) (lX mk c) r
def qB (p:bb):List ae:=dU p false 0 0 p.marks (kA p.text)
theorem JQ (x0 x1 x2 x3:HO) (J:List HO) (K:List Nat) (st:St) (p:bb) (c:Clu) (mk:List (List UInt8)) (u:LW) (tk:Tk) (hu:c.k=7→mk≠[]) (hn:mk≠[]→u.n=1∧u.nn=true) (hm:∀ m∈mk,m.length≤4096) (y1 y7 y9 y10 y11 y34 y35 y36:DV) :
 ∃ tk' fr,(E tab).C pI [(1,y1),(7,y7),(8,.list u.t u.n tk u.nn (mk.map .str)),(9,y9),(10,y10),(11,y11),(13,.ptr (st.heap.length+(J.length+3)) 0),(14,.ptr (st.heap.length+(J.length+5)) 0),(15,.ptr (st.heap.length+(J.length+6)) 0),(16,.int .u8 (bAt p.text c.a).toNat),(17,.bool (aV c.k)),(34,y34),(35,y35),(36,y36)]
   (pst st (x0::x1::x2::(J++[.cells .plain c.cs,x3,.cells .plain (bz p.aI c.a).cs,.cells .plain [.int .i64 c.a,.int .i64 c.b,.int .i64 c.k,.int .i64 (sizeOf p c.a),.int .i64 0,.int .i64 0]])) K) =
   some (.normal,[(1,y1),(7,y7),(8,.list u.t u.n tk' u.nn ((lX mk c).map .str)),(9,y9),(10,y10),(11,y11),(14,.ptr (st.heap.length+(J.length+5)) 0),(15,.ptr (st.heap.length+(J.length+6)) 0),(16,.int .u8 (bAt p.text c.a).toNat),(17,.bool (aV c.k)),(34,y34),(35,y35),(36,y36)]++fr,
    pst st (x0::x1::x2::(J++[.cells .plain c.cs,x3,.cells .plain (bz p.aI c.a).cs,.cells .plain [.int .i64 c.a,.int .i64 c.b,.int .i64 c.k,.int .i64 (sizeOf p c.a),.int .i64 (kv p mk c),.int .i64 0]])) K):=by
 have h30:=fun st=>tp (bAt p.text c.a) (sizeOf p c.a) st;by_cases h1:aV c.k=true
 · refine⟨tk,[],?_⟩;have h7:¬ c.k=7:=by intro h;rw[h] at h1;cases h1
   simp[pI,Clu.cs,bA.cs,h1,h30,kv,lX,h7]
 · have h1':aV c.k=false:=by simpa using h1
   by_cases h3:c.k=3
   · refine⟨tk,[],?_⟩;simp[pI,Clu.cs,bA.cs,show aV 3=false from rfl,h3,h30,kv,lX]
   · by_cases h7:c.k=7
     · have hne:=hu h7;obtain⟨hn1,hn2⟩:=hn hne
       match mk,hne with
       | m::ms,_=>
         have h31:=fun st=>tD m (hm m (aap ..)) (sizeOf p c.a) st;have hsl:b6 false 1 (.list u.t 1 tk true (.str m::ms.map .str)) (some (.int .i64 1)) none none=_:=qO (fun _=>rfl) (by omega) (by simp;omega);refine⟨tU tk (ms.length+1) 1 (ms.length+1),[],?_⟩;simp at hsl;simp[pI,Clu.cs,bA.cs,show aV 7=false from rfl,h7,h31,kv,lX,hn1,hn2,hsl]
     · refine⟨tk,[(88,.bool false)],?_⟩;simp[pI,Clu.cs,bA.cs,h1',h3,h7,kv,lX]
def vW (s:List UInt8):Nat→List Clu→Prop
 | _,[]=>True
 | i,c::r=>i≤c.a∧c.a<s.length∧vW s c.a r
def rf (l:List Clu):Nat:=(l.filter fun c=>c.k==7).length
theorem tR {mk:List (List UInt8)} {c:Clu} {r:List Clu} (h:mk.length=rf (c::r)):(lX mk c).length=rf r∧(c.k=7→mk≠[]):=by
 unfold rf at h ⊢;unfold lX;by_cases h7:c.k=7
 · simp[h7] at h ⊢;refine⟨by omega,fun e=>by simp[e] at h⟩
 · simp[h7] at h ⊢;exact h
theorem sZ {mk:List (List UInt8)} {c:Clu} {m:List UInt8} (h:m∈lX mk c):m∈mk:=by
 unfold lX at h;split at h
 · exact List.mem_of_mem_tail h
 · exact h
def H10 (p:bb) (w u:LW) (tk:Tk) (s:Span) (sp:List Span) (e:Int) (J:List HO):List HO:=
 .cells .plain (aj p w u)::.cells .plain [.list w.t 4 tk true ((s::sp).map Span.dv)]::.cells .plain [.int .i64 (e+s.n)]::J
set_option maxHeartbeats 8000000 in
theorem G0 (p:bb) (w u:LW) (hpr:cu p.pr=true) (hSp:lU p.aI) (hsum:fC p.aI=p.text.length) (hlen:p.text.length≤4096) (cs:List Clu) (hcs:cs.length≤4096) (ct cn:Nat) (ctk:Tk) (cnn:Bool) (hcn:cs≠[]→cn=3) (st:St) :
 ∀ (r d:List Clu) (J:List HO) (K:List Nat) (xs:List ae) (kr:Bool) (bf:UInt8) (ps:Int) (mk:List (List UInt8)) (tk tk2:Tk) (s:Span) (sp:List Span) (e:Int) (i0:Nat) (v:DV),
 cs=d++r→vW p.text i0 r→Dv p.aI i0 e s sp→Acc st K 6 (xs.map ae.dv) v→xs.length=d.length→(kr=true→∃ ys m,xs=ys++[m]∧m.s=ps)→mk.length=rf r→(∀ m∈mk,m.length≤4096)→(mk≠[]→u.n=1∧u.nn=true) →
 ∃ v' H' K' y8 fr,(E tab).C sW [(1,.ptr st.heap.length 0),(7,.fn 56 [] [.ptr (st.heap.length+1) 0,.ptr (st.heap.length+2) 0]),(8,.list u.t u.n tk u.nn (mk.map .str)),(9,v),(10,.bool kr),(11,.int .u8 bf.toNat),(34,.list ct cn ctk cnn (cs.map Clu.dv)),(35,.int .i64 cs.length),(36,.int .i64 d.length)]
  (pst st (H10 p w u tk2 s sp e J) K) =
  some (.exit 0,(1,.ptr st.heap.length 0)::(7,.fn 56 [] [.ptr (st.heap.length+1) 0,.ptr (st.heap.length+2) 0])::(8,y8)::(9,v')::fr,pst st H' K')∧Acc st K' 6 ((xs++dU p kr bf ps mk r).map ae.dv) v':=by
 intro r
 induction r with
 | nil=>
   intro d J K xs kr bf ps mk tk tk2 s sp e i0 v hd _ _ hA _ _ _ _ _;refine⟨v,H10 p w u tk2 s sp e J,K,.list u.t u.n tk u.nn (mk.map .str),[(10,.bool kr),(11,.int .u8 bf.toNat),(34,.list ct cn ctk cnn (cs.map Clu.dv)),(35,.int .i64 cs.length),(36,.int .i64 cs.length),(37,.bool false)],?_,by simpa[dU] using hA⟩;rw[al (L:=sW) rfl];simp[dd,hd]
 | cons c r ih=>
   intro d J K xs kr bf ps mk tk tk2 s sp e i0 v hd hC hL hA hxl hkr hmk hml hmn;obtain⟨c1,c2,c3⟩:=hC;obtain rfl:cn=3:=hcn (by simp[hd]);have h0:d.length<cs.length:=by simp[hd]
   have hw:IntKind.i64.wrap ((d.length:Int)+1)=((d++[c]).length:Nat):=by rw[aG (by omega)];simp
   have hg:cs[d.length]=c:=by simp[hd]
   obtain⟨e',s',sp',tk2',h56,hL'⟩:=EH p.aI (.cells .plain (aj p w u)) c.a w st K (J++[.cells .plain c.cs]) sp s e i0 tk2 hL (by omega) (by omega) (by omega);have hsz:=kV p hpr hSp c.a;have hb:p.text[c.a]? = some (bAt p.text c.a):=zL c2
   obtain⟨tk',fr',hK⟩:=JQ (.cells .plain (aj p w u)) (.cells .plain [.list w.t 4 tk2' true ((s'::sp').map Span.dv)]) (.cells .plain [.int .i64 (e'+s'.n)]) (.cells .plain (bz p.aI c.a).cs) J K st p c mk u tk (tR hmk).2 hmn hml
    (.ptr st.heap.length 0) (.fn 56 [] [.ptr (st.heap.length+1) 0,.ptr (st.heap.length+2) 0]) v (.bool kr) (.int .u8 bf.toNat) (.list ct 3 ctk cnn (cs.map Clu.dv)) (.int .i64 cs.length) (.int .i64 d.length)
   have h32:=fun st=>uD bf (bAt p.text c.a) (sizeOf p c.a) ⟨hsz.1,hsz.2.1⟩ st
   obtain⟨v2,K2,e2,hA2⟩:=jf (H:=.cells .plain (aj p w u)::.cells .plain [.list w.t 4 tk2' true ((s'::sp').map Span.dv)]::.cells .plain [.int .i64 (e'+s'.n)]::(J++[.cells .plain c.cs,.cells .plain (bz p.aI c.a).cs,.cells .plain (bz p.aI c.a).cs,.cells .plain (aM p kr bf ps mk c).cs]))
    (t:=st.cur) (by_:=48) (ag:=true) (tk:=.tight) (ys:=[(aM p kr bf ps mk c).dv]) hA (by omega) (by simp) (by simp[Cw]) (by simp[ay];omega) (by simp[ay];omega)
   obtain⟨v3,H3,K3,y8,fr,e3,hA3⟩:=ih (d++[c]) (J++[.cells .plain c.cs,.cells .plain (bz p.aI c.a).cs,.cells .plain (bz p.aI c.a).cs,.cells .plain (aM p kr bf ps mk c).cs]) K2 (xs++[aM p kr bf ps mk c]) (fA p c) (bAt p.text c.a) (sizeOf p c.a) (lX mk c) tk' tk2' s' sp' e' c.a v2
    (by simp[hd]) c3 hL' (by simpa using hA2) (by simp[hxl]) (fun _=>⟨xs,_,rfl,rfl⟩) (tR hmk).1 (fun m hm=>hml m (sZ hm)) (fun hne=>hmn fun h=>hne (by rw[h];unfold lX;split<;>rfl))
   refine⟨v3,H3,K3,y8,fr,?_,by simpa[dU] using hA3⟩;obtain⟨vt,vn,vtk,vnn,rfl⟩:=ib hA;rw[al (L:=sW) rfl];unfold H10 at e3 ⊢;by_cases hz:(bz p.aI c.a).z=0
   · have hq:p.pr.size=sizeOf p c.a:=by simp[sizeOf,hz]
     by_cases q1:c.k=1
     · have k1:aV c.k=true:=by rw[q1];rfl
       by_cases k2:(bz p.aI c.a).e=1
       · have hk:fA p c=true:=by simp[fA,k1,k2]
         cases kr with
         | false=>
           have hE:br p false bf ps c=0:=by simp[br]
           simp[ae.dv,ae.cs,aM,Clu.cs,Clu.dv,bA.cs,hz,hq,show aV 1=true from rfl,q1,k1,k2,hk,hE] at e2 e3 hK h56 ⊢;simp[dd,cU,ae.dv,ae.cs,aM,Clu.cs,Clu.dv,bA.cs,h0,hg,hw,hb,h56,hK,h32,aW,bk,chunk,e2,e3,hz,hq,show aV 1=true from rfl,q1,k1,k2,hk,hE]
         | true=>
           obtain⟨ys,m0,rfl,rfl⟩:=hkr rfl
           obtain⟨rfl,rfl⟩:vn=6∧vnn=true:=by
            rcases hA with ⟨h,_⟩ | ⟨k,q,h,_⟩
            · simp at h
            · injection h with _ h2 _ h4;exact⟨h2,h4⟩
           simp only[List.map_append,aaP,abf] at e2 hK h56;have hyl:IntKind.i64.wrap (ys.length:Int)=ys.length:=aG (by simp at hxl;omega);by_cases k3:m0.s=sizeOf p c.a
           · have hE:br p true bf (sizeOf p c.a) c=iw bf (bAt p.text c.a) (sizeOf p c.a):=by simp[br,k1,k2]
             simp[ae.dv,ae.cs,aM,Clu.cs,Clu.dv,bA.cs,hz,hq,show aV 1=true from rfl,q1,k1,k2,hk,hE,k3,hyl] at e2 e3 hK h56 ⊢;simp[dd,cU,ae.dv,ae.cs,aM,Clu.cs,Clu.dv,bA.cs,h0,hg,hw,hb,h56,hK,h32,aW,bk,chunk,e2,e3,hz,hq,show aV 1=true from rfl,q1,k1,k2,hk,hE,k3,hyl]
           · have hE:br p true bf m0.s c=0:=by simp[br,k3]
             simp[ae.dv,ae.cs,aM,Clu.cs,Clu.dv,bA.cs,hz,hq,show aV 1=true from rfl,q1,k1,k2,hk,hE,k3,hyl] at e2 e3 hK h56 ⊢;simp[dd,cU,ae.dv,ae.cs,aM,Clu.cs,Clu.dv,bA.cs,h0,hg,hw,hb,h56,hK,h32,aW,bk,chunk,e2,e3,hz,hq,show aV 1=true from rfl,q1,k1,k2,hk,hE,k3,hyl]
       · have k2':((bz p.aI c.a).e==1)=false:=by simp[k2]
         have hE:br p kr bf ps c=0:=by simp[br,k2]
         have hk:fA p c=false:=by simp[fA,k2]
         simp[ae.dv,ae.cs,aM,Clu.cs,Clu.dv,bA.cs,hz,hq,show aV 1=true from rfl,q1,k1,k2,k2',hk,hE] at e2 e3 hK h56 ⊢;simp[dd,cU,ae.dv,ae.cs,aM,Clu.cs,Clu.dv,bA.cs,h0,hg,hw,hb,h56,hK,h32,aW,bk,chunk,e2,e3,hz,hq,show aV 1=true from rfl,q1,k1,k2,k2',hk,hE]
     by_cases q2:c.k=2
     · have k1:aV c.k=true:=by rw[q2];rfl
       by_cases k2:(bz p.aI c.a).e=1
       · have hk:fA p c=true:=by simp[fA,k1,k2]
         cases kr with
         | false=>
           have hE:br p false bf ps c=0:=by simp[br]
           simp[ae.dv,ae.cs,aM,Clu.cs,Clu.dv,bA.cs,hz,hq,show aV 2=true from rfl,q2,k1,k2,hk,hE] at e2 e3 hK h56 ⊢;simp[dd,cU,ae.dv,ae.cs,aM,Clu.cs,Clu.dv,bA.cs,h0,hg,hw,hb,h56,hK,h32,aW,bk,chunk,e2,e3,hz,hq,show aV 2=true from rfl,q2,k1,k2,hk,hE]
         | true=>
           obtain⟨ys,m0,rfl,rfl⟩:=hkr rfl
           obtain⟨rfl,rfl⟩:vn=6∧vnn=true:=by
            rcases hA with ⟨h,_⟩ | ⟨k,q,h,_⟩
            · simp at h
            · injection h with _ h2 _ h4;exact⟨h2,h4⟩
           simp only[List.map_append,aaP,abf] at e2 hK h56;have hyl:IntKind.i64.wrap (ys.length:Int)=ys.length:=aG (by simp at hxl;omega);by_cases k3:m0.s=sizeOf p c.a
           · have hE:br p true bf (sizeOf p c.a) c=iw bf (bAt p.text c.a) (sizeOf p c.a):=by simp[br,k1,k2]
             simp[ae.dv,ae.cs,aM,Clu.cs,Clu.dv,bA.cs,hz,hq,show aV 2=true from rfl,q2,k1,k2,hk,hE,k3,hyl] at e2 e3 hK h56 ⊢;simp[dd,cU,ae.dv,ae.cs,aM,Clu.cs,Clu.dv,bA.cs,h0,hg,hw,hb,h56,hK,h32,aW,bk,chunk,e2,e3,hz,hq,show aV 2=true from rfl,q2,k1,k2,hk,hE,k3,hyl]
           · have hE:br p true bf m0.s c=0:=by simp[br,k3]
             simp[ae.dv,ae.cs,aM,Clu.cs,Clu.dv,bA.cs,hz,hq,show aV 2=true from rfl,q2,k1,k2,hk,hE,k3,hyl] at e2 e3 hK h56 ⊢;simp[dd,cU,ae.dv,ae.cs,aM,Clu.cs,Clu.dv,bA.cs,h0,hg,hw,hb,h56,hK,h32,aW,bk,chunk,e2,e3,hz,hq,show aV 2=true from rfl,q2,k1,k2,hk,hE,k3,hyl]
       · have k2':((bz p.aI c.a).e==1)=false:=by simp[k2]
         have hE:br p kr bf ps c=0:=by simp[br,k2]
         have hk:fA p c=false:=by simp[fA,k2]
         simp[ae.dv,ae.cs,aM,Clu.cs,Clu.dv,bA.cs,hz,hq,show aV 2=true from rfl,q2,k1,k2,k2',hk,hE] at e2 e3 hK h56 ⊢;simp[dd,cU,ae.dv,ae.cs,aM,Clu.cs,Clu.dv,bA.cs,h0,hg,hw,hb,h56,hK,h32,aW,bk,chunk,e2,e3,hz,hq,show aV 2=true from rfl,q2,k1,k2,k2',hk,hE]
     have k1':aV c.k=false:=by simp[aV,q1,q2]
     have hE:br p kr bf ps c=0:=by simp[br,k1']
     have hk:fA p c=false:=by simp[fA,k1']
     simp[ae.dv,ae.cs,aM,Clu.cs,Clu.dv,bA.cs,hz,hq,q1,q2,k1',hk,hE,show (c.k==2)=false by simp[q2]] at e2 e3 hK h56 ⊢;simp[dd,cU,ae.dv,ae.cs,aM,Clu.cs,Clu.dv,bA.cs,h0,hg,hw,hb,h56,hK,h32,aW,bk,chunk,e2,e3,hz,hq,q1,q2,k1',hk,hE,show (c.k==2)=false by simp[q2]]
   · have hq:(bz p.aI c.a).z=sizeOf p c.a:=by simp[sizeOf,hz]
     have hz':¬ sizeOf p c.a=0:=by omega
     by_cases q1:c.k=1
     · have k1:aV c.k=true:=by rw[q1];rfl
       by_cases k2:(bz p.aI c.a).e=1
       · have hk:fA p c=true:=by simp[fA,k1,k2]
         cases kr with
         | false=>
           have hE:br p false bf ps c=0:=by simp[br]
           simp[ae.dv,ae.cs,aM,Clu.cs,Clu.dv,bA.cs,hz',hq,show aV 1=true from rfl,q1,k1,k2,hk,hE] at e2 e3 hK h56 ⊢;simp[dd,cU,ae.dv,ae.cs,aM,Clu.cs,Clu.dv,bA.cs,h0,hg,hw,hb,h56,hK,h32,aW,bk,chunk,e2,e3,hz',hq,show aV 1=true from rfl,q1,k1,k2,hk,hE]
         | true=>
           obtain⟨ys,m0,rfl,rfl⟩:=hkr rfl
           obtain⟨rfl,rfl⟩:vn=6∧vnn=true:=by
            rcases hA with ⟨h,_⟩ | ⟨k,q,h,_⟩
            · simp at h
            · injection h with _ h2 _ h4;exact⟨h2,h4⟩
           simp only[List.map_append,aaP,abf] at e2 hK h56;have hyl:IntKind.i64.wrap (ys.length:Int)=ys.length:=aG (by simp at hxl;omega);by_cases k3:m0.s=sizeOf p c.a
           · have hE:br p true bf (sizeOf p c.a) c=iw bf (bAt p.text c.a) (sizeOf p c.a):=by simp[br,k1,k2]
             simp[ae.dv,ae.cs,aM,Clu.cs,Clu.dv,bA.cs,hz',hq,show aV 1=true from rfl,q1,k1,k2,hk,hE,k3,hyl] at e2 e3 hK h56 ⊢;simp[dd,cU,ae.dv,ae.cs,aM,Clu.cs,Clu.dv,bA.cs,h0,hg,hw,hb,h56,hK,h32,aW,bk,chunk,e2,e3,hz',hq,show aV 1=true from rfl,q1,k1,k2,hk,hE,k3,hyl]
           · have hE:br p true bf m0.s c=0:=by simp[br,k3]
             simp[ae.dv,ae.cs,aM,Clu.cs,Clu.dv,bA.cs,hz',hq,show aV 1=true from rfl,q1,k1,k2,hk,hE,k3,hyl] at e2 e3 hK h56 ⊢;simp[dd,cU,ae.dv,ae.cs,aM,Clu.cs,Clu.dv,bA.cs,h0,hg,hw,hb,h56,hK,h32,aW,bk,chunk,e2,e3,hz',hq,show aV 1=true from rfl,q1,k1,k2,hk,hE,k3,hyl]
       · have k2':((bz p.aI c.a).e==1)=false:=by simp[k2]
         have hE:br p kr bf ps c=0:=by simp[br,k2]
         have hk:fA p c=false:=by simp[fA,k2]
         simp[ae.dv,ae.cs,aM,Clu.cs,Clu.dv,bA.cs,hz',hq,show aV 1=true from rfl,q1,k1,k2,k2',hk,hE] at e2 e3 hK h56 ⊢;simp[dd,cU,ae.dv,ae.cs,aM,Clu.cs,Clu.dv,bA.cs,h0,hg,hw,hb,h56,hK,h32,aW,bk,chunk,e2,e3,hz',hq,show aV 1=true from rfl,q1,k1,k2,k2',hk,hE]
     by_cases q2:c.k=2
     · have k1:aV c.k=true:=by rw[q2];rfl
       by_cases k2:(bz p.aI c.a).e=1
       · have hk:fA p c=true:=by simp[fA,k1,k2]
         cases kr with
         | false=>
           have hE:br p false bf ps c=0:=by simp[br]
           simp[ae.dv,ae.cs,aM,Clu.cs,Clu.dv,bA.cs,hz',hq,show aV 2=true from rfl,q2,k1,k2,hk,hE] at e2 e3 hK h56 ⊢;simp[dd,cU,ae.dv,ae.cs,aM,Clu.cs,Clu.dv,bA.cs,h0,hg,hw,hb,h56,hK,h32,aW,bk,chunk,e2,e3,hz',hq,show aV 2=true from rfl,q2,k1,k2,hk,hE]
         | true=>
           obtain⟨ys,m0,rfl,rfl⟩:=hkr rfl
           obtain⟨rfl,rfl⟩:vn=6∧vnn=true:=by
            rcases hA with ⟨h,_⟩ | ⟨k,q,h,_⟩
            · simp at h
            · injection h with _ h2 _ h4;exact⟨h2,h4⟩
           simp only[List.map_append,aaP,abf] at e2 hK h56;have hyl:IntKind.i64.wrap (ys.length:Int)=ys.length:=aG (by simp at hxl;omega);by_cases k3:m0.s=sizeOf p c.a
           · have hE:br p true bf (sizeOf p c.a) c=iw bf (bAt p.text c.a) (sizeOf p c.a):=by simp[br,k1,k2]
             simp[ae.dv,ae.cs,aM,Clu.cs,Clu.dv,bA.cs,hz',hq,show aV 2=true from rfl,q2,k1,k2,hk,hE,k3,hyl] at e2 e3 hK h56 ⊢;simp[dd,cU,ae.dv,ae.cs,aM,Clu.cs,Clu.dv,bA.cs,h0,hg,hw,hb,h56,hK,h32,aW,bk,chunk,e2,e3,hz',hq,show aV 2=true from rfl,q2,k1,k2,hk,hE,k3,hyl]
           · have hE:br p true bf m0.s c=0:=by simp[br,k3]
             simp[ae.dv,ae.cs,aM,Clu.cs,Clu.dv,bA.cs,hz',hq,show aV 2=true from rfl,q2,k1,k2,hk,hE,k3,hyl] at e2 e3 hK h56 ⊢;simp[dd,cU,ae.dv,ae.cs,aM,Clu.cs,Clu.dv,bA.cs,h0,hg,hw,hb,h56,hK,h32,aW,bk,chunk,e2,e3,hz',hq,show aV 2=true from rfl,q2,k1,k2,hk,hE,k3,hyl]
       · have k2':((bz p.aI c.a).e==1)=false:=by simp[k2]
         have hE:br p kr bf ps c=0:=by simp[br,k2]
         have hk:fA p c=false:=by simp[fA,k2]
         simp[ae.dv,ae.cs,aM,Clu.cs,Clu.dv,bA.cs,hz',hq,show aV 2=true from rfl,q2,k1,k2,k2',hk,hE] at e2 e3 hK h56 ⊢;simp[dd,cU,ae.dv,ae.cs,aM,Clu.cs,Clu.dv,bA.cs,h0,hg,hw,hb,h56,hK,h32,aW,bk,chunk,e2,e3,hz',hq,show aV 2=true from rfl,q2,k1,k2,k2',hk,hE]
     have k1':aV c.k=false:=by simp[aV,q1,q2]
     have hE:br p kr bf ps c=0:=by simp[br,k1']
     have hk:fA p c=false:=by simp[fA,k1']
     simp[ae.dv,ae.cs,aM,Clu.cs,Clu.dv,bA.cs,hz',hq,q1,q2,k1',hk,hE,show (c.k==2)=false by simp[q2]] at e2 e3 hK h56 ⊢;simp[dd,cU,ae.dv,ae.cs,aM,Clu.cs,Clu.dv,bA.cs,h0,hg,hw,hb,h56,hK,h32,aW,bk,chunk,e2,e3,hz',hq,q1,q2,k1',hk,hE,show (c.k==2)=false by simp[q2]]
theorem cN {p:bb} (h:az p=0):c8 p.text=0∧¬ (3:UInt8)∈p.text∧eb p.text.length p.aI=true∧cu p.pr=true∧dm p.label 16=true∧p.marks.length=p.text.count 2∧∀ m∈p.marks,fZ m=true:=by
 unfold az at h;by_cases h1:c8 p.text=0
 · rw[if_pos h1] at h;by_cases h2:(3:UInt8)∈p.text
   · rw[if_pos h2] at h;simp at h
   rw[if_neg h2] at h;by_cases h3:(eb p.text.length p.aI&&cu p.pr&&dm p.label 16&&decide (p.marks.length=p.text.count 2))=true
   · rw[if_pos h3] at h;simp only[aab,decide_eq_true_eq] at h3;by_cases h4:p.marks.all fZ=true
     · exact⟨h1,h2,h3.1.1.1,h3.1.1.2,h3.1.2,h3.2,aaf.1 h4⟩
     · rw[if_neg h4] at h;simp at h
   · rw[if_neg h3] at h;simp at h
 · rw[if_neg h1] at h;exact absurd h h1
theorem jY (s:List UInt8):∀ (n i:Nat),vW s i (fv s n i)∧(fv s n i).length≤n
 | 0,i=>⟨trivial,aai _⟩
 | n+1,i=>by
   unfold fv;split
   · rename_i h;have ih:=jY s n (cTo s i);have h1:i≤cTo s i:=by have:=(qu s (jm s i) 2 (i+1)).1;unfold cTo;omega
     refine⟨⟨aai _,h,?_⟩,by simp;exact ih.2⟩
     revert ih
     cases fv s n (cTo s i) with
     | nil=>intro _;trivial
     | cons c r=>intro ih;exact⟨abk h1 ih.1.1,ih.1.2⟩
   · exact⟨trivial,by simp⟩
theorem kd7:((List.range 256).all fun c=>(kd c==7)==(c==2))=true:=by decide +kernel
theorem zg (c:UInt8):kd c.toNat=7↔c=2:=by
 have:=aaf.1 kd7 c.toNat (abq.2 c.toNat_lt);rw[beq_iff_eq,aaW,beq_iff_eq,beq_iff_eq] at this;rw[this];exact⟨fun h=>UInt8.toNat_inj.1 h,fun h=>by rw[h];rfl⟩
theorem oF (s:List UInt8) (k:Int):∀ n t,(s.drop (adv s k n t)).count 2=(s.drop t).count 2
 | 0,t=>rfl
 | n+1,t=>by
   unfold adv;split
   · rename_i h;rw[oF s k n (t+1)];have h1:=List.drop_eq_getElem_cons h.2.1
     have h2:s[t]≠2:=by
      intro e;have h3:=h.2.2;simp[h.2.1,e] at h3;exact absurd h3 (by decide)
     rw[h1,List.count_cons];simp[h2]
   · rfl
theorem ni (s:List UInt8):∀ (n i:Nat),s.length≤i+n→rf (fv s n i)=(s.drop i).count 2
 | 0,i,h=>by
   have:s.drop i=[]:=List.drop_eq_nil_of_le (by omega);simp[fv,rf,this]
 | n+1,i,h=>by
   unfold fv;split
   · rename_i hi;have h1:i+1≤cTo s i:=(qu s (jm s i) 2 (i+1)).1;have ih:=ni s n (cTo s i) (by omega);have h2:=List.drop_eq_getElem_cons hi;unfold rf at ih ⊢;rw[h2,List.count_cons];have h3:(s.drop (cTo s i)).count 2=(s.drop (i+1)).count 2:=oF s _ 2 (i+1);rw[← h3,← ih]
     have h4:jm s i=7↔s[i]=2:=by
      have:=zg s[i];simp only[jm];rw[show s.getD i 0=s[i] by simp[hi]];exact this
     by_cases h5:s[i]=2
     · simp[h4.2 h5,h5]
     · have h6:¬ jm s i=7:=fun h=>h5 (h4.1 h);simp[h6,h5]
   · rename_i hi;have:s.drop i=[]:=List.drop_eq_nil_of_le (by omega);simp[rf,this]
def aA (p:bb):List ae:=if az p=0 then qB p else []
def DQ (p:bb) (v:DV):Prop:=∃ w:LW,v=.tuple [.list w.t w.n w.tk w.nn ((aA p).map ae.dv),.int .i64 (az p)]∧w.ok 6 (aA p)
theorem zE {p:bb} {v:DV} (t n':Nat) (tk:Tk) (nn:Bool) (h:v=.tuple [.list t n' tk nn ((aA p).map ae.dv),.int .i64 (az p)]) (h2:nn=true→n'=6) (h3:nn=false→(aA p).map ae.dv=[]):DQ p v:=
 ⟨⟨t,n',tk,nn⟩,h,h2,fun e=>by simpa using h3 e⟩
theorem sQ (p:bb) (hp:p.small) (w u:LW) (hw:w.ok 4 p.aI) (hu:u.ok 1 p.marks) (st:St) :
 ∃ v fr H K,(E tab).C f10.body (aX [.agg (aj p w u)] 0) (pst st [] [])=some (.ret,(2,v)::(3,.int .i64 (az p))::fr,pst st H K)∧Acc st K 6 ((aA p).map ae.dv) v:=by
 have h13:=fun st=>v8 p hp w u hw hu st;by_cases hc:az p=0
 · obtain⟨h1,h2,h3,h4,h5,h6,h7⟩:=cN hc;obtain⟨hlen,_⟩:=eD h1;obtain⟨hS,hsum⟩:=jc p.aI p.text.length 0 (by simpa[eb] using h3);obtain⟨v27,e27,t,n',tk,nn,rfl,hn1,hn2⟩:=vZ p.text (pst st [.cells .plain (aj p w u)] []);simp only[h1,if_true] at e27 hn2;have h29:=Dw (.cells .plain (aj p w u)) w p.aI hw st [];by_cases he:p.text=[]
   · have hcl:kA p.text=[]:=by rw[he];rfl
     have hml:aA p=[]:=by simp[aA,qB,hcl,dU]
     rw[hcl] at e27;refine⟨ik,[],[.cells .plain (aj p w u),.cells .plain [.list w.t w.n w.tk w.nn (p.aI.map Span.dv)],.cells .plain [.int .i64 (mN p.aI)]],[],?_,by rw[hml];exact fR _ _ _ _ _ _⟩;simp at e27;simp[f10,h13,hc,e27,h29,al (L:=sW) rfl,dd]
   · have hne:p.aI≠[]:=by
      intro h;rw[h] at hsum;have:0<p.text.length:=List.length_pos_iff.2 he;simp[fC] at hsum;omega
     match hps:p.aI,hne with
     | s::sp,_=>
       obtain⟨hw4,hwt⟩:w.n=4∧w.nn=true:=by
        have:=hw.n (by rw[hps];simp);refine⟨this,?_⟩
        cases e:w.nn with
        | true=>rfl
        | false=>have:=hw.2 e;rw[hps] at this;cases this
       have hcs:=jY p.text p.text.length 0;have hL:Dv p.aI (0:Nat) 0 s sp:=⟨by rw[← hps];exact hS,by simp,by simp,by rw[hps];omega,fun j _=>by rw[hps]⟩
       obtain⟨v',H',K',y8,fr,e10,hA⟩:=G0 p w u h4 hS (by omega) hlen (kA p.text) (by have:=hcs.2;unfold kA;omega) t n' tk nn (fun h=>hn1 (by cases nn with | true=>rfl | false=>exact absurd (hn2 rfl) h)) st
        (kA p.text) [] [] [] [] false 0 0 p.marks u.tk w.tk s sp 0 0 ik rfl hcs.1 hL (fR _ _ _ _ _ _) rfl (by simp) (by rw[h6,show rf (kA p.text)=_ from ni p.text p.text.length 0 (by omega)];simp)
        (fun m hm=>by have:=h7 m hm;simp[fZ,dm] at this;omega) (fun h=>⟨hu.n h,by cases e:u.nn with | true=>rfl | false=>exact absurd (hu.2 e) h⟩)
       have hml:aA p=dU p false 0 0 p.marks (kA p.text):=by simp[aA,hc,qB]
       refine⟨v',[],H',K',?_,by rw[hml];simpa using hA⟩;simp[H10,hw4,hwt] at e10;simp[hps,hw4,hwt,mN] at h29;simp[f10,h13,hc,e27,hps,hw4,hwt,h29,e10]
 · have hml:aA p=[]:=by simp[aA,hc]
   refine⟨ik,[],[.cells .plain (aj p w u)],[],?_,by rw[hml];exact fR _ _ _ _ _ _⟩;simp[f10,h13,hc]
theorem tI (p:bb) (hp:p.small) (w u:LW) (hw:w.ok 4 p.aI) (hu:u.ok 1 p.marks) (st:St):∃ v,(E tab).F 10 [.agg (aj p w u)] st=some (v,st)∧DQ p v:=by
 obtain⟨v,fr,H,K,h1,h2⟩:=sQ p hp w u hw hu st;obtain⟨t9,n9,tk9,nn9,e9,g2,g3,g4⟩:=pY (st':=pst st H K) h2;obtain⟨t8,n8,tk8,nn8,rfl⟩:=ib h2;refine⟨.tuple [.list t9 n9 tk9 nn9 ((aA p).map ae.dv),.int .i64 (az p)],?_,zE t9 n9 tk9 nn9 rfl g3 g2⟩;rw[aK Mp rfl,h1];simp at e9;simp[f10,e9]
def HN (s:List UInt8) (l:List Clu):Prop:=∀ c∈l,c.a<s.length
theorem tq {s:List UInt8}:∀ {l:List Clu} {i:Nat},vW s i l→HN s l
 | [],_,_=>fun c h=>by cases h
 | c::r,i,h=>fun x hx=>by
   rcases aaA.1 hx with rfl|hx
   · exact h.2.1
   · exact tq h.2.2 x hx
theorem em8:(emL.all fun e=>decide (e≤8))=true:=by decide +kernel
theorem JL (c:Nat):0≤em c∧em c≤8:=by
 unfold em
 have:emL.getD c 0≤8:=by
  rw[aak]
  cases h:emL[c]? with
  | none=>simp
  | some e=>
    have:=aaf.1 em8 e (aaN h);simpa using this
 constructor
 · exact Int.natCast_nonneg _
 · show ((emL.getD c 0:Nat):Int)≤8;omega
theorem oH (c:UInt8) {n:Int} (h1:1≤n) (h2:n≤64):0≤wd c n∧wd c n≤64∧wd c n=em c.toNat*n/8:=by
 have he:=JL c.toNat;have h3:em c.toNat*n≤8*64:=Int.mul_le_mul he.2 h2 (by omega) (by omega);have h4:0≤em c.toNat*n:=Int.mul_nonneg he.1 (by omega);unfold wd;rw[aG (n:=em c.toNat*n) (by omega),IntWalk.i64_quo _ _ (by omega)];omega
theorem D9 {n:Int} (h1:1≤n) (h2:n≤64):∀ (s:List UInt8) (a:Int),0≤a→a+64*s.length≤1000000→a≤tw n a s∧tw n a s≤a+64*s.length
 | [],a,_,_=>by simp[tw]
 | c::r,a,h3,h4=>by
   have hw:=oH c h1 h2;simp only[aaw] at h4;have e:IntKind.i64.wrap (a+wd c n)=a+wd c n:=aG (by omega);have:=D9 h1 h2 r (a+wd c n) (by omega) (by omega);rw[tw,e];simp only[aaw];omega
theorem CQ (a b:UInt8) {n:Int} (h1:1≤n) (h2:n≤64):-8≤iw a b n∧iw a b n≤0:=by
 unfold iw;split
 · omega
 · split<;>omega
theorem yt (p:bb) (hpr:cu p.pr=true) (hSp:lU p.aI) (kr:Bool) (bf:UInt8) (ps:Int) (mk:List (List UInt8)) (hm:∀ m∈mk,m.length≤8) (c:Clu):okM (aM p kr bf ps mk c)=true:=by
 have hs:=kV p hpr hSp c.a
 have h1:0≤kv p mk c∧kv p mk c≤4095:=by
  unfold kv;split
  · have:=oH (bAt p.text c.a) hs.1 hs.2.1;rw[aG (by omega)];omega
  · split
    · have h8:(mk.headD []).length≤8:=by
       cases mk with
       | nil=>simp
       | cons m r=>exact hm m (aap ..)
      have:=D9 hs.1 hs.2.1 (mk.headD []) 0 (by omega) (by omega);omega
    · omega
 have h2:-64≤br p kr bf ps c∧br p kr bf ps c≤0:=by
  unfold br;split
  · have:=CQ bf (bAt p.text c.a) hs.1 hs.2.1;omega
  · omega
 simp[okM,aM,h1,h2]
theorem oN (p:bb) (hpr:cu p.pr=true) (hSp:lU p.aI):∀ (l:List Clu) (kr:Bool) (bf:UInt8) (ps:Int) (mk:List (List UInt8)),(∀ m∈mk,m.length≤8)→(dU p kr bf ps mk l).all okM=true
 | [],_,_,_,_,_=>rfl
 | c::r,kr,bf,ps,mk,hm=>by
   simp only[dU,List.all_cons,aab];exact⟨yt p hpr hSp kr bf ps mk hm c,oN p hpr hSp r _ _ _ _ fun m h=>hm m (sZ h)⟩
theorem zF (p:bb):(aA p).all okM=true:=by
 unfold aA;split
 · rename_i hc;obtain⟨h1,h2,h3,h4,h5,h6,h7⟩:=cN hc;obtain⟨hS,hsum⟩:=jc p.aI p.text.length 0 (by simpa[eb] using h3);refine oN p h4 hS _ _ _ _ _ fun m hm=>?_;have:=h7 m hm;simp[fZ,dm] at this;omega
 · rfl
theorem nr (p:bb):∀ (l:List Clu) (kr:Bool) (bf:UInt8) (ps:Int) (mk:List (List UInt8)),(dU p kr bf ps mk l).map (fun m=>(m.a,m.b,m.k))=l.map fun c=>((c.a:Int),(c.b:Int),c.k)
 | [],_,_,_,_=>rfl
 | c::r,kr,bf,ps,mk=>by
   simp only[dU,aaP,nr p r];rfl
theorem xU (p:bb):(aA p).length≤4096:=by
 unfold aA;split
 · rename_i hc;have h1:=congrArg List.length (nr p (kA p.text) false 0 0 p.marks);simp at h1;have h2:=(jY p.text p.text.length 0).2;obtain⟨h3,_⟩:=cN hc;have:=(eD h3).1;unfold qB;rw[h1];unfold kA;omega
 · simp
theorem B9 {L:List ae} (hL:L.length≤4096) (hok:L.all okM=true) (x y:Nat) (hx:x≤y) (hy:y≤L.length):qe L x y=.tuple [.int .i64 (ky true 0 ((L.drop x).take (y-x))),.int .i64 0]:=by
 unfold qe;rw[if_neg (by omega),if_neg (by rw[hok];simp),if_pos (by omega)];simp
def Ac (st:St) (K:List Nat) (n:Nat) (xs:List DV) (v:DV):Option Nat→Prop
 | none=>xs=[]∧∃ t n' tk,v=.list t n' tk false []
 | some k=>∃ s,v=.list st.cur n (.own (st.aO.length+k) s) true xs∧K[k]? = some s
theorem Ac.acc {st:St} {K:List Nat} {n:Nat} {xs:List DV} {v:DV}:∀ {o:Option Nat},Ac st K n xs v o→Acc st K n xs v
 | none,h=>.inl h
 | some k,⟨s,h1,h2⟩=>.inr ⟨k,s,h1,h2⟩
end Go.D.Tab
end
