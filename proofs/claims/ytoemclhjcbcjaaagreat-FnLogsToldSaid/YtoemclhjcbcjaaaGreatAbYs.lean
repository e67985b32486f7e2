/- What a walk rewrites with. -/
import Derived.Test.YtoemclhjcbcjaaaGreatAbY
import Derived.Attr
namespace Go.Proofs.YtoemclhjcbcjaaaGreat.AB
open Go
set_option linter.unusedSimpArgs false

/-- bits of whole numbers -/
def andK (k : IntKind) (a b : Int) : Int := k.wrap ((BitVec.ofInt k.bits a &&& BitVec.ofInt k.bits b).toNat)
def orK (k : IntKind) (a b : Int) : Int := k.wrap ((BitVec.ofInt k.bits a ||| BitVec.ofInt k.bits b).toNat)
def xorK (k : IntKind) (a b : Int) : Int := k.wrap ((BitVec.ofInt k.bits a ^^^ BitVec.ofInt k.bits b).toNat)
def shlK (k : IntKind) (a b : Int) : Int := k.wrap (a * 2 ^ (min b.toNat k.bits))
def shrK (k : IntKind) (a b : Int) : Int := a.fdiv (2 ^ (min b.toNat k.bits))
theorem bin_add (k : IntKind) (a b : Int) : binV .add (.int k a) (.int k b) = some (True, .int k (k.wrap (a + b))) := by unfold binV; simp [binI, andK, orK, xorK]
theorem bin_sub (k : IntKind) (a b : Int) : binV .sub (.int k a) (.int k b) = some (True, .int k (k.wrap (a - b))) := by unfold binV; simp [binI, andK, orK, xorK]
theorem bin_mul (k : IntKind) (a b : Int) : binV .mul (.int k a) (.int k b) = some (True, .int k (k.wrap (a * b))) := by unfold binV; simp [binI, andK, orK, xorK]
theorem bin_quo (k : IntKind) (a b : Int) : binV .quo (.int k a) (.int k b) = some (b ≠ 0, .int k (k.wrap (a.tdiv b))) := by unfold binV; simp [binI, andK, orK, xorK]
theorem bin_rem (k : IntKind) (a b : Int) : binV .rem (.int k a) (.int k b) = some (b ≠ 0, .int k (a.tmod b)) := by unfold binV; simp [binI, andK, orK, xorK]
theorem bin_and (k : IntKind) (a b : Int) : binV .and (.int k a) (.int k b) = some (True, .int k (andK k a b)) := by unfold binV; simp [binI, andK, orK, xorK]
theorem bin_or (k : IntKind) (a b : Int) : binV .or (.int k a) (.int k b) = some (True, .int k (orK k a b)) := by unfold binV; simp [binI, andK, orK, xorK]
theorem bin_xor (k : IntKind) (a b : Int) : binV .xor (.int k a) (.int k b) = some (True, .int k (xorK k a b)) := by unfold binV; simp [binI, andK, orK, xorK]
theorem bin_eql (k : IntKind) (a b : Int) : binV .eql (.int k a) (.int k b) = some (True, .bool (decide (a = b))) := by unfold binV; simp [binI, andK, orK, xorK]
theorem bin_neq (k : IntKind) (a b : Int) : binV .neq (.int k a) (.int k b) = some (True, .bool (!decide (a = b))) := by unfold binV; simp [binI, andK, orK, xorK]
theorem bin_lss (k : IntKind) (a b : Int) : binV .lss (.int k a) (.int k b) = some (True, .bool (decide (a < b))) := by unfold binV; simp [binI, andK, orK, xorK]
theorem bin_leq (k : IntKind) (a b : Int) : binV .leq (.int k a) (.int k b) = some (True, .bool (decide (a ≤ b))) := by unfold binV; simp [binI, andK, orK, xorK]
theorem bin_gtr (k : IntKind) (a b : Int) : binV .gtr (.int k a) (.int k b) = some (True, .bool (decide (b < a))) := by unfold binV; simp [binI, andK, orK, xorK]
theorem bin_geq (k : IntKind) (a b : Int) : binV .geq (.int k a) (.int k b) = some (True, .bool (decide (b ≤ a))) := by unfold binV; simp [binI, andK, orK, xorK]
theorem bin_shl (k j : IntKind) (a b : Int) : binV .shl (.int k a) (.int j b) = some (0 ≤ b, .int k (shlK k a b)) := rfl
theorem bin_shr (k j : IntKind) (a b : Int) : binV .shr (.int k a) (.int j b) = some (0 ≤ b, .int k (shrK k a b)) := rfl
theorem bin_str (op : BinOp) (a b : ByteArray) : binV op (.string a) (.string b) = binS op a b := rfl
theorem bin_beq (a b : Bool) : binV .eql (.bool a) (.bool b) = some (True, .bool (a == b)) := rfl
theorem bin_bne (a b : Bool) : binV .neq (.bool a) (.bool b) = some (True, .bool (!(a == b))) := rfl
theorem sl_c (k : Nat) (x : AV) (r : List (Nat × AV)) (n : Nat) : sl ((k, x) :: r) n = if n = k then x else sl r n := rfl
theorem sl_n (n : Nat) : sl [] n = .dead := rfl
theorem hl_c (k : Id) (x : Ob) (r : List (Id × Ob)) (i : Id) : hl ((k, x) :: r) i = if i = k then some x else hl r i := rfl
theorem hl_n (i : Id) : hl [] i = none := rfl
theorem on_t (g : AV → AV) (st : St) (d : Nat) : (St.on g st).t d = (st.t d).on g := rfl
theorem on_h (g : AV → AV) (st : St) (i : Id) : (St.on g st).h i = (st.h i).map (Ob.on g) := rfl
theorem bytesOf_c (l : List UInt8) : bytesOf (bytesC l) = some l := by
  induction l with
  | nil => rfl
  | cons b l ih =>
    show bytesOf ([.v (.int .u8 (b.toNat : Int))] :: bytesC l) = _
    simp only [bytesOf, ih, Option.map_some, Int.toNat_natCast, UInt8.ofNat_toNat]
def byteOf : List C → Option UInt8
  | [.v (.int .u8 n)] => some (UInt8.ofNat n.toNat)
  | _ => none
theorem bytesOf_cons (r : List C) (xs : List (List C)) : bytesOf (r :: xs) = (byteOf r).bind fun b => (bytesOf xs).map (b :: ·) := by
  unfold byteOf
  split
  · simp only [bytesOf, Option.bind_some]
  · rename_i h
    unfold bytesOf
    split
    · rename_i h2; cases h2
    · rename_i n r' h2; cases h2; exact absurd rfl (h n)
    · rfl
theorem bytesOf_app (xs ys : List (List C)) : bytesOf (xs ++ ys) = (bytesOf xs).bind fun a => (bytesOf ys).map (a ++ ·) := by
  induction xs with
  | nil => simp [bytesOf]
  | cons r xs ih =>
    rw [List.cons_append, bytesOf_cons, bytesOf_cons, ih]
    cases byteOf r <;> cases bytesOf xs <;> cases bytesOf ys <;> simp
theorem bytesC_app (a b : List UInt8) : bytesC (a ++ b) = bytesC a ++ bytesC b := by simp [bytesC]
theorem bytesC_nil : bytesC [] = [] := rfl
theorem bytesC_one (n : Int) (h0 : 0 ≤ n) (h1 : n ≤ 255) : bytesC [UInt8.ofNat n.toNat] = [[.v (.int .u8 n)]] := by
  simp only [bytesC, List.map_cons, List.map_nil, UInt8.toNat_ofNat']
  have : ((n.toNat % 2 ^ 8 : Nat) : Int) = n := by omega
  rw [this]

theorem kil_c (as : List Id) (la : List (Option Ob)) (b : Bool) (x : C) : kilM as la (.c b x) = .c b x := rfl
theorem kil_nil (as : List Id) (la : List (Option Ob)) : kilM as la .nil = .nil := rfl
theorem kil_dead (as : List Id) (la : List (Option Ob)) : kilM as la .dead = .dead := rfl
theorem kil_ip (as : List Id) (la : List (Option Ob)) (b : Bool) (x : List C) : kilM as la (.ip b x) = .ip b x := rfl
theorem kil_ptr (i j : Id) (o : Ob) (k : Nat) : kilM [i] [some o] (.ptr j k) = .ptr j k := by
  by_cases h : j = i <;> simp [kilM, pos, h]
theorem kil_own (i j : Id) (o : Ob) : kilM [i] [some o] (.own j) = .own j := by
  by_cases h : j = i <;> simp [kilM, pos, h]
theorem kil_vw (i j : Id) (o : Ob) (lo n : Nat) : kilM [i] [some o] (.vw j lo n) = if j = i then .dead else .vw j lo n := by
  by_cases h : j = i <;> simp [kilM, pos, h]
theorem kil_ept (i j : Id) (o : Ob) (lo n : Nat) : kilM [i] [some o] (.ept j lo n) = if j = i then .dead else .ept j lo n := by
  by_cases h : j = i <;> simp [kilM, pos, h]
theorem kil_rx (i j : Id) (o : Ob) (x : C) : kilM [i] [some o] (.rx j x) = if j = i then .rg j x else .rx j x := by
  by_cases h : j = i <;> simp [kilM, pos, h]
theorem kil_rg (i j : Id) (o : Ob) (x : C) : kilM [i] [some o] (.rg j x) = .rg j x := by
  by_cases h : j = i <;> simp [kilM, pos, h]
theorem kil_rp (i j : Id) (o : Ob) (xs : List C) : kilM [i] [some o] (.rp j xs) = if j = i then .dead else .rp j xs := by
  by_cases h : j = i <;> simp [kilM, pos, h]
theorem hM_1 (h : Hp) (i : Id) (d : Nat) (o : Ob) (j : Id) : hM h [i] d [some o] [] j = if j = i then some (Ob.on (bkM [i] d) o) else (h j).map (Ob.on (kilM [i] [some o])) := by
  by_cases e : j = i
  · simp [hM, org, pos, e, hAR]
  · cases j <;> simp [hM, org, pos, e]

section
variable {P : Program} {T : Tab} {N : Nat} {Q Q' : Exit → St → Prop} {st st' : St} {sc x y : SC}
theorem SW.normT {K : St → Prop} (h : K st) : thenS K Q .normal st := h
/-- a loop: how the state stands to what the rounds hand on, and what grows less -/
theorem SW.loopTo {α : Type} (S : α → St) (μ : α → Nat) (a0 : α) (I : α → Prop) (h0 : Wk st (S a0)) (hI : I a0)
    (hr : ∀ a, I a → SW P T N x (thenS (fun st' => ∃ b, I b ∧ μ b < μ a ∧ Wk st' (S b)) Q) (S a)) : SW P T N (.loop x) Q st := by
  refine SW.weak ?_ h0
  refine SW.loop (fun n st => ∃ a, I a ∧ μ a = n ∧ st = S a) (n := μ a0) ⟨a0, hI, rfl, rfl⟩ (fun n st ⟨a, h1, h2, h3⟩ => ?_)
  subst h2; subst h3
  refine (hr a h1).mono (fun e st1 q => ⟨st1, Wk.refl _, ?_⟩)
  cases e with
  | normal =>
    obtain ⟨b, h4, h5, h6⟩ := q
    exact ⟨μ b, S b, h5, h6, b, h4, rfl, rfl⟩
  | exit => exact q
  | goto => exact q
  | ret => exact q
  | panic => exact q
  | outgrown => exact q
end
attribute [go_sem] kil_rx kil_rg kil_rp unX rgC sameK toR kil_c kil_nil kil_dead kil_ip kil_ptr kil_own kil_vw kil_ept hM_1 semO decide_true decide_false List.length_map List.length_replicate Int.ofNat_eq_natCast zC zok List.replicate_zero Int.toNat_natCast Int.toNat_zero List.getD_cons_zero bin_add bin_sub bin_mul bin_quo bin_rem bin_and bin_or bin_xor bin_eql bin_neq bin_lss bin_leq bin_gtr bin_geq bin_shl bin_shr bin_str bin_beq bin_bne sl_c sl_n hl_c hl_n on_t on_h srcOf oldV killV bytesOf_c bytesOf_app Option.bind_some bytesC_nil
  L_nil
  L_wantT
  L_wantF
  L_notT
  L_notF
  L_undef
  skip_some
  skip_none
  L_store
  L_app
  L_mv
  L_pick
  L_box
  L_zbox
  L_load1
  L_loadn
  L_fad
  L_fld1
  L_fldn
  L_iad
  L_iada
  L_sidx
  L_aidx
  L_sls
  L_slc
  L_bin
  L_eqa
  L_un
  L_cvi
  L_cvss
  L_cvbs
  L_cvsb
  L_mks
  L_bsl
  cstP
  cstI
  L_bld
  L_ext
  L_lens
  L_len
  L_mx
  L_mn
  L_mkf
  L_nilc
  contQ
  contW
  qf
  wf
  gv
  evalO_tmp
  evalO_int
  evalO_bool
  evalO_lit
  evalO_str
  evalO_nil
  evalO_func
  upd_app
  hupd_app
  true_and
  and_true
  Bool.false_eq_true
  false_implies
  implies_true
  isBool
  unV
  List.getD_cons_zero
  List.getD_cons_succ
  List.getD_nil
  AV.cells
  hempty_app
  readAt
  List.drop_succ_cons
  List.drop_zero
  List.drop_nil
  List.take_succ_cons
  List.take_zero
  List.take_nil
  List.length_cons
  List.length_nil
  Nat.zero_add
  Nat.add_zero
  Id.s.injEq
  and_self
  layAt
  List.cons_append
  List.nil_append
  bldGo
  List.map_cons
  List.map_nil
  cst1
  scal
  cvC
  Option.map_some
  Option.map_none
  AV.stays
  AV.stays1
  AV.staysL
  rowsOf
  List.getElem?_cons_zero
  List.getElem?_cons_succ
  and_false
  false_and
  bytesOf
  Bool.or_false
  Bool.or_self
  Bool.not_true
  Bool.not_false
  binS
  sb_mk
  flatL
  Kd.fitsL
  Kd.fits
  valsEq
  valEq
  beq_self_eq_true
  Bool.and_true
  Bool.true_and
  Bool.and_self
  lendAll
  AV.on
  AV.onL
  lend
  lendC
  lendL
  toS
  hputs
  inM
  lendM
  bkM
  bkI
  pos
  hA
  hminus
  Ob.on
  resL
  res1
end Go.Proofs.YtoemclhjcbcjaaaGreat.AB
