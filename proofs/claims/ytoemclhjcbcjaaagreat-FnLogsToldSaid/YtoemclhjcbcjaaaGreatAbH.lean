/- What an operation makes of the slots is what the model makes of their values: indexes, cuts, numbers, texts, comparisons, conversions. -/
import Derived.Test.YtoemclhjcbcjaaaGreatAbG
import Derived.Laws.Strings
namespace Go.Proofs.YtoemclhjcbcjaaaGreat.AB
open Go
set_option linter.unusedVariables false
set_option linter.unusedSimpArgs false

section
variable {P : Program} {Γ : Gm} {S : Nat → Prop} {ν : Id → Value} {st : St} {a : Act} {w : World} {o : Oper} {T : Tab} {so : SOp} {d : Nat} {p : Prop} {y : AV} {ob : Option Ob}

theorem sb_size (s : ByteArray) : (sb s).length = s.size := by simp [sb]
theorem str_sb (s : ByteArray) : (⟨(sb s).toArray⟩ : ByteArray) = s := by cases s; simp [sb]

theorem q_iad {t e : Nat} {i j : TI} {x n : Operand} {y : AV} {ad : Addr} {len cap : Nat} {b : Bool} {kk : IntKind} {m : Int} (ho : o.op = .indexAddr t x n) (hi : tiOk P t i = true) (hu : i.u = .slice e) (hj : tiOk P e j = true)
    (hx : a.eval x = .slice (some ad) len cap) (hn : evalO st n = .c b (.v (.int kk m))) (h0 : 0 ≤ m) (h1 : m < len) (hy : VR S Γ.B ν st.h w y (.pointer (some (ad.add (m.toNat * j.size)))))
    (k : RepW Γ S ν st a w) (hd : d < Γ.N) : Gives P Γ a w (execOp a.eval o) d (st.give d y none) := by
  have hne := (evalO_v k hn).1
  have hund := und_slice (P := P) (t := t) (e := e) (by rw [← hu]; exact tyOk_of hi)
  obtain ⟨jj, z, hjj, hjs, _⟩ := info_of hj
  refine .pure k hd ?_ hy
  simp only [execOp, ho, hx, hne]
  refine run_v ?_
  simp [Instr.indexAt, asIntOf, run_und w hund, h0, h1, run_size w hjj, hjs]

theorem q_iad_own {t e : Nat} {i j : TI} {x n : Operand} {id : Id} {b bor : Bool} {kk : IntKind} {m : Int} {e' : Nat} {xs : List (List C)} (ho : o.op = .indexAddr t x n) (hi : tiOk P t i = true) (hu : i.u = .slice e) (hj : tiOk P e j = true)
    (hx : evalO st x = .own id) (hid : st.h id = some (.row bor e' j.size xs)) (hn : evalO st n = .c b (.v (.int kk m))) (h0 : 0 ≤ m) (h1 : m < xs.length)
    (k : RepW Γ S ν st a w) (hd : d < Γ.N) : Gives P Γ a w (execOp a.eval o) d (st.give d (.ept id m.toNat 0) none) := by
  have hv := evalO_is k hx
  generalize hve : a.eval x = v at hv
  cases hv with
  | own hk =>
    obtain ⟨_, _, us, hown, _⟩ := k.ok.row id _ _ _ _ hid
    rcases hown.2 with ⟨hv, hn0⟩ | ⟨g, cap, cur, hv, _, ⟨fz, hg, _⟩, hnc, hcm, _, _⟩
    · omega
    · refine q_iad ho hi hu hj (hve.trans hv) hn h0 h1 ?_ k hd
      rw [addr_add, Nat.zero_add]
      exact .ept (o := 0) hid hv (by omega)

theorem q_iad_im {t e : Nat} {i j : TI} {x n : Operand} {b b' : Bool} {kk : IntKind} {m : Int} {xs : List (List C)} (ho : o.op = .indexAddr t x n) (hi : tiOk P t i = true) (hu : i.u = .slice e) (hj : tiOk P e j = true)
    (hx : evalO st x = .c b' (.sl xs)) (hsz : (xs.getD m.toNat []).length = j.size) (hn : evalO st n = .c b (.v (.int kk m))) (h0 : 0 ≤ m) (h1 : m < xs.length)
    (k : RepW Γ S ν st a w) (hd : d < Γ.N) : Gives P Γ a w (execOp a.eval o) d (st.give d (.ip b' (xs.getD m.toNat [])) none) := by
  have hv := evalO_is k hx
  generalize hve : a.eval x = v at hv
  cases hv with
  | c hk =>
    have hlt : m.toNat < xs.length := by omega
    have hr : xs[m.toNat]? = some xs[m.toNat] := List.getElem?_eq_getElem hlt
    have hgd : xs.getD m.toNat [] = xs[m.toNat] := by simp [List.getD_eq_getElem?_getD, hr]
    rw [hgd] at hsz ⊢
    cases hk with
    | nil => simp at h1; omega
    | sl u hs hS hn' hc hm hz hu' hi' =>
      rename_i ad n' cap sz
      have hsz' : sz = j.size := (hz _ (List.getElem_mem hlt)).symm.trans hsz
      subst hsz'
      refine q_iad ho hi hu hj hve hn h0 (by omega) ?_ k hd
      refine .ip (fun q => u (m.toNat * j.size + q)) (by
        have := hs (fun e => by rw [e] at hlt; simp at hlt)
        unfold Addr.add; split <;> first | exact this | rfl) (by rw [add_block]; exact hS (fun e => by rw [e] at hlt; simp at hlt)) (fun q c hq => ?_) (fun q c hq => hi' _ _ _ _ hr hq)
      have := hu' _ _ _ _ hr hq
      rw [show (ad.add (m.toNat * j.size)).add q = ad.add (m.toNat * j.size + q) from ?_]
      · exact this
      · unfold Addr.add
        by_cases h1 : m.toNat * j.size = 0
        · by_cases h2 : q = 0 <;> simp [h1, h2]
        · by_cases h2 : q = 0
          · simp [h1, h2]
          · rw [if_neg h2, if_neg h1, if_neg (by omega)]; simp [Nat.add_assoc]

theorem q_iad_rg {t e : Nat} {i j : TI} {x n : Operand} {b : Bool} {id : Id} {kk : IntKind} {m : Int} {xs : List (List C)} (ho : o.op = .indexAddr t x n) (hi : tiOk P t i = true) (hu : i.u = .slice e) (hj : tiOk P e j = true)
    (hx : evalO st x = .rg id (.sl xs)) (hsz : (xs.getD m.toNat []).length = j.size) (hn : evalO st n = .c b (.v (.int kk m))) (h0 : 0 ≤ m) (h1 : m < xs.length)
    (k : RepW Γ S ν st a w) (hd : d < Γ.N) : Gives P Γ a w (execOp a.eval o) d (st.give d (.rp id (xs.getD m.toNat [])) none) := by
  have hv := evalO_is k hx
  generalize hve : a.eval x = v at hv
  cases hv with
  | rg hid hk =>
    obtain ⟨c', hlk, hk⟩ := hk
    have hlt : m.toNat < xs.length := by omega
    have hr : xs[m.toNat]? = some xs[m.toNat] := List.getElem?_eq_getElem hlt
    have hgd : xs.getD m.toNat [] = xs[m.toNat] := by simp [List.getD_eq_getElem?_getD, hr]
    rw [hgd] at hsz ⊢
    cases hlk with
    | sl hl hz' hlc =>
      rename_i zs
      have hlt' : m.toNat < zs.length := by omega
      have hr' : zs[m.toNat]? = some zs[m.toNat] := List.getElem?_eq_getElem hlt'
      have hzl := hz' _ _ _ hr' hr
      cases hk with
      | nil => simp at hlt'
      | sl u hs hS hn' hc hm hz hu' hi' =>
        rename_i ad n' cap sz
        have hsz' : sz = j.size := (hz _ (List.getElem_mem hlt')).symm.trans (hzl.trans hsz)
        subst hsz'
        have hne : zs ≠ [] := fun e => by rw [e] at hlt'; simp at hlt'
        refine q_iad ho hi hu hj hve hn h0 (by omega) ?_ k hd
        refine .rp hid (by have := hs hne; unfold Addr.add; split <;> first | exact this | rfl) (by rw [add_block]; exact hS hne) (fun q c hq => ?_)
        have hq' : q < zs[m.toNat].length := by rw [hzl]; exact (List.getElem?_eq_some_iff.1 hq).1
        have hcq : zs[m.toNat][q]? = some (zs[m.toNat][q]) := List.getElem?_eq_getElem hq'
        refine ⟨_, _, ?_, hlc _ _ _ q _ _ hr' hr hcq hq, hi' _ _ _ _ hr' hcq⟩
        have := hu' _ _ _ _ hr' hcq
        rw [show (ad.add (m.toNat * j.size)).add q = ad.add (m.toNat * j.size + q) from ?_]
        · exact this
        · unfold Addr.add
          by_cases h1 : m.toNat * j.size = 0
          · by_cases h2 : q = 0 <;> simp [h1, h2]
          · by_cases h2 : q = 0
            · simp [h1, h2]
            · rw [if_neg h2, if_neg h1, if_neg (by omega)]; simp [Nat.add_assoc]

theorem q_iada {t e len : Nat} {i j : TI} {x n : Operand} {b : Bool} {kk : IntKind} {m : Int} {y : AV} (ho : o.op = .indexAddr t x n) (hi : tiOk P t i = true) (hu : i.u = .arr len e) (hj : tiOk P e j = true)
    (hy : onBy (m.toNat * j.size) (evalO st x) = some y) (hn : evalO st n = .c b (.v (.int kk m))) (h0 : 0 ≤ m) (h1 : m < (len : Int))
    (k : RepW Γ S ν st a w) (hd : d < Γ.N) : Gives P Γ a w (execOp a.eval o) d (st.give d y none) := by
  obtain ⟨ad, he, hv⟩ := onBy_ok k hy
  have hne := (evalO_v k hn).1
  have hund := (und_arr (P := P) (t := t) (n := len) (e := e) (by rw [← hu]; exact tyOk_of hi)).1
  obtain ⟨jj, z, hjj, hjs, _⟩ := info_of hj
  refine .pure k hd ?_ hv
  simp only [execOp, ho, he, hne]
  refine run_v ?_
  simp [Instr.indexAt, asIntOf, run_und w hund, Instr.sureAddr, h0, h1, run_size w hjj, hjs]

theorem q_sidx {t : Nat} {i : TI} {x n : Operand} {b b' : Bool} {kk : IntKind} {m : Int} {s : ByteArray} (ho : o.op = .index t x n) (hi : tiOk P t i = true) (hu : i.u = .str)
    (hx : evalO st x = .c b (.v (.string s))) (hn : evalO st n = .c b' (.v (.int kk m))) (h0 : 0 ≤ m) (h1 : m < (sb s).length)
    (k : RepW Γ S ν st a w) (hd : d < Γ.N) : Gives P Γ a w (execOp a.eval o) d (st.give d (.c false (.v (.int .u8 (((sb s).getD m.toNat 0).toNat : Int)))) none) := by
  have hxe := (evalO_v k hx).1
  have hne := (evalO_v k hn).1
  have hund := und_str (P := P) (t := t) (by rw [← hu]; exact tyOk_of hi)
  refine .pure k hd ?_ (.c (.v rfl))
  simp only [execOp, ho, hxe, hne]
  refine run_v ?_
  have hlt : m.toNat < s.data.size := by have := sb_size s; have h2 : s.size = s.data.size := rfl; omega
  have hget : s[m.toNat]? = some (s.data[m.toNat]'hlt) := by
    rw [getElem?_pos s m.toNat (by exact hlt)]; rfl
  simp only [Instr.index, asIntOf, Sem.run_bind, Sem.run_pure, Result.andThen_ok, run_und w hund, h0, if_true, hget]
  simp only [sb, List.getD_eq_getElem?_getD, Array.getElem?_toList, Array.getElem?_eq_getElem hlt, Option.getD_some]

theorem q_aidx {t e len : Nat} {i j : TI} {x n : Operand} {b : Bool} {kk : IntKind} {m : Int} {xs : List AV} (ho : o.op = .index t x n) (hi : tiOk P t i = true) (hu : i.u = .arr len e) (hj : tiOk P e j = true) (hg : j.u.isAgg = false) (h1s : j.size = 1)
    (hx : evalO st x = .agg xs) (hl : xs.length = len) (hn : evalO st n = .c b (.v (.int kk m))) (h0 : 0 ≤ m) (h1 : m < (len : Int))
    (k : RepW Γ S ν st a w) (hd : d < Γ.N) : Gives P Γ a w (execOp a.eval o) d (st.give d (xs.getD m.toNat .dead) none) := by
  have hv := evalO_is k hx
  have hne := (evalO_v k hn).1
  have hund := (und_arr (P := P) (t := t) (n := len) (e := e) (by rw [← hu]; exact tyOk_of hi)).1
  obtain ⟨jj, z, hjj, hjs, _⟩ := info_of hj
  have hag := und_some (tyOk_of hj)
  generalize hve : a.eval x = v at hv
  cases hv with
  | agg hl' hk h1' =>
    rename_i us
    have hlt : m.toNat < us.length := by omega
    have hxl : m.toNat < xs.length := by omega
    have hue : us[m.toNat]? = some us[m.toNat] := List.getElem?_eq_getElem hlt
    have hxe : xs[m.toNat]? = some xs[m.toNat] := List.getElem?_eq_getElem hxl
    have hgd : xs.getD m.toNat .dead = xs[m.toNat] := by simp [List.getD_eq_getElem?_getD, hxe]
    rw [hgd]
    refine .pure k hd ?_ (hk _ _ _ hxe hue)
    simp only [execOp, ho, hve, hne]
    refine run_v ?_
    simp [Instr.index, asIntOf, run_und w hund, h0, h1, part, run_isAgg w hag.1, hag.2, hg, run_size w hjj, hjs, h1s, hlt]

theorem opt_run (k : RepW Γ S ν st a w) {lo : Option Operand} {l : Option Int} (h : optI st lo = some l) : lo.map a.eval = l.map (fun n => Value.int .i64 n) := by
  cases lo with
  | none => simp only [optI, Option.some.injEq] at h; subst h; rfl
  | some x =>
    simp only [optI] at h
    split at h
    · rename_i b n hx
      obtain rfl := Option.some.inj h
      simp [(evalO_v k hx).1]
    · cases h

theorem bounds_run {isSlice : Bool} {len cap : Nat} {lo hi : Option Int} (h0 : 0 ≤ lo.getD 0) (h1 : lo.getD 0 ≤ hi.getD len) (h2 : hi.getD len ≤ cap) (hlc : len ≤ cap) :
    (Instr.sliceBounds isSlice len cap (lo.map (fun n => Value.int .i64 n)) (hi.map (fun n => Value.int .i64 n)) none).run P w = .ok ((lo.getD 0).toNat, (hi.getD len).toNat, cap) w := by
  cases lo with
  | none =>
    cases hi with
    | none => simp [Instr.sliceBounds]
    | some h => simp at h0 h1 h2; simp [Instr.sliceBounds, Instr.sliceBound, asIntOf, h1, h2]
  | some l =>
    cases hi with
    | none =>
      simp at h0 h1 h2
      simp [Instr.sliceBounds, Instr.sliceBound, asIntOf, h0, h1]
    | some h =>
      simp at h0 h1 h2
      have : l ≤ ((h.toNat : Nat) : Int) := by omega
      have h3 : 0 ≤ h := by omega
      simp [Instr.sliceBounds, Instr.sliceBound, asIntOf, h0, h2, h3, this]
      omega

theorem q_sls {t : Nat} {i : TI} {x : Operand} {lo hi : Option Operand} {b : Bool} {s : ByteArray} {l h : Option Int} (ho : o.op = .slice t x lo hi none) (hi0 : tiOk P t i = true) (hu : i.u = .str)
    (hx : evalO st x = .c b (.v (.string s))) (hl : optI st lo = some l) (hh : optI st hi = some h) (h0 : 0 ≤ l.getD 0) (h1 : l.getD 0 ≤ h.getD (sb s).length) (h2 : h.getD (sb s).length ≤ (sb s).length)
    (k : RepW Γ S ν st a w) (hd : d < Γ.N) :
    Gives P Γ a w (execOp a.eval o) d (st.give d (.c false (.v (.string ⟨(((sb s).drop (l.getD 0).toNat).take ((h.getD (sb s).length).toNat - (l.getD 0).toNat)).toArray⟩))) none) := by
  have hxe := (evalO_v k hx).1
  have hund := und_str (P := P) (t := t) (by rw [← hu]; exact tyOk_of hi0)
  refine .pure k hd ?_ (.c (.v rfl))
  rw [sb_size] at h1 h2 ⊢
  simp only [execOp, ho, hxe, opt_run k hl, opt_run k hh, Option.map_none]
  refine run_v ?_
  have hb := bounds_run (P := P) (w := w) (isSlice := false) (len := s.size) (cap := s.size) h0 h1 h2 (Nat.le_refl _)
  simp only [Instr.sliceAt, Sem.run_bind, run_und w hund, Result.andThen_ok, Instr.slice, Option.isSome_none, Bool.false_eq_true, if_false, hb, Sem.run_pure]
  congr 2
  apply ByteArray.ext
  apply Array.toList_inj.1
  simp [sb, ByteArray.data_extract, List.extract_eq_take_drop]

theorem slice_run {t e : Nat} {i j : TI} {x : Operand} {lo hi : Option Operand} {l h : Option Int} {ad : Option Addr} {len cap : Nat} (ho : o.op = .slice t x lo hi none) (hi0 : tiOk P t i = true) (hu : i.u = .slice e) (hj : tiOk P e j = true)
    (hx : a.eval x = .slice ad len cap) (hl : optI st lo = some l) (hh : optI st hi = some h) (h0 : 0 ≤ l.getD 0) (h1 : l.getD 0 ≤ h.getD len) (h2 : h.getD len ≤ len) (hlc : len ≤ cap) (k : RepW Γ S ν st a w) :
    (execOp a.eval o).run P w = .ok (.value (.slice (if cap = (l.getD 0).toNat then ad else ad.map (·.add ((l.getD 0).toNat * j.size))) ((h.getD len).toNat - (l.getD 0).toNat) (cap - (l.getD 0).toNat))) w := by
  have hund := und_slice (P := P) (t := t) (e := e) (by rw [← hu]; exact tyOk_of hi0)
  obtain ⟨jj, z, hjj, hjs, _⟩ := info_of hj
  simp only [execOp, ho, hx, opt_run k hl, opt_run k hh, Option.map_none]
  refine run_v ?_
  have hb := bounds_run (P := P) (w := w) (isSlice := true) (len := len) (cap := cap) h0 h1 (by omega) hlc
  simp only [Instr.sliceAt, Sem.run_bind, run_und w hund, Result.andThen_ok, Instr.slice, hb, Sem.run_pure, run_size w hjj, hjs]

theorem q_slc_im {t e : Nat} {i j : TI} {x : Operand} {lo hi : Option Operand} {b : Bool} {xs : List (List C)} {l h : Option Int} (ho : o.op = .slice t x lo hi none) (hi0 : tiOk P t i = true) (hu : i.u = .slice e) (hj : tiOk P e j = true)
    (hx : evalO st x = .c b (.sl xs)) (hz : ∀ r, r ∈ xs → r.length = j.size) (hl : optI st lo = some l) (hh : optI st hi = some h) (h0 : 0 ≤ l.getD 0) (h1 : l.getD 0 ≤ h.getD xs.length) (h2 : h.getD xs.length ≤ xs.length)
    (k : RepW Γ S ν st a w) (hd : d < Γ.N) :
    Gives P Γ a w (execOp a.eval o) d (st.give d (.c b (.sl ((xs.drop (l.getD 0).toNat).take ((h.getD xs.length).toNat - (l.getD 0).toNat)))) none) := by
  have hv := evalO_is k hx
  generalize hve : a.eval x = v at hv
  cases hv with
  | c hk =>
    cases hk with
    | nil =>
      simp only [List.length_nil] at h0 h1 h2 ⊢
      have e1 : (l.getD 0).toNat = 0 := by omega
      have e2 : (h.getD ((0 : Nat) : Int)).toNat = 0 := by omega
      refine .pure k hd (slice_run ho hi0 hu hj hve hl hh h0 (by simpa using h1) (by simpa using h2) (Nat.le_refl _) k) ?_
      rw [e1]
      simp only [if_true, Nat.sub_zero, List.drop_nil, List.take_nil]
      rw [e2]
      exact .c .nil
    | sl u hs hS hn hc hm hz' hu' hi' =>
      rename_i ad n cap sz
      subst hn
      refine .pure k hd (slice_run ho hi0 hu hj hve hl hh h0 h1 h2 hc k) ?_
      by_cases hcap : cap = (l.getD 0).toNat
      · have e1 : (h.getD (xs.length : Int)).toNat - (l.getD 0).toNat = 0 := by omega
        rw [if_pos hcap, e1, List.take_zero]
        refine .c (.sl (sz := 0) (fun _ => undef) (fun q => absurd rfl q) (fun q => absurd rfl q) rfl (Nat.zero_le _) (by omega) (by simp) (by simp) (by simp))
      · rw [if_neg hcap]
        refine .c ?_
        have := (Im.sl (S := rd S Γ.B b) (w := w) u hs hS rfl hc hm hz' hu' hi').part j.size (l.getD 0).toNat ((h.getD (xs.length : Int)).toNat - (l.getD 0).toNat) hz ?_ (by omega) (cap - (l.getD 0).toNat) (by omega) (by omega)
        · exact this
        · by_cases hxs : xs = []
          · subst hxs; right; simp at h1 h2; omega
          · exact .inl hxs

theorem q_slc_own {t e : Nat} {i j : TI} {x : Operand} {lo hi : Option Operand} {id : Id} {bor : Bool} {e' : Nat} {xs : List (List C)} {l h : Option Int} (ho : o.op = .slice t x lo hi none) (hi0 : tiOk P t i = true) (hu : i.u = .slice e) (hj : tiOk P e j = true)
    (hx : evalO st x = .own id) (hid : st.h id = some (.row bor e' j.size xs)) (hl : optI st lo = some l) (hh : optI st hi = some h) (h0 : 0 ≤ l.getD 0) (h1 : l.getD 0 ≤ h.getD xs.length) (h2 : h.getD xs.length ≤ xs.length)
    (k : RepW Γ S ν st a w) (hd : d < Γ.N) :
    Gives P Γ a w (execOp a.eval o) d (st.give d (.vw id (l.getD 0).toNat ((h.getD xs.length).toNat - (l.getD 0).toNat)) none) := by
  have hv := evalO_is k hx
  generalize hve : a.eval x = v at hv
  cases hv with
  | own hk =>
    have him := k.ok.im hid
    obtain ⟨_, hlz, us, hown, _⟩ := k.ok.row id _ _ _ _ hid
    rcases hown.2 with ⟨hv, hn0⟩ | ⟨g, cap, cur, hv, _, ⟨fz, hg, _⟩, hnc, hcm, _, _⟩
    · obtain rfl : xs = [] := List.eq_nil_of_length_eq_zero hn0
      simp only [List.length_nil] at h0 h1 h2 ⊢
      have e1 : (l.getD 0).toNat = 0 := by omega
      have e2 : (h.getD ((0 : Nat) : Int)).toNat = 0 := by omega
      rw [hv] at hve
      refine .pure k hd (slice_run ho hi0 hu hj hve hl hh h0 (by simpa using h1) (by simpa using h2) (Nat.le_refl _) k) ?_
      rw [e1]
      simp only [if_true, Nat.sub_zero]
      rw [e2]
      exact .vw hid (by simp) (.inl (by simpa using Im.nil))
    · rw [hv] at hve
      refine .pure k hd (slice_run ho hi0 hu hj hve hl hh h0 h1 h2 hnc k) ?_
      refine .vw hid (by omega) ?_
      by_cases hcap : cap = (l.getD 0).toNat
      · have e1 : (h.getD (xs.length : Int)).toNat - (l.getD 0).toNat = 0 := by omega
        rw [if_pos hcap, e1, List.take_zero]
        exact .inl (.sl (sz := 0) (fun _ => undef) (fun _ => rfl) (fun q => absurd rfl q) rfl (Nat.zero_le _) (by omega) (by simp) (by simp) (by simp))
      · rw [if_neg hcap]
        exact .inr ⟨g, _, _, _, hv, rfl, by omega, by omega⟩

theorem ibeq (m n : Int) : (m == n) = decide (m = n) := by by_cases h : m = n <;> simp [h]

theorem binI_ok {op : BinOp} {k0 : IntKind} {m n : Int} {v : Value} (h : binI op k0 m n = some (p, v)) (hp : p) (t : TypeId) : (binOp op t (.int k0 m) (.int k0 n)).run P w = .ok v w := by
  cases op <;> simp only [binI, reduceCtorEq, Option.some.injEq, Prod.mk.injEq] at h <;> obtain ⟨rfl, rfl⟩ := h <;>
    simp_all [binOp, Op.intArith, Op.intDiv, Op.intBits, Op.intCmp, ibeq, bne]

theorem bytes_eq (s t : ByteArray) : (s.toList == t.toList) = decide (sb s = sb t) := by
  rw [ByteArray.toList_eq, ByteArray.toList_eq]
  unfold sb
  by_cases h : s.data.toList = t.data.toList
  · simp [h]
  · rw [decide_eq_false h]; exact beq_eq_false_iff_ne.2 h

theorem append_sb (s t : ByteArray) : s ++ t = ⟨(sb s ++ sb t).toArray⟩ := by
  apply ByteArray.ext
  apply Array.toList_inj.1
  simp [sb]

theorem binS_ok {op : BinOp} {m n : ByteArray} {v : Value} (h : binS op m n = some (p, v)) (hp : p) (t : TypeId) : (binOp op t (.string m) (.string n)).run P w = .ok v w := by
  have e1 : m.toList = sb m := ByteArray.toList_eq m
  have e2 : n.toList = sb n := ByteArray.toList_eq n
  have e : (sb m == sb n) = decide (sb m = sb n) := by have := bytes_eq m n; rwa [e1, e2] at this
  cases op <;> simp only [binS, reduceCtorEq, Option.some.injEq, Prod.mk.injEq] at h <;> obtain ⟨rfl, rfl⟩ := h
  case add =>
    have h1 := sb_size m
    have h2 := sb_size n
    have hle : ¬ ((m.size + n.size : Nat) : Int) > IntKind.i64.max := by
      have : IntKind.i64.max = 9223372036854775807 := rfl
      omega
    simp only [binOp, Op.stringOp, hle, if_false, append_sb]
    rfl
  all_goals (simp only [binOp, Op.stringOp, e1, e2, e]; rfl)

theorem eq_bool (q : Nat) {t : TypeId} (h : P.underlying t = some .bool) (b1 b2 : Bool) : (Op.equalIn (q + 1) t (.bool b1) (.bool b2)).run P w = .ok (b1 == b2) w := by
  simp only [Op.equalIn, Sem.run_bind, run_und w h, Result.andThen_ok, Sem.run_pure]

theorem binV_ok {op : BinOp} {u u' v : Value} (h : binV op u u' = some (p, v)) (hp : p) (t : TypeId) {i : TI} (hi : tiOk P t i = true) (hg : i.u.isAgg = false) (hb : ∀ b, u = .bool b → i.u = .bool) : (binOp op t u u').run P w = .ok v w := by
  cases u <;> cases u' <;> simp only [binV, reduceCtorEq] at h
  case int.int k0 m k1 n =>
    cases op
    case shl =>
      simp only [Option.some.injEq, Prod.mk.injEq] at h
      obtain ⟨rfl, rfl⟩ := h
      simp only [binOp, Op.shift, Int.not_lt.2 hp, if_false]; rfl
    case shr =>
      simp only [Option.some.injEq, Prod.mk.injEq] at h
      obtain ⟨rfl, rfl⟩ := h
      simp only [binOp, Op.shift, Int.not_lt.2 hp, if_false]; rfl
    all_goals
      simp only [] at h
      split at h
      · rename_i e; subst e; exact binI_ok h hp t
      · cases h
  case string.string => exact binS_ok h hp t
  case bool.bool b1 b2 =>
    have hund := hb _ rfl
    have hu2 := und_bool (P := P) (t := t) (by rw [← hund]; exact tyOk_of hi)
    have heq : (Op.equal t (.bool b1) (.bool b2)).run P w = .ok (b1 == b2) w := eq_bool 9999 hu2 b1 b2
    cases op <;> simp only [reduceCtorEq, Option.some.injEq, Prod.mk.injEq] at h <;> obtain ⟨rfl, rfl⟩ := h
    · show (do pure (Value.bool (← Op.equal t (.bool b1) (.bool b2))) : Sem Value).run P w = _
      simp [heq]
    · show (do pure (Value.bool (!(← Op.equal t (.bool b1) (.bool b2)))) : Sem Value).run P w = _
      simp [heq]

theorem scal_guard {op : BinOp} {t : TypeId} {x y : Operand} {u u' : Value} (h : scal u = true) : (eqGuard op t x y u u').run P w = .ok () w := by
  unfold eqGuard
  cases u <;> simp [scal] at h <;> (split <;> simp)

theorem q_bin {op : BinOp} {t t' : TypeId} {i : TI} {x z : Operand} {b b' : Bool} {u u' v : Value} (ho : o.op = .binOp op t x z t') (hi : tiOk P t i = true) (hg : i.u.isAgg = false)
    (hx : evalO st x = .c b (.v u)) (hz : evalO st z = .c b' (.v u')) (hv : binV op u u' = some (p, v)) (hp : p) (hb : ∀ b, u = .bool b → i.u = .bool) (hs : scal v = true)
    (k : RepW Γ S ν st a w) (hd : d < Γ.N) : Gives P Γ a w (execOp a.eval o) d (st.give d (.c false (.v v)) none) := by
  have h1 := evalO_v k hx
  have h2 := evalO_v k hz
  refine .pure k hd ?_ (.c (.v hs))
  simp only [execOp, ho, h1.1, h2.1]
  refine run_v ?_
  simp [scal_guard h1.2, binV_ok hv hp t hi hg hb]

theorem binV_scal {op : BinOp} {u u' v : Value} (h : binV op u u' = some (p, v)) : scal v = true := by
  cases u <;> cases u' <;> simp only [binV, reduceCtorEq] at h
  case int.int k0 m k1 n =>
    cases op <;> simp only [Option.some.injEq, Prod.mk.injEq] at h <;> first
      | (obtain ⟨_, rfl⟩ := h; rfl)
      | (split at h
         · simp only [binI, reduceCtorEq, Option.some.injEq, Prod.mk.injEq] at h
           try (obtain ⟨_, rfl⟩ := h; rfl)
         · cases h)
  case string.string =>
    cases op <;> simp only [binS, reduceCtorEq, Option.some.injEq, Prod.mk.injEq] at h <;> obtain ⟨_, rfl⟩ := h <;> rfl
  case bool.bool =>
    cases op <;> simp only [reduceCtorEq, Option.some.injEq, Prod.mk.injEq] at h <;> obtain ⟨_, rfl⟩ := h <;> rfl

theorem q_un {op : UnOp} {t : TypeId} {x : Operand} {b : Bool} {u v : Value} (ho : o.op = .unOp op t x) (hx : evalO st x = .c b (.v u)) (hv : unV op u = some v)
    (k : RepW Γ S ν st a w) (hd : d < Γ.N) : Gives P Γ a w (execOp a.eval o) d (st.give d (.c false (.v v)) none) := by
  have h1 := evalO_v k hx
  have hs : scal v = true := by cases op <;> cases u <;> simp only [unV, reduceCtorEq, Option.some.injEq] at hv <;> subst hv <;> rfl
  refine .pure k hd ?_ (.c (.v hs))
  simp only [execOp, ho, h1.1]
  refine run_v ?_
  cases op <;> cases u <;> simp only [unV, reduceCtorEq, Option.some.injEq] at hv <;> subst hv <;> simp [Op.unary, Op.intArith, Op.intBits]

theorem q_cvi {s t : TypeId} {i j : TI} {x : Operand} {k0 k1 k2 : IntKind} {b : Bool} {n : Int} (ho : o.op = .convert s t x) (hi : tiOk P s i = true) (hj : tiOk P t j = true) (hu : i.u = .int k0) (hv : j.u = .int k1)
    (hx : evalO st x = .c b (.v (.int k2 n))) (k : RepW Γ S ν st a w) (hd : d < Γ.N) : Gives P Γ a w (execOp a.eval o) d (st.give d (.c false (.v (.int k1 (k1.wrap n)))) none) := by
  have h1 := (evalO_v k hx).1
  have e1 := und_int (P := P) (t := s) (by rw [← hu]; exact tyOk_of hi)
  have e2 := und_int (P := P) (t := t) (by rw [← hv]; exact tyOk_of hj)
  refine .pure k hd ?_ (.c (.v rfl))
  simp only [execOp, ho, h1]
  refine run_v ?_
  simp [convert, run_und w e1, run_und w e2, Conv.intToInt]

theorem q_cvss {s t : TypeId} {i j : TI} {x : Operand} {b : Bool} {q : ByteArray} (ho : o.op = .convert s t x) (hi : tiOk P s i = true) (hj : tiOk P t j = true) (hu : i.u = .str) (hv : j.u = .str)
    (hx : evalO st x = .c b (.v (.string q))) (k : RepW Γ S ν st a w) (hd : d < Γ.N) : Gives P Γ a w (execOp a.eval o) d (st.give d (.c false (.v (.string q))) none) := by
  have h1 := (evalO_v k hx).1
  have e1 := und_str (P := P) (t := s) (by rw [← hu]; exact tyOk_of hi)
  have e2 := und_str (P := P) (t := t) (by rw [← hv]; exact tyOk_of hj)
  refine .pure k hd ?_ (.c (.v rfl))
  simp only [execOp, ho, h1]
  refine run_v ?_
  simp [convert, run_und w e1, run_und w e2]

theorem q_len {t : TypeId} {i : TI} {x : Operand} {e : Nat} {ad : Option Addr} {n cap : Nat} (ho : o.op = .call { callee := .builtin .len, args := #[x], argTypes := #[t] }) (hi : tiOk P t i = true) (hu : i.u = .slice e)
    (hx : a.eval x = .slice ad n cap) (k : RepW Γ S ν st a w) (hd : d < Γ.N) : Gives P Γ a w (execOp a.eval o) d (st.give d (.c false (.v (.int .i64 (n : Int)))) none) := by
  have e1 := und_slice (P := P) (t := t) (by rw [← hu]; exact tyOk_of hi)
  refine .pure k hd (v := .int .i64 n) ?_ (.c (.v rfl))
  simp [execOp, ho, resolve, invoke, builtin, Builtin.len_, hx, run_und w e1, goInt]

theorem q_lens {t : TypeId} {i : TI} {x : Operand} {b : Bool} {s : ByteArray} (ho : o.op = .call { callee := .builtin .len, args := #[x], argTypes := #[t] }) (hi : tiOk P t i = true) (hu : i.u = .str)
    (hx : evalO st x = .c b (.v (.string s))) (k : RepW Γ S ν st a w) (hd : d < Γ.N) : Gives P Γ a w (execOp a.eval o) d (st.give d (.c false (.v (.int .i64 ((sb s).length : Int)))) none) := by
  have h1 := (evalO_v k hx).1
  have e1 := und_str (P := P) (t := t) (by rw [← hu]; exact tyOk_of hi)
  rw [sb_size]
  refine .pure k hd (v := .int .i64 s.size) ?_ (.c (.v rfl))
  simp [execOp, ho, resolve, invoke, builtin, Builtin.len_, h1, run_und w e1, goInt]

/-- how long what is read as a slice is -/
theorem len_of (k : RepW Γ S ν st a w) {x : Operand} {n : Nat} (h : match evalO st x with
    | .c _ (.sl xs) => n = xs.length
    | .own i => ∃ b e sz xs, st.h i = some (.row b e sz xs) ∧ n = xs.length
    | .vw i lo m => ∃ b e sz xs, st.h i = some (.row b e sz xs) ∧ n = ((xs.drop lo).take m).length
    | .nil => n = 0
    | .rg _ (.sl xs) => n = xs.length
    | _ => False) : ∃ ad cap, a.eval x = .slice ad n cap := by
  have hv := evalO_ok k x
  revert h hv
  generalize a.eval x = v
  generalize evalO st x = y
  intro h hv
  cases hv <;> try exact h.elim
  case c b c hk =>
    cases hk with
    | v => exact h.elim
    | nil => exact ⟨_, _, by rw [h]; rfl⟩
    | sl u hs hS hn => exact ⟨_, _, by rw [h, ← hn]⟩
  case rg i x hi q =>
    obtain ⟨x', hl, q⟩ := q
    cases hl with
    | v => exact h.elim
    | sl hl =>
      cases q with
      | nil => exact ⟨_, _, by rw [h, ← hl]; rfl⟩
      | sl u hs hS hn => exact ⟨_, _, by rw [h, ← hl, hn]⟩
  case own i bor e sz xs hi =>
    obtain ⟨_, _, _, xs', h1, rfl⟩ := h
    obtain ⟨_, _, us, hown, _⟩ := k.ok.row _ _ _ _ _ h1
    rcases hown.2 with ⟨hv, hn0⟩ | ⟨g, cap, cur, hv, _⟩
    · exact ⟨_, _, by rw [hv, hn0]⟩
    · exact ⟨_, _, hv⟩
  case vw i bor e sz lo n' xs hi hle hv =>
    obtain ⟨_, _, _, xs', h1, rfl⟩ := h
    have := (k.ok.vw (.vw hi hle hv) h1).1
    generalize (xs'.drop lo).take n' = ys at this
    cases this with
    | nil => exact ⟨_, _, rfl⟩
    | sl u hs hS hn => exact ⟨_, _, by rw [← hn]⟩
  case nil => exact ⟨_, _, by rw [h]⟩
end
end Go.Proofs.YtoemclhjcbcjaaaGreat.AB
