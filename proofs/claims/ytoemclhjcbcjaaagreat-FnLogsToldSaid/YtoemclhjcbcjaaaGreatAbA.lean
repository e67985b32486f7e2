/- What the slots of a Go function hold, said without addresses; and how that stands to the model's memory. Definitions and the first laws; nothing here speaks of a program. -/
import Derived.Below
import Derived.Laws.OwnMore
import Derived.Laws.AppendOwn
import Derived.Laws.MakeOwn
import Derived.Laws.Cells
import Derived.Laws.BytesString
import Derived.Orders
import Derived.KernelRfl
import Derived.Tactics
namespace Go.Proofs.YtoemclhjcbcjaaaGreat.AB
open Go

/-- what a cell that nobody writes any more holds: a number, a bool, a text; or a slice, with its elements' cells -/
inductive C where
  | v (x : Value)
  | sl (xs : List (List C))
instance : Inhabited C := ⟨.v (.bool false)⟩

/-- the values of one cell that lead nowhere -/
def scal : Value → Bool
  | .int _ _ => true
  | .bool _ => true
  | .string _ => true
  | _ => false

/-- which block a value leads into -/
def blk : Value → Option Nat
  | .slice (some a) _ _ => some a.block
  | .pointer (some a) => some a.block
  | _ => none
/-- which blocks an object stands in; a region's are told by a list of them -/
def fb : Value → Nat → Prop
  | .slice (some a) _ _, b => a.block = b
  | .pointer (some a), b => a.block = b
  | .agg l, b => .pointer (some ⟨b, 0, none⟩) ∈ l.toList
  | _, _ => False
/-- no mark lies over a block's cells -/
def unmk (w : World) (b : Nat) : Prop := ∃ cur e fz, w.heap[b]? = some (.cells cur e fz) ∧ (fz = (0, 0) ∨ cur.size ≤ fz.1)
theorem unmk.lt {w : World} {b : Nat} (h : unmk w b) : b < w.heap.size := by
  obtain ⟨_, _, _, h, _⟩ := h
  exact (Array.getElem?_eq_some_iff.1 h).1
theorem unmk.same {w w' : World} {b : Nat} (h : unmk w b) (e : w'.heap[b]? = w.heap[b]?) : unmk w' b := by
  obtain ⟨cur, t, fz, h, q⟩ := h
  exact ⟨cur, t, fz, e.trans h, q⟩

/-- a value reads, through blocks of S alone, as this content -/
inductive Im (S : Nat → Prop) (w : World) : Value → C → Prop
  | v {x : Value} (h : scal x = true) : Im S w x (.v x)
  | nil : Im S w (.slice none 0 0) (.sl [])
  | sl {a : Addr} {n cap sz : Nat} {xs : List (List C)} (u : Nat → Value) (hs : xs ≠ [] → a.spot = none) (hS : xs ≠ [] → S a.block) (hn : xs.length = n) (hc : n ≤ cap) (hm : cap ≤ maxLen)
      (hz : ∀ r, r ∈ xs → r.length = sz) (hu : ∀ i r j c, xs[i]? = some r → r[j]? = some c → w.cell? (a.add (i * sz + j)) = some (u (i * sz + j)))
      (hi : ∀ i r j c, xs[i]? = some r → r[j]? = some c → Im S w (u (i * sz + j)) c) : Im S w (.slice (some a) n cap) (.sl xs)

theorem add_block (a : Addr) (n : Nat) : (a.add n).block = a.block := by unfold Addr.add; split <;> rfl

theorem Im.mono {S S' : Nat → Prop} {w w' : World} {v : Value} {c : C} (h : Im S w v c) (hS : ∀ b, S b → S' b) (hw : ∀ b, S b → w'.heap[b]? = w.heap[b]?) : Im S' w' v c := by
  induction h with
  | v h => exact .v h
  | nil => exact .nil
  | sl u hs hb hn hc hm hz hu hi ih =>
    exact .sl u hs (fun q => hS _ (hb q)) hn hc hm hz (fun i r j c h1 h2 => (World.cell?_of_block (by rw [add_block]; exact hw _ (hb (fun e => by rw [e] at h1; simp at h1)))).trans (hu i r j c h1 h2)) ih

/-- values of one cell of the same kind -/
def sameK : Value → Value → Bool
  | .int k _, .int j _ => k == j
  | .bool _, .bool _ => true
  | .string _, .string _ => true
  | _, _ => false
theorem sameK.refl {v : Value} (h : scal v = true) : sameK v v = true := by cases v <;> simp_all [sameK, scal]
theorem sameK.trans {u v x : Value} (h : sameK u v = true) (k : sameK v x = true) : sameK u x = true := by
  cases u <;> cases v <;> simp [sameK] at h <;> cases x <;> simp [sameK] at k ⊢
  rw [h, k]
theorem sameK.trans' {u v x : Value} (h : sameK u v = true) (k : sameK x v = true) : sameK u x = true := by
  cases u <;> cases v <;> simp [sameK] at h <;> cases x <;> simp [sameK] at k ⊢
  rw [h, k]
/-- content of the same shape -/
inductive Like : C → C → Prop
  | v {x y : Value} (h : sameK x y = true) : Like (.v x) (.v y)
  | sl {xs ys : List (List C)} (hl : xs.length = ys.length) (hz : ∀ (i : Nat) (r s : List C), xs[i]? = some r → ys[i]? = some s → r.length = s.length)
      (h : ∀ (i : Nat) (r s : List C) (j : Nat) (c d : C), xs[i]? = some r → ys[i]? = some s → r[j]? = some c → s[j]? = some d → Like c d) : Like (.sl xs) (.sl ys)
theorem Like.trans {a b c : C} (h : Like a b) (k : Like b c) : Like a c := by
  induction h generalizing c with
  | v h =>
    cases k with
    | v k => exact .v (sameK.trans h k)
  | sl hl hz h ih =>
    rename_i xs ys
    cases k with
    | sl hl' hz' h' =>
      rename_i zs
      have mid : ∀ {i r}, xs[i]? = some r → ∃ s, ys[i]? = some s := fun {i r} hr => ⟨_, List.getElem?_eq_getElem (by rw [← hl]; exact (List.getElem?_eq_some_iff.1 hr).1)⟩
      refine .sl (hl.trans hl') (fun i r s hr hs => ?_) (fun i r s j c d hr hs hc hd => ?_)
      · obtain ⟨q, hq⟩ := mid hr
        exact (hz i r q hr hq).trans (hz' i q s hq hs)
      · obtain ⟨q, hq⟩ := mid hr
        have hlt : j < q.length := by rw [← hz i r q hr hq]; exact (List.getElem?_eq_some_iff.1 hc).1
        exact ih i r q j c _ hr hq hc (List.getElem?_eq_getElem hlt) (h' i q s j _ d hq hs (List.getElem?_eq_getElem hlt) hd)
theorem Im.like {S : Nat → Prop} {w : World} {v : Value} {c : C} (h : Im S w v c) : Like c c := by
  induction h with
  | v h => exact .v (sameK.refl h)
  | nil => exact .sl rfl (fun i r s h => by simp at h) (fun i r s j c d h => by simp at h)
  | sl u hs hb hn hc hm hz hu hi ih =>
    refine .sl rfl (fun i r s hr hs => ?_) (fun i r s j c d hr hs hc hd => ?_)
    · rw [hr] at hs; rw [Option.some.inj hs]
    · rw [hr] at hs; obtain rfl := Option.some.inj hs
      rw [hc] at hd; obtain rfl := Option.some.inj hd
      exact ih i r j c hr hc

/-- what read so reads so still, up to its numbers, bools and texts -/
def KP (F : Nat → Prop) (w w' : World) : Prop := ∀ v c, Im F w v c → ∃ c', Like c' c ∧ Im F w' v c'
theorem KP.same {F : Nat → Prop} {w w' : World} (h : ∀ b, F b → w'.heap[b]? = w.heap[b]?) : KP F w w' := fun _ c q => ⟨c, q.like, q.mono (fun _ q => q) h⟩
theorem KP.trans {F : Nat → Prop} {w w' w2 : World} (h : KP F w w') (k : KP F w' w2) : KP F w w2 := fun v c q => by
  obtain ⟨c1, h1, q1⟩ := h v c q
  obtain ⟨c2, h2, q2⟩ := k v c1 q1
  exact ⟨c2, h2.trans h1, q2⟩

/-- names of what a function makes: by the slot of the operation that makes it; of what comes in by an address; of what is handed back -/
inductive Id where
  | s (d j : Nat)
  | a (k : Nat)
  | r (k : Nat)
  deriving DecidableEq

/-- what a slot holds -/
inductive AV where
  | c (bor : Bool) (x : C)
  | agg (xs : List AV)
  | tup (xs : List AV)
  | own (i : Id)
  | vw (i : Id) (lo n : Nat)
  | nil
  | ptr (i : Id) (o : Nat)
  | ept (i : Id) (n o : Nat)
  | ip (bor : Bool) (xs : List C)
  | fn (f : Nat) (caps : List AV)
  | rx (i : Id) (x : C)
  | rg (i : Id) (x : C)
  | rp (i : Id) (xs : List C)
  | dead
instance : Inhabited AV := ⟨.dead⟩

/-- what stands in memory of its own: a variable's cells; a slice's elements -/
inductive Ob where
  | box (cs : List AV)
  | row (bor : Bool) (e sz : Nat) (xs : List (List C))
  | reg

abbrev Hp := Id → Option Ob
def hempty : Hp := fun _ => none

/-- blocks whose content may be read: those that stay, and, where it is only lent, those that are lent -/
def rd (S B : Nat → Prop) (bor : Bool) (b : Nat) : Prop := S b ∨ (bor = true ∧ B b)

/-- how what a slot holds stands to its value -/
inductive VR (S B : Nat → Prop) (ν : Id → Value) (h : Hp) (w : World) : AV → Value → Prop
  | c {bor : Bool} {x : C} {v : Value} (k : Im (rd S B bor) w v x) : VR S B ν h w (.c bor x) v
  | agg {xs : List AV} {us : List Value} (hl : xs.length = us.length) (k : ∀ (i : Nat) (x : AV) (u : Value), xs[i]? = some x → us[i]? = some u → VR S B ν h w x u)
      (h1 : ∀ u, u ∈ us → u.oneCell' = true) : VR S B ν h w (.agg xs) (.agg us.toArray)
  | tup {xs : List AV} {us : List Value} (hl : xs.length = us.length) (k : ∀ (i : Nat) (x : AV) (u : Value), xs[i]? = some x → us[i]? = some u → VR S B ν h w x u) :
      VR S B ν h w (.tup xs) (.tuple us.toArray)
  | own {i : Id} {bor : Bool} {e sz : Nat} {xs : List (List C)} (k : h i = some (.row bor e sz xs)) : VR S B ν h w (.own i) (ν i)
  | vw {i : Id} {bor : Bool} {e sz lo n : Nat} {xs : List (List C)} {v : Value} (k : h i = some (.row bor e sz xs)) (hle : lo + n ≤ xs.length)
      (hv : Im (rd S B bor) w v (.sl ((xs.drop lo).take n)) ∨ ∃ g m cap c', ν i = .slice (some ⟨g, 0, none⟩) m cap ∧ v = .slice (some ((⟨g, 0, none⟩ : Addr).add (lo * sz))) n c' ∧ n ≤ c' ∧ c' ≤ maxLen) : VR S B ν h w (.vw i lo n) v
  | nil : VR S B ν h w .nil (.slice none 0 0)
  | ptr {i : Id} {o b : Nat} {cs : List AV} (k : h i = some (.box cs)) (hv : ν i = .pointer (some ⟨b, 0, none⟩)) : VR S B ν h w (.ptr i o) (.pointer (some ⟨b, o, none⟩))
  | ept {i : Id} {n o e sz b m cap : Nat} {bor : Bool} {xs : List (List C)} (k : h i = some (.row bor e sz xs)) (hv : ν i = .slice (some ⟨b, 0, none⟩) m cap) (hn : n < xs.length) :
      VR S B ν h w (.ept i n o) (.pointer (some ⟨b, n * sz + o, none⟩))
  | ip {bor : Bool} {xs : List C} {a : Addr} (u : Nat → Value) (hs : a.spot = none) (hS : rd S B bor a.block) (hu : ∀ (j : Nat) (c : C), xs[j]? = some c → w.cell? (a.add j) = some (u j))
      (hi : ∀ (j : Nat) (c : C), xs[j]? = some c → Im (rd S B bor) w (u j) c) : VR S B ν h w (.ip bor xs) (.pointer (some a))
  | fn {f : Nat} {xs : List AV} {us : List Value} (hl : xs.length = us.length) (k : ∀ (i : Nat) (x : AV) (u : Value), xs[i]? = some x → us[i]? = some u → VR S B ν h w x u) :
      VR S B ν h w (.fn f xs) (.func (.func f) #[] us.toArray)
  | rx {i : Id} {x : C} {v : Value} (k : h i = some .reg) (q : Im (fb (ν i)) w v x) : VR S B ν h w (.rx i x) v
  | rg {i : Id} {x : C} {v : Value} (k : h i = some .reg) (q : ∃ x', Like x' x ∧ Im (fb (ν i)) w v x') : VR S B ν h w (.rg i x) v
  | rp {i : Id} {xs : List C} {a : Addr} (k : h i = some .reg) (hs : a.spot = none) (hb : fb (ν i) a.block)
      (q : ∀ (j : Nat) (c : C), xs[j]? = some c → ∃ u c', w.cell? (a.add j) = some u ∧ Like c' c ∧ Im (fb (ν i)) w u c') : VR S B ν h w (.rp i xs) (.pointer (some a))
  | dead {v : Value} : VR S B ν h w .dead v

/-- a slice's memory is one's own: its cells hold this; no cell of it is barred (a mark may lie behind the last one) -/
def World.ownsM (w : World) (base : Nat) (e : TypeId) (size : Nat) (v : Value) (n : Nat) (xs : List Value) : Prop :=
  xs.length = n * size ∧
  ((v = .slice none 0 0 ∧ n = 0) ∨
   ∃ g cap cur, v = .slice (some ⟨g, 0, none⟩) n cap ∧ base ≤ g ∧ (∃ fz, w.heap[g]? = some (.cells cur e fz) ∧ (fz = (0, 0) ∨ cur.size ≤ fz.1)) ∧ n ≤ cap ∧ cap ≤ maxLen ∧ cap * size ≤ cur.size ∧ cur.toList.take (n * size) = xs)
theorem World.ownsM.of {w : World} {base : Nat} {e : TypeId} {size n : Nat} {v : Value} {xs : List Value} (h : w.ownsRow base e size v n xs) : World.ownsM w base e size v n xs := by
  refine ⟨h.1, h.2.imp id ?_⟩
  rintro ⟨g, cap, cur, hv, hb, hg, h1, h2, h3, h4⟩
  exact ⟨g, cap, cur, hv, hb, ⟨_, hg, .inl rfl⟩, h1, h2, Nat.le_of_eq h3.symm, h4⟩
theorem World.ownsM.cells {w : World} {base : Nat} {e : TypeId} {size n : Nat} {v : Value} {xs : List Value} (h : World.ownsM w base e size v n xs) {g : Nat} (hg : v.ownBlock = some g) : ∀ j u, xs[j]? = some u → w.cell? ((⟨g, 0, none⟩ : Addr).add j) = some u := by
  intro j u hu
  rcases h.2 with ⟨rfl, _⟩ | ⟨g', cap, cur, rfl, _, ⟨fz, hgg, _⟩, _, _, _, htake⟩
  · simp [Value.ownBlock] at hg
  · simp [Value.ownBlock] at hg
    subst hg
    have hadd : (⟨g', 0, none⟩ : Addr).add j = ⟨g', j, none⟩ := by unfold Addr.add; split <;> simp_all
    rw [hadd, cell_of_row w g' j cur e fz hgg]
    rw [← htake, List.getElem?_take] at hu
    split at hu
    · simpa using hu
    · cases hu

/-- memory of one's own holds what it is said to hold; no two of it are one; none of it is read by what stays or is lent -/
structure HOK (S B : Nat → Prop) (ν : Id → Value) (h : Hp) (w : World) : Prop where
  box : ∀ i cs, h i = some (.box cs) → ∃ b us T, ν i = .pointer (some ⟨b, 0, none⟩) ∧ w.heap[b]? = some (.cells us T (0, 0)) ∧ us.size = cs.length ∧
    (∀ (j : Nat) (x : AV) (u : Value), cs[j]? = some x → us[j]? = some u → VR S B ν h w x u ∧ u.oneCell' = true)
  row : ∀ i bor e sz xs, h i = some (.row bor e sz xs) → 0 < sz ∧ (∀ r, r ∈ xs → r.length = sz) ∧ ∃ us, World.ownsM w 0 e sz (ν i) xs.length us ∧
    (∀ (n : Nat) (r : List C) (o : Nat) (c : C), xs[n]? = some r → r[o]? = some c → ∃ u, us[n * sz + o]? = some u ∧ u.oneCell' = true ∧ Im (rd S B bor) w u c)
  reg : ∀ i, h i = some .reg → (∃ l, ν i = .agg l) ∧ ∀ b, fb (ν i) b → unmk w b
  sep : ∀ i j b, i ≠ j → (h i).isSome = true → (h j).isSome = true → fb (ν i) b → ¬ fb (ν j) b
  out : ∀ i b, (h i).isSome = true → fb (ν i) b → ¬ S b ∧ ¬ B b
  lt : ∀ b, S b ∨ B b → b < w.heap.size

/-- an object's blocks bear no mark over their cells -/
theorem HOK.um {S B : Nat → Prop} {ν : Id → Value} {h : Hp} {w : World} (k : HOK S B ν h w) {i : Id} {b : Nat} (hi : (h i).isSome = true) (hb : fb (ν i) b) : unmk w b := by
  cases ho : h i with
  | none => rw [ho] at hi; cases hi
  | some o =>
    cases o with
    | box cs =>
      obtain ⟨b', us, T, hν, hw, _⟩ := k.box i cs ho
      rw [hν] at hb
      obtain rfl : b' = b := hb
      exact ⟨_, _, _, hw, .inl rfl⟩
    | row bor e sz xs =>
      obtain ⟨_, _, us, hown, _⟩ := k.row i bor e sz xs ho
      rcases hown.2 with ⟨hv, _⟩ | ⟨g, cap, cur, hv, _, ⟨fz, hg, hfz⟩, _⟩
      · rw [hv] at hb; cases hb
      · rw [hv] at hb
        obtain rfl : g = b := hb
        exact ⟨_, _, _, hg, hfz⟩
    | reg => exact (k.reg i ho).2 b hb

theorem HOK.blk_lt {S B : Nat → Prop} {ν : Id → Value} {h : Hp} {w : World} (k : HOK S B ν h w) {i : Id} {b : Nat} (hi : (h i).isSome = true) (hb : fb (ν i) b) : b < w.heap.size := (k.um hi hb).lt

/-- the same, in a world in which these blocks hold what they held; objects may come, none goes -/
theorem VR.mono {S B S' B' : Nat → Prop} {ν ν' : Id → Value} {h h' : Hp} {w w' : World} {x : AV} {v : Value} (k : VR S B ν h w x v)
    (hS : ∀ b, S b → S' b) (hB : ∀ b, B b → B' b)
    (hbox : ∀ i cs, h i = some (.box cs) → (∃ cs', h' i = some (.box cs')) ∧ ν' i = ν i)
    (hrow : ∀ i bor e sz xs, h i = some (.row bor e sz xs) → h' i = some (.row bor e sz xs) ∧ ν' i = ν i)
    (hreg : ∀ i, h i = some .reg → h' i = some .reg ∧ ν' i = ν i ∧ ∀ b, fb (ν i) b → w'.heap[b]? = w.heap[b]?)
    (hw : ∀ b, S b ∨ B b → w'.heap[b]? = w.heap[b]?) : VR S' B' ν' h' w' x v := by
  have hrd : ∀ bor b, rd S B bor b → rd S' B' bor b := fun bor b hb => hb.elim (fun q => .inl (hS b q)) (fun q => .inr ⟨q.1, hB b q.2⟩)
  have hrw : ∀ bor b, rd S B bor b → w'.heap[b]? = w.heap[b]? := fun bor b hb => hb.elim (fun q => hw b (.inl q)) (fun q => hw b (.inr q.2))
  induction k with
  | c k => exact .c (k.mono (hrd _) (hrw _))
  | agg hl _ h1 ih => exact .agg hl ih h1
  | tup hl _ ih => exact .tup hl ih
  | own k =>
    obtain ⟨h1, h2⟩ := hrow _ _ _ _ _ k
    rw [← h2]; exact .own h1
  | vw k hle hv =>
    obtain ⟨h1, h2⟩ := hrow _ _ _ _ _ k
    refine .vw h1 hle (hv.imp (fun q => q.mono (hrd _) (hrw _)) (fun q => ?_))
    rw [h2]; exact q
  | nil => exact .nil
  | ptr k hv =>
    obtain ⟨⟨cs', h1⟩, h2⟩ := hbox _ _ k
    exact .ptr h1 (h2.trans hv)
  | ept k hv hn =>
    obtain ⟨h1, h2⟩ := hrow _ _ _ _ _ k
    exact .ept h1 (h2.trans hv) hn
  | ip u hs hb hu hi =>
    exact .ip u hs (hrd _ _ hb) (fun j c hj => (World.cell?_of_block (by rw [add_block]; exact hrw _ _ hb)).trans (hu j c hj)) (fun j c hj => (hi j c hj).mono (hrd _) (hrw _))
  | fn hl _ ih => exact .fn hl ih
  | rx k q =>
    obtain ⟨h1, h2, h3⟩ := hreg _ k
    exact .rx h1 (by rw [h2]; exact q.mono (fun _ q => q) h3)
  | rg k q =>
    obtain ⟨h1, h2, h3⟩ := hreg _ k
    obtain ⟨x', l, q⟩ := q
    exact .rg h1 ⟨x', l, by rw [h2]; exact q.mono (fun _ q => q) h3⟩
  | rp k hs hb q =>
    obtain ⟨h1, h2, h3⟩ := hreg _ k
    refine .rp h1 hs (by rw [h2]; exact hb) (fun j c hj => ?_)
    obtain ⟨u, c', h4, l, h5⟩ := q j c hj
    exact ⟨u, c', (World.cell?_of_block (by rw [add_block]; exact h3 _ hb)).trans h4, l, by rw [h2]; exact h5.mono (fun _ q => q) h3⟩
  | dead => exact .dead

end Go.Proofs.YtoemclhjcbcjaaaGreat.AB
