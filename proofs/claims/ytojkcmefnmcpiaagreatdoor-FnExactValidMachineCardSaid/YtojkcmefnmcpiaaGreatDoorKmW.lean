/- Loops and recursion without fuel. Conditions: none. -/
import Derived.Test.YtojkcmefnmcpiaaGreatDoorKmVv
import Derived.Test.YtojkcmefnmcpiaaGreatDoorKmVv
namespace Go.KM
open Go
open Fam (Dn dflt)
open Enc (cells sz mkE glob gany u8)
set_option autoImplicit false
set_option linter.unusedVariables false
set_option linter.unusedSimpArgs false
set_option linter.unusedSectionVars false
section
variable [Enc] {P : Program}
inductive R1 where
 | int (k : IntKind)
 | bool
 | str
 | ol (T : Nat)
 | fl (T : Nat)
 | st (T : Nat)
 | err
 | obj (i : Nat)
 | fp (T : Nat)
 /-- a known function value -/
 | clo (f : Nat) (caps : List (Nat × Nat))
 /-- a struct whose lists are owned -/
 | so (T : Nat)
 /-- nil, or a list -/
 | fo (T : Nat)
 /-- a map of texts -/
 | mp (U : Nat)
 /-- an object's pointer to itself, or nil -/
 | slf (T i : Nat)
def R1.ty : R1 → Type
 | .int _ => Int
 | .bool => Bool
 | .str => ByteArray
 | .ol T => List (Dn T)
 | .fl T => List (Dn T)
 | .st T => Dn T
 | .err => Bool
 | .obj _ => Unit
 | .fp T => Option (Dn T)
 | .clo _ _ => Unit
 | .so T => Dn T
 | .fo T => Option (List (Dn T))
 | .mp U => List (ByteArray × Dn U)
 | .slf _ _ => Bool
def own1 : PV → PV
 | .fl U xs => .ol U xs
 | p => p
def soC : PV → Bool
 | .ol _ _ | .nl => true
 | p => p.flat1
def capEq : List (Nat × Nat) → List (Nat × Nat) → Bool
 | [], [] => true
 | (a, b) :: l, (c, d) :: r => Nat.beq a c && (Nat.beq b d && capEq l r)
 | _, _ => false
theorem capEq_eq : ∀ (l r : List (Nat × Nat)), capEq l r = true → l = r := by
 intro l
 induction l with
 | nil => intro r h; cases r with
  | nil => rfl
  | cons x r => simp [capEq] at h
 | cons x l ih => intro r h; cases r with
  | nil => simp [capEq] at h
  | cons y r =>
   obtain ⟨a, b⟩ := x
   obtain ⟨c, d⟩ := y
   simp only [capEq, Bool.and_eq_true] at h
   rw [Nat.eq_of_beq_eq_true h.1, Nat.eq_of_beq_eq_true h.2.1, ih r h.2.2]
def castO (T : Nat) {U : Nat} (x : Option (Dn U)) : Option (Option (Dn T)) := if h : U = T then some (h ▸ x) else none
def castF (T : Nat) {U : Nat} (x : Option (List (Dn U))) : Option (Option (List (Dn T))) := if h : U = T then some (h ▸ x) else none
def castM (T : Nat) {U : Nat} (x : List (ByteArray × Dn U)) : Option (List (ByteArray × Dn T)) := if h : U = T then some (h ▸ x) else none
def R1.enc : (r : R1) → r.ty → PV
 | .int k, n => .i k n
 | .bool, b => .b b
 | .str, s => .s s
 | .ol T, xs => .ol T xs
 | .fl T, xs => .fl T xs
 | .st T, x => .st (cells T x)
 | .err, b => .ifc b
 | .obj i, _ => .ad (.obj i) 0
 | .fp T, x => .fp T x
 | .clo f caps, _ => .clo f caps
 | .so T, x => .st ((cells T x).map own1)
 | .fo T, x => .fo T x
 | .mp U, x => .mp U x
 | .slf T i, b => .slf T i b
def R1.dec (r : R1) (p : PV) : Option r.ty :=
 match r with
 | .int k => match p with
  | .i k' n => bif kEq k k' then some n else none
  | _ => none
 | .bool => match p with
  | .b b => some b
  | _ => none
 | .str => match p with
  | .s s => some s
  | _ => none
 | .ol T => match p with
  | .ol _ xs => castL T xs
  | .nl => some []
  | _ => none
 | .fl T => match p with
  | .fl _ xs => castL T xs
  | .fo _ o => castL T (o.getD [])
  | .nl => some []
  | _ => none
 | .st T => match p with
  | .st cs => bif cs.all PV.plain then mkE T cs else none
  | _ => none
 | .err => match p with
  | .ifc b => some b
  | _ => none
 | .obj i => match p with
  | .ad (.obj j) 0 => bif Nat.beq i j then some () else none
  | _ => none
 | .fp T => match p with
  | .fp _ x => castO T x
  | .fa _ x 0 => castO T (some x)
  | .np => some none
  | _ => none
 | .clo f caps => match p with
  | .clo g l => bif Nat.beq f g && capEq caps l then some () else none
  | _ => none
 | .so T => match p with
  | .st cs => bif cs.all soC then mkE T (cs.map PV.fz) else none
  | _ => none
 | .fo T => match p with
  | .fo _ x => castF T x
  | .fl _ xs => castF T (some xs)
  | .nl => some none
  | _ => none
 | .mp U => match p with
  | .mp _ es => castM U es
  | _ => none
 | .slf T i => match p with
  | .slf U j b => bif Nat.beq T U && Nat.beq i j then some b else none
  | _ => none
def tys : List R1 → Type
 | [] => Unit
 | [a] => a.ty
 | a :: b :: r => a.ty × tys (b :: r)
def encL : (l : List R1) → tys l → List PV
 | [], _ => []
 | [a], x => [a.enc x]
 | a :: b :: r, x => a.enc x.1 :: encL (b :: r) x.2
def pairO {α β : Type} (x : Option α) (y : Option β) : Option (α × β) :=
 match x with
 | some x => match y with
  | some y => some (x, y)
  | none => none
 | none => none
def decL : (l : List R1) → List PV → Option (tys l)
 | [], ps => match ps with
  | [] => some ()
  | _ :: _ => none
 | [a], ps => match ps with
  | [] => none
  | p :: q => match q with
   | [] => a.dec p
   | _ :: _ => none
 | a :: b :: r, ps => match ps with
  | [] => none
  | p :: q => pairO (a.dec p) (decL (b :: r) q)
def enc (l : List R1) (x : tys l) : PV := ret1 (encL l x)
def mem : List (List R1) → Type
 | [] => Unit
 | [a] => tys a
 | a :: b :: r => tys a × mem (b :: r)
def encM : (l : List (List R1)) → mem l → List (List PV)
 | [], _ => []
 | [a], x => [encL a x]
 | a :: b :: r, x => encL a x.1 :: encM (b :: r) x.2
def decM : (l : List (List R1)) → List (List PV) → Option (mem l)
 | [], ps => match ps with
  | [] => some ()
  | _ :: _ => none
 | [a], ps => match ps with
  | [] => none
  | p :: q => match q with
   | [] => decL a p
   | _ :: _ => none
 | a :: b :: r, ps => match ps with
  | [] => none
  | p :: q => pairO (decL a p) (decM (b :: r) q)
def dec : (l : List R1) → PV → Option (tys l)
 | [a], p => a.dec p
 | l, .tup vs => decL l vs
 | _, _ => none
theorem repV_ol0 {g : G} {w : World} {κ : Key} {T : Nat} {v : Value} (h : RepV g w κ .nl v) : RepV g w κ (.ol T []) v := by
 have h : RepF g .nl v := h
 cases h
 exact ⟨[], ⟨by simp, .inl ⟨rfl, rfl⟩⟩, fun b hb => by simp [Value.ownBlock] at hb, fun i x hi => by simp at hi⟩
theorem repV_fl0 {g : G} {w : World} {κ : Key} {T : Nat} {v : Value} (h : RepV g w κ .nl v) : RepV g w κ (.fl T []) v := by
 have h : RepF g .nl v := h
 cases h
 exact RepF.fl0 T
theorem castL_some {T U : Nat} {xs : List (Dn U)} {ys : List (Dn T)} (h : castL T xs = some ys) : PV.ol U xs = .ol T ys ∧ PV.fl U xs = .fl T ys := by
 unfold castL at h
 split at h
 ·rename_i hh
  subst hh
  simp only [Option.some.injEq] at h
  subst h
  exact ⟨rfl, rfl⟩
 ·simp at h
theorem R1.dec_cases {r : R1} {p : PV} {x : r.ty} (h : r.dec p = some x) : p = r.enc x ∨ (p = .nl ∧ ∃ T, r.enc x = .ol T [] ∨ r.enc x = .fl T []) ∨ (∃ T cs, ∃ y : Dn T, p = .st cs ∧ cs.all PV.plain = true ∧ mkE T cs = some y ∧ r.enc x = .st (cells T y)) ∨
  (∃ T, (p = .np ∧ r.enc x = .fp T none) ∨ ∃ y : Dn T, p = .fa T y 0 ∧ r.enc x = .fp T (some y)) ∨
  (∃ T cs, ∃ y : Dn T, p = .st cs ∧ cs.all soC = true ∧ mkE T (cs.map PV.fz) = some y ∧ r.enc x = .st ((cells T y).map own1)) ∨
  (p.plain = true ∧ (r.enc x).plain = true ∧ ∀ (g : G) (v : Value), RepF g p v → RepF g (r.enc x) v) := by
 cases r with
 | fo T =>
  cases p with
  | fo U y =>
   have h : castF T y = some x := h
   unfold castF at h
   split at h
   ·rename_i hh
    subst hh
    have h := Option.some.inj h
    subst h
    exact .inl rfl
   ·simp at h
  | fl U xs =>
   have h : castF T (some xs) = some x := h
   unfold castF at h
   split at h
   ·rename_i hh
    subst hh
    have h := Option.some.inj h
    subst h
    exact .inr (.inr (.inr (.inr (.inr ⟨rfl, rfl, fun g v hv => .foS _ _ _ hv⟩))))
   ·simp at h
  | nl =>
   have h := Option.some.inj (show some (none : Option (List (Dn T))) = some x from h)
   subst h
   exact .inr (.inr (.inr (.inr (.inr ⟨rfl, rfl, fun g v hv => by cases hv; exact .foN T⟩))))
  | _ => exact absurd (show (none : Option (Option (List (Dn T)))) = some x from h) (by simp)
 | mp U =>
  cases p with
  | mp V es =>
   have h : castM U es = some x := h
   unfold castM at h
   split at h
   ·rename_i hh
    subst hh
    have h := Option.some.inj h
    subst h
    exact .inl rfl
   ·simp at h
  | _ => exact absurd (show (none : Option (List (ByteArray × Dn U))) = some x from h) (by simp)
 | slf T i =>
  cases p with
  | slf U j b =>
   have h : (bif Nat.beq T U && Nat.beq i j then some b else none) = some x := h
   cases hb : (Nat.beq T U && Nat.beq i j) with
   | false => rw [hb] at h; simp at h
   | true =>
    rw [hb] at h
    have h : some b = some x := h
    have h := Option.some.inj h
    subst h
    simp only [Bool.and_eq_true] at hb
    have e1 := Nat.eq_of_beq_eq_true hb.1
    have e2 := Nat.eq_of_beq_eq_true hb.2
    subst e1 e2
    exact .inl rfl
  | _ => exact absurd (show (none : Option Bool) = some x from h) (by simp)
 | int k =>
  cases p with
  | i k' n =>
   have h : (bif kEq k k' then some n else none) = some x := h
   cases hk : kEq k k' with
   | false => rw [hk] at h; simp at h
   | true =>
    rw [hk] at h
    have h : some n = some x := h
    exact .inl (by rw [← kEq_eq hk, Option.some.inj h]; rfl)
  | _ => exact absurd (show (none : Option Int) = some x from h) (by simp)
 | bool =>
  cases p with
  | b n => exact .inl (by rw [Option.some.inj (show some n = some x from h)]; rfl)
  | _ => exact absurd (show (none : Option Bool) = some x from h) (by simp)
 | str =>
  cases p with
  | s n => exact .inl (by rw [Option.some.inj (show some n = some x from h)]; rfl)
  | _ => exact absurd (show (none : Option ByteArray) = some x from h) (by simp)
 | err =>
  cases p with
  | ifc n => exact .inl (by rw [Option.some.inj (show some n = some x from h)]; rfl)
  | _ => exact absurd (show (none : Option Bool) = some x from h) (by simp)
 | obj i =>
  cases p with
  | ad b off =>
   cases b with
   | loc t => exact absurd (show (none : Option Unit) = some x from h) (by simp)
   | obj j =>
    cases off with
    | succ off => exact absurd (show (none : Option Unit) = some x from h) (by simp)
    | zero =>
     have h : (bif Nat.beq i j then some () else none) = some x := h
     cases hb : Nat.beq i j with
     | false => rw [hb] at h; simp at h
     | true => have := Nat.eq_of_beq_eq_true hb; subst this; exact .inl rfl
  | _ => exact absurd (show (none : Option Unit) = some x from h) (by simp)
 | ol T =>
  cases p with
  | ol U xs => exact .inl (castL_some (T := T) (ys := x) h).1
  | nl => exact .inr (.inl ⟨rfl, T, .inl (by rw [← Option.some.inj (show some ([] : List (Dn T)) = some x from h)]; rfl)⟩)
  | _ => exact absurd (show (none : Option (List (Dn T))) = some x from h) (by simp)
 | fl T =>
  cases p with
  | fl U xs => exact .inl (castL_some (T := T) (ys := x) h).2
  | fo U o =>
   have h2 := (castL_some (T := T) (ys := x) h).2
   refine .inr (.inr (.inr (.inr (.inr ⟨rfl, rfl, fun g v hv => ?_⟩))))
   show RepF g (.fl T x) v
   rw [← h2]
   exact repF_fo hv
  | nl => exact .inr (.inl ⟨rfl, T, .inr (by rw [← Option.some.inj (show some ([] : List (Dn T)) = some x from h)]; rfl)⟩)
  | _ => exact absurd (show (none : Option (List (Dn T))) = some x from h) (by simp)
 | st T =>
  cases p with
  | st cs =>
   have h : (bif cs.all PV.plain then mkE T cs else none) = some x := h
   cases hp : cs.all PV.plain with
   | false => rw [hp] at h; simp at h
   | true => rw [hp] at h; exact .inr (.inr (.inl ⟨T, cs, x, rfl, hp, h, rfl⟩))
  | _ => exact absurd (show (none : Option (Dn T)) = some x from h) (by simp)
 | fp T =>
  cases p with
  | fp U y =>
   have h : castO T y = some x := h
   unfold castO at h
   split at h
   ·rename_i hh
    subst hh
    have h := Option.some.inj h
    subst h
    exact .inl rfl
   ·simp at h
  | fa U y off =>
   cases off with
   | succ off => exact absurd (show (none : Option (Option (Dn T))) = some x from h) (by simp)
   | zero =>
    have h : castO T (some y) = some x := h
    unfold castO at h
    split at h
    ·rename_i hh
     subst hh
     have h := Option.some.inj h
     subst h
     exact .inr (.inr (.inr (.inl ⟨_, .inr ⟨y, rfl, rfl⟩⟩)))
    ·simp at h
  | np => exact .inr (.inr (.inr (.inl ⟨T, .inl ⟨rfl, by rw [← Option.some.inj (show some (none : Option (Dn T)) = some x from h)]; rfl⟩⟩)))
  | _ => exact absurd (show (none : Option (Option (Dn T))) = some x from h) (by simp)
 | so T =>
  cases p with
  | st cs =>
   have h : (bif cs.all soC then mkE T (cs.map PV.fz) else none) = some x := h
   cases hp : cs.all soC with
   | false => rw [hp] at h; simp at h
   | true => rw [hp] at h; exact .inr (.inr (.inr (.inr (.inl ⟨T, cs, x, rfl, hp, h, rfl⟩))))
  | _ => exact absurd (show (none : Option (Dn T)) = some x from h) (by simp)
 | clo f caps =>
  cases p with
  | clo g l =>
   have h : (bif Nat.beq f g && capEq caps l then some () else none) = some x := h
   cases hb : (Nat.beq f g && capEq caps l) with
   | false => rw [hb] at h; simp at h
   | true =>
    simp only [Bool.and_eq_true] at hb
    have e1 := Nat.eq_of_beq_eq_true hb.1
    have e2 := capEq_eq _ _ hb.2
    subst e1 e2
    exact .inl rfl
  | _ => exact absurd (show (none : Option Unit) = some x from h) (by simp)
theorem repF_np {g : G} {T : Nat} {v : Value} (h : RepF g .np v) : RepF g (.fp T none) v := by cases h; exact .fpN T
theorem repF_fp {g : G} {T : Nat} {x : Dn T} {v : Value} (h : RepF g (.fa T x 0) v) : RepF g (.fp T (some x)) v := .fpS T x v h
theorem R1.enc_noLoc (r : R1) (x : r.ty) : (r.enc x).isLoc = false ∧ (r.enc x).noLoc = true := by
 cases r <;> exact ⟨rfl, rfl⟩
theorem so_cell (hE : EncOk) {T : Nat} {cs : List PV} {y : Dn T} (hp : cs.all soC = true) (h : mkE T (cs.map PV.fz) = some y) {j : Nat} {c : PV} (hj : ((cells T y).map own1)[j]? = some c) :
  ∃ p, cs[j]? = some p ∧ ∀ (g : G) (w : World) (κ : Key) (v : Value), RepC g w κ p v → RepC g w κ c v := by
 simp only [List.getElem?_map, Option.map_eq_some_iff] at hj
 obtain ⟨c0, hj, rfl⟩ := hj
 obtain ⟨q, h1, h2⟩ := hE.own T _ y h j c0 hj
 simp only [List.getElem?_map, Option.map_eq_some_iff] at h1
 obtain ⟨p, h1, rfl⟩ := h1
 refine ⟨p, h1, fun g w κ v hr => ?_⟩
 have hpl : c0.plain = true := by
  have := hE.plain T y
  rw [List.all_eq_true] at this
  exact this c0 (List.mem_of_getElem? hj)
 rw [List.all_eq_true] at hp
 have hs := hp p (List.mem_of_getElem? h1)
 have other : (∀ U xs, c0 ≠ .fl U xs) → RepF g p.fz v → RepC g w κ (own1 c0) v := fun hn hf => by
  have e1 : own1 c0 = c0 := by cases c0 <;> first | rfl | exact absurd rfl (hn _ _)
  rw [e1]
  exact (plain_key hpl).2 (h2.f g v hf)
 cases p with
 | ol U xs =>
  have := h2.a U xs rfl
  rw [this]
  exact hr
 | nl =>
  by_cases hc : ∃ U xs, c0 = .fl U xs
  ·obtain ⟨U, xs, rfl⟩ := hc
   rcases h2.b U xs rfl with h3 | ⟨_, h3⟩
   ·simp [PV.fz] at h3
   ·subst h3; exact (repC_nl hr U).1
  ·exact other (fun U xs hh => hc ⟨U, xs, hh⟩) hr
 | b x => exact other (fun U xs hh => by rcases h2.b U xs hh with h3 | ⟨h3, _⟩ <;> simp [PV.fz] at h3) hr
 | i k n => exact other (fun U xs hh => by rcases h2.b U xs hh with h3 | ⟨h3, _⟩ <;> simp [PV.fz] at h3) hr
 | s x => exact other (fun U xs hh => by rcases h2.b U xs hh with h3 | ⟨h3, _⟩ <;> simp [PV.fz] at h3) hr
 | ifc x => exact other (fun U xs hh => by rcases h2.b U xs hh with h3 | ⟨h3, _⟩ <;> simp [PV.fz] at h3) hr
 | _ => simp [soC, PV.flat1] at hs
theorem plain_ks {p : PV} (hp : p.plain = true) : p.ks.length = 1 := by cases p <;> first | rfl | simp [PV.plain] at hp
theorem plain_E {p : PV} (hp : p.plain = true) {g : G} {w : World} {κ : Nat → Key} {v : Value} : RepE g w κ p v ↔ RepF g p v := by
 cases p with
 | ad b off => cases b <;> first | exact Iff.rfl | simp [PV.plain] at hp
 | _ => first | exact Iff.rfl | simp [PV.plain] at hp
theorem plain_TF {p : PV} (hp : p.plain = true) {g : G} {w : World} {κ : Nat → Key} {v : Value} : RepT g w κ p v ↔ RepF g p v := by
 cases p with
 | ad b off => cases b <;> first | exact Iff.rfl | simp [PV.plain] at hp
 | _ => first | exact Iff.rfl | simp [PV.plain] at hp
theorem R1.dec_V (hE : EncOk) {r : R1} {p : PV} {x : r.ty} (h : r.dec p = some x) :
  (p.ks.length = (r.enc x).ks.length ∧ ∀ (g : G) (w : World) (κ : Nat → Key) (v : Value), RepE g w κ p v → RepE g w κ (r.enc x) v) ∧ (∀ (g : G) (w : World) (κ : Nat → Key) (v : Value), RepT g w κ p v → RepT g w κ (r.enc x) v) := by
 rcases R1.dec_cases h with h1 | ⟨rfl, T, h1 | h1⟩ | ⟨T, cs, y, rfl, hp, h1, h2⟩ | ⟨T, ⟨rfl, h1⟩ | ⟨y, rfl, h1⟩⟩ | ⟨T, cs, y, rfl, hp, h1, h2⟩ | ⟨h1, h2, h3⟩
 ·rw [← h1]; exact ⟨⟨rfl, fun _ _ _ _ h => h⟩, fun _ _ _ _ h => h⟩
 ·rw [h1]; exact ⟨⟨rfl, fun _ w κ _ h => repV_ol0 (w := w) (κ := κ 0) h⟩, fun _ w κ _ h => repV_ol0 (w := w) (κ := κ 0) h⟩
 ·rw [h1]; exact ⟨⟨rfl, fun _ w κ _ h => repV_fl0 (w := w) (κ := κ 0) h⟩, fun _ w κ _ h => repV_fl0 (w := w) (κ := κ 0) h⟩
 ·rw [h2]
  obtain ⟨h3, h4⟩ := hE.mkE T cs y h1
  have h5 := hE.len T y
  have h6 := hE.plain T y
  have key : ∀ (g : G) (v : Value), (∃ A : Array Value, v = .agg A ∧ A.size = cs.length ∧ CellsAt g A 0 cs) → ∃ A : Array Value, v = .agg A ∧ A.size = (cells T y).length ∧ CellsAt g A 0 (cells T y) := fun g v ⟨A, ha, hb, hc⟩ => ⟨A, ha, by rw [hb, h3, h5], h4 g A 0 hc⟩
  have keyE : ∀ (g : G) (w : World) (κ : Nat → Key) (v : Value), RepE g w κ (.st cs) v → RepE g w κ (.st (cells T y)) v := fun g w κ v hr => by
   obtain ⟨A, ha, hb, hc⟩ := hr
   obtain ⟨A', ha', hb', hc'⟩ := key g v ⟨A, ha, hb, fun j c hj => by
    obtain ⟨u, h7, h8⟩ := hc j c hj
    exact ⟨u, by simpa using h7, (plain_key (all_plain hp hj)).1 h8⟩⟩
   refine ⟨A', ha', hb', fun j c hj => ?_⟩
   obtain ⟨u, h7, h8⟩ := hc' j c hj
   exact ⟨u, by simpa using h7, (plain_key (all_plain h6 hj)).2 h8⟩
  exact ⟨⟨by show cs.length = (cells T y).length; rw [h3, h5], keyE⟩, keyE⟩
 ·rw [h1]; exact ⟨⟨rfl, fun _ _ _ _ h => repF_np h⟩, fun _ _ _ _ h => repF_np h⟩
 ·rw [h1]; exact ⟨⟨rfl, fun _ _ _ _ h => repF_fp h⟩, fun _ _ _ _ h => repF_fp h⟩
 ·rw [h2]
  have hlen : cs.length = ((cells T y).map own1).length := by
   have := (hE.mkE T _ y h1).1
   rw [List.length_map, hE.len T y, ← this, List.length_map]
  have keyE : ∀ (g : G) (w : World) (κ : Nat → Key) (v : Value), RepE g w κ (.st cs) v → RepE g w κ (.st ((cells T y).map own1)) v := fun g w κ v hr => by
   obtain ⟨A, ha, hb, hc⟩ := hr
   refine ⟨A, ha, by rw [hb, hlen], fun j c hj => ?_⟩
   obtain ⟨p, k1, k2⟩ := so_cell hE hp h1 hj
   obtain ⟨u, k3, k4⟩ := hc j p k1
   exact ⟨u, k3, k2 g w (κ j) u k4⟩
  exact ⟨⟨hlen, keyE⟩, keyE⟩
 ·exact ⟨⟨by rw [plain_ks h1, plain_ks h2], fun g w κ v hr => (plain_E h2).2 (h3 _ _ ((plain_E h1).1 hr))⟩, fun g w κ v hr => (plain_TF h2).2 (h3 _ _ ((plain_TF h1).1 hr))⟩
theorem encL_noLoc : ∀ (l : List R1) (x : tys l), (encL l x).all (fun p => !p.isLoc) = true
 | [], _ => rfl
 | [a], x => by simp only [encL, List.all_cons, List.all_nil, Bool.and_true]; rw [(a.enc_noLoc x).1]; rfl
 | a :: b :: r, x => by simp only [encL, List.all_cons]; rw [(a.enc_noLoc x.1).1]; simpa [encL] using encL_noLoc (b :: r) x.2
theorem enc_noLoc : ∀ (l : List R1) (x : tys l), (enc l x).noLoc = true
 | [], x => rfl
 | [a], x => (a.enc_noLoc x).2
 | [a, b], x => encL_noLoc [a, b] x
 | a :: b :: c :: r, x => encL_noLoc (a :: b :: c :: r) x
theorem encL_one (a : R1) (x : tys [a]) : encL [a] x = [a.enc x] := rfl
theorem encL_cons (a b : R1) (r : List R1) (x : tys (a :: b :: r)) : encL (a :: b :: r) x = a.enc x.1 :: encL (b :: r) x.2 := rfl
theorem pairO_some {α β : Type} {x : Option α} {y : Option β} {z : α × β} (h : pairO x y = some z) : x = some z.1 ∧ y = some z.2 := by
 cases x with
 | none => simp [pairO] at h
 | some x => cases y with
  | none => simp [pairO] at h
  | some y => simp only [pairO, Option.some.injEq] at h; subst h; exact ⟨rfl, rfl⟩
theorem decL_V (hE : EncOk) : ∀ (l : List R1) (ps : List PV) (x : tys l), decL l ps = some x → ps.length = (encL l x).length ∧
  (∀ (i : Nat) (q : PV), (encL l x)[i]? = some q → ∃ p, ps[i]? = some p ∧ offs ps i = offs (encL l x) i ∧ ∀ (g : G) (w : World) (κ : Nat → Key) (v : Value), RepE g w κ p v → RepE g w κ q v) := by
 have none_ne : ∀ {α : Type} {x : α}, ¬ (none : Option α) = some x := fun h => by cases h
 intro l
 induction l with
 | nil =>
  intro ps x h
  cases ps with
  | nil => exact ⟨rfl, fun i q hq => by simp [encL] at hq⟩
  | cons p ps => exact (none_ne (α := Unit) h).elim
 | cons a l ih =>
  cases l with
  | nil =>
   intro ps x h
   cases ps with
   | nil => exact (none_ne (α := a.ty) h).elim
   | cons p ps => cases ps with
    | cons p' ps => exact (none_ne (α := a.ty) h).elim
    | nil =>
     obtain ⟨h1, _⟩ := R1.dec_V hE (r := a) (p := p) (x := x) h
     rw [encL_one]
     refine ⟨rfl, fun i q hq => ?_⟩
     cases i with
     | zero =>
      rw [List.getElem?_cons_zero] at hq
      have hq := Option.some.inj hq
      rw [← hq]
      exact ⟨p, rfl, rfl, h1.2⟩
     | succ i => rw [List.getElem?_cons_succ, List.getElem?_nil] at hq; exact (none_ne hq).elim
  | cons b r =>
   intro ps x h
   cases ps with
   | nil => exact (none_ne (α := tys (a :: b :: r)) h).elim
   | cons p ps =>
    have h : pairO (a.dec p) (decL (b :: r) ps) = some x := h
    obtain ⟨hy, hz⟩ := pairO_some h
    obtain ⟨h1, _⟩ := R1.dec_V hE hy
    obtain ⟨h3, h4⟩ := ih ps _ hz
    rw [encL_cons]
    refine ⟨by rw [List.length_cons, List.length_cons, h3], fun i q hq => ?_⟩
    cases i with
    | zero =>
     rw [List.getElem?_cons_zero] at hq
     have hq := Option.some.inj hq
     rw [← hq]
     exact ⟨p, rfl, rfl, h1.2⟩
    | succ i =>
     rw [List.getElem?_cons_succ] at hq ⊢
     obtain ⟨p', k1, k2, k3⟩ := h4 i q hq
     exact ⟨p', k1, by simp only [offs, h1.1, k2], k3⟩
theorem dec_V (hE : EncOk) : ∀ {l : List R1} {p : PV} {x : tys l}, dec l p = some x → ∀ (g : G) (w : World) (κ : Nat → Key) (v : Value), RepT g w κ p v → RepT g w κ (enc l x) v := by
 have key : ∀ (l : List R1) (x : tys l) (vs : List PV), decL l vs = some x → enc l x = .tup (encL l x) → ∀ (g : G) (w : World) (κ : Nat → Key) (v : Value), RepT g w κ (.tup vs) v → RepT g w κ (enc l x) v := by
  intro l x vs h he
  obtain ⟨h1, h2⟩ := decL_V hE l vs x h
  rw [he]
  intro g w κ v hr
  obtain ⟨A, ha, hb, hc⟩ := hr
  refine ⟨A, ha, by rw [hb, h1], fun i q hq => ?_⟩
  obtain ⟨p', h4, ho, h5⟩ := h2 i q hq
  obtain ⟨u, h6, h7⟩ := hc i p' h4
  rw [ho] at h7
  exact ⟨u, h6, h5 _ _ _ _ h7⟩
 intro l p x h
 match l with
 | [a] => exact (R1.dec_V hE (r := a) (p := p) (x := x) h).2
 | [] =>
  cases p with
  | tup vs => exact key [] x vs h rfl
  | _ => exact absurd (show (none : Option Unit) = some x from h) (by simp)
 | [a, b] =>
  cases p with
  | tup vs => exact key [a, b] x vs h rfl
  | _ => exact absurd (show (none : Option (tys [a, b])) = some x from h) (by simp)
 | a :: b :: c :: r =>
  cases p with
  | tup vs => exact key (a :: b :: c :: r) x vs h rfl
  | _ => exact absurd (show (none : Option (tys (a :: b :: c :: r))) = some x from h) (by simp)
theorem R1.dec_C {r : R1} {p : PV} {x : r.ty} (h : r.dec p = some x) {g : G} {w : World} {κ : Key} {v : Value} (hr : RepC g w κ p v) : RepC g w κ (r.enc x) v := by
 rcases R1.dec_cases h with h1 | ⟨rfl, T, h1 | h1⟩ | ⟨T, cs, y, rfl, _⟩ | ⟨T, ⟨rfl, h1⟩ | ⟨y, rfl, h1⟩⟩ | ⟨T, cs, y, rfl, _⟩ | ⟨h1, h2, h3⟩
 ·rw [← h1]; exact hr
 ·rw [h1]; exact repV_ol0 (κ := κ) hr
 ·rw [h1]; exact repV_fl0 (w := w) (κ := κ) hr
 ·exact (show False by have hr : RepF g (.st cs) v := hr; cases hr).elim
 ·rw [h1]; exact repF_np hr
 ·rw [h1]; exact repF_fp hr
 ·exact (show False by have hr : RepF g (.st cs) v := hr; cases hr).elim
 ·exact (plain_key h2).2 (h3 _ _ ((plain_key h1).1 hr))
theorem decL_C : ∀ (l : List R1) (ps : List PV) (x : tys l), decL l ps = some x → ps.length = (encL l x).length ∧
  (∀ (i : Nat) (q : PV), (encL l x)[i]? = some q → ∃ p, ps[i]? = some p ∧ ∀ (g : G) (w : World) (κ : Key) (v : Value), RepC g w κ p v → RepC g w κ q v) := by
 have none_ne : ∀ {α : Type} {x : α}, ¬ (none : Option α) = some x := fun h => by cases h
 intro l
 induction l with
 | nil =>
  intro ps x h
  cases ps with
  | nil => exact ⟨rfl, fun i q hq => by simp [encL] at hq⟩
  | cons p ps => exact (none_ne (α := Unit) h).elim
 | cons a l ih =>
  cases l with
  | nil =>
   intro ps x h
   cases ps with
   | nil => exact (none_ne (α := a.ty) h).elim
   | cons p ps => cases ps with
    | cons p' ps => exact (none_ne (α := a.ty) h).elim
    | nil =>
     rw [encL_one]
     refine ⟨rfl, fun i q hq => ?_⟩
     cases i with
     | zero =>
      rw [List.getElem?_cons_zero] at hq
      have hq := Option.some.inj hq
      rw [← hq]
      exact ⟨p, rfl, fun _ _ _ _ hr => R1.dec_C (r := a) (p := p) (x := x) h hr⟩
     | succ i => rw [List.getElem?_cons_succ, List.getElem?_nil] at hq; exact (none_ne hq).elim
  | cons b r =>
   intro ps x h
   cases ps with
   | nil => exact (none_ne (α := tys (a :: b :: r)) h).elim
   | cons p ps =>
    have h : pairO (a.dec p) (decL (b :: r) ps) = some x := h
    obtain ⟨hy, hz⟩ := pairO_some h
    obtain ⟨h3, h4⟩ := ih ps _ hz
    rw [encL_cons]
    refine ⟨by rw [List.length_cons, List.length_cons, h3], fun i q hq => ?_⟩
    cases i with
    | zero =>
     rw [List.getElem?_cons_zero] at hq
     have hq := Option.some.inj hq
     rw [← hq]
     exact ⟨p, rfl, fun _ _ _ _ hr => R1.dec_C hy hr⟩
    | succ i => rw [List.getElem?_cons_succ] at hq ⊢; exact h4 i q hq
theorem encM_one (a : List R1) (x : mem [a]) : encM [a] x = [encL a x] := rfl
theorem encM_cons (a b : List R1) (r : List (List R1)) (x : mem (a :: b :: r)) : encM (a :: b :: r) x = encL a x.1 :: encM (b :: r) x.2 := rfl
theorem decM_at : ∀ (l : List (List R1)) (M : List (List PV)) (m : mem l), decM l M = some m → M.length = (encM l m).length ∧
  ∀ (i : Nat) (cs : List PV), (encM l m)[i]? = some cs → ∃ cs', M[i]? = some cs' ∧ cs'.length = cs.length ∧ ∀ (j : Nat) (q : PV), cs[j]? = some q → ∃ p, cs'[j]? = some p ∧ ∀ (g : G) (w : World) (κ : Key) (v : Value), RepC g w κ p v → RepC g w κ q v := by
 have none_ne : ∀ {α : Type} {x : α}, ¬ (none : Option α) = some x := fun h => by cases h
 intro l
 induction l with
 | nil =>
  intro M m h
  cases M with
  | nil => exact ⟨rfl, fun i q hq => by simp [encM] at hq⟩
  | cons p ps => exact (none_ne (α := Unit) h).elim
 | cons a l ih =>
  cases l with
  | nil =>
   intro M m h
   cases M with
   | nil => exact (none_ne (α := tys a) h).elim
   | cons p ps => cases ps with
    | cons p' ps => exact (none_ne (α := tys a) h).elim
    | nil =>
     obtain ⟨h1, h2⟩ := decL_C a p m h
     rw [encM_one]
     refine ⟨rfl, fun i cs hq => ?_⟩
     cases i with
     | zero =>
      rw [List.getElem?_cons_zero] at hq
      have hq := Option.some.inj hq
      rw [← hq]
      exact ⟨p, rfl, h1, h2⟩
     | succ i => rw [List.getElem?_cons_succ, List.getElem?_nil] at hq; exact (none_ne hq).elim
  | cons b r =>
   intro M m h
   cases M with
   | nil => exact (none_ne (α := mem (a :: b :: r)) h).elim
   | cons p ps =>
    have h : pairO (decL a p) (decM (b :: r) ps) = some m := h
    obtain ⟨hy, hz⟩ := pairO_some h
    obtain ⟨h1, h2⟩ := decL_C a p _ hy
    obtain ⟨h3, h4⟩ := ih ps _ hz
    rw [encM_cons]
    refine ⟨by rw [List.length_cons, List.length_cons, h3], fun i q hq => ?_⟩
    cases i with
    | zero =>
     rw [List.getElem?_cons_zero] at hq
     have hq := Option.some.inj hq
     rw [← hq]
     exact ⟨p, rfl, h1, h2⟩
    | succ i => rw [List.getElem?_cons_succ] at hq ⊢; exact h4 i q hq
theorem decM_R {l : List (List R1)} {M : List (List PV)} {m : mem l} (h : decM l M = some m) : (∀ (g : G) (w : World), MemRep g w M → MemRep g w (encM l m)) ∧ M.length = (encM l m).length := by
 obtain ⟨h1, h2⟩ := decM_at l M m h
 refine ⟨fun g w hM i cs hi => ?_, h1⟩
 obtain ⟨cs', h3, h4, h5⟩ := h2 i cs hi
 obtain ⟨h6, h7, C, E, h8, h9, h10⟩ := hM i cs' h3
 refine ⟨h6, h7, C, E, h8, by rw [h9, h4], fun j c hj => ?_⟩
 obtain ⟨p, h11, h12⟩ := h5 j c hj
 obtain ⟨u, h13, h14⟩ := h10 j p h11
 exact ⟨u, h13, h12 _ _ _ _ h14⟩
theorem obind_eq {α β : Type} {x : Option α} {f : α → Option β} {r : β} (h : obind x f = some r) : ∃ a, x = some a ∧ f a = some r := by
 cases x with
 | none => simp [obind] at h
 | some a => exact ⟨a, rfl, h⟩
inductive PT where
 | any
 | fl (T : Nat)
 | ol (T : Nat)
 | st
 | fp (T : Nat)
def coeP (T : Nat) (p : PV) : PV :=
 match p with
 | .np => .fp T none
 | .fa _ x 0 => match castO T (some x) with
  | some y => .fp T y
  | none => p
 | p => p
def coeF (T : Nat) (p : PV) : PV :=
 match p with
 | .nl => .fl T []
 | .fo _ o => match castL T (o.getD []) with
  | some xs => .fl T xs
  | none => p
 | p => p
def coe : List PT → List PV → List PV
 | .fl T :: l, p :: r => coeF T p :: coe l r
 | .ol T :: l, .nl :: r => .ol T [] :: coe l r
 | .fp T :: l, p :: r => coeP T p :: coe l r
 | _ :: l, p :: r => p :: coe l r
 | [], r => r
 | _, [] => []
def coeC (r : R1) (p : PV) : PV :=
 match r with
 | .ol T => match p with
  | .nl => .ol T []
  | p => p
 | .fl T => coeF T p
 | .fp T => coeP T p
 | _ => p
def coeCs : List R1 → List PV → List PV
 | r :: l, p :: ps => coeC r p :: coeCs l ps
 | [], ps => ps
 | _, [] => []
def coeM : List (List R1) → List (List PV) → List (List PV)
 | r :: l, c :: M => coeCs r c :: coeM l M
 | [], M => M
 | _, [] => []
def PT.fz : PT → Bool
 | .fl _ | .st => true
 | _ => false
structure Sig where
 fn : Func
 ct : Nat → Bool
 lv : Nat → Lv
 draw : Nat → Option Nat
 md : Nat → Mode
 esc : Nat → Bool
 e : Bool
 pt : List PT
 lnd : Bool
 rt : List R1
 hide : Bool := false
 mo : List (List R1) := []
 nd : Nat → Option Nat := fun _ => none
 /-- it writes into lists that it is lent, and gives them back -/
 w : Bool := false
 /-- it names lists: the temporaries -/
 x : Bool := false
 xt : Nat → Bool := fun _ => false
 am : Nat → Bool := fun _ => false
 /-- it sees the objects that it is handed alone, and its own none knows behind it -/
 sub : Bool := false
def Sig.code (s : Sig) : Code :=
 match s.fn.body with
 | some c => c
 | none => .skip
structure Sys where
 T : Tab
 sg : List (Nat × Sig)
 bs : List (Nat × (List PV → Option (Bool × PV)))
 bb : List (Nat × (List PV → List (List PV) → Option (Bool × PV × List (List PV)))) := []
def Sys.rt (Y : Sys) (f : Nat) : List R1 :=
 match lk Y.sg f with
 | some s => s.rt
 | none => []
def Sys.mo (Y : Sys) (f : Nat) : List (List R1) :=
 match lk Y.sg f with
 | some s => s.mo
 | none => []
def Sys.hide (Y : Sys) (f : Nat) : Bool :=
 match lk Y.sg f with
 | some s => s.e && s.hide
 | none => false
def Sys.sub (Y : Sys) (f : Nat) : Bool :=
 match lk Y.sg f with
 | some s => s.sub
 | none => false
def Sys.G (Y : Sys) (s : Sig) : Fn := ⟨⟨Y.T, s.fn.ntmps, s.md, s.e, s.esc, s.nd, fun t => s.x && s.xt t, s.am⟩, s.ct, s.lv, s.draw, s.fn.results.toList, s.w⟩
variable {Y : Sys}
structure Hf (Y : Sys) where
 A : (f : Nat) → List PV → Option (tys (Y.rt f))
 B : (f : Nat) → List PV → List (List PV) → Option (tys (Y.rt f) × mem (Y.mo f))
def PV.ptrs1 : PV → List Nat
 | .ad (.obj n) _ => [n]
 | .slf _ n _ => [n]
 | .clo _ caps => caps.map Prod.fst
 | _ => []
def addN (l : List Nat) (i : Nat) : List Nat := bif memN i l then l else l ++ [i]
def reachN (M : List (List PV)) : Nat → List Nat → List Nat
 | 0, s => s
 | n + 1, s => reachN M n (s.foldl (fun acc i => ((M.getD i []).flatMap PV.ptrs1).foldl addN acc) s)
def selOf (ps : List PV) (M : List (List PV)) : List Nat := reachN M 3 ((ps.flatMap PV.ptrs1).foldl addN [])
def takeM : List (List R1) → List (List PV) → List (List PV)
 | _ :: l, c :: r => c :: takeM l r
 | _, _ => []
def subB (Y : Sys) (h : Hf Y) (f : Nat) (s : Sig) {β : Type} (ps : List PV) (M : List (List PV)) (sel : List Nat) (K : PV → List (List PV) → Option β) : Option β := none
def Sys.C (Y : Sys) (h : Hf Y) : CTab where
 isA f := match lk Y.sg f with
  | some s => bif s.e then s.hide else true
  | none => match lk Y.bb f with
   | some _ => false
   | none => true
 A f ps β K := match lk Y.sg f with
  | some s => obind (h.A f (coe s.pt ps)) fun r => K (enc (Y.rt f) r)
  | none => match lk Y.bs f with
   | some b => match b ps with
    | some (c, v) => bif c then K v else none
    | none => none
   | none => none
 B f ps M β K := match lk Y.sg f with
  | some s => bif s.w then none else bif s.sub then subB Y h f s ps M (selOf ps M) K else obind (h.B f (coe s.pt ps) (coeM (Y.mo f) M)) fun r => K (enc (Y.rt f) r.1) (encM (Y.mo f) r.2)
  | none => match lk Y.bb f with
   | some b => match b ps M with
    | some (c, v, M') => bif c then K v M' else none
    | none => none
   | none => none
 fz f := match lk Y.sg f with
  | some s => s.pt.map PT.fz
  | none => []
 lnd f := match lk Y.sg f with
  | some s => s.lnd
  | none => false
 isW f := match lk Y.sg f with
  | some s => s.w
  | none => false
 W f ps cs β K := match lk Y.sg f with
  | some s => bif s.w then obind (h.B f (coe s.pt ps) [cs]) fun r => K (enc (Y.rt f) r.1) ((encM (Y.mo f) r.2).headD []) else none
  | none => none
inductive Need (Y : Sys) where
 | A (f : Nat) (ps : List PV) (r : tys (Y.rt f))
 | B (f : Nat) (ps : List PV) (M : List (List PV)) (r : tys (Y.rt f) × mem (Y.mo f))
def Need.ok (h : Hf Y) : Need Y → Prop
 | .A f ps r => h.A f ps = some r
 | .B f ps M r => h.B f ps M = some r
def Oks (h : Hf Y) (l : List (Need Y)) : Prop := ∀ x ∈ l, x.ok h
theorem Oks.nil (h : Hf Y) : Oks h [] := fun x hx => by simp at hx
theorem Oks.append {h : Hf Y} {l l' : List (Need Y)} (h1 : Oks h l) (h2 : Oks h l') : Oks h (l ++ l') := fun x hx => (List.mem_append.1 hx).elim (h1 x) (h2 x)
theorem Oks.left {h : Hf Y} {l l' : List (Need Y)} (h1 : Oks h (l ++ l')) : Oks h l := fun x hx => h1 x (List.mem_append.2 (.inl hx))
theorem Oks.right {h : Hf Y} {l l' : List (Need Y)} (h1 : Oks h (l ++ l')) : Oks h l' := fun x hx => h1 x (List.mem_append.2 (.inr hx))
theorem Oks.one {h : Hf Y} {x : Need Y} (hx : x.ok h) : Oks h [x] := fun y hy => by rw [List.mem_singleton.1 hy]; exact hx
theorem Oks.get {h : Hf Y} {x : Need Y} (hx : Oks h [x]) : x.ok h := hx x (by simp)
def Sup {σ β : Type} (X : Hf Y → (σ → Option β) → Option β) : Prop :=
 ∀ h K r, X h K = some r → ∃ (l : List (Need Y)) (ss : List σ), Oks h l ∧ (∀ s ∈ ss, K s = some r) ∧ ∀ h' K' r', Oks h' l → (∀ s ∈ ss, K' s = some r') → ss ≠ [] ∧ X h' K' = some r'
theorem Sup.here {σ β : Type} (s : σ) : Sup (Y := Y) (β := β) fun _ K => K s := fun h K r hr => ⟨[], [s], .nil h, fun x hx => by rw [List.mem_singleton.1 hx]; exact hr, fun _ K' _ _ h => ⟨by simp, h s (by simp)⟩⟩
theorem Sup.none {σ β : Type} : Sup (Y := Y) (σ := σ) (β := β) fun _ _ => none := fun h K r hr => by simp at hr
theorem Sup.amb {σ β : Type} (s t : σ) : Sup (Y := Y) (β := β) fun _ K => Go.KM.amb (K s) (K t) := fun h K r hr => ⟨[], [s, t], .nil h, fun x hx => by
 obtain ⟨h1, h2⟩ := amb_some.1 hr
 rcases List.mem_cons.1 hx with rfl | hx
 ·exact h1
 ·rw [List.mem_singleton.1 hx]; exact h2, fun _ K' _ _ h => ⟨by simp, amb_some.2 ⟨h s (by simp), h t (by simp)⟩⟩⟩
theorem Sup.comp {σ τ β : Type} {X : Hf Y → (σ → Option β) → Option β} {Z : σ → Hf Y → (τ → Option β) → Option β} (hX : Sup X) (hZ : ∀ s, Sup (Z s)) : Sup fun h K => X h fun s => Z s h K := by
 intro h K r hr
 obtain ⟨l, ss, h1, h2, h3⟩ := hX h _ r hr
 have hne : ss ≠ [] := (h3 h _ r h1 h2).1
 have all : ∀ (ss : List σ), (∀ s ∈ ss, Z s h K = some r) → ∃ (l' : List (Need Y)) (tt : List τ), Oks h l' ∧ (∀ t ∈ tt, K t = some r) ∧ ∀ h' K' r', Oks h' l' → (∀ t ∈ tt, K' t = some r') → ∀ s ∈ ss, tt ≠ [] ∧ Z s h' K' = some r' := by
  intro ss
  induction ss with
  | nil => intro _; exact ⟨[], [], .nil h, fun t ht => by simp at ht, fun _ _ _ _ _ s hs => by simp at hs⟩
  | cons s ss ih =>
   intro hs
   obtain ⟨l1, t1, a1, a2, a3⟩ := hZ s h K r (hs s (by simp))
   obtain ⟨l2, t2, b1, b2, b3⟩ := ih fun s' hs' => hs s' (by simp [hs'])
   refine ⟨l1 ++ l2, t1 ++ t2, a1.append b1, fun t ht => (List.mem_append.1 ht).elim (a2 t) (b2 t), fun h' K' r' ho hk s' hs' => ?_⟩
   have c1 := a3 h' K' r' ho.left fun t ht => hk t (List.mem_append.2 (.inl ht))
   refine ⟨by simp [c1.1], ?_⟩
   rcases List.mem_cons.1 hs' with rfl | hs'
   ·exact c1.2
   ·exact (b3 h' K' r' ho.right (fun t ht => hk t (List.mem_append.2 (.inr ht))) s' hs').2
 obtain ⟨l', tt, h4, h5, h6⟩ := all ss h2
 refine ⟨l ++ l', tt, h1.append h4, h5, fun h' K' r' ho hk => ?_⟩
 have h7 := h6 h' K' r' ho.right hk
 obtain ⟨s0, hs0⟩ := List.exists_mem_of_ne_nil ss hne
 exact ⟨(h7 s0 hs0).1, (h3 h' _ r' ho.left fun s hs => (h7 s hs).2).2⟩
theorem Sup.cond {σ β : Type} (b : Bool) {X Z : Hf Y → (σ → Option β) → Option β} (hX : Sup X) (hZ : Sup Z) : Sup fun h K => bif b then X h K else Z h K := by
 cases b
 ·exact hZ
 ·exact hX
theorem A_sup {β : Type} (f : Nat) (ps : List PV) : Sup (Y := Y) fun h K => (Y.C h).A f ps β K := by
 intro h K r hr
 simp only [Sys.C] at hr ⊢
 cases hs : lk Y.sg f with
 | some s =>
  simp only [hs] at hr ⊢
  cases ha : h.A f (coe s.pt ps) with
  | none => simp [ha, obind] at hr
  | some x =>
   simp only [ha, obind] at hr
   refine ⟨[.A f (coe s.pt ps) x], [enc (Y.rt f) x], .one ha, fun y hy => by rw [List.mem_singleton.1 hy]; exact hr, fun h' K' r' ho hk => ⟨by simp, ?_⟩⟩
   have : h'.A f (coe s.pt ps) = some x := ho.get
   simp only [this, obind]; exact hk _ (by simp)
 | none =>
  simp only [hs] at hr ⊢
  cases hb : lk Y.bs f with
  | none => simp [hb] at hr
  | some b =>
   simp only [hb] at hr ⊢
   cases hp : b ps with
   | none => simp [hp] at hr
   | some x =>
    obtain ⟨c, v⟩ := x
    simp only [hp] at hr ⊢
    cases c with
    | false => simp at hr
    | true =>
     simp only [cond_true] at hr ⊢
     exact ⟨[], [v], .nil h, fun y hy => by rw [List.mem_singleton.1 hy]; exact hr, fun _ _ _ _ h => ⟨by simp, h v (by simp)⟩⟩
theorem B_sup {β : Type} (f : Nat) (ps : List PV) (M : List (List PV)) : Sup (Y := Y) (σ := PV × List (List PV)) fun h K => (Y.C h).B f ps M β fun v M => K (v, M) := by
 intro h K r hr
 simp only [Sys.C] at hr ⊢
 cases hs : lk Y.sg f with
 | some s =>
  simp only [hs] at hr ⊢
  cases hw : s.w with
  | true => simp [hw] at hr
  | false =>
  simp only [hw, cond_false] at hr ⊢
  cases hsb : s.sub with
  | true =>
   simp only [hsb, cond_true] at hr ⊢
   simp [subB] at hr
  | false =>
  simp only [hsb, cond_false] at hr ⊢
  cases ha : h.B f (coe s.pt ps) (coeM (Y.mo f) M) with
  | none => simp [ha, obind] at hr
  | some x =>
   simp only [ha, obind] at hr
   refine ⟨[.B f (coe s.pt ps) (coeM (Y.mo f) M) x], [(enc (Y.rt f) x.1, encM (Y.mo f) x.2)], .one ha, fun y hy => by rw [List.mem_singleton.1 hy]; exact hr, fun h' K' r' ho hk => ⟨by simp, ?_⟩⟩
   have : h'.B f (coe s.pt ps) (coeM (Y.mo f) M) = some x := ho.get
   simp only [this, obind]; exact hk _ (by simp)
 | none =>
  simp only [hs] at hr ⊢
  cases hb : lk Y.bb f with
  | none => simp [hb] at hr
  | some b =>
   simp only [hb] at hr ⊢
   cases hp : b ps M with
   | none => simp [hp] at hr
   | some x =>
    obtain ⟨c, v, M'⟩ := x
    simp only [hp] at hr ⊢
    cases c with
    | false => simp at hr
    | true =>
     simp only [cond_true] at hr ⊢
     exact ⟨[], [(v, M')], .nil h, fun y hy => by rw [List.mem_singleton.1 hy]; exact hr, fun _ _ _ _ h => ⟨by simp, h _ (by simp)⟩⟩
variable {F : Fx}
theorem evCall_sup {β : Type} (f : Nat) (d : Option Nat) (args : List Operand) (S : St) : Sup (Y := Y) fun h (K : St → Option β) => evCall F (Y.C h) f d args S K := by
 unfold evCall
 cases ha : argsOf S args with
 | none => exact .none
 | some ps =>
  simp only []
  refine .cond _ ?_ .none
  show Sup fun h K => bif (match lk Y.sg f with | some s => bif s.e then s.hide else true | none => match lk Y.bb f with | some _ => false | none => true) then _ else _
  refine .cond _ ?_ (.cond _ ?_ .none)
  ·exact (A_sup f ps).comp fun v => .here _
  ·exact (B_sup f ps S.mm).comp (Z := fun x h K => K (setD { (useOl S args).noR with mm := x.2 } d x.1)) fun x => .here _
theorem evLend_sup {β : Type} (f : Nat) (d : Option Nat) (args : List Operand) (S : St) : Sup (Y := Y) fun h (K : St → Option β) => evLend F (Y.C h) f d args S K := by
 unfold evLend
 show Sup fun h K => match argsOf (frzC (match lk Y.sg f with | some s => s.pt.map PT.fz | none => []) (args.map (srcO S)) (frzVos S (args.map (srcO S)))) (args.map (srcO S)) with | some ps => _ | none => _
 cases ha : argsOf (frzC (match lk Y.sg f with | some s => s.pt.map PT.fz | none => []) (args.map (srcO S)) (frzVos S (args.map (srcO S)))) (args.map (srcO S)) with
 | none => exact .none
 | some ps =>
  simp only []
  show Sup fun h K => bif ps.all PV.dup && dstOk F d && (match lk Y.sg f with | some s => bif s.e then s.hide else true | none => match lk Y.bb f with | some _ => false | none => true) then _ else _
  refine .cond _ ?_ .none
  exact (A_sup f ps).comp fun v => .cond _ (.here _) .none
theorem evW_sup {β : Type} (f : Nat) (d : Option Nat) (args : List Operand) (S : St) : Sup (Y := Y) fun h (K : St → Option β) => evW F (Y.C h) f d args S K := by unfold evW; exact .none
theorem evFn_sup {β : Type} (f : Nat) (d : Option Nat) (args : List Operand) (S : St) : Sup (Y := Y) fun h (K : St → Option β) => evFn F (Y.C h) f d args S K := by
 unfold evFn
 show Sup fun h K => bif (match lk Y.sg f with | some s => s.w | none => false) then _ else _
 refine .cond _ (evW_sup f d args S) ?_
 show Sup fun h K => bif (match lk Y.sg f with | some s => s.lnd | none => false) then _ else _
 refine .cond _ (evLend_sup f d args S) ?_
 show Sup fun h K => evCall F (Y.C h) f d args (frzC (match lk Y.sg f with | some s => s.pt.map PT.fz | none => []) args S) K
 exact evCall_sup f d args _
theorem evClo_sup {β : Type} (f : Nat) (d : Option Nat) (args : List Operand) (caps : List (Nat × Nat)) (S : St) : Sup (Y := Y) fun h (K : St → Option β) => evClo F (Y.C h) f d args caps S K := by
 unfold evClo
 show Sup fun h K => match argsOf (frzC (match lk Y.sg f with | some s => s.pt.map PT.fz | none => []) args S) args with | some ps => _ | none => _
 cases ha : argsOf (frzC (match lk Y.sg f with | some s => s.pt.map PT.fz | none => []) args S) args with
 | none => exact .none
 | some ps =>
  simp only []
  refine .cond _ ?_ .none
  show Sup fun h K => bif (match lk Y.sg f with | some s => bif s.e then s.hide else true | none => match lk Y.bb f with | some _ => false | none => true) then _ else _
  refine .cond _ .none ?_
  show Sup fun h K => (Y.C h).B f (ps ++ capP caps) (frzC (match lk Y.sg f with | some s => s.pt.map PT.fz | none => []) args S).mm β fun v M => K (setD { (frzC (match lk Y.sg f with | some s => s.pt.map PT.fz | none => []) args S).noR with mm := M } d v)
  exact (B_sup f (ps ++ capP caps) _).comp (Z := fun x h K => K (setD { (frzC (match lk Y.sg f with | some s => s.pt.map PT.fz | none => []) args S).noR with mm := x.2 } d x.1)) fun x => .here _
theorem evOp_sup {β : Type} (o : Oper) (S : St) : Sup (Y := Y) fun h (K : St → Option β) => evOp F (Y.C h) o S K := by
 unfold evOp
 split
 ·exact evFn_sup _ _ _ _
 ·split
  ·exact evFn_sup _ _ _ _
  ·exact evClo_sup _ _ _ _ _
  ·exact .none
 ·split
  ·refine .cond _ (.here _) ?_
   split
   ·exact .amb _ _
   ·exact .none
  ·exact .none
theorem evOps_sup {β : Type} (ops : Array Oper) : ∀ (r : List Oper) (S : St), Sup (Y := Y) fun h (K : St → Option β) => evOps F (Y.C h) ops r S K := by
 intro r
 induction r with
 | nil => intro S; exact .here S
 | cons o r ih =>
  intro S
  simp only [evOps]
  split
  ·exact (evOp_sup o S).comp fun S => ih (extD F o.dst S)
  ·rename_i j want hg
   split
   ·rename_i d t hv
    refine .cond _ ?_ .none
    refine .cond _ (.cond _ ?_ (ih _)) (.cond _ (ih _) ?_)
    ·exact (evOp_sup o _).comp fun S => ih (extD F o.dst S)
    ·exact (evOp_sup o _).comp fun S => ih (extD F o.dst S)
   ·exact .cond _ (ih _) .none
   ·exact .none
theorem evX_sup {β : Type} (ops : Array Oper) : ∀ (r : List Oper) (S : St), Sup (Y := Y) fun h (K : St → Option β) => evX F (Y.C h) ops r S K := by
 intro r
 induction r with
 | nil => intro S; exact .here S
 | cons o r ih =>
  intro S
  simp only [evX]
  exact .cond _ ((evOps_sup ops [o] S).comp fun S => ih S) .none
theorem Sup.same {σ β : Type} (M M' : List (List PV)) {X : Hf Y → (σ → Option β) → Option β} (hX : Sup X) : Sup fun h K => Go.KM.same M M' (X h K) := by
 intro h K r hr
 obtain ⟨hM, hr2⟩ := same_some.1 hr
 subst hM
 simp only [same_self]
 exact hX h K r hr2
theorem evCloR_sup {β : Type} (f : Nat) (d : Option Nat) (args : List Operand) (caps : List (Nat × Nat)) (S : St) : Sup (Y := Y) fun h (K : St → Option β) => evCloR F (Y.C h) f d args caps S K := by
 unfold evCloR
 cases ha : argsOf S args with
 | none => exact .none
 | some ps =>
  simp only []
  refine .cond _ ?_ .none
  cases caps with
  | nil =>
   show Sup fun h K => bif (match lk Y.sg f with | some s => bif s.e then s.hide else true | none => match lk Y.bb f with | some _ => false | none => true) then _ else _
   exact .cond _ ((A_sup f ps).comp fun v => .here _) .none
  | cons c r =>
   show Sup fun h K => bif F.e && !(match lk Y.sg f with | some s => bif s.e then s.hide else true | none => match lk Y.bb f with | some _ => false | none => true) then _ else _
   refine .cond _ ?_ .none
   exact (B_sup f (ps ++ capP (c :: r)) S.mm).comp (Z := fun x h K => Go.KM.same S.mm x.2 (K (setD S d x.1))) fun x => .same _ _ (.here _)
theorem evFnR_sup {β : Type} (f : Nat) (d : Option Nat) (args : List Operand) (S : St) : Sup (Y := Y) fun h (K : St → Option β) => evFnR F (Y.C h) f d args S K := by
 unfold evFnR
 cases ha : argsOf S args with
 | none => exact .none
 | some ps =>
  simp only []
  refine .cond _ ?_ .none
  show Sup fun h K => bif F.e && !(match lk Y.sg f with | some s => bif s.e then s.hide else true | none => match lk Y.bb f with | some _ => false | none => true) then _ else _
  refine .cond _ ?_ .none
  exact (B_sup f ps S.mm).comp (Z := fun x h K => Go.KM.same S.mm x.2 (K (setD S d x.1))) fun x => .same _ _ (.here _)
theorem evDop_sup {β : Type} (ops : Array Oper) (o : Oper) (S : St) : Sup (Y := Y) fun h (K : St → Option β) => evDop F (Y.C h) ops o S K := by
 unfold evDop
 split
 ·rename_i f args tys hop
  show Sup fun h K => bif (match lk Y.sg f with | some s => bif s.e then s.hide else true | none => match lk Y.bb f with | some _ => false | none => true) then _ else _
  exact .cond _ (evCall_sup _ _ _ _) (evFnR_sup _ _ _ _)
 ·split
  ·exact evCloR_sup _ _ _ _ _
  ·exact .none
 ·split
  ·refine .cond _ ?_ .none
   split
   ·exact .cond _ (.cond _ (.here _) .none) .none
   ·exact .none
  ·refine .cond _ ?_ .none
   split
   ·exact .here _
   ·exact .none
theorem evD_sup {β : Type} (ops : Array Oper) : ∀ (r : List Oper) (S : St), Sup (Y := Y) fun h (K : St → Option β) => evD F (Y.C h) ops r S K := by
 intro r
 induction r with
 | nil => intro S; exact .here S
 | cons o r ih =>
  intro S
  simp only [evD]
  split
  ·exact (evDop_sup ops o S).comp ih
  ·rename_i j want hg
   split
   ·rename_i d t hv
    refine .cond _ ?_ .none
    refine .cond _ (.cond _ ?_ (ih _)) (.cond _ (ih _) ?_)
    ·exact (evDop_sup ops o _).comp ih
    ·exact (evDop_sup ops o _).comp ih
   ·exact .cond _ (ih _) .none
   ·exact .none
theorem steps_sup {G : Fn} {β : Type} {Kr : PV → List (List PV) → Option β} {h : Hf Y} {ihn : List TI → St → Option β} {r : β} : ∀ (s : Nat) (k : List TI) (S : St), steps G (Y.C h) Kr ihn s k S = some r →
  ∃ (l : List (Need Y)) (T : List (List TI × St)), Oks h l ∧ (∀ x ∈ T, ihn x.1 x.2 = some r) ∧ ∀ (h' : Hf Y) (ihn' : List TI → St → Option β), Oks h' l → (∀ x ∈ T, ihn' x.1 x.2 = some r) → steps G (Y.C h') Kr ihn' s k S = some r := by
 intro s
 induction s with
 | zero => intro k S hr; simp [steps] at hr
 | succ s ih =>
  intro k S hr
  have tail : ∀ (k' : List TI) (S' : St), ihn k' S' = some r → (∀ (h' : Hf Y) (ihn' : List TI → St → Option β), steps G (Y.C h') Kr ihn' (s + 1) k S = ihn' k' S') →
    ∃ (l : List (Need Y)) (T : List (List TI × St)), Oks h l ∧ (∀ x ∈ T, ihn x.1 x.2 = some r) ∧ ∀ (h' : Hf Y) (ihn' : List TI → St → Option β), Oks h' l → (∀ x ∈ T, ihn' x.1 x.2 = some r) → steps G (Y.C h') Kr ihn' (s + 1) k S = some r :=
   fun k' S' h1 h2 => ⟨[], [(k', S')], .nil h, fun x hx => by rw [List.mem_singleton.1 hx]; exact h1, fun h' ihn' _ h3 => by rw [h2]; exact h3 (k', S') (by simp)⟩
  have stay : ∀ (k' : List TI) (S' : St), steps G (Y.C h) Kr ihn s k' S' = some r → (∀ (h' : Hf Y) (ihn' : List TI → St → Option β), steps G (Y.C h') Kr ihn' (s + 1) k S = steps G (Y.C h') Kr ihn' s k' S') →
    ∃ (l : List (Need Y)) (T : List (List TI × St)), Oks h l ∧ (∀ x ∈ T, ihn x.1 x.2 = some r) ∧ ∀ (h' : Hf Y) (ihn' : List TI → St → Option β), Oks h' l → (∀ x ∈ T, ihn' x.1 x.2 = some r) → steps G (Y.C h') Kr ihn' (s + 1) k S = some r :=
   fun k' S' h1 h2 => by
    obtain ⟨l, T, h3, h4, h5⟩ := ih k' S' h1
    exact ⟨l, T, h3, h4, fun h' ihn' h6 h7 => by rw [h2]; exact h5 h' ihn' h6 h7⟩
  have done : retS G Kr S = some r → (∀ (h' : Hf Y) (ihn' : List TI → St → Option β), steps G (Y.C h') Kr ihn' (s + 1) k S = retS G Kr S) →
    ∃ (l : List (Need Y)) (T : List (List TI × St)), Oks h l ∧ (∀ x ∈ T, ihn x.1 x.2 = some r) ∧ ∀ (h' : Hf Y) (ihn' : List TI → St → Option β), Oks h' l → (∀ x ∈ T, ihn' x.1 x.2 = some r) → steps G (Y.C h') Kr ihn' (s + 1) k S = some r :=
   fun h1 h2 => ⟨[], [], .nil h, fun x hx => by simp at hx, fun h' ihn' _ _ => by rw [h2]; exact h1⟩
  cases k with
  | nil => exact done hr fun _ _ => rfl
  | cons x k =>
   cases x with
   | inBlock id => exact stay k S hr fun _ _ => rfl
   | cut p => exact tail _ _ hr fun _ _ => rfl
   | inLoop c p => exact tail _ _ hr fun _ _ => rfl
   | code c p =>
    cases c with
    | skip => exact stay k S hr fun _ _ => rfl
    | seq a b => exact stay _ S hr fun _ _ => rfl
    | ret => exact done hr fun _ _ => rfl
    | block id b => exact stay _ S hr fun _ _ => rfl
    | loop b => exact tail _ _ hr fun _ _ => rfl
    | exit id =>
     simp only [steps] at hr
     cases he : exitT id k with
     | none => simp [he] at hr
     | some k' =>
      simp only [he] at hr
      exact stay k' S hr fun h' ihn' => by simp only [steps, he]
    | cond o x y =>
     simp only [steps] at hr
     cases ho : S.opv o with
     | none => simp [ho] at hr
     | some v =>
      cases v with
      | b t =>
       simp only [ho] at hr
       cases hc : G.ct p <;> cases t <;> simp only [hc, cond_true, cond_false] at hr
       ·exact stay _ S hr fun h' ihn' => by simp only [steps, ho, hc, cond_true, cond_false]
       ·exact stay _ S hr fun h' ihn' => by simp only [steps, ho, hc, cond_true, cond_false]
       ·exact stay _ S hr fun h' ihn' => by simp only [steps, ho, hc, cond_true, cond_false]
       ·exact stay _ S hr fun h' ihn' => by simp only [steps, ho, hc, cond_true, cond_false]
      | _ => simp [ho] at hr
    | region id ops d =>
     have fin : ∀ (S' : St), (bif G.ct p then ihn (strip k) (S'.keep (G.lv p)) else steps G (Y.C h) Kr ihn s k S'.noR) = some r →
       ∃ (l : List (Need Y)) (T : List (List TI × St)), Oks h l ∧ (∀ x ∈ T, ihn x.1 x.2 = some r) ∧ ∀ (h' : Hf Y) (ihn' : List TI → St → Option β), Oks h' l → (∀ x ∈ T, ihn' x.1 x.2 = some r) →
        (bif G.ct p then ihn' (strip k) (S'.keep (G.lv p)) else steps G (Y.C h') Kr ihn' s k S'.noR) = some r := by
      intro S' h1
      cases hc : G.ct p with
      | true =>
       simp only [hc, cond_true] at h1 ⊢
       exact ⟨[], [(strip k, S'.keep (G.lv p))], .nil h, fun x hx => by rw [List.mem_singleton.1 hx]; exact h1, fun h' ihn' _ h3 => h3 (strip k, S'.keep (G.lv p)) (by simp)⟩
      | false =>
       simp only [hc, cond_false] at h1 ⊢
       exact ih k _ h1
     have fins : ∀ (ss : List St), (∀ S' ∈ ss, (bif G.ct p then ihn (strip k) (S'.keep (G.lv p)) else steps G (Y.C h) Kr ihn s k S'.noR) = some r) →
       ∃ (l : List (Need Y)) (T : List (List TI × St)), Oks h l ∧ (∀ x ∈ T, ihn x.1 x.2 = some r) ∧ ∀ (h' : Hf Y) (ihn' : List TI → St → Option β), Oks h' l → (∀ x ∈ T, ihn' x.1 x.2 = some r) →
        ∀ S' ∈ ss, (bif G.ct p then ihn' (strip k) (S'.keep (G.lv p)) else steps G (Y.C h') Kr ihn' s k S'.noR) = some r := by
      intro ss
      induction ss with
      | nil => intro _; exact ⟨[], [], .nil h, fun x hx => by simp at hx, fun _ _ _ _ S' hS => by simp at hS⟩
      | cons S0 ss ih2 =>
       intro hs
       obtain ⟨l1, T1, a1, a2, a3⟩ := fin S0 (hs S0 (by simp))
       obtain ⟨l2, T2, b1, b2, b3⟩ := ih2 fun S' hS => hs S' (by simp [hS])
       refine ⟨l1 ++ l2, T1 ++ T2, a1.append b1, fun x hx => (List.mem_append.1 hx).elim (a2 x) (b2 x), fun h' ihn' ho hi S' hS => ?_⟩
       rcases List.mem_cons.1 hS with rfl | hS
       ·exact a3 h' ihn' ho.left fun x hx => hi x (List.mem_append.2 (.inl hx))
       ·exact b3 h' ihn' ho.right (fun x hx => hi x (List.mem_append.2 (.inr hx))) S' hS
     cases d with
     | false =>
      simp only [steps, cond_false] at hr
      obtain ⟨l, S', h1, h2, h3⟩ := evOps_sup ops _ _ h _ r hr
      obtain ⟨l', T, h4, h5, h6⟩ := fins S' h2
      exact ⟨l ++ l', T, h1.append h4, h5, fun h' ihn' ho hi => by
       simp only [steps, cond_false]
       exact (h3 h' _ r ho.left (h6 h' ihn' ho.right hi)).2⟩
     | true =>
      simp only [steps, cond_true] at hr
      cases hd : G.draw id with
      | none => simp [hd] at hr
      | some m =>
       simp only [hd] at hr
       cases hbig : Nat.ble 1000 m with
       | true =>
        simp only [hbig, cond_true] at hr
        cases hk : drawX G.x ops with
        | false => simp [hk] at hr
        | true =>
         simp only [hk, cond_true] at hr
         obtain ⟨l, S', h1, h2, h3⟩ := evX_sup (Y := Y) (F := G.x) (β := β) ops ops.toList _ h _ r hr
         obtain ⟨l', T, h4, h5, h6⟩ := fins S' h2
         exact ⟨l ++ l', T, h1.append h4, h5, fun h' ihn' ho hi => by
          simp only [steps, cond_true, hd, hbig, hk]
          exact (h3 h' _ r ho.left (h6 h' ihn' ho.right hi)).2⟩
       | false =>
       simp only [hbig, cond_false] at hr
       cases hk : (drawOk G.x ops m || (Nat.beq m 0 && drawT ops)) with
       | false => simp [hk] at hr
       | true =>
        simp only [hk, cond_true] at hr
        obtain ⟨l, S', h1, h2, h3⟩ := ((evD_sup (Y := Y) (F := G.x) (β := β) ops (ops.toList.take m) S.noR).comp fun S => evOps_sup ops (ops.toList.drop m) S) h _ r hr
        obtain ⟨l', T, h4, h5, h6⟩ := fins S' h2
        exact ⟨l ++ l', T, h1.append h4, h5, fun h' ihn' ho hi => by
         simp only [steps, cond_true, cond_false, hd, hbig, hk]
         exact (h3 h' _ r ho.left (h6 h' ihn' ho.right hi)).2⟩
    | _ => simp [steps] at hr
theorem ev_sup {G : Fn} {β : Type} {Kr : PV → List (List PV) → Option β} {h : Hf Y} {r : β} : ∀ (n : Nat) (k : List TI) (S : St), ev G (Y.C h) Kr n k S = some r →
  ∃ l : List (Need Y), Oks h l ∧ ∀ (h' : Hf Y) (m : Nat), Oks h' l → n ≤ m → ev G (Y.C h') Kr m k S = some r := by
 intro n
 induction n with
 | zero => intro k S hr; simp [ev] at hr
 | succ n ih =>
  intro k S hr
  obtain ⟨l, T, h1, h2, h3⟩ := steps_sup 4000 k S (show steps G (Y.C h) Kr (ev G (Y.C h) Kr n) 4000 k S = some r from hr)
  have all : ∀ (T : List (List TI × St)), (∀ x ∈ T, ev G (Y.C h) Kr n x.1 x.2 = some r) → ∃ l' : List (Need Y), Oks h l' ∧ ∀ (h' : Hf Y) (m : Nat), Oks h' l' → n ≤ m → ∀ x ∈ T, ev G (Y.C h') Kr m x.1 x.2 = some r := by
   intro T
   induction T with
   | nil => intro _; exact ⟨[], .nil h, fun _ _ _ _ x hx => by simp at hx⟩
   | cons y T ih2 =>
    intro hT
    obtain ⟨l1, a1, a2⟩ := ih y.1 y.2 (hT y (by simp))
    obtain ⟨l2, b1, b2⟩ := ih2 fun x hx => hT x (by simp [hx])
    refine ⟨l1 ++ l2, a1.append b1, fun h' m ho hm x hx => ?_⟩
    rcases List.mem_cons.1 hx with rfl | hx
    ·exact a2 h' m ho.left hm
    ·exact b2 h' m ho.right hm x hx
  obtain ⟨l', h4, h5⟩ := all T h2
  exact ⟨l ++ l', h1.append h4, fun h' m ho hm => by
   obtain ⟨m, rfl⟩ : ∃ q, m = q + 1 := ⟨m - 1, by omega⟩
   exact h3 h' _ ho.left fun y hy => h5 h' m ho.right (by omega) y hy⟩
noncomputable def evI (G : Fn) (C : CTab) {β : Type} (Kr : PV → List (List PV) → Option β) (k : List TI) (S : St) : Option β :=
 open Classical in if h : ∃ r n, ev G C Kr n k S = some r then some h.choose else none
theorem evI_iff {G : Fn} {β : Type} {Kr : PV → List (List PV) → Option β} {h : Hf Y} {k : List TI} {S : St} {r : β} : evI G (Y.C h) Kr k S = some r ↔ ∃ n, ev G (Y.C h) Kr n k S = some r := by
 have uniq : ∀ r1 r2 n1 n2, ev G (Y.C h) Kr n1 k S = some r1 → ev G (Y.C h) Kr n2 k S = some r2 → r1 = r2 := fun r1 r2 n1 n2 h1 h2 => by
  obtain ⟨l, h3, h4⟩ := ev_sup n1 k S h1
  obtain ⟨l', h5, h6⟩ := ev_sup n2 k S h2
  have h7 := h4 h (n1 + n2) h3 (by omega)
  have h8 := h6 h (n1 + n2) h5 (by omega)
  rw [h7] at h8
  exact Option.some.inj h8
 unfold evI
 constructor
 ·intro hr
  split at hr
  ·rename_i hh
   obtain ⟨n, hn⟩ := hh.choose_spec
   simp only [Option.some.injEq] at hr
   rw [hr] at hn
   exact ⟨n, hn⟩
  ·simp at hr
 ·rintro ⟨n, hn⟩
  have hh : ∃ r n, ev G (Y.C h) Kr n k S = some r := ⟨r, n, hn⟩
  rw [dif_pos hh]
  obtain ⟨m, hm⟩ := hh.choose_spec
  rw [uniq _ _ _ _ hm hn]
theorem opt_ext {α : Type} {x y : Option α} (h1 : ∀ r, x = some r → y = some r) (h2 : ∀ r, y = some r → x = some r) : x = y := by
 cases x with
 | none => cases y with
  | none => rfl
  | some y => exact h2 y rfl
 | some x => exact (h1 x rfl).symm
theorem evI_eq {G : Fn} {β : Type} {Kr : PV → List (List PV) → Option β} {h : Hf Y} (k : List TI) (S : St) : evI G (Y.C h) Kr k S = steps G (Y.C h) Kr (evI G (Y.C h) Kr) 4000 k S := by
 refine opt_ext (fun r hr => ?_) (fun r hr => ?_)
 ·obtain ⟨n, hn⟩ := evI_iff.1 hr
  cases n with
  | zero => simp [ev] at hn
  | succ n =>
   obtain ⟨l, T, h1, h2, h3⟩ := steps_sup 4000 k S (show steps G (Y.C h) Kr (ev G (Y.C h) Kr n) 4000 k S = some r from hn)
   exact h3 h _ h1 fun x hx => evI_iff.2 ⟨n, h2 x hx⟩
 ·obtain ⟨l, T, h1, h2, h3⟩ := steps_sup 4000 k S hr
  have all : ∀ (T : List (List TI × St)), (∀ x ∈ T, evI G (Y.C h) Kr x.1 x.2 = some r) → ∃ n, ∀ x ∈ T, ev G (Y.C h) Kr n x.1 x.2 = some r := by
   intro T
   induction T with
   | nil => intro _; exact ⟨0, fun x hx => by simp at hx⟩
   | cons y T ih =>
    intro hT
    obtain ⟨n1, a1⟩ := evI_iff.1 (hT y (by simp))
    obtain ⟨n2, a2⟩ := ih fun x hx => hT x (by simp [hx])
    have mono : ∀ (n m : Nat) (k : List TI) (S : St), n ≤ m → ev G (Y.C h) Kr n k S = some r → ev G (Y.C h) Kr m k S = some r := fun n m k S hm hn => by
     obtain ⟨l, h3, h4⟩ := ev_sup n k S hn
     exact h4 h m h3 hm
    refine ⟨n1 + n2, fun x hx => ?_⟩
    rcases List.mem_cons.1 hx with rfl | hx
    ·exact mono _ _ _ _ (by omega) a1
    ·exact mono _ _ _ _ (by omega) (a2 x hx)
  obtain ⟨n, hn⟩ := all T h2
  exact evI_iff.2 ⟨n + 1, h3 h (ev G (Y.C h) Kr n) h1 hn⟩
def Sys.KA (Y : Sys) (f : Nat) (p : PV) : List (List PV) → Option (tys (Y.rt f))
 | [] => dec (Y.rt f) p
 | _ :: _ => bif Y.hide f then dec (Y.rt f) p else none
def Sys.KB (Y : Sys) (f : Nat) (p : PV) (M : List (List PV)) : Option (tys (Y.rt f) × mem (Y.mo f)) := obind (dec (Y.rt f) p) fun r => obind (decM (Y.mo f) (bif Y.sub f then takeM (Y.mo f) M else M)) fun m => some (r, m)
def R1.nob : R1 → Bool
 | .obj _ => false
 | .clo _ _ => false
 | .slf _ _ => false
 | _ => true
def Sig.okA (s : Sig) (ps : List PV) : Bool := !s.w && bif s.e then !s.x && (s.hide && (ps.all PV.nob && s.rt.all R1.nob)) else (!s.x || s.rt.all R1.nob)
noncomputable def Sys.step (Y : Sys) (h : Hf Y) : Hf Y where
 A f ps := match lk Y.sg f with
  | some s => bif s.okA ps && (ps.all argOk && Nat.ble ps.length s.fn.ntmps) then evI (Y.G s) (Y.C h) (Y.KA f) [.code s.code 1] (entry ps []) else none
  | none => none
 B f ps M := match lk Y.sg f with
  | some s => bif s.w then
    bif (!s.e && !s.x) && (ps.all argOk && Nat.ble ps.length s.fn.ntmps) then evI (Y.G s) (Y.C h) (Y.KB f) [.code s.code 1] (entryW ps [] (M.headD [])) else none
   else bif (s.e && !s.x) && (ps.all argOk && Nat.ble ps.length s.fn.ntmps) then evI (Y.G s) (Y.C h) (Y.KB f) [.code s.code 1] (entry ps M) else none
  | none => none
noncomputable def Sys.Hn (Y : Sys) : Nat → Hf Y
 | 0 => ⟨fun _ _ => none, fun _ _ _ => none⟩
 | n + 1 => Y.step (Y.Hn n)
theorem evI_sup {G : Fn} {β : Type} {Kr : PV → List (List PV) → Option β} {h : Hf Y} {r : β} {k : List TI} {S : St} (hr : evI G (Y.C h) Kr k S = some r) :
  ∃ l : List (Need Y), Oks h l ∧ ∀ (h' : Hf Y), Oks h' l → evI G (Y.C h') Kr k S = some r := by
 obtain ⟨n, hn⟩ := evI_iff.1 hr
 obtain ⟨l, h1, h2⟩ := ev_sup n k S hn
 exact ⟨l, h1, fun h' ho => evI_iff.2 ⟨n, h2 h' n ho (Nat.le_refl n)⟩⟩
theorem step_sup {h : Hf Y} (x : Need Y) (hx : x.ok (Y.step h)) : ∃ l : List (Need Y), Oks h l ∧ ∀ h' : Hf Y, Oks h' l → x.ok (Y.step h') := by
 cases x with
 | A f ps r =>
  have hx : (Y.step h).A f ps = some r := hx
  show ∃ l, _ ∧ ∀ h', _ → (Y.step h').A f ps = some r
  simp only [Sys.step] at hx ⊢
  cases hs : lk Y.sg f with
  | none => simp [hs] at hx
  | some s =>
   simp only [hs] at hx ⊢
   cases hb : (s.okA ps && (ps.all argOk && Nat.ble ps.length s.fn.ntmps)) with
   | false => simp [hb] at hx
   | true =>
    simp only [hb, cond_true] at hx ⊢
    exact evI_sup hx
 | B f ps M r =>
  have hx : (Y.step h).B f ps M = some r := hx
  show ∃ l, _ ∧ ∀ h', _ → (Y.step h').B f ps M = some r
  simp only [Sys.step] at hx ⊢
  cases hs : lk Y.sg f with
  | none => simp [hs] at hx
  | some s =>
   simp only [hs] at hx ⊢
   cases hw : s.w with
   | true =>
    simp only [hw, cond_true] at hx ⊢
    cases hb : ((!s.e && !s.x) && (ps.all argOk && Nat.ble ps.length s.fn.ntmps)) with
    | false => simp [hb] at hx
    | true =>
     simp only [hb, cond_true] at hx ⊢
     exact evI_sup hx
   | false =>
    simp only [hw, cond_false] at hx ⊢
    cases hb : ((s.e && !s.x) && (ps.all argOk && Nat.ble ps.length s.fn.ntmps)) with
    | false => simp [hb] at hx
    | true =>
     simp only [hb, cond_true] at hx ⊢
     exact evI_sup hx
theorem Hn_mono (n : Nat) : ∀ x : Need Y, x.ok (Y.Hn n) → x.ok (Y.Hn (n + 1)) := by
 induction n with
 | zero => intro x hx; cases x <;> simp [Need.ok, Sys.Hn] at hx
 | succ n ih =>
  intro x hx
  obtain ⟨l, h1, h2⟩ := step_sup x hx
  exact h2 (Y.Hn (n + 1)) fun y hy => ih y (h1 y hy)
theorem Hn_le {n m : Nat} (h : n ≤ m) (x : Need Y) (hx : x.ok (Y.Hn n)) : x.ok (Y.Hn m) := by
 induction h with
 | refl => exact hx
 | step _ ih => exact Hn_mono _ x ih
noncomputable def Sys.H (Y : Sys) : Hf Y where
 A f ps := open Classical in if h : ∃ r n, (Y.Hn n).A f ps = some r then some h.choose else none
 B f ps M := open Classical in if h : ∃ r n, (Y.Hn n).B f ps M = some r then some h.choose else none
theorem H_iff (x : Need Y) : x.ok Y.H ↔ ∃ n, x.ok (Y.Hn n) := by
 cases x with
 | A f ps r =>
  show Y.H.A f ps = some r ↔ ∃ n, (Y.Hn n).A f ps = some r
  have uniq : ∀ r1 r2 n1 n2, (Y.Hn n1).A f ps = some r1 → (Y.Hn n2).A f ps = some r2 → r1 = r2 := fun r1 r2 n1 n2 h1 h2 => by
   have h3 : (Y.Hn (n1 + n2)).A f ps = some r1 := Hn_le (by omega) (.A f ps r1) h1
   have h4 : (Y.Hn (n1 + n2)).A f ps = some r2 := Hn_le (by omega) (.A f ps r2) h2
   rw [h3] at h4; exact Option.some.inj h4
  simp only [Sys.H]
  constructor
  ·intro hr
   split at hr
   ·rename_i hh
    obtain ⟨n, hn⟩ := hh.choose_spec
    simp only [Option.some.injEq] at hr
    rw [hr] at hn
    exact ⟨n, hn⟩
   ·simp at hr
  ·rintro ⟨n, hn⟩
   have hh : ∃ r n, (Y.Hn n).A f ps = some r := ⟨r, n, hn⟩
   rw [dif_pos hh]
   obtain ⟨m, hm⟩ := hh.choose_spec
   rw [uniq _ _ _ _ hm hn]
 | B f ps M r =>
  show Y.H.B f ps M = some r ↔ ∃ n, (Y.Hn n).B f ps M = some r
  have uniq : ∀ r1 r2 n1 n2, (Y.Hn n1).B f ps M = some r1 → (Y.Hn n2).B f ps M = some r2 → r1 = r2 := fun r1 r2 n1 n2 h1 h2 => by
   have h3 : (Y.Hn (n1 + n2)).B f ps M = some r1 := Hn_le (by omega) (.B f ps M r1) h1
   have h4 : (Y.Hn (n1 + n2)).B f ps M = some r2 := Hn_le (by omega) (.B f ps M r2) h2
   rw [h3] at h4; exact Option.some.inj h4
  simp only [Sys.H]
  constructor
  ·intro hr
   split at hr
   ·rename_i hh
    obtain ⟨n, hn⟩ := hh.choose_spec
    simp only [Option.some.injEq] at hr
    rw [hr] at hn
    exact ⟨n, hn⟩
   ·simp at hr
  ·rintro ⟨n, hn⟩
   have hh : ∃ r n, (Y.Hn n).B f ps M = some r := ⟨r, n, hn⟩
   rw [dif_pos hh]
   obtain ⟨m, hm⟩ := hh.choose_spec
   rw [uniq _ _ _ _ hm hn]
theorem H_oks {l : List (Need Y)} (h : Oks Y.H l) : ∃ n, Oks (Y.Hn n) l := by
 induction l with
 | nil => exact ⟨0, .nil _⟩
 | cons x l ih =>
  obtain ⟨n, hn⟩ := ih fun y hy => h y (by simp [hy])
  obtain ⟨m, hm⟩ := (H_iff x).1 (h x (by simp))
  exact ⟨n + m, fun y hy => by
   rcases List.mem_cons.1 hy with rfl | hy
   ·exact Hn_le (by omega) y hm
   ·exact Hn_le (by omega) y (hn y hy)⟩
theorem H_step (x : Need Y) : x.ok Y.H ↔ x.ok (Y.step Y.H) := by
 constructor
 ·intro hx
  obtain ⟨n, hn⟩ := (H_iff x).1 hx
  obtain ⟨l, h1, h2⟩ := step_sup x (Hn_mono n x hn : x.ok (Y.step (Y.Hn n)))
  exact h2 _ fun y hy => (H_iff y).2 ⟨n, h1 y hy⟩
 ·intro hx
  obtain ⟨l, h1, h2⟩ := step_sup x hx
  obtain ⟨n, hn⟩ := H_oks h1
  exact (H_iff x).2 ⟨n + 1, h2 _ hn⟩
theorem H_A (f : Nat) (ps : List PV) : Y.H.A f ps = (Y.step Y.H).A f ps :=
 opt_ext (fun r hr => (H_step (.A f ps r)).1 hr) (fun r hr => (H_step (.A f ps r)).2 hr)
theorem H_B (f : Nat) (ps : List PV) (M : List (List PV)) : Y.H.B f ps M = (Y.step Y.H).B f ps M :=
 opt_ext (fun r hr => (H_step (.B f ps M r)).1 hr) (fun r hr => (H_step (.B f ps M r)).2 hr)
theorem coe_rep : ∀ (l : List PT) (ps : List PV), (coe l ps).length = ps.length ∧ ∀ (i : Nat) (q : PV), (coe l ps)[i]? = some q → ∃ p, ps[i]? = some p ∧ ∀ (g : G) (w : World) (κ : Key) (v : Value), RepV g w κ p v → RepV g w κ q v := by
 intro l
 induction l with
 | nil => intro ps; cases ps <;> exact ⟨rfl, fun i q hq => ⟨q, hq, fun _ _ _ _ h => h⟩⟩
 | cons t l ih =>
  intro ps
  cases ps with
  | nil => cases t <;> exact ⟨rfl, fun i q hq => by simp [coe] at hq⟩
  | cons p r =>
   have key : ∀ p', (∀ (g : G) (w : World) (κ : Key) (v : Value), RepV g w κ p v → RepV g w κ p' v) → coe (t :: l) (p :: r) = p' :: coe l r → (coe (t :: l) (p :: r)).length = (p :: r).length ∧ ∀ (i : Nat) (q : PV), (coe (t :: l) (p :: r))[i]? = some q → ∃ p0, (p :: r)[i]? = some p0 ∧ ∀ (g : G) (w : World) (κ : Key) (v : Value), RepV g w κ p0 v → RepV g w κ q v := by
    intro p' h1 h2
    rw [h2]
    refine ⟨by simp [(ih r).1], fun i q hq => ?_⟩
    cases i with
    | zero => simp only [List.getElem?_cons_zero, Option.some.injEq] at hq; subst hq; exact ⟨p, rfl, h1⟩
    | succ i => simp only [List.getElem?_cons_succ] at hq ⊢; exact (ih r).2 i q hq
   cases t with
   | fl T =>
    refine key (coeF T p) (fun g w κ v h => ?_) rfl
    unfold coeF
    split
    ·exact repV_fl0 h
    ·rename_i U o
     split
     ·rename_i xs hxs
      rw [← (castL_some hxs).2]
      exact repF_fo (show RepF g (.fo U o) v from h)
     ·exact h
    ·exact h
   | ol T => cases p <;> first | exact key _ (fun _ _ _ _ h => repV_ol0 h) rfl | exact key _ (fun _ _ _ _ h => h) rfl
   | any => exact key _ (fun _ _ _ _ h => h) rfl
   | st => exact key _ (fun _ _ _ _ h => h) rfl
   | fp T =>
    refine key (coeP T p) (fun g w κ v h => ?_) rfl
    unfold coeP
    split
    ·exact repF_np h
    ·rename_i U x
     split
     ·rename_i y hy
      unfold castO at hy
      split at hy
      ·rename_i hh
       subst hh
       have hy := Option.some.inj hy
       subst hy
       exact repF_fp h
      ·simp at hy
     ·exact h
    ·exact h
theorem Con.coe {e : Bool} {f : FuncId} {l : List PT} {ps : List PV} {M M' : List (List PV)} {v : PV} (h : Con P e f (coe l ps) M v M') : Con P e f ps M v M' := by
 intro d g w vals hv hvals
 obtain ⟨h1, h2⟩ := coe_rep l ps
 refine h d g w vals (by rw [hv, h1]) fun i q hq => ?_
 obtain ⟨p, h3, h4⟩ := h2 i q hq
 obtain ⟨u, h5, h6⟩ := hvals i p h3
 exact ⟨u, h5, h4 _ _ _ _ h6⟩
theorem ConW.coe {f : FuncId} {l : List PT} {ps cs cs' : List PV} {v : PV} (h : ConW P f (coe l ps) cs v cs') : ConW P f ps cs v cs' := by
 intro d g w vals hv hvals
 obtain ⟨h1, h2⟩ := coe_rep l ps
 refine h d g w vals (by rw [hv, h1]) fun i q hq => ?_
 obtain ⟨p, h3, h4⟩ := h2 i q hq
 obtain ⟨u, h5, h6⟩ := hvals i p h3
 exact ⟨u, h5, h4 _ _ _ _ h6⟩
structure SysOk (P : Program) (Y : Sys) : Prop where
 T : TabOk P Y.T
 flat : ∀ t z, Y.T.flat t = some z → FlatOk P t z
 mix : P.follows .mixedOrders = true
 fns : ∀ f s, lk Y.sg f = some s → P.funcs[f]? = some s.fn ∧ (s.fn.name == "runtime.NumGoroutine") = false ∧ s.fn.body.isSome = true
 bs : ∀ f b, lk Y.bs f = some b → ∀ ps v, b ps = some (true, v) → Real P f ∧ Con P false f ps [] v [] ∧ v.noLoc = true
 bb : ∀ f b, lk Y.bb f = some b → ∀ ps M v M', b ps M = some (true, v, M') → Real P f ∧ Con P true f ps M v M' ∧ v.noLoc = true
 ws : ∀ f s, lk Y.sg f = some s → s.w = true → s.sub = false
theorem takeM_at : ∀ (l : List (List R1)) (M : List (List PV)) (i : Nat) (cs : List PV), (takeM l M)[i]? = some cs → M[i]? = some cs
 | [], M, i, cs, h => by cases M <;> simp [takeM] at h
 | _ :: l, [], i, cs, h => by simp [takeM] at h
 | _ :: l, c :: r, i, cs, h => by
  cases i with
  | zero => exact h
  | succ i => simp only [takeM, List.getElem?_cons_succ] at h ⊢; exact takeM_at l r i cs h
theorem coeC_C {r : R1} {p : PV} {g : G} {w : World} {κ : Key} {v : Value} (h : RepC g w κ p v) : RepC g w κ (coeC r p) v := by
 unfold coeC
 split
 ·rename_i T
  split
  ·exact repV_ol0 (κ := κ) h
  ·exact h
 ·rename_i T
  unfold coeF
  split
  ·exact repV_fl0 (w := w) (κ := κ) h
  ·rename_i U o
   split
   ·rename_i xs hxs
    rw [← (castL_some hxs).2]
    exact repF_fo (show RepF g (.fo U o) v from h)
   ·exact h
  ·exact h
 ·rename_i T
  unfold coeP
  split
  ·exact repF_np h
  ·rename_i U x
   split
   ·rename_i y hy
    unfold castO at hy
    split at hy
    ·rename_i hh
     subst hh
     have hy := Option.some.inj hy
     subst hy
     exact repF_fp h
    ·simp at hy
   ·exact h
  ·exact h
 ·exact h
theorem coeCs_at : ∀ (l : List R1) (ps : List PV), (coeCs l ps).length = ps.length ∧ ∀ (j : Nat) (q : PV), (coeCs l ps)[j]? = some q → ∃ p, ps[j]? = some p ∧ ∀ (g : G) (w : World) (κ : Key) (v : Value), RepC g w κ p v → RepC g w κ q v
 | [], ps => by cases ps <;> exact ⟨rfl, fun j q h => ⟨q, h, fun _ _ _ _ h => h⟩⟩
 | r :: l, [] => ⟨rfl, fun j q h => by simp [coeCs] at h⟩
 | r :: l, p :: ps => by
  obtain ⟨h1, h2⟩ := coeCs_at l ps
  refine ⟨by simp [coeCs, h1], fun j q h => ?_⟩
  cases j with
  | zero => simp only [coeCs, List.getElem?_cons_zero, Option.some.injEq] at h; subst h; exact ⟨p, rfl, fun _ _ _ _ h => coeC_C h⟩
  | succ j => simp only [coeCs, List.getElem?_cons_succ] at h ⊢; exact h2 j q h
theorem coeM_at : ∀ (l : List (List R1)) (M : List (List PV)), (coeM l M).length = M.length ∧ ∀ (i : Nat) (c : List PV), M[i]? = some c → ∃ r, (coeM l M)[i]? = some (coeCs r c)
 | [], M => by cases M <;> exact ⟨rfl, fun i c h => ⟨[], by cases c <;> exact h⟩⟩
 | r :: l, [] => ⟨rfl, fun i c h => by simp at h⟩
 | r :: l, c0 :: M => by
  obtain ⟨h1, h2⟩ := coeM_at l M
  refine ⟨by simp [coeM, h1], fun i c h => ?_⟩
  cases i with
  | zero => simp only [List.getElem?_cons_zero, Option.some.injEq] at h; subst h; exact ⟨r, rfl⟩
  | succ i => simp only [coeM, List.getElem?_cons_succ] at h ⊢; exact h2 i c h
theorem coeM_rep (l : List (List R1)) {M : List (List PV)} {g : G} {w : World} (h : MemRep g w M) : MemRep g w (coeM l M) := by
 intro i cs hi
 obtain ⟨h1, h2⟩ := coeM_at l M
 have hil : i < M.length := by rw [← h1]; exact (List.getElem?_eq_some_iff.1 hi).1
 obtain ⟨r, h3⟩ := h2 i _ (List.getElem?_eq_getElem hil)
 rw [hi] at h3
 have h3 := Option.some.inj h3
 subst h3
 obtain ⟨k1, k2, C, E, k3, k4, k5⟩ := h i _ (List.getElem?_eq_getElem hil)
 obtain ⟨h4, h5⟩ := coeCs_at r M[i]
 refine ⟨k1, k2, C, E, k3, by rw [k4, h4], fun j q hq => ?_⟩
 obtain ⟨p, h6, h7⟩ := h5 j q hq
 obtain ⟨u, h8, h9⟩ := k5 j p h6
 exact ⟨u, h8, h7 _ _ _ _ h9⟩
theorem Con.coeM {e : Bool} {f : FuncId} {l : List (List R1)} {ps : List PV} {M M' : List (List PV)} {v : PV} (h : Con P e f ps (Go.KM.coeM l M) v M') : Con P e f ps M v M' := by
 intro d g w vals hv hvals hM hl hw
 have hlen := (coeM_at l M).1
 have := h d g w vals hv hvals (coeM_rep l hM) (fun he => by rw [hlen]; exact hl he) hw
 rw [hlen] at this
 exact this
theorem ConS.coeM {f : FuncId} {l : List (List R1)} {ps : List PV} {M M' : List (List PV)} {v : PV} (h : ConS P f ps (Go.KM.coeM l M) v M') : ConS P f ps M v M' := by
 intro d g w vals hv hvals hM hl hw
 have hlen := (coeM_at l M).1
 have := h d g w vals hv hvals (coeM_rep l hM) (by rw [hlen]; exact hl) hw
 rw [hlen] at this
 exact this
theorem ConS.coe {f : FuncId} {l : List PT} {ps : List PV} {M M' : List (List PV)} {v : PV} (h : ConS P f (Go.KM.coe l ps) M v M') : ConS P f ps M v M' := by
 intro d g w vals hv hvals
 obtain ⟨h1, h2⟩ := coe_rep l ps
 refine h d g w vals (by rw [hv, h1]) fun i q hq => ?_
 obtain ⟨p, h3, h4⟩ := h2 i q hq
 obtain ⟨u, h5, h6⟩ := hvals i p h3
 exact ⟨u, h5, h4 _ _ _ _ h6⟩
theorem subB_ok (hE : EncOk) {h : Hf Y} {f : Nat} {s : Sig} {β : Type} {ps : List PV} {M : List (List PV)} {sel : List Nat} {K : PV → List (List PV) → Option β} {r : β}
  (hh : ∀ ps M x, h.B f ps M = some x → ConS P f ps M (enc (Y.rt f) x.1) (encM (Y.mo f) x.2)) (hr : subB Y h f s ps M sel K = some r) : ∃ x M', Con P true f ps M (enc (Y.rt f) x) M' ∧ K (enc (Y.rt f) x) M' = some r := by simp [subB] at hr
theorem KA_dec {f : Nat} {p : PV} {M : List (List PV)} {r : tys (Y.rt f)} (h : Y.KA f p M = some r) : dec (Y.rt f) p = some r := by
 cases M with
 | nil => exact h
 | cons x M =>
  have h : (bif Y.hide f then dec (Y.rt f) p else none) = some r := h
  cases hh : Y.hide f with
  | false => rw [hh] at h; simp at h
  | true => rw [hh] at h; exact h
theorem R1.enc_nob (hE : EncOk) (r : R1) (hr : r.nob = true) (x : r.ty) : (r.enc x).nob = true ∧ (match r.enc x with
  | .st cs => cs.all PV.nob1
  | p => p.nob1) = true := by
 cases r with
 | st T => exact ⟨hE.nob T x, hE.nob T x⟩
 | obj i => simp [R1.nob] at hr
 | clo f caps => simp [R1.nob] at hr
 | slf T i => simp [R1.nob] at hr
 | so T =>
  have : (((cells T x).map own1).all PV.nob1) = true := by
   have h := hE.nob T x
   rw [List.all_eq_true] at h ⊢
   intro c hc
   obtain ⟨c0, h0, rfl⟩ := List.mem_map.1 hc
   have := h c0 h0
   cases c0 <;> first | rfl | exact this
  exact ⟨this, this⟩
 | _ => exact ⟨rfl, rfl⟩
theorem encL_nob (hE : EncOk) : ∀ (l : List R1) (x : tys l), l.all R1.nob = true → ((encL l x).all fun p => match p with
  | .st cs => cs.all PV.nob1
  | p => p.nob1) = true
 | [], _, _ => rfl
 | [a], x, h => by
  simp only [List.all_cons, List.all_nil, Bool.and_true] at h
  rw [encL_one]
  simp only [List.all_cons, List.all_nil, Bool.and_true]
  exact (a.enc_nob hE h x).2
 | a :: b :: r, x, h => by
  rw [List.all_cons, Bool.and_eq_true] at h
  rw [encL_cons, List.all_cons, Bool.and_eq_true]
  exact ⟨(a.enc_nob hE h.1 x.1).2, encL_nob hE (b :: r) x.2 h.2⟩
theorem enc_nob (hE : EncOk) : ∀ (l : List R1) (x : tys l), l.all R1.nob = true → (enc l x).nob = true
 | [], x, h => rfl
 | [a], x, h => by
  simp only [List.all_cons, List.all_nil, Bool.and_true] at h
  exact (a.enc_nob hE h x).1
 | [a, b], x, h => encL_nob hE [a, b] x h
 | a :: b :: c :: r, x, h => encL_nob hE (a :: b :: c :: r) x h
theorem fnOk_of (hY : SysOk P Y) {f : Nat} {s : Sig} (hs : lk Y.sg f = some s) : FnOk P f (Y.G s) s.code := by
 obtain ⟨h1, h2, h3⟩ := hY.fns f s hs
 refine ⟨⟨s.fn, h1, h2, ?_, rfl, by simp [Sys.G]⟩, hY.mix⟩
 unfold Sig.code
 cases hb : s.fn.body with
 | none => simp [hb] at h3
 | some c => rfl
theorem Hn_sound (hY : SysOk P Y) (n : Nat) : (∀ f ps r, (Y.Hn n).A f ps = some r → Real P f ∧ Con P false f ps [] (enc (Y.rt f) r) [] ∧ (enc (Y.rt f) r).noLoc = true) ∧
  (∀ f s ps M r, lk Y.sg f = some s → s.w = false → (Y.Hn n).B f ps M = some r → Real P f ∧ ((s.sub = false → Con P true f ps M (enc (Y.rt f) r.1) (encM (Y.mo f) r.2)) ∧ (s.sub = true → ConS P f ps M (enc (Y.rt f) r.1) (encM (Y.mo f) r.2))) ∧ (enc (Y.rt f) r.1).noLoc = true) ∧
  (∀ f s ps cs r, lk Y.sg f = some s → s.w = true → (Y.Hn n).B f ps [cs] = some r → Real P f ∧ ConW P f ps cs (enc (Y.rt f) r.1) ((encM (Y.mo f) r.2).headD [])) := by
 induction n with
 | zero => exact ⟨fun f ps r h => by simp [Sys.Hn] at h, fun f s ps M r _ _ h => by simp [Sys.Hn] at h, fun f s ps cs r _ _ h => by simp [Sys.Hn] at h⟩
 | succ n ih =>
  have hC : CTabOk P (Y.C (Y.Hn n)) := by
   refine ⟨fun f ps β K r hA hr => ?_, fun f ps M β K r hA hr => ?_, fun f ps cs β K r hA hr => ?_⟩
   ·simp only [Sys.C] at hr
    cases hs : lk Y.sg f with
    | some s =>
     simp only [hs] at hr
     cases ha : (Y.Hn n).A f (coe s.pt ps) with
     | none => simp [ha, obind] at hr
     | some x =>
      simp only [ha, obind] at hr
      obtain ⟨h1, h2, h3⟩ := ih.1 f _ x ha
      exact ⟨h1, _, h2.coe, h3, hr⟩
    | none =>
     simp only [hs] at hr
     cases hb : lk Y.bs f with
     | none => simp [hb] at hr
     | some b =>
      simp only [hb] at hr
      cases hp : b ps with
      | none => simp [hp] at hr
      | some x =>
       obtain ⟨c, v⟩ := x
       simp only [hp] at hr
       cases c with
       | false => simp at hr
       | true =>
        simp only [cond_true] at hr
        obtain ⟨h1, h2, h3⟩ := hY.bs f b hb ps v hp
        exact ⟨h1, _, h2, h3, hr⟩
   ·simp only [Sys.C] at hr
    cases hs : lk Y.sg f with
    | some s =>
     simp only [hs] at hr
     cases hw : s.w with
     | true => simp [hw] at hr
     | false =>
     simp only [hw, cond_false] at hr
     cases hsb : s.sub with
     | true =>
      simp only [hsb, cond_true] at hr
      obtain ⟨x, M', h1, h2⟩ := subB_ok (P := P) hY.T.enc (fun ps M x hx => (ih.2.1 f s ps M x hs hw hx).2.1.2 hsb) hr
      have h0 : Real P f := by simp [subB] at hr
      exact ⟨h0, _, _, h1, enc_noLoc _ _, h2⟩
     | false =>
     simp only [hsb, cond_false] at hr
     cases ha : (Y.Hn n).B f (coe s.pt ps) (coeM (Y.mo f) M) with
     | none => simp [ha, obind] at hr
     | some x =>
      simp only [ha, obind] at hr
      obtain ⟨h1, h2, h3⟩ := ih.2.1 f s _ _ x hs hw ha
      exact ⟨h1, _, _, (h2.1 hsb).coeM.coe, h3, hr⟩
    | none =>
     simp only [hs] at hr
     cases hb : lk Y.bb f with
     | none => simp [hb] at hr
     | some b =>
      simp only [hb] at hr
      cases hp : b ps M with
      | none => simp [hp] at hr
      | some x =>
       obtain ⟨c, v, M'⟩ := x
       simp only [hp] at hr
       cases c with
       | false => simp at hr
       | true =>
        simp only [cond_true] at hr
        obtain ⟨h1, h2, h3⟩ := hY.bb f b hb ps M v M' hp
        exact ⟨h1, _, _, h2, h3, hr⟩
   ·simp only [Sys.C] at hr
    cases hs : lk Y.sg f with
    | some s =>
     simp only [hs] at hr
     cases hw : s.w with
     | false => simp [hw] at hr
     | true =>
     simp only [hw, cond_true] at hr
     cases ha : (Y.Hn n).B f (coe s.pt ps) [cs] with
     | none => simp [ha, obind] at hr
     | some x =>
      simp only [ha, obind] at hr
      obtain ⟨h1, h2⟩ := ih.2.2 f s _ cs x hs hw ha
      exact ⟨h1, _, _, h2.coe, hr⟩
    | none => simp [hs] at hr
  have hE := hY.T.enc
  refine ⟨?_, ?_, ?_⟩
  ·intro f ps r hr
   have hr : (Y.step (Y.Hn n)).A f ps = some r := hr
   simp only [Sys.step] at hr
   cases hs : lk Y.sg f with
   | none => simp [hs] at hr
   | some s =>
    simp only [hs] at hr
    cases hb : (s.okA ps && (ps.all argOk && Nat.ble ps.length s.fn.ntmps)) with
    | false => simp [hb] at hr
    | true =>
     simp only [hb, cond_true] at hr
     simp only [Bool.and_eq_true, Nat.ble_eq] at hb
     obtain ⟨m, hm⟩ := evI_iff.1 hr
     have hf := fnOk_of hY hs
     refine ⟨hf.real, ?_, enc_noLoc _ _⟩
     have hrt : Y.rt f = s.rt := by simp only [Sys.rt, hs]
     have hw : s.w = false := by
      have := hb.1
      simp only [Sig.okA, Bool.and_eq_true, Bool.not_eq_true'] at this
      exact this.1
     have noX : s.x = false → ∀ t, (Y.G s).x.xt t = true → false = true := fun hx t ht => by
      have ht : (s.x && s.xt t) = true := ht
      rw [hx] at ht; simp at ht
     cases he : s.e with
     | false =>
      have hh : Y.hide f = false := by simp only [Sys.hide, hs, he, Bool.false_and]
      cases hsx : s.x with
      | true =>
       have hb1 := hb.1
       simp only [Sig.okA, he, hsx, cond_false, Bool.and_eq_true, Bool.or_eq_true, Bool.not_true, Bool.false_eq_true, false_or] at hb1
       refine fn_ext hE.nob hf hY.T hY.flat hC hb.2.1 hb.2.2 he hw (enc_nob hE _ _ (by rw [hrt]; exact hb1.2)) (fun pv hk => dec_V hE hk) (fun pv x M hk => ?_) hm
       have hk : (bif Y.hide f then dec (Y.rt f) pv else none) = some r := hk
       rw [hh] at hk
       exact absurd hk (by simp)
      | false =>
      have := fn_sound (M := []) (M' := []) (v := enc (Y.rt f) r) hf hY.T hY.flat hC hb.2.1 hb.2.2 (fun _ => rfl) (noX hsx) hw (fun pv M2 hk => ?_) hm
      ·rw [show (Y.G s).x.e = false from he] at this
       exact this
      ·cases M2 with
       | nil => exact ⟨dec_V hE hk, fun _ _ h => h, rfl⟩
       | cons x M2 =>
        have hk : (bif Y.hide f then dec (Y.rt f) pv else none) = some r := hk
        rw [hh] at hk
        exact absurd hk (by simp)
     | true =>
      have hb1 := hb.1
      simp only [Sig.okA, he, cond_true, Bool.and_eq_true, Bool.not_eq_true'] at hb1
      exact fn_hide hE.nob hf hY.T hY.flat hC hb.2.1 hb.2.2 he (noX hb1.2.1) hw hb1.2.2.2.1 (enc_nob hE _ _ (by rw [hrt]; exact hb1.2.2.2.2)) (fun pv M2 hk => dec_V hE (KA_dec hk)) hm
  ·intro f s ps M r hs hw hr
   have hr : (Y.step (Y.Hn n)).B f ps M = some r := hr
   simp only [Sys.step] at hr
   ·simp only [hs, hw, cond_false] at hr
    cases hb : ((s.e && !s.x) && (ps.all argOk && Nat.ble ps.length s.fn.ntmps)) with
    | false => simp [hb] at hr
    | true =>
     simp only [hb, cond_true] at hr
     simp only [Bool.and_eq_true, Nat.ble_eq] at hb
     obtain ⟨m, hm⟩ := evI_iff.1 hr
     have hf := fnOk_of hY hs
     have noX : ∀ t, (Y.G s).x.xt t = true → false = true := fun t ht => by
      have ht : (s.x && s.xt t) = true := ht
      have hx := hb.1.2
      cases hsx : s.x with
      | true => rw [hsx] at hx; simp at hx
      | false => rw [hsx] at ht; simp at ht
     refine ⟨hf.real, ⟨fun hsb => ?_, fun hsb => ?_⟩, enc_noLoc _ _⟩
     case refine_2 =>
      have hysb : Y.sub f = true := by simp only [Sys.sub, hs, hsb]
      refine fn_soundS (M := M) (M' := encM (Y.mo f) r.2) (v := enc (Y.rt f) r.1) hf hY.T hY.flat hC hb.2.1 hb.2.2 hb.1.1 noX hw (fun pv M2 hk => ?_) hm
      unfold Sys.KB at hk
      rw [hysb] at hk
      obtain ⟨y, hd, hk⟩ := obind_eq hk
      obtain ⟨z, hm', hk⟩ := obind_eq hk
      have hk := Option.some.inj hk
      subst hk
      exact ⟨dec_V hE hd, fun g w hM => (decM_R hm').1 g w fun i cs hi => hM i cs (takeM_at _ _ i cs hi)⟩
     have hysb : Y.sub f = false := by simp only [Sys.sub, hs, hsb]
     have := fn_sound (M := M) (M' := encM (Y.mo f) r.2) (v := enc (Y.rt f) r.1) hf hY.T hY.flat hC hb.2.1 hb.2.2 (fun hh => ?_) (fun t ht => ?_) hw (fun pv M2 hk => ?_) hm
     ·rw [show (Y.G s).x.e = true from hb.1.1] at this
      exact this
     ·rw [show (Y.G s).x.e = true from hb.1.1] at hh; simp at hh
     ·exact noX t ht
     ·unfold Sys.KB at hk
      rw [hysb] at hk
      simp only [cond_false] at hk
      cases hd : dec (Y.rt f) pv with
      | none => simp [hd, obind] at hk
      | some y =>
       simp only [hd, obind] at hk
       cases hm' : decM (Y.mo f) M2 with
       | none => simp [hm'] at hk
       | some z =>
        simp only [hm', Option.some.injEq] at hk
        subst hk
        exact ⟨dec_V hE hd, decM_R hm'⟩
  ·intro f s ps cs r hs hw hr
   have hr : (Y.step (Y.Hn n)).B f ps [cs] = some r := hr
   simp only [Sys.step] at hr
   simp only [hs, hw, cond_true] at hr
   cases hb : ((!s.e && !s.x) && (ps.all argOk && Nat.ble ps.length s.fn.ntmps)) with
   | false => simp [hb] at hr
   | true =>
    simp only [hb, cond_true] at hr
    simp only [Bool.and_eq_true, Nat.ble_eq, Bool.not_eq_true'] at hb
    obtain ⟨m, hm⟩ := evI_iff.1 hr
    have hf := fnOk_of hY hs
    refine ⟨hf.real, fn_lend hf hY.T hY.flat hC hb.2.1 hb.2.2 hb.1.1 (fun t ht => by
     have ht : (s.x && s.xt t) = true := ht
     rw [hb.1.2] at ht; simp at ht) hw (fun pv cs2 hk => ?_) hm⟩
    unfold Sys.KB at hk
    rw [show Y.sub f = false by simp only [Sys.sub, hs]; exact hY.ws f s hs hw] at hk
    simp only [cond_false] at hk
    cases hd : dec (Y.rt f) pv with
    | none => simp [hd, obind] at hk
    | some y =>
     simp only [hd, obind] at hk
     cases hm' : decM (Y.mo f) [cs2] with
     | none => simp [hm'] at hk
     | some z =>
      simp only [hm', Option.some.injEq] at hk
      subst hk
      refine ⟨dec_V hE hd, fun d g w hv i p hp => ?_⟩
      obtain ⟨k1, k2⟩ := decM_at (Y.mo f) [cs2] z hm'
      have hp : ((encM (Y.mo f) z).headD [])[i]? = some p := hp
      cases he : encM (Y.mo f) z with
      | nil => rw [he] at k1; simp at k1
      | cons x xs =>
       rw [he] at hp
       have hp : x[i]? = some p := hp
       obtain ⟨cs3, k3, _, k4⟩ := k2 0 x (by rw [he]; rfl)
       simp only [List.getElem?_cons_zero, Option.some.injEq] at k3
       subst k3
       obtain ⟨q, k5, k6⟩ := k4 i p hp
       obtain ⟨v, k7, k8⟩ := hv i q k5
       exact ⟨v, k7, k6 _ _ _ _ k8⟩
theorem H_sound (hY : SysOk P Y) {f : Nat} {ps : List PV} {r : tys (Y.rt f)} (h : Y.H.A f ps = some r) : Real P f ∧ Con P false f ps [] (enc (Y.rt f) r) [] := by
 obtain ⟨n, hn⟩ := (H_iff (.A f ps r)).1 h
 have := (Hn_sound hY n).1 f ps r hn
 exact ⟨this.1, this.2.1⟩
def at_ (ct : Nat → Bool) (b : List Bool) (c : Code) : List TI := ctxAt ct b c 1 []
noncomputable def Sys.runA (Y : Sys) (f : Nat) (k : (Nat → Bool) → Code → List TI) (S : St) : Option (tys (Y.rt f)) :=
 match lk Y.sg f with
 | some s => evI (Y.G s) (Y.C Y.H) (Y.KA f) (k s.ct s.code) S
 | none => none
noncomputable def Sys.runB (Y : Sys) (f : Nat) (k : (Nat → Bool) → Code → List TI) (S : St) : Option (tys (Y.rt f) × mem (Y.mo f)) :=
 match lk Y.sg f with
 | some s => evI (Y.G s) (Y.C Y.H) (Y.KB f) (k s.ct s.code) S
 | none => none
noncomputable def Sys.turnA (Y : Sys) (h : Hf Y) (f : Nat) (ih : List TI → St → Option (tys (Y.rt f))) (k : (Nat → Bool) → Code → List TI) (S : St) : Option (tys (Y.rt f)) :=
 match lk Y.sg f with
 | some s => steps (Y.G s) (Y.C h) (Y.KA f) ih 4000 (k s.ct s.code) S
 | none => none
noncomputable def Sys.turnB (Y : Sys) (h : Hf Y) (f : Nat) (ih : List TI → St → Option (tys (Y.rt f) × mem (Y.mo f))) (k : (Nat → Bool) → Code → List TI) (S : St) : Option (tys (Y.rt f) × mem (Y.mo f)) :=
 match lk Y.sg f with
 | some s => steps (Y.G s) (Y.C h) (Y.KB f) ih 4000 (k s.ct s.code) S
 | none => none
noncomputable def Sys.ihA (Y : Sys) (f : Nat) (k : List TI) (S : St) : Option (tys (Y.rt f)) :=
 match lk Y.sg f with
 | some s => evI (Y.G s) (Y.C Y.H) (Y.KA f) k S
 | none => none
noncomputable def Sys.ihB (Y : Sys) (f : Nat) (k : List TI) (S : St) : Option (tys (Y.rt f) × mem (Y.mo f)) :=
 match lk Y.sg f with
 | some s => evI (Y.G s) (Y.C Y.H) (Y.KB f) k S
 | none => none
theorem runA_eq (f : Nat) (k : (Nat → Bool) → Code → List TI) (S : St) : Y.runA f k S = Y.turnA Y.H f (Y.ihA f) k S := by
 unfold Sys.runA Sys.turnA Sys.ihA
 cases lk Y.sg f with
 | some s => exact evI_eq _ _
 | none => rfl
theorem runB_eq (f : Nat) (k : (Nat → Bool) → Code → List TI) (S : St) : Y.runB f k S = Y.turnB Y.H f (Y.ihB f) k S := by
 unfold Sys.runB Sys.turnB Sys.ihB
 cases lk Y.sg f with
 | some s => exact evI_eq _ _
 | none => rfl
def Sys.okA (Y : Sys) (f : Nat) (ps : List PV) : Bool :=
 match lk Y.sg f with
 | some s => s.okA ps && (ps.all argOk && Nat.ble ps.length s.fn.ntmps)
 | none => false
def Sys.okB (Y : Sys) (f : Nat) (ps : List PV) : Bool :=
 match lk Y.sg f with
 | some s => !s.w && ((s.e && !s.x) && (ps.all argOk && Nat.ble ps.length s.fn.ntmps))
 | none => false
def top_ (_ : Nat → Bool) (c : Code) : List TI := [.code c 1]
theorem fnA_eq (f : Nat) (ps : List PV) (h : Y.okA f ps = true) : Y.H.A f ps = Y.turnA Y.H f (Y.ihA f) top_ (entry ps []) := by
 rw [H_A, ← runA_eq]
 unfold Sys.okA at h
 unfold Sys.step Sys.runA top_
 simp only []
 cases hs : lk Y.sg f with
 | some s =>
  simp only [hs] at h ⊢
  rw [h]; rfl
 | none => rfl
theorem fnB_eq (f : Nat) (ps : List PV) (M : List (List PV)) (h : Y.okB f ps = true) : Y.H.B f ps M = Y.turnB Y.H f (Y.ihB f) top_ (entry ps M) := by
 rw [H_B, ← runB_eq]
 unfold Sys.okB at h
 unfold Sys.step Sys.runB top_
 simp only []
 cases hs : lk Y.sg f with
 | some s =>
  simp only [hs, Bool.and_eq_true, Bool.not_eq_true'] at h
  have h2 : ((s.e && !s.x) && (ps.all argOk && Nat.ble ps.length s.fn.ntmps)) = true := by simp only [Bool.and_eq_true, Bool.not_eq_true']; exact h.2
  simp only [h.1, h2]
  rfl
 | none => rfl
end
end Go.KM
