/- The walks of strings.Trim at a set of ASCII letters, and of asm.label. Conditions: as each theorem states. The walks of strconv.FormatUint at base 10 and of asm.word. Conditions: as each theorem states. What asm.labelled takes for a branch to a label. No program in sight. Conditions: as each theorem states. The walk of asm.labelled. Conditions: as each theorem states. -/
import Derived.Test.YtnppegldebocmaaGreatDoorNumW
import Derived.Deep.LoopGhost
import Derived.Deep.Light
import Derived.Deep.WholeRow
import Derived.Lib.AsciiSet
import Derived.Lib.AppendIntMem
import Derived.Lib.ParseIntBCases
import Derived.Test.YtnppegldebocmaaGreatDoorTextsN
import Derived.Deep.RegionHeld3
import Derived.Deep.QuietTactic
import Derived.BigQuiet
namespace Go.Proofs.YtnppegldebocmaaGreatDoor
open Go.RowKit
set_option linter.unusedVariables false
def trimRF (f : UInt8 → Bool) (s : List UInt8) : List UInt8 := (s.reverse.dropWhile f).reverse
theorem trimRF_snoc_yes (f : UInt8 → Bool) (s : List UInt8) (c : UInt8) (h : f c = true) : trimRF f (s ++ [c]) = trimRF f s := by simp [trimRF, h]
theorem trimRF_snoc_no (f : UInt8 → Bool) (s : List UInt8) (c : UInt8) (h : f c = false) : trimRF f (s ++ [c]) = s ++ [c] := by simp [trimRF, h]
theorem take_snoc (s : List UInt8) (k : Nat) (h : k < s.length) : s.take (k + 1) = s.take k ++ [s[k]] := by rw [List.take_succ_eq_append_getElem h]
theorem bsl_ext0 (s : List UInt8) (b : Nat) : (bsl s).extract 0 b = bsl (s.take b) := by
  apply ByteArray.ext
  rw [ByteArray.data_extract]
  have h1 : (bsl s).data = s.toArray := rfl
  rw [h1]
  apply Array.ext'
  simp [bsl]
theorem bsl_ext1 (s : List UInt8) (a b : Nat) (h : s.length ≤ b) : (bsl s).extract a b = bsl (s.drop a) := by
  apply ByteArray.ext
  rw [ByteArray.data_extract]
  have h1 : (bsl s).data = s.toArray := rfl
  rw [h1]
  apply Array.ext'
  have : ((s.drop a).take (b - a)) = s.drop a := List.take_of_length_le (by rw [List.length_drop]; omega)
  simp [bsl, this]
/-- Block b holds the set of the bytes that f takes. -/
def SetAt (w : World) (b : Nat) (f : UInt8 → Bool) : Prop := ∀ x : UInt8, w.cell? ⟨b, x.toNat, none⟩ = some (.bool (f x))
set_option maxHeartbeats 1000000 in
theorem trimR_any (s : List UInt8) (hl : s.length ≤ 100) (b : Nat) (f : UInt8 → Bool) (w : World) (hS : SetAt w b f) :
    Calls Tryz.prog 134 #[.string (bsl s), .pointer (some ⟨b, 0, none⟩)] w fun e w' => e = .returned (.string (bsl (trimRF f s))) ∧ w = w' := by
  have HS : Hid (∀ x, Calls Tryz.prog 119 #[.pointer (some ⟨b, 0, none⟩), .int .u8 (x.toNat : Int)] w fun e w' => e = .returned (.bool (f x)) ∧ w = w') := fun x => (Tryz.asciiSet_contains b x (f x) w (hS x)).mono fun e w' h => ⟨h.1, h.2.symm⟩
  clear hS
  go_enter Tryz.func134, Tryz.ntmps134
  go_wp2
  go_loopg [0] s.length (fun k sv wr => k ≤ s.length ∧ sv = .string (bsl (s.take k)) ∧ wr = w ∧ Hid (trimRF f s = trimRF f (s.take k)))
  case atStart => exact ⟨Nat.le_refl _, by rw [List.take_length], rfl, by show _ = _; rw [List.take_length]⟩
  case round =>
    obtain ⟨hk, rfl, rfl, HT⟩ := hrel
    have hsz := bsl_size (s.take gk)
    have hln : (s.take gk).length = gk := by rw [List.length_take]; omega
    rw [hln] at hsz
    by_cases h0 : gk = 0
    · subst h0
      have HR : Hid (s.take 0 = trimRF f s) := by show _ = _; rw [HT.out]; rfl
      go_wp2
      go_ret
      exact ⟨congrArg (fun z => Ending.returned (.string (bsl z))) HR.out, rfl⟩
    · obtain ⟨j, rfl⟩ : ∃ j, gk = j + 1 := ⟨gk - 1, by go_light; omega⟩
      have hj : j < s.length := hk
      obtain ⟨t, ht⟩ : ∃ t, s.take (j + 1) = t := ⟨_, rfl⟩
      rw [ht] at hsz ⊢
      have hjb : j < (bsl t).size := by go_light; omega
      have hget : (bsl t)[j]'hjb = s[j] := by subst ht; rw [bsl_get]; simp
      obtain ⟨c, hc⟩ : ∃ c, s[j] = c := ⟨_, rfl⟩
      rw [hc] at hget
      have hst := take_snoc s j hj
      rw [hc] at hst
      have HX := Lib.hid hst
      have HTT := Lib.hid ht
      have hex : (bsl t).extract 0 j = bsl (s.take j) := by rw [bsl_ext0, ← ht, List.take_take, Nat.min_eq_left (by go_light; omega)]
      have HG := Lib.hid hget
      clear hget hst hc h0 hln ht
      go_wp2_with fail
      refine (HS.out _).mono ?_
      rintro e w' ⟨rfl, rfl⟩
      rw [HG.out]
      by_cases hf : f c = true
      · have HN : Hid (trimRF f s = trimRF f (s.take j)) := by show _ = _; rw [HT.out, HX.out, trimRF_snoc_yes _ _ _ hf]
        go_wp2_with fail
        go_roundg j
        case rel => exact ⟨by go_light; omega, rfl, rfl, HN⟩
        case measure => go_light; omega
      · have hff : f c = false := by simpa using hf
        have HR : Hid (t = trimRF f s) := by show _ = _; rw [← HTT.out, HT.out, HX.out, trimRF_snoc_no _ _ _ hff]
        clear hf
        go_wp2_with fail
        go_ret
        exact ⟨congrArg (fun z => Ending.returned (.string (bsl z))) HR.out, rfl⟩
set_option maxHeartbeats 1000000 in
theorem trimL_any (s : List UInt8) (hl : s.length ≤ 100) (b : Nat) (f : UInt8 → Bool) (w : World) (hS : SetAt w b f) :
    Calls Tryz.prog 133 #[.string (bsl s), .pointer (some ⟨b, 0, none⟩)] w fun e w' => e = .returned (.string (bsl (s.dropWhile f))) ∧ w = w' := by
  have HS : Hid (∀ x, Calls Tryz.prog 119 #[.pointer (some ⟨b, 0, none⟩), .int .u8 (x.toNat : Int)] w fun e w' => e = .returned (.bool (f x)) ∧ w = w') := fun x => (Tryz.asciiSet_contains b x (f x) w (hS x)).mono fun e w' h => ⟨h.1, h.2.symm⟩
  clear hS
  go_enter Tryz.func133, Tryz.ntmps133
  go_wp2
  go_loopg [0] s.length (fun k sv wr => ∃ t : List UInt8, t.length = k ∧ t.length ≤ 100 ∧ sv = .string (bsl t) ∧ wr = w ∧ Hid (s.dropWhile f = t.dropWhile f))
  case atStart => exact ⟨s, rfl, hl, rfl, rfl, rfl⟩
  case round =>
    obtain ⟨t, ht, htl, rfl, rfl, HT⟩ := hrel
    have hsz := bsl_size t
    cases t with
    | nil =>
      have HR : Hid ([] = s.dropWhile f) := by show _ = _; rw [HT.out]; rfl
      obtain ⟨tt, htt⟩ : ∃ tt, ([] : List UInt8) = tt := ⟨_, rfl⟩
      have hsz : (bsl tt).size = 0 := by rw [← htt]; rfl
      have HTT := Lib.hid htt
      rw [htt] at HR ⊢
      clear htt ht htl
      go_wp2
      go_ret
      exact ⟨congrArg (fun z => Ending.returned (.string (bsl z))) HR.out, rfl⟩
    | cons c r =>
      have hz : (c :: r).length = r.length + 1 := rfl
      have hjb : 0 < (bsl (c :: r)).size := by go_light; omega
      have hget : (bsl (c :: r))[0]'hjb = c := by rw [bsl_get]; rfl
      have hex : (bsl (c :: r)).extract 1 (r.length + 1) = bsl r := by rw [bsl_ext1 _ _ _ (by go_light; simp)]; rfl
      rw [hz] at hsz htl ht
      have HG := Lib.hid hget
      have HLT := Lib.hid (And.intro ht htl)
      obtain ⟨tt, htt⟩ : ∃ tt, c :: r = tt := ⟨_, rfl⟩
      have HTT := Lib.hid htt
      rw [htt] at hsz hex ⊢
      have hjb : 0 < (bsl tt).size := by go_light; omega
      have HG2 : Hid ((bsl tt)[0]'hjb = c) := by subst htt; exact HG.out
      clear hget HG htt hz ht htl
      go_wp2_with fail
      refine (HS.out _).mono ?_
      rintro e w' ⟨rfl, rfl⟩
      rw [HG2.out]
      by_cases hf : f c = true
      · have HN : Hid (s.dropWhile f = r.dropWhile f) := by show _ = _; rw [HT.out, List.dropWhile_cons, if_pos hf]
        go_wp2_with fail
        go_roundg r.length
        case rel => exact ⟨r, rfl, by have := HLT.out.2; go_light; omega, rfl, rfl, HN⟩
        case measure => have := HLT.out.1; go_light; omega
      · have HR : Hid (tt = s.dropWhile f) := by show _ = _; rw [HT.out, ← HTT.out, List.dropWhile_cons, if_neg hf]
        have hff : f c = false := by simpa using hf
        clear hf
        go_wp2_with fail
        go_ret
        exact ⟨congrArg (fun z => Ending.returned (.string (bsl z))) HR.out, rfl⟩
theorem zero_set (w : World) : (zeroValue 159).run Tryz.prog w = .ok (.agg (Array.replicate 256 (.bool false))) w := by kernel_rfl
set_option maxHeartbeats 1000000 in
set_option maxRecDepth 100000 in
theorem trim_set (s cs : List UInt8) (hl : s.length ≤ 100) (hc2 : 2 ≤ cs.length) (hcl : cs.length ≤ 100) (hascii : ∀ c ∈ cs, c.toNat < 128) (w : World) :
    Calls Tryz.prog 106 #[.string (bsl s), .string (bsl cs)] w fun e w' => e = .returned (.string (bsl ((trimRF cs.contains s).dropWhile cs.contains))) ∧ Below w.heap.size w w' := by
  have hcsz := bsl_size cs
  have hM : Calls Tryz.prog 118 #[.string (bsl cs)] w fun e w' => e = .returned (.tuple #[.agg (Lib.setCells cs), .bool true]) ∧ w' = w.alloc (.cells (Lib.setCells cs) 159) := by
    have h := Tryz.strings_makeASCIISet (zero_set) (bsl cs) w (by omega) (fun j b hb => hascii b (by rw [bsl_data] at hb; exact List.mem_of_getElem? hb))
    rw [bsl_data] at h
    exact h
  have HM := Lib.hid hM
  have hsc : (storeCells ⟨w.heap.size + 1, 0, none⟩ (Lib.setCells cs).toList 0).run Tryz.prog ((w.alloc (.cells (Lib.setCells cs) 159)).alloc (.cells (Array.replicate 256 (.bool false)) 159)) = .ok () ((w.alloc (.cells (Lib.setCells cs) 159)).alloc (.cells (Lib.setCells cs) 159)) := by
    have := run_storeCells_new (P := Tryz.prog) (w.alloc (.cells (Lib.setCells cs) 159)) 159 (Array.replicate 256 (.bool false)) (Lib.setCells cs) (by rw [Lib.setCells_size]; kernel_rfl) (by rw [Lib.setCells_size, Array.size_replicate]) (Lib.setCells_one _)
    simpa using this
  have hset : SetAt ((w.alloc (.cells (Lib.setCells cs) 159)).alloc (.cells (Lib.setCells cs) 159)) (w.heap.size + 1) cs.contains := fun x => by
    rw [World.cell?_alloc_at _ _ _ _ (by simp), Lib.setCells_at]
  have hb2 : Below w.heap.size w ((w.alloc (.cells (Lib.setCells cs) 159)).alloc (.cells (Lib.setCells cs) 159)) := ((Below.refl _ _).alloc (Nat.le_refl _) _).alloc (by simp) _
  have HB := Lib.hid hb2
  have HS := Lib.hid hset
  have hz := zero_set
  clear hM hascii hset hb2
  have he2 : (bsl cs).toList.isEmpty = false := by
    rw [bsl_l2]
    cases cs with
    | nil => simp at hc2
    | cons a b => rfl
  have hn1 : ((cs.length : Int) == 1) = false := beq_eq_false_iff_ne.2 (by omega)
  cases hs : s with
  | nil =>
    have he : (bsl []).toList.isEmpty = true := by rw [bsl_l2]; rfl
    have hd : ((trimRF cs.contains []).dropWhile cs.contains) = [] := rfl
    rw [hd]
    go_enter Tryz.func106, Tryz.ntmps106
    go_wp2
    go_ret
    exact ⟨rfl, Below.refl _ _⟩
  | cons c r =>
    rw [← hs]
    have he : (bsl s).toList.isEmpty = false := by rw [bsl_l2, hs]; rfl
    clear hs
    go_enter Tryz.func106, Tryz.ntmps106
    go_wp2_with fail
    refine HM.out.mono ?_
    rintro e w' ⟨rfl, rfl⟩
    have hszc := Lib.setCells_size cs
    go_wp2_with fail
    refine (trimR_any s hl _ _ _ HS.out).mono ?_
    rintro e w' ⟨rfl, rfl⟩
    have hlt : (trimRF cs.contains s).length ≤ 100 := by
      have : (trimRF cs.contains s).length ≤ s.length := by
        unfold trimRF
        rw [List.length_reverse]
        have := (List.dropWhile_suffix (l := s.reverse) cs.contains).length_le
        rwa [List.length_reverse] at this
      go_light; omega
    obtain ⟨st, hst⟩ : ∃ st, trimRF cs.contains s = st := ⟨_, rfl⟩
    rw [hst] at hlt ⊢
    have HST := Lib.hid hst
    have HL2 := Lib.hid (trimL_any st hlt _ _ _ HS.out)
    clear hlt hst
    go_wp2_with fail
    refine HL2.out.mono ?_
    rintro e w' ⟨rfl, rfl⟩
    go_wp2
    go_ret
    refine ⟨?_, HB.out⟩
    rw [HST.out]
    rfl
/-- Is a text a label? -/
def lowC (c : UInt8) : Bool := decide (97 ≤ c.toNat) && decide (c.toNat ≤ 122)
def labC (c : UInt8) : Bool := lowC c || (decide (48 ≤ c.toNat) && decide (c.toNat ≤ 57))
def labelB (s : List UInt8) : Bool := match s with
  | [] => false
  | c :: r => decide (r.length < 12) && (lowC c && (c :: r).all labC)
def labSet : List UInt8 := [97, 98, 99, 100, 101, 102, 103, 104, 105, 106, 107, 108, 109, 110, 111, 112, 113, 114, 115, 116, 117, 118, 119, 120, 121, 122, 48, 49, 50, 51, 52, 53, 54, 55, 56, 57]
theorem labSet_is (c : UInt8) : labSet.contains c = labC c := by
  have all : ∀ k : Nat, k < 256 → labSet.contains (UInt8.ofNat k) = labC (UInt8.ofNat k) := by decide +kernel
  have := all c.toNat (UInt8.toNat_lt c)
  rwa [UInt8.ofNat_toNat] at this
theorem drop_all (f : UInt8 → Bool) : ∀ s : List UInt8, (s.dropWhile f = []) ↔ s.all f = true
  | [] => by simp
  | c :: r => by
    by_cases h : f c = true
    · rw [List.dropWhile_cons, if_pos h, drop_all f r, List.all_cons, h, Bool.true_and]
    · rw [List.dropWhile_cons, if_neg h, List.all_cons]
      simp [h]
theorem trim_all (f : UInt8 → Bool) (s : List UInt8) : ((trimRF f s).dropWhile f).isEmpty = s.all f := by
  rw [Bool.eq_iff_iff, List.isEmpty_iff, drop_all]
  unfold trimRF
  rw [List.all_reverse]
  constructor
  · intro h
    have h2 : s.reverse.all f = true := by
      have e := List.takeWhile_append_dropWhile (p := f) (l := s.reverse)
      rw [← e, List.all_append, h, Bool.and_true]
      exact List.all_takeWhile
    rwa [List.all_reverse] at h2
  · intro h
    have : s.reverse.dropWhile f = [] := (drop_all f _).2 (by rw [List.all_reverse]; exact h)
    rw [this]; rfl
set_option maxHeartbeats 1000000 in
set_option maxRecDepth 100000 in
theorem label_any (s : List UInt8) (hl : s.length ≤ 100) (w : World) :
    Calls Tryz.prog 80 #[.string (bsl s)] w fun e w' => e = .returned (.bool (labelB s)) ∧ Below w.heap.size w w' := by
  have hsz := bsl_size s
  cases hs : s with
  | nil =>
    have he : (bsl []).toList.isEmpty = true := by rw [bsl_l2]; rfl
    have hd : labelB [] = false := rfl
    rw [hd]
    go_enter Tryz.func80, Tryz.ntmps80
    go_wp2
    go_ret
    exact ⟨rfl, Below.refl _ _⟩
  | cons c r =>
    rw [← hs]
    have he : (bsl s).toList.isEmpty = false := by rw [bsl_l2, hs]; rfl
    have hln : s.length = r.length + 1 := by rw [hs]; rfl
    have hjb : 0 < (bsl s).size := by omega
    have hget : (bsl s)[0]'hjb = c := by subst hs; rw [bsl_get]; rfl
    have HG := Lib.hid hget
    have HLB : Hid (labelB s = (decide (r.length < 12) && (lowC c && s.all labC))) := by show _ = _; rw [hs]; rfl
    have HT := Lib.hid (trim_set s labSet hl (by decide) (by decide) (by decide) w)
    have HCS : Hid (bsl labSet = ⟨#[97, 98, 99, 100, 101, 102, 103, 104, 105, 106, 107, 108, 109, 110, 111, 112, 113, 114, 115, 116, 117, 118, 119, 120, 121, 122, 48, 49, 50, 51, 52, 53, 54, 55, 56, 57]⟩) := rfl
    clear hs hget
    by_cases h12 : 12 < s.length
    · have h12' : (12 : Int) < (s.length : Int) := by omega
      have HR : Hid (labelB s = false) := by show _ = _; rw [HLB.out, decide_eq_false (by omega)]; rfl
      clear h12
      go_enter Tryz.func80, Tryz.ntmps80
      go_wp2
      go_ret
      exact ⟨congrArg (fun b => Ending.returned (.bool b)) HR.out.symm, Below.refl _ _⟩
    have h12' : ¬ (12 : Int) < (s.length : Int) := by omega
    by_cases hlow : lowC c = true
    · have hlo : 97 ≤ c.toNat ∧ c.toNat ≤ 122 := by simpa [lowC] using hlow
      have h97 : ¬ ((((bsl s)[0]'hjb).toNat : Int) < 97) := by rw [HG.out]; omega
      have h122 : ¬ ((122 : Int) < (((bsl s)[0]'hjb).toNat : Int)) := by rw [HG.out]; omega
      have HR : Hid (labelB s = s.all labC) := by show _ = _; rw [HLB.out, decide_eq_true (by omega), hlow]; rfl
      have hts := trim_all labSet.contains s
      have hfun : labSet.contains = labC := funext labSet_is
      rw [hfun] at hts
      have HTS := Lib.hid hts
      have HFU := Lib.hid hfun
      clear hlow hlo h12 hts hfun
      go_enter Tryz.func80, Tryz.ntmps80
      go_wp2_with fail
      refine HT.out.mono ?_
      rintro e w1 ⟨rfl, hb1⟩
      obtain ⟨st, hst⟩ : ∃ st, (trimRF labSet.contains s).dropWhile labSet.contains = st := ⟨_, rfl⟩
      have HST : Hid (st.isEmpty = s.all labC) := by show _ = _; rw [← hst, HFU.out, HTS.out]
      rw [hst]
      clear hst
      have hb : (bsl st).toList.isEmpty = s.all labC := by rw [bsl_l2, HST.out]
      cases hall : s.all labC with
      | true =>
        rw [hall] at hb
        have HR2 : Hid (labelB s = true) := by show _ = _; rw [HR.out, hall]
        clear hall
        go_wp2
        go_ret
        exact ⟨congrArg (fun b => Ending.returned (.bool b)) HR2.out.symm, hb1⟩
      | false =>
        rw [hall] at hb
        have HR2 : Hid (labelB s = false) := by show _ = _; rw [HR.out, hall]
        clear hall
        go_wp2
        go_ret
        exact ⟨congrArg (fun b => Ending.returned (.bool b)) HR2.out.symm, hb1⟩
    · have hf : lowC c = false := by simpa using hlow
      have HR : Hid (labelB s = false) := by show _ = _; rw [HLB.out, hf, Bool.false_and, Bool.and_false]
      have hor : (((bsl s)[0]'hjb).toNat : Int) < 97 ∨ ((122 : Int) < (((bsl s)[0]'hjb).toNat : Int) ∧ ¬ (((bsl s)[0]'hjb).toNat : Int) < 97) := by
        rw [HG.out]
        simp only [lowC, Bool.and_eq_false_iff, decide_eq_false_iff_not] at hf
        omega
      clear hf hlow h12
      rcases hor with h97 | ⟨h122, h97⟩
      · go_enter Tryz.func80, Tryz.ntmps80
        go_wp2
        go_ret
        exact ⟨congrArg (fun b => Ending.returned (.bool b)) HR.out.symm, Below.refl _ _⟩
      · go_enter Tryz.func80, Tryz.ntmps80
        go_wp2
        go_ret
        exact ⟨congrArg (fun b => Ending.returned (.bool b)) HR.out.symm, Below.refl _ _⟩
end Go.Proofs.YtnppegldebocmaaGreatDoor
namespace Go.Proofs.YtnppegldebocmaaGreatDoor
open Go.RowKit
set_option linter.unusedVariables false
set_option maxHeartbeats 1000000 in
theorem fmt_inner (u : Nat) (hu : u < 18446744073709551616) (w : World) (hP : Pow w) :
    Calls Tryz.prog 139 #[.int .u64 (u : Int), .int .i64 10] w fun e w' => e = .returned (.string (bsl (Lib.decDigits u))) ∧ Below w.heap.size w w' := by
  by_cases hs : u < 100
  · have hlt : (u : Int) < 100 := by omega
    go_enter Tryz.func139, Tryz.ntmps139
    go_wp2_with fail
    refine (Tryz.internal_strconv_small u hs _).mono ?_
    rintro e w' ⟨rfl, rfl⟩
    go_wp2
    go_ret
    exact ⟨rfl, Below.refl _ _⟩
  · have hu1 : 1 ≤ u := by omega
    have hlt : ¬ (u : Int) < 100 := by omega
    have hnd20 : Lib.nDigits u ≤ 20 := by have := Lib.numDigits_eq u hu1 hu; split at this <;> omega
    have hal : Tryz.prog.arrayLen 186 = 24 := by kernel_rfl
    have hsl : ∀ W, (Instr.sliceAt 186 (.pointer (some ⟨w.heap.size, 0, none⟩)) none (some (.int .i64 (Lib.nDigits u : Int))) none).run Tryz.prog W = .ok (.slice (some ⟨w.heap.size, 0, none⟩) (Lib.nDigits u) 24) W := fun W => by
      rw [run_sliceAt_array_h W 186 ⟨w.heap.size, 0, none⟩ (by simp [Program.arrayLen, Program.elem, Tryz.underlying186]) .i64 (Lib.nDigits u : Int) (by omega) (by rw [hal]; omega)]
      go_simp
    have hH0 := Lib.holds_zero0 w 186 (Lib.nDigits u) (by omega)
    have hfmt := Tryz.internal_strconv_formatBase10 w.heap.size 0 24 u (Array.replicate (Lib.nDigits u) 0) (w.alloc (.cells Lib.zeros24 186)) hH0 (by rw [Array.size_replicate]; exact Lib.lt_pow_nDigits u) hu (by rw [Array.size_replicate]; omega)
    rw [Array.size_replicate] at hfmt
    have HH0 := Lib.hid hH0
    have HFM := Lib.hid hfmt
    have HP := Lib.hid hP
    clear hH0 hal hs hfmt
    go_enter Tryz.func139, Tryz.ntmps139
    go_wp2_with fail
    refine (Tryz.internal_strconv_numDigits u hu1 hu _ (Lib.tabIs_alloc HP.out _)).mono ?_
    rintro e w' ⟨rfl, rfl⟩
    go_wp2_with fail
    refine HFM.out.mono ?_
    rintro e w' ⟨rfl, k, v', dk, rfl, hF⟩
    have hcv : (convert 108 9 (.slice (some ⟨w.heap.size, 0, none⟩) (Lib.nDigits u) 24)).run Tryz.prog ((«Sort».putRow (fun (b : UInt8) => Value.int .u8 (b.toNat : Int)) (w.alloc (.cells Lib.zeros24 186)) w.heap.size 0 dk).drewN k) = .ok (.string ⟨(Lib.decDigits u).toArray⟩) ((«Sort».putRow (fun (b : UInt8) => Value.int .u8 (b.toNat : Int)) (w.alloc (.cells Lib.zeros24 186)) w.heap.size 0 dk).drewN k) := by
      have h := run_convert_bytes_back (P := Tryz.prog) ((«Sort».putRow (fun (b : UInt8) => Value.int .u8 (b.toNat : Int)) (w.alloc (.cells Lib.zeros24 186)) w.heap.size 0 dk).drewN k) 108 9 5 ⟨w.heap.size, 0, none⟩ 24 (Lib.decDigits u) Tryz.underlying108 Tryz.underlying5 Tryz.underlying9 (fun j hj => by
        rw [Lib.row_is_numeral hF j hj, Lib.add_plain, World.cell?_drewN]
        exact «Sort».cell?_putRow (fun (b : UInt8) => Value.int .u8 (b.toNat : Int)) _ w.heap.size 0 _ dk HH0.out (by rw [hF.size, Array.size_replicate]) j (by rw [hF.size]; rw [Lib.decDigits_length] at hj; exact hj))
      rw [Lib.decDigits_length] at h
      exact h
    have HFIN := Lib.hid (Lib.fin_at w (.cells Lib.zeros24 186) dk k 0)
    clear hF
    generalize («Sort».putRow (fun (b : UInt8) => Value.int .u8 (b.toNat : Int)) (w.alloc (.cells Lib.zeros24 186)) w.heap.size 0 dk).drewN k = WX at *
    go_wp2
    go_ret
    obtain ⟨os, eo⟩ := HFIN.out
    refine ⟨rfl, ?_⟩
    rw [eo]
    exact Lib.below_grow _ _ (Nat.le_refl _) _ _
theorem fmt_uint (u : Nat) (hu : u < 18446744073709551616) (w : World) (hP : Pow w) :
    Calls Tryz.prog 109 #[.int .u64 (u : Int), .int .i64 10] w fun e w' => e = .returned (.string (bsl (Lib.decDigits u))) ∧ Below w.heap.size w w' := by
  have H := Lib.hid (fmt_inner u hu w hP)
  go_enter Tryz.func109, Tryz.ntmps109
  go_wp2_with fail
  refine H.out.mono ?_
  rintro e w' ⟨rfl, hb⟩
  go_wp2
  go_ret
  exact ⟨rfl, hb⟩
theorem bdrewN {B : Nat} {a w : World} (h : Below B a w) (n : Nat) : Below B a (w.drewN n) := h.trans ⟨rfl, rfl, rfl, Nat.le_refl _, fun _ _ => rfl⟩
/-- What asm.word takes for a number. -/
def wordB (s : List UInt8) : Option Nat := match Lib.parseUintB 32 s with
  | .ok u => if Lib.decDigits u = s then some u else none
  | _ => none
theorem wordB_ok {s : List UInt8} {u : Nat} (h : Lib.parseUintB 32 s = .ok u) : wordB s = if Lib.decDigits u = s then some u else none := by unfold wordB; rw [h]
theorem wordB_no {s : List UInt8} (h : ∀ u, Lib.parseUintB 32 s ≠ .ok u) : wordB s = none := by
  unfold wordB
  split
  · next u hu => exact absurd hu (h u)
  · rfl
theorem wordB_lt {s : List UInt8} {u : Nat} (h : wordB s = some u) : u < 4294967296 ∧ Lib.decDigits u = s := by
  unfold wordB at h
  split at h
  · next v hv =>
    split at h
    · next hd =>
      have e : v = u := Option.some.inj h
      subst e
      have := Lib.parseUintB_le hv
      exact ⟨by omega, hd⟩
    · cases h
  · cases h
theorem parse_uint (s : List UInt8) (hl : s.length ≤ 100) (ad : Nat → Addr) (mz : Int) (w : World) (h : PW w ad mz) :
    Calls Tryz.prog 108 #[.string (bsl s), .int .i64 10, .int .i64 32] w fun e w' => Below w.heap.size w w' ∧ ((∃ u : Nat, Lib.parseUintB 32 s = .ok u ∧ e = .returned (.tuple #[.int .u64 (u : Int), .nilIface])) ∨ (wordB s = none ∧ ∃ v t p, e = .returned (.tuple #[.int .u64 v, .iface t p]))) := by
  have hsz : (bsl s).size ≤ 100 := by rw [bsl_size]; exact hl
  match ha : Lib.parseUintB 32 s with
  | .ok u =>
    refine (Tryz.strconv_ParseUint_10_at32_ok (bsl s) (by omega) u (by rw [bsl_data]; exact ha) w).mono ?_
    rintro e w' ⟨rfl, hw⟩
    refine ⟨?_, Or.inl ⟨u, rfl, rfl⟩⟩
    rcases hw with rfl | rfl
    · exact Below.refl _ _
    · exact Lib.bytesWorld_below _ _ _
  | .syntax =>
    obtain ⟨t, p, hc⟩ := h.syn
    refine (Tryz.strconv_ParseUint_10_at32_syntax (bsl s) (by omega) (by rw [bsl_data]; exact ha) _ w hc (Or.inr ⟨t, p, rfl⟩)).mono ?_
    rintro e w' ⟨N, rfl, _, _, hb⟩
    exact ⟨hb, Or.inr ⟨wordB_no (fun u hu => by rw [ha] at hu; cases hu), _, _, _, rfl⟩⟩
  | .range =>
    obtain ⟨t, p, hc⟩ := h.rng
    refine (Tryz.strconv_ParseUint_10_at32_range (bsl s) (by omega) (by rw [bsl_data]; exact ha) _ w hc (Or.inr ⟨t, p, rfl⟩)).mono ?_
    rintro e w' ⟨N, rfl, _, _, hb⟩
    exact ⟨hb, Or.inr ⟨wordB_no (fun u hu => by rw [ha] at hu; cases hu), _, _, _, rfl⟩⟩
set_option maxHeartbeats 1000000 in
theorem word_asm (s : List UInt8) (hl : s.length ≤ 100) (ad : Nat → Addr) (mz : Int) (w : World) (h : PW w ad mz) :
    Calls Tryz.prog 83 #[.string (bsl s)] w fun e w' => Below w.heap.size w w' ∧ ((∃ u : Nat, wordB s = some u ∧ e = .returned (.tuple #[.int .u32 (u : Int), .nilIface])) ∨ (wordB s = none ∧ e = .returned (.tuple #[.int .u32 0, errE ad 0]))) := by
  have HP := Lib.hid h
  go_enter Tryz.func83, Tryz.ntmps83
  go_wp2_with fail
  refine (parse_uint s hl ad mz w h).mono ?_
  rintro e w1 ⟨hb1, hor⟩
  have HP1 := Lib.hid (h.below hb1)
  have HB1 := Lib.hid hb1
  clear hb1 h
  rcases hor with ⟨u, hu, rfl⟩ | ⟨hn, v, t, p, rfl⟩
  · have hu32 := Lib.parseUintB_le hu
    have HF := Lib.hid (fmt_uint u (by omega) w1 HP1.out.pow)
    have HW := Lib.hid (wordB_ok hu)
    have hu2 : (u : Int) < 4294967296 := by go_light; omega
    clear hu
    go_wp2_with fail
    refine HF.out.mono ?_
    rintro e w2 ⟨rfl, hb2⟩
    have HP2 := Lib.hid (HP1.out.below hb2)
    have HB2 := Lib.hid (HB1.out.trans (hb2.mono HB1.out.size))
    clear hb2
    by_cases hd : Lib.decDigits u = s
    · have HW2 : Hid (wordB s = some u) := by show _ = _; rw [HW.out, if_pos hd]
      rw [hd]
      clear hd
      go_wp2
      go_ret2
      exact ⟨HB2.out, Or.inl ⟨u, HW2.out, rfl⟩⟩
    · have HW2 : Hid (wordB s = none) := by show _ = _; rw [HW.out, if_neg hd]
      have hne : ((bsl (Lib.decDigits u)).toList == (bsl s).toList) = false := by rw [bsl_l2, bsl_l2]; exact beq_eq_false_iff_ne.2 hd
      clear hd
      generalize bsl (Lib.decDigits u) = ds at *
      have hc0 := HP2.out.se.c0
      go_wp2_with fail
      go_quiet (fail)
      go_wp2
      go_ret2
      exact ⟨bdrewN HB2.out _, Or.inr ⟨HW2.out, rfl⟩⟩
  · have HW2 : Hid (wordB s = none) := hn
    have hc0 := HP1.out.se.c0
    clear hn
    go_wp2_with fail
    go_quiet (fail)
    go_wp2
    go_ret2
    exact ⟨bdrewN HB1.out _, Or.inr ⟨HW2.out, rfl⟩⟩
end Go.Proofs.YtnppegldebocmaaGreatDoor
namespace Go.Proofs.YtnppegldebocmaaGreatDoor
open Go.RowKit
set_option linter.unusedVariables false
def isBr (k : Nat) : Bool := decide (kindOfB (k : Int) = [98, 114, 97, 110, 99, 104]) && (decide (k ≠ 7) && decide (k ≠ 8))
def labelledB (s : List UInt8) : Option (List UInt8 × List UInt8) := match (piecesB s).getLast? with
  | none => none
  | some x => if (isBr (nameN (cutC 32 s).1) && labelB x) = true then some ((cutC 32 s).1 ++ (32 :: Lib.join ((piecesB s).dropLast ++ [[48]]) [44, 32]), x) else none
theorem labelledB_nil {s : List UInt8} (h : piecesB s = []) : labelledB s = none := by unfold labelledB; rw [h]; rfl
theorem labelledB_snoc {s : List UInt8} {xs : List (List UInt8)} {x : List UInt8} (h : piecesB s = xs ++ [x]) :
    labelledB s = if (isBr (nameN (cutC 32 s).1) && labelB x) = true then some ((cutC 32 s).1 ++ (32 :: Lib.join (xs ++ [[48]]) [44, 32]), x) else none := by
  unfold labelledB
  rw [h, List.getLast?_concat]
  simp only [List.dropLast_concat]
theorem snoc_of {α : Type} (L : List α) : L = [] ∨ ∃ xs x, L = xs ++ [x] := by
  by_cases h : L = []
  · exact Or.inl h
  · exact Or.inr ⟨L.dropLast, L.getLast h, (List.dropLast_concat_getLast h).symm⟩
theorem joinTail_snoc (sep : List UInt8) (r : List (List UInt8)) (x : List UInt8) : Lib.joinTail sep (r ++ [x]) = Lib.joinTail sep r ++ (sep ++ x) := by simp [Lib.joinTail]
theorem join_snoc_len (xs : List (List UInt8)) (x y : List UInt8) (h : y.length ≤ x.length) : (Lib.join (xs ++ [y]) [44, 32]).length ≤ (Lib.join (xs ++ [x]) [44, 32]).length := by
  cases xs with
  | nil => simpa [Lib.join_one] using h
  | cons a r =>
    rw [List.cons_append, List.cons_append, Lib.join_cons, Lib.join_cons, joinTail_snoc, joinTail_snoc]
    simp
    omega
theorem joinTail_ge (r : List (List UInt8)) : 2 * r.length ≤ (Lib.joinTail [44, 32] r).length := by
  induction r with
  | nil => simp [Lib.joinTail]
  | cons a r ih =>
    have : Lib.joinTail [44, 32] (a :: r) = [44, 32] ++ a ++ Lib.joinTail [44, 32] r := by simp [Lib.joinTail]
    rw [this]
    simp
    omega
theorem join_ge (L : List (List UInt8)) : 2 * L.length ≤ (Lib.join L [44, 32]).length + 2 := by
  cases L with
  | nil => simp [Lib.join_nil]
  | cons a r =>
    rw [Lib.join_cons]
    have := joinTail_ge r
    simp
    omega
theorem cutC_eq (c : UInt8) : ∀ s : List UInt8, s = (cutC c s).1 ++ (if (cutC c s).2.2 = true then c :: (cutC c s).2.1 else [])
  | [] => rfl
  | x :: t => by
    by_cases h : x = c
    · simp [cutC, h]
    · have ih := cutC_eq c t
      simp only [cutC, if_neg h, List.cons_append]
      rw [← ih]
theorem pieces_join (s : List UInt8) (h : piecesB s ≠ []) : s = (cutC 32 s).1 ++ (32 :: Lib.join (piecesB s) [44, 32]) := by
  have he := cutC_eq 32 s
  unfold piecesB at h ⊢
  by_cases hb : (cutC 32 s).2.2 = true
  · rw [if_pos hb] at he ⊢
    rw [join_split2 _ _ (Nat.le_refl _)]
    exact he
  · rw [if_neg hb] at h
    exact absurd rfl h
theorem pieces_many (s : List UInt8) : (piecesB s).length ≤ s.length + 1 := by
  by_cases h : piecesB s = []
  · rw [h]; simp
  · have e := congrArg List.length (pieces_join s h)
    have := join_ge (piecesB s)
    simp at e
    omega
theorem label_ne {x : List UInt8} (h : labelB x = true) : 1 ≤ x.length := by
  cases x with
  | nil => cases h
  | cons a r => simp
theorem line_short (s : List UInt8) (xs : List (List UInt8)) (x : List UInt8) (h : piecesB s = xs ++ [x]) (hx : 1 ≤ x.length) :
    ((cutC 32 s).1 ++ (32 :: Lib.join (xs ++ [[48]]) [44, 32])).length ≤ s.length := by
  have e := congrArg List.length (pieces_join s (by rw [h]; simp))
  rw [h] at e
  have := join_snoc_len xs x [48] hx
  simp at e ⊢
  omega
theorem mem_joinTail_len (r : List (List UInt8)) (p : List UInt8) (h : p ∈ r) : p.length ≤ (Lib.joinTail [44, 32] r).length := by
  induction r with
  | nil => cases h
  | cons a r ih =>
    have e : Lib.joinTail [44, 32] (a :: r) = [44, 32] ++ a ++ Lib.joinTail [44, 32] r := by simp [Lib.joinTail]
    rw [e]
    rcases List.mem_cons.1 h with rfl | h
    · simp; omega
    · have := ih h
      simp; omega
theorem mem_join_len (L : List (List UInt8)) (p : List UInt8) (h : p ∈ L) : p.length ≤ (Lib.join L [44, 32]).length := by
  cases L with
  | nil => cases h
  | cons a r =>
    rw [Lib.join_cons]
    rcases List.mem_cons.1 h with rfl | h
    · simp
    · have := mem_joinTail_len r p h
      simp; omega
theorem pieces_len2 (s : List UInt8) (p : List UInt8) (hp : p ∈ piecesB s) : p.length ≤ s.length := by
  have e := congrArg List.length (pieces_join s (List.ne_nil_of_mem hp))
  have : p.length ≤ (Lib.join (piecesB s) [44, 32]).length := mem_join_len _ _ hp
  simp at e
  omega
theorem labelled_len {s l x : List UInt8} (h : labelledB s = some (l, x)) : l.length ≤ s.length ∧ x.length ≤ s.length ∧ labelB x = true := by
  rcases snoc_of (piecesB s) with h0 | ⟨xs, y, hL⟩
  · rw [labelledB_nil h0] at h; cases h
  · rw [labelledB_snoc hL] at h
    split at h
    · next hc =>
      cases h
      rw [Bool.and_eq_true] at hc
      exact ⟨line_short s xs x hL (label_ne hc.2), pieces_len2 s x (by rw [hL]; simp), hc.2⟩
    · cases h
end Go.Proofs.YtnppegldebocmaaGreatDoor
namespace Go.Proofs.YtnppegldebocmaaGreatDoor
open Go.RowKit
set_option linter.unusedVariables false
/-- A slice of texts in a row of its own, from block B on. -/
def StrOwn (B : Nat) (w : World) (v : Value) (L : List (List UInt8)) : Prop :=
  (v = .slice none 0 0 ∧ L = []) ∨ ∃ g, B ≤ g ∧ v = .slice (some ⟨g, 0, none⟩) L.length L.length ∧ g < w.heap.size ∧ (∀ j (h : j < L.length), w.cell? ⟨g, j, none⟩ = some (.string (bsl L[j]))) ∧ ∀ j, w.frozen? ⟨g, j, none⟩ = false
theorem split_own (s : List UInt8) (hl : s.length ≤ 100) (ad : Nat → Addr) (mz : Int) (w : World) (h : PW w ad mz) :
    Calls Tryz.prog 71 #[.string (bsl s), .string ⟨#[44, 32]⟩] w fun e w' => ∃ v, e = .returned v ∧ StrOwn w.heap.size w' v (split2 s) ∧ Below w.heap.size w w' := by
  have hsz := bsl_size s
  refine (Tryz.strings_Split (bsl s) ⟨#[44, 32]⟩ mz w (by omega) h.mx (by decide)).mono ?_
  rintro e w' ⟨rfl, rfl⟩
  obtain ⟨e1, e2⟩ := split_2 s
  have hcnt : Lib.countB (bsl s) ⟨#[44, 32]⟩ + 1 = (split2 s).length := by
    rw [← e2]
    show Lib.count (bsl s).data.toList _ + 1 = _
    rw [bsl_data]
  have hmap : (Lib.splitB ⟨#[44, 32]⟩ 0 (Lib.countB (bsl s) ⟨#[44, 32]⟩) (bsl s)).map (·.data.toList) = split2 s := by
    rw [Lib.splitB_data, bsl_data, ← e1]
    show Lib.splitK [44, 32] 0 (Lib.count (bsl s).data.toList [44, 32]) s = _
    rw [bsl_data]
    rfl
  have hlen : (Lib.splitB ⟨#[44, 32]⟩ 0 (Lib.countB (bsl s) ⟨#[44, 32]⟩) (bsl s)).length = (split2 s).length := by rw [← hmap, List.length_map]
  refine ⟨_, rfl, Or.inr ⟨w.heap.size, Nat.le_refl _, by rw [hcnt], by simp, fun j hj => ?_, fun j => World.frozen?_alloc_new _ _ _ _⟩, (Below.refl _ _).alloc (Nat.le_refl _) _⟩
  have hj2 : j < (Lib.splitB ⟨#[44, 32]⟩ 0 (Lib.countB (bsl s) ⟨#[44, 32]⟩) (bsl s)).length := by rw [hlen]; exact hj
  unfold World.cell?
  rw [heap_alloc_new]
  simp only [Option.isSome_none, Bool.false_eq_true, if_false]
  rw [List.getElem?_toArray, List.getElem?_map, List.getElem?_eq_getElem hj2]
  simp only [Option.map_some, Option.some.injEq, Value.string.injEq]
  refine bsl_mk _ _ ?_
  have : ((Lib.splitB ⟨#[44, 32]⟩ 0 (Lib.countB (bsl s) ⟨#[44, 32]⟩) (bsl s)).map (·.data.toList))[j]'(by rw [List.length_map]; exact hj2) = (split2 s)[j] := by
    congr 1
  rw [← this, List.getElem_map]
set_option maxHeartbeats 1000000 in
theorem words_own (s : List UInt8) (hl : s.length ≤ 100) (ad : Nat → Addr) (mz : Int) (w : World) (h : PW w ad mz) :
    Calls Tryz.prog 34 #[.string (bsl s)] w fun e w' => ∃ v, e = .returned (.tuple #[.string (bsl (cutC 32 s).1), v]) ∧ StrOwn w.heap.size w' v (piecesB s) ∧ Below w.heap.size w w' := by
  have HP := Lib.hid h
  have HC := Lib.hid (cut_any s hl 32 ad mz w h)
  obtain ⟨l1, l2⟩ := cutC_len 32 s
  have HS := Lib.hid (fun W (hW : PW W ad mz) => split_own (cutC 32 s).2.1 (by omega) ad mz W hW)
  have HB : Hid (piecesB s = if (cutC 32 s).2.2 = true then split2 (cutC 32 s).2.1 else []) := rfl
  clear h l1 l2
  generalize piecesB s = L at *
  generalize (cutC 32 s).1 = n at *
  generalize (cutC 32 s).2.2 = b at *
  generalize (cutC 32 s).2.1 = r at *
  go_enter Tryz.func34, Tryz.ntmps34
  go_wp2_with fail
  refine HC.out.mono ?_
  rintro e w1 ⟨rfl, hb1⟩
  have HP1 := Lib.hid (HP.out.below hb1)
  have HB1 := Lib.hid hb1
  clear hb1 HC
  cases b
  · have HL : Hid (L = []) := by show _ = _; rw [HB.out]; rfl
    go_wp2
    go_ret2
    exact ⟨_, rfl, Or.inl ⟨rfl, HL.out⟩, HB1.out⟩
  · have HL : Hid (L = split2 r) := by show _ = _; rw [HB.out]; rfl
    go_wp2_with fail
    refine (HS.out w1 HP1.out).mono ?_
    rintro e w2 ⟨v, rfl, hv, hb2⟩
    have HB2 := Lib.hid (HB1.out.trans (hb2.mono HB1.out.size))
    have HV := Lib.hid hv
    clear hv hb2
    go_wp2
    go_ret2
    refine ⟨_, rfl, ?_, HB2.out⟩
    rw [HL.out]
    rcases HV.out with h | ⟨g, h0, h1⟩
    · exact Or.inl h
    · exact Or.inr ⟨g, Nat.le_trans HB1.out.size h0, h1⟩
def notLab : Value := .tuple #[.string ⟨#[]⟩, .string ⟨#[]⟩, .bool false]
theorem ba_ne {a b : ByteArray} (h : a ≠ b) : (a.toList == b.toList) = false := by
  refine beq_eq_false_iff_ne.2 fun e => h ?_
  rw [bsl_mk a a.toList (Lib.toList_data _).symm, e]
  exact (bsl_mk b b.toList (Lib.toList_data _).symm).symm
set_option maxHeartbeats 2000000 in
set_option maxRecDepth 100000 in
theorem labelled_any (s : List UInt8) (hl : s.length ≤ 100) (ad : Nat → Addr) (mz : Int) (w : World) (h : PW w ad mz) :
    Calls Tryz.prog 86 #[.string (bsl s)] w fun e w' => Below w.heap.size w w' ∧ ((labelledB s = none ∧ e = .returned notLab) ∨ ∃ l x, labelledB s = some (l, x) ∧ e = .returned (.tuple #[.string (bsl l), .string (bsl x), .bool true])) := by
  have HP := Lib.hid h
  have HW := Lib.hid (words_own s hl ad mz w h)
  have hmany := pieces_many s
  have HLN := Lib.hid (fun p hp => pieces_len2 s p hp)
  have H0 := Lib.hid (fun e : piecesB s = [] => labelledB_nil e)
  have H1 := Lib.hid (fun xs x (e : piecesB s = xs ++ [x]) => labelledB_snoc e)
  have HSH := Lib.hid (fun xs x (e : piecesB s = xs ++ [x]) hx => line_short s xs x e hx)
  clear h
  generalize piecesB s = L at *
  generalize labelledB s = R at *
  generalize (cutC 32 s).1 = nm at *
  go_enter Tryz.func86, Tryz.ntmps86
  go_wp2_with fail
  refine HW.out.mono ?_
  rintro e w1 ⟨v, rfl, hv, hb1⟩
  have HP1 := Lib.hid (HP.out.below hb1)
  have HB1 := Lib.hid hb1
  have HV := Lib.hid hv
  clear hb1 HW HP hv
  go_wp2_with fail
  refine (named_any nm _).mono ?_
  rintro e w2 ⟨rfl, hb2⟩
  have HP2 := Lib.hid (HP1.out.below hb2)
  have HB2 := Lib.hid (HB1.out.trans (hb2.mono HB1.out.size))
  have HB12 := Lib.hid hb2
  clear hb2 HP1 HB1
  have hk := nameN_lt nm
  generalize nameN nm = k at *
  rcases snoc_of L with h0 | ⟨xs, x, hL⟩
  · have HR : Hid (R = none) := H0.out h0
    obtain ⟨v', c', hv'⟩ : ∃ v' c', v = .slice v' 0 c' := by
      rcases HV.out with ⟨rfl, _⟩ | ⟨g, _, rfl, _⟩
      · exact ⟨_, _, rfl⟩
      · rw [h0]; exact ⟨_, _, rfl⟩
    subst hv'
    clear h0
    go_wp2
    exact bodyPost_ret (v := notLab) (by simp [results, Tryz.results86, notLab, go_sem]) rfl ⟨HB2.out, Or.inl ⟨HR.out, rfl⟩⟩
  · obtain ⟨g, hg0, rfl, hg1, hgc, hgf⟩ : ∃ g, w.heap.size ≤ g ∧ v = .slice (some ⟨g, 0, none⟩) L.length L.length ∧ g < w1.heap.size ∧ (∀ j (h : j < L.length), w1.cell? ⟨g, j, none⟩ = some (.string (bsl L[j]))) ∧ ∀ j, w1.frozen? ⟨g, j, none⟩ = false := by
      rcases HV.out with ⟨_, e⟩ | h
      · rw [e] at hL; simp at hL
      · exact h
    have HRS := Lib.hid (H1.out xs x hL)
    have hlen : L.length = xs.length + 1 := by rw [hL]; simp
    have hxl : x.length ≤ 100 := by
      have := HLN.out x (by rw [hL]; simp)
      go_light; omega
    have hgx : w2.cell? ⟨g, xs.length, none⟩ = some (.string (bsl x)) := by
      rw [HB12.out.cell (by exact hg1), hgc xs.length (by omega)]
      congr 3
      subst hL
      simp
    have HGC := Lib.hid hgc
    have HGF := Lib.hid hgf
    have HG1 := Lib.hid hg1
    have HG0 := Lib.hid hg0
    have hz : ((xs.length : Int) + 1 == 0) = false := beq_eq_false_iff_ne.2 (by go_light; omega)
    rw [hlen]
    clear hgc hgf hg1 hg0 HV
    by_cases hbr : isBr k = true
    · have hkk : kindOfB (k : Int) = [98, 114, 97, 110, 99, 104] ∧ k ≠ 7 ∧ k ≠ 8 := by simpa [isBr] using hbr
      obtain ⟨hk1, hk7, hk8⟩ := hkk
      have h7 : ((k : Int) == 7) = false := beq_eq_false_iff_ne.2 (by omega)
      have h8 : ((k : Int) == 8) = false := beq_eq_false_iff_ne.2 (by omega)
      have HK := Lib.hid (kindOf_any (k : Int) w2)
      have HKB : Hid (bsl (kindOfB (k : Int)) = ⟨#[98, 114, 97, 110, 99, 104]⟩) := by show _ = _; rw [hk1]; rfl
      have HBR := Lib.hid hbr
      have HLA := Lib.hid (fun W => label_any x hxl W)
      clear hbr hk1 hk7 hk8
      go_wp2_with fail
      refine HK.out.mono ?_
      rintro e w3 ⟨rfl, hb3⟩
      rw [HKB.out]
      have HP3 := Lib.hid (HP2.out.below hb3)
      have HB3 := Lib.hid (HB2.out.trans (hb3.mono HB2.out.size))
      have HB13 := Lib.hid (HB12.out.trans (hb3.mono HB12.out.size))
      have hgx3 : w3.cell? ⟨g, xs.length, none⟩ = some (.string (bsl x)) := by
        rw [hb3.cell (by exact Nat.lt_of_lt_of_le HG1.out HB12.out.size)]
        exact hgx
      clear hb3 HK HB2 HP2 hgx HB12
      go_wp2_with fail
      refine (HLA.out _).mono ?_
      rintro e w4 ⟨rfl, hb4⟩
      have HP4 := Lib.hid (HP3.out.below hb4)
      have HB4 := Lib.hid (HB3.out.trans (hb4.mono HB3.out.size))
      have HB14 := Lib.hid (HB13.out.trans (hb4.mono HB13.out.size))
      have hgx4 : w4.cell? ⟨g, xs.length, none⟩ = some (.string (bsl x)) := by
        rw [hb4.cell (by exact Nat.lt_of_lt_of_le HG1.out HB13.out.size)]
        exact hgx3
      clear hb4 HP3 HB3 HB13 hgx3
      cases hlab : labelB x with
      | false =>
        have HR : Hid (R = none) := by show _ = _; rw [HRS.out, hlab, Bool.and_false]; rfl
        clear hlab
        go_wp2
        exact bodyPost_ret (v := notLab) (by simp [results, Tryz.results86, notLab, go_sem]) rfl ⟨HB4.out, Or.inl ⟨HR.out, rfl⟩⟩
      | true =>
        have HR : Hid (R = some (nm ++ 32 :: Lib.join (xs ++ [[48]]) [44, 32], x)) := by show _ = _; rw [HRS.out, HBR.out, hlab]; rfl
        have hf4 : w4.frozen? ⟨g, xs.length, none⟩ = false := by
          rw [HB14.out.frozen (by exact HG1.out)]
          exact HGF.out _
        have hjl := HSH.out xs x hL (label_ne hlab)
        have hJ : Calls Tryz.prog 29 #[.slice (some ⟨g, 0, none⟩) (xs.length + 1) (xs.length + 1), .string ⟨#[44, 32]⟩] (w4.setCell ⟨g, xs.length, none⟩ (.string ⟨#[48]⟩)) fun e w' => e = .returned (.string (bsl (Lib.join (xs ++ [[48]]) [44, 32]))) ∧ Below (w4.setCell ⟨g, xs.length, none⟩ (.string ⟨#[48]⟩)).heap.size (w4.setCell ⟨g, xs.length, none⟩ (.string ⟨#[48]⟩)) w' := by
          have hm : ((xs ++ [[48]]).map bsl).map (fun (b : ByteArray) => b.data.toList) = xs ++ [[48]] := by
            rw [List.map_map]
            refine (List.map_congr_left (g := id) fun l _ => ?_).trans (List.map_id _)
            simp [bsl]
          have hlm : ((xs ++ [[48]]).map bsl).length = xs.length + 1 := by simp
          have h := Tryz.strings_Join g 0 (xs.length + 1) ((xs ++ [[48]]).map bsl) ⟨#[44, 32]⟩ (w4.setCell ⟨g, xs.length, none⟩ (.string ⟨#[48]⟩)) (by
            intro j y hy
            rw [Nat.zero_add]
            by_cases hj : j = xs.length
            · subst hj
              rw [List.getElem?_map, List.getElem?_append_right (Nat.le_refl _), Nat.sub_self] at hy
              simp only [List.getElem?_cons_zero, Option.map_some, Option.some.injEq] at hy
              subst hy
              exact World.cell?_setCell_same _ _ _ hgx4
            · have hjl : j < xs.length := by
                have := (List.getElem?_eq_some_iff.1 hy).1
                rw [hlm] at this
                omega
              rw [List.getElem?_map, List.getElem?_append_left hjl, List.getElem?_eq_getElem hjl] at hy
              simp only [Option.map_some, Option.some.injEq] at hy
              subst hy
              rw [World.cell?_setCell_other _ _ _ _ (by intro e; cases e; exact hj rfl), HB14.out.cell (by exact HG1.out), HGC.out j (by omega)]
              congr 3
              subst hL
              simp [List.getElem_append_left hjl]) (by simp; exact Nat.lt_of_lt_of_le HG1.out HB14.out.size) (by rw [hlm]; omega) (by rw [hlm]; exact Nat.le_refl _) (by
            rw [hm]
            show (Lib.join (xs ++ [[48]]) [44, 32]).length ≤ _
            simp at hjl
            omega)
          rw [hlm, hm] at h
          exact h
        have HJ := Lib.hid hJ
        have hjs : (Lib.join (xs ++ [[48]]) [44, 32]).length + nm.length ≤ 100 := by simp at hjl; omega
        have zn : (bsl nm).size ≤ 100 := by rw [bsl_size]; omega
        have zj : (bsl (Lib.join (xs ++ [[48]]) [44, 32])).size ≤ 100 := by rw [bsl_size]; omega
        have HL2 : Hid ((bsl nm) ++ (⟨#[32]⟩ : ByteArray) ++ bsl (Lib.join (xs ++ [[48]]) [44, 32]) = bsl (nm ++ 32 :: Lib.join (xs ++ [[48]]) [44, 32])) := by
          apply ByteArray.ext
          simp [bsl]
        have HBS := Lib.hid ((HB4.out).setCell (p := ⟨g, xs.length, none⟩) (by exact HG0.out) (.string ⟨#[48]⟩))
        have HHS : Hid ((w4.setCell ⟨g, xs.length, none⟩ (.string ⟨#[48]⟩)).heap.size = w4.heap.size) := by simp [Hid]
        clear hlab hjl hJ
        generalize bsl (Lib.join (xs ++ [[48]]) [44, 32]) = bj at *
        clear hjs
        go_wp2_with fail
        refine HJ.out.mono ?_
        rintro e w5 ⟨rfl, hb5⟩
        have HB5 := Lib.hid (HBS.out.trans (hb5.mono HBS.out.size))
        clear hb5
        go_wp2
        exact bodyPost_ret (v := .tuple #[.string (bsl nm ++ ⟨#[32]⟩ ++ bj), .string (bsl x), .bool true]) (by simp [results, Tryz.results86, go_sem]) rfl ⟨HB5.out, Or.inr ⟨_, _, HR.out, by rw [HL2.out]⟩⟩
    · have HR : Hid (R = none) := by
        show _ = _
        rw [HRS.out]
        have : isBr k = false := by simpa using hbr
        rw [this]
        rfl
      have HK := Lib.hid (kindOf_any (k : Int) w2)
      obtain ⟨kd, hkd⟩ : ∃ kd, kindOfB (k : Int) = kd := ⟨_, rfl⟩
      rw [hkd] at HK
      by_cases hkb : kd = [98, 114, 97, 110, 99, 104]
      · have h78 : ((k : Int) == 7) = true ∨ (((k : Int) == 7) = false ∧ ((k : Int) == 8) = true) := by
          by_cases e7 : k = 7
          · exact Or.inl (by rw [e7]; rfl)
          · refine Or.inr ⟨beq_eq_false_iff_ne.2 (by omega), ?_⟩
            by_cases e8 : k = 8
            · rw [e8]; rfl
            · exact absurd (by simp [isBr, hkd, hkb, e7, e8]) hbr
        have HKB : Hid (bsl kd = ⟨#[98, 114, 97, 110, 99, 104]⟩) := by show _ = _; rw [hkb]; rfl
        clear hbr hkb hkd
        go_wp2_with fail
        refine HK.out.mono ?_
        rintro e w3 ⟨rfl, hb3⟩
        rw [HKB.out]
        have HB3 := Lib.hid (HB2.out.trans (hb3.mono HB2.out.size))
        clear hb3
        rcases h78 with h7 | ⟨h7, h8⟩
        · go_wp2
          exact bodyPost_ret (v := notLab) (by simp [results, Tryz.results86, notLab, go_sem]) rfl ⟨HB3.out, Or.inl ⟨HR.out, rfl⟩⟩
        · go_wp2
          exact bodyPost_ret (v := notLab) (by simp [results, Tryz.results86, notLab, go_sem]) rfl ⟨HB3.out, Or.inl ⟨HR.out, rfl⟩⟩
      · have hne : ¬ (bsl kd).toList = [98, 114, 97, 110, 99, 104] := by rw [bsl_l2]; exact hkb
        clear hbr hkb hkd
        generalize bsl kd = bk at *
        go_wp2_with fail
        refine HK.out.mono ?_
        rintro e w3 ⟨rfl, hb3⟩
        have HB3 := Lib.hid (HB2.out.trans (hb3.mono HB2.out.size))
        clear hb3
        go_wp2
        exact bodyPost_ret (v := notLab) (by simp [results, Tryz.results86, notLab, go_sem]) rfl ⟨HB3.out, Or.inl ⟨HR.out, rfl⟩⟩
end Go.Proofs.YtnppegldebocmaaGreatDoor
