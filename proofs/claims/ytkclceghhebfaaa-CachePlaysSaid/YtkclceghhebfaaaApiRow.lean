/- The catalog's data as arguments within the form's reach, as they are read. -/
import Derived.Test.YtkclceghhebfaaaApi
import Derived.Test.YtkclceghhebfaaaOpenS
namespace Go.Proofs.Ytkclceghhebfaaa
open Go.RowKit
set_option linter.unusedVariables false
abbrev intW (k : IntKind) : Kd Int := Kd.such (Kd.int k) (fun x => (Lit.int k x).wf = true)
abbrev strW : Kd ByteArray := Kd.such Kd.string (fun s => s.size ≤ 140737488351232)
abbrev tagsW : Kd (List ByteArray) := listK strW 16
abbrev svcW : Kd Svc := Kd.pair (intW .i64) (Kd.pair strW (Kd.pair strW (Kd.pair tagsW (Kd.pair (intW .i64) (Kd.pair (intW .u64) (intW .u64))))))
abbrev nodW : Kd Nod := Kd.pair (intW .i64) (Kd.pair strW (Kd.pair (intW .u64) (intW .u64)))
abbrev chkW : Kd Chk := Kd.pair (intW .i64) (Kd.pair strW (Kd.pair strW (Kd.pair strW (Kd.pair (intW .i64) (Kd.pair (intW .u64) (intW .u64))))))
abbrev entW : Kd Ent := Kd.pair strW (Kd.pair strW (Kd.pair (intW .u64) (Kd.pair (intW .u64) (Kd.pair (intW .u64) (intW .u64)))))
abbrev itnW : Kd Itn := Kd.pair strW (Kd.pair strW (Kd.pair Kd.bool (Kd.pair (intW .u64) (intW .u64))))
abbrev instW : Kd Inst := Kd.pair svcW (intW .i64)
abbrev ownW : Kd Own := Kd.pair Kd.bool (Kd.pair (intW .i64) (Kd.pair strW (Kd.pair (listK svcW 88) (listK chkW 80))))
abbrev ansW : Kd Ans := Kd.pair (intW .i64) (Kd.pair (intW .u64) (Kd.pair ownW (Kd.pair (listK nodW 40) (Kd.pair (listK instW 96) (Kd.pair (listK entW 64) (listK itnW 56))))))
abbrev qryW : Kd Qry := Kd.pair (intW .i64) (Kd.pair (intW .i64) (Kd.pair strW (Kd.pair strW (Kd.pair strW Kd.bool))))
theorem int_le {k : IntKind} : (intW k).Le (Kd.int k) := .such (.refl _)
theorem str_le : strW.Le strK := .such (.refl _)
theorem tags_le : tagsW.Le tagsK := .suchs (.slice str_le)
theorem svc_le : svcW.Le svcK := .pair int_le (.pair str_le (.pair str_le (.pair tags_le (.pair int_le (.pair int_le int_le)))))
theorem nod_le : nodW.Le nodK := .pair int_le (.pair str_le (.pair int_le int_le))
theorem chk_le : chkW.Le chkK := .pair int_le (.pair str_le (.pair str_le (.pair str_le (.pair int_le (.pair int_le int_le)))))
theorem ent_le : entW.Le entK := .pair str_le (.pair str_le (.pair int_le (.pair int_le (.pair int_le int_le))))
theorem itn_le : itnW.Le itnK := .pair str_le (.pair str_le (.pair (.refl _) (.pair int_le int_le)))
theorem inst_le : instW.Le instK := .pair svc_le int_le
theorem own_le : ownW.Le ownK := .pair (.refl _) (.pair int_le (.pair str_le (.pair (.suchs (.slice svc_le)) (.suchs (.slice chk_le)))))
theorem ans_le : ansW.Le ansK := .pair int_le (.pair int_le (.pair own_le (.pair (.suchs (.slice nod_le)) (.pair (.suchs (.slice inst_le)) (.pair (.suchs (.slice ent_le)) (.suchs (.slice itn_le)))))))
theorem qry_le : qryW.Le qryK := .pair int_le (.pair int_le (.pair str_le (.pair str_le (.pair str_le (.refl _)))))
end Go.Proofs.Ytkclceghhebfaaa
